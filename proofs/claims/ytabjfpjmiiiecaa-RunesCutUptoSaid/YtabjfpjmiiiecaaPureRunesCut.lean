/- RunesCut, where what it reads is of bulk at most 1048576: however bytes are cut, the last Feed tells whether a few more bytes can make all well-formed. -/
import Derived.Test.YtabjfpjmiiiecaaX1
import Derived.Test.YtabjfpjmiiiecaaRefC
namespace Go.Proofs.Ytabjfpjmiiiecaa.Pure
set_option linter.unusedVariables false
set_option linter.unusedSimpArgs false
open Go.RowKit Go.Proofs.Ytabjfpjmiiiecaa.X Go.Proofs.YtabjfpjmiiiecaaW.PrintWords Go.Proofs.YtabjfpjmiiiecaaW.PrintLast Go.Proofs.YtabjfpjmiiiecaaW.PrintMore
open Go.Proofs.Ytabjfpjmiiiecaa.B Go.Proofs.Ytabjfpjmiiiecaa.MN Go.Proofs.Ytabjfpjmiiiecaa.WK Go.Proofs.Ytabjfpjmiiiecaa.CK Go.Proofs.Ytabjfpjmiiiecaa.CF Go.Proofs.Ytabjfpjmiiiecaa.CL Go.Proofs.Ytabjfpjmiiiecaa.D

/-- Where a reader may stand. -/
def Gs (n l h : Int) : Prop := 0 ≤ n ∧ n ≤ 3 ∧ (0 < n → (l = 128 ∧ h = 191) ∨ (l = 160 ∧ h = 191) ∨ (l = 128 ∧ h = 159) ∨ (l = 144 ∧ h = 191) ∨ (l = 128 ∧ h = 143))
theorem take_G (n l h x : Int) (hg : Gs n l h) : Gs (takeV n l h x).2.1 (takeV n l h x).2.2.1 (takeV n l h x).2.2.2 := by
  obtain ⟨h0, h3, hk⟩ := hg
  unfold takeV
  split
  · split
    · exact ⟨h0, h3, hk⟩
    · split
      · exact ⟨h0, h3, hk⟩
      · exact ⟨by show 0 ≤ (n - 1) % 256; omega, by show (n - 1) % 256 ≤ 3; omega, fun _ => .inl ⟨rfl, rfl⟩⟩
  · split
    · exact ⟨h0, h3, fun _ => .inl ⟨rfl, rfl⟩⟩
    · split
      · exact ⟨h0, h3, fun _ => .inl ⟨rfl, rfl⟩⟩
      · split
        · exact ⟨h0, h3, fun _ => .inl ⟨rfl, rfl⟩⟩
        · refine ⟨?_, ?_, fun _ => ?_⟩
          · dsimp only; split
            · omega
            · split <;> omega
          · dsimp only; split
            · omega
            · split <;> omega
          · dsimp only
            by_cases a1 : x = 224
            · subst a1; exact .inr (.inl ⟨rfl, rfl⟩)
            by_cases a2 : x = 237
            · subst a2; exact .inr (.inr (.inl ⟨rfl, rfl⟩))
            by_cases a3 : x = 240
            · subst a3; exact .inr (.inr (.inr (.inl ⟨rfl, rfl⟩)))
            by_cases a4 : x = 244
            · subst a4; exact .inr (.inr (.inr (.inr ⟨rfl, rfl⟩)))
            · rw [if_neg a1, if_neg a2, if_neg a3, if_neg a4]
              exact .inl ⟨rfl, rfl⟩
theorem feed_cons (x : Int) (r : List Int) (n l h : Int) : feedV (x :: r) (false, n, l, h) = feedV r (!(takeV n l h x).1, (takeV n l h x).2) := by
  rw [feedV, if_neg (by decide)]
theorem feed_app : ∀ (xs ys : List Int) (s : Bool × Int × Int × Int), feedV (xs ++ ys) s = feedV ys (feedV xs s)
  | [], _, _ => rfl
  | x :: r, ys, (B, n, l, h) => by
    cases B with
    | true => rw [feedV_bad, feedV_bad, feedV_bad]
    | false => rw [List.cons_append, feed_cons, feed_cons, feed_app r ys]
theorem feed_G : ∀ (xs : List Int) (B : Bool) (n l h : Int), Gs n l h → Gs (feedV xs (B, n, l, h)).2.1 (feedV xs (B, n, l, h)).2.2.1 (feedV xs (B, n, l, h)).2.2.2
  | [], _, _, _, _, hg => hg
  | x :: r, B, n, l, h, hg => by
    cases B with
    | true => rw [feedV_bad]; exact hg
    | false =>
      rw [feed_cons]
      exact feed_G r _ _ _ _ (take_G n l h x hg)
/-- The automaton comes to the end just where no byte is refused and none is awaited. -/
theorem auto_feed : ∀ (r : List Int) (n l h : Int) (b i : Nat), Gs n l h → b ≤ i → (0 < n → b < i) → (autoV r n l h b i = i + r.length ↔ (feedV r (false, n, l, h)).1 = false ∧ (feedV r (false, n, l, h)).2.1 = 0)
  | [], n, l, h, b, i, hg, hb, hn => by
    rw [auto_nil]
    show _ ↔ false = false ∧ n = 0
    have := hg.1
    by_cases h0 : n > 0
    · rw [if_pos h0]
      have := hn h0
      constructor
      · intro e; simp at e; omega
      · rintro ⟨_, e⟩; omega
    · rw [if_neg h0]
      exact ⟨fun _ => ⟨rfl, by omega⟩, fun _ => rfl⟩
  | x :: r, n, l, h, b, i, hg, hb, hn => by
    have hg2 := take_G n l h x hg
    rw [auto_cons, feed_cons]
    cases ht : (takeV n l h x).1 with
    | true =>
      rw [if_pos rfl]
      have ih := auto_feed r _ _ _ (if n = 0 then i else b) (i + 1) hg2 (by split <;> omega) (fun _ => by split <;> omega)
      rw [List.length_cons, show i + (r.length + 1) = i + 1 + r.length from by omega]
      exact ih
    | false =>
      rw [if_neg (by decide)]
      have e : feedV r (!false, (takeV n l h x).2) = (true, (takeV n l h x).2) := feedV_bad r _ _ _
      rw [e, List.length_cons]
      constructor
      · intro e2
        split at e2 <;> omega
      · rintro ⟨e2, _⟩; cases e2
theorem whole_iff (l : List Int) : badV l.length l = l.length ↔ (feedV l (false, 0, 0, 0)).1 = false ∧ (feedV l (false, 0, 0, 0)).2.1 = 0 := by
  have h := auto_feed l 0 0 0 0 0 ⟨by omega, by omega, fun h => by omega⟩ (Nat.le_refl _) (fun h => by omega)
  rw [auto_bad l.length l 0 (Nat.le_refl _), Nat.zero_add, Nat.zero_add] at h
  exact h
/-- Is all of it well-formed? -/
def gd (l w : List Int) : Bool := ((badV (l ++ w).length (l ++ w) : Nat) : Int) == (((l ++ w).length : Nat) : Int)
theorem gd_iff (l w : List Int) : gd l w = true ↔ (feedV w (feedV l (false, 0, 0, 0))).1 = false ∧ (feedV w (feedV l (false, 0, 0, 0))).2.1 = 0 := by
  unfold gd
  rw [beq_iff_eq, ← feed_app, ← whole_iff]
  omega
def ext (w : List Int) : List (List Int) := [w ++ [128], w ++ [144], w ++ [160], w ++ [191]]
def words : Nat → List (List Int)
  | 0 => [[]]
  | d + 1 => (words d).flatMap ext
/-- How a reader that stands within a rune comes to its end. -/
theorem can_end (n l h : Int) (hg : Gs n l h) (hn : 0 < n) : ∃ d w, 1 ≤ d ∧ d ≤ 3 ∧ w ∈ words d ∧ (feedV w (false, n, l, h)).1 = false ∧ (feedV w (false, n, l, h)).2.1 = 0 := by
  obtain ⟨h0, h3, hk⟩ := hg
  have n3 : n = 1 ∨ n = 2 ∨ n = 3 := by omega
  rcases n3 with rfl | rfl | rfl <;> rcases hk hn with ⟨rfl, rfl⟩ | ⟨rfl, rfl⟩ | ⟨rfl, rfl⟩ | ⟨rfl, rfl⟩ | ⟨rfl, rfl⟩
  · exact ⟨1, [128], by decide, by decide, by decide, by decide, by decide⟩
  · exact ⟨1, [160], by decide, by decide, by decide, by decide, by decide⟩
  · exact ⟨1, [128], by decide, by decide, by decide, by decide, by decide⟩
  · exact ⟨1, [144], by decide, by decide, by decide, by decide, by decide⟩
  · exact ⟨1, [128], by decide, by decide, by decide, by decide, by decide⟩
  · exact ⟨2, [128, 128], by decide, by decide, by decide, by decide, by decide⟩
  · exact ⟨2, [160, 128], by decide, by decide, by decide, by decide, by decide⟩
  · exact ⟨2, [128, 128], by decide, by decide, by decide, by decide, by decide⟩
  · exact ⟨2, [144, 128], by decide, by decide, by decide, by decide, by decide⟩
  · exact ⟨2, [128, 128], by decide, by decide, by decide, by decide, by decide⟩
  · exact ⟨3, [128, 128, 128], by decide, by decide, by decide, by decide, by decide⟩
  · exact ⟨3, [160, 128, 128], by decide, by decide, by decide, by decide, by decide⟩
  · exact ⟨3, [128, 128, 128], by decide, by decide, by decide, by decide, by decide⟩
  · exact ⟨3, [144, 128, 128], by decide, by decide, by decide, by decide, by decide⟩
  · exact ⟨3, [128, 128, 128], by decide, by decide, by decide, by decide, by decide⟩
/-- One word more. -/
theorem cut_l3 (l : List Int) (hl : l.length ≤ 1048576) (last : Bool) (cnt : Int) (ways : List (List Int)) (nn idx : Int) (w : List Int) (hw : w.length ≤ 100) (R : Bool) : ∀ (d j : Nat) (c : Bool) (next : List (List Int)), j + d = 4 → next.length + d ≤ 1000 →
    Ev (fun k => posthornlaw05_RunesCut.l2 k l last (c || (([128, 144, 160, 191] : List Int).drop j).any (fun x => gd l (w ++ [x]))) (next ++ (([128, 144, 160, 191] : List Int).drop j).map (fun x => w ++ [x])) cnt ways nn (wrap64 (idx + 1))) R →
    Ev (fun k => posthornlaw05_RunesCut.l3 k l last c next w cnt ways nn idx [128, 144, 160, 191] 4 (j : Int)) R
  | 0, j, c, next, hj, hn, h => by
    obtain rfl : j = 4 := by omega
    rw [show ([128, 144, 160, 191] : List Int).drop 4 = [] from rfl, List.any_nil, Bool.or_false, List.map_nil, List.append_nil] at h
    exact Ev.round (fun k => by rw [posthornlaw05_RunesCut.l3, if_neg (by omega)]) h
  | d + 1, j, c, next, hj, hn, h => by
    have hlt : j < ([128, 144, 160, 191] : List Int).length := by show j < 4; omega
    rw [List.drop_eq_getElem_cons hlt, List.any_cons, List.map_cons, ← Bool.or_assoc] at h
    have hrd : rd [128, 144, 160, 191] (j : Int) = ([128, 144, 160, 191] : List Int)[j] := rd_nat _ j hlt
    generalize ([128, 144, 160, 191] : List Int)[j] = x at *
    rw [List.append_cons next (w ++ [x])] at h
    have ih := cut_l3 l hl last cnt ways nn idx w hw R d (j + 1) (c || gd l (w ++ [x])) (next ++ [w ++ [x]]) (by omega) (by rw [List.length_append]; simp; omega) h
    have e1 : slices_Clone_byte_byte.f w = some w := if_pos (by omega)
    have e2 : slices_Clone_byte_byte.f l = some l := if_pos (by omega)
    have hl2 : (w ++ [x]).length = w.length + 1 := by simp
    refine Ev.round (fun k => by rw [posthornlaw05_RunesCut.l3, if_pos (by omega), if_pos (by omega), if_pos (by show (j : Int) < 4; omega), e1, bind_some', if_pos (by omega), bind_some', e2, bind_some', if_pos (by rw [hrd, hl2]; omega), bind_some', hrd]) ?_
    cases c with
    | true =>
      rw [Bool.true_or] at ih
      exact Ev.congr (fun k => by rw [if_pos rfl, if_pos (by omega), wrap_id _ (by omega) (by omega)]; rfl) ih
    | false =>
      rw [Bool.false_or] at ih
      have hb := badB_same (l ++ (w ++ [x])) (by rw [List.length_append, hl2]; omega)
      refine Ev.congr (fun k => by rw [if_neg (by decide)]) ?_
      refine Ev.bind hb ?_
      exact Ev.congr (fun k => by rw [if_pos (by omega), wrap_id _ (by omega) (by omega)]; rfl) ih
theorem cut_l2 (l : List Int) (hl : l.length ≤ 1048576) (last : Bool) (cnt : Int) (ways : List (List Int)) (hways : ∀ w ∈ ways, w.length ≤ 100) (hwl : ways.length ≤ 100) (R : Bool) : ∀ (d j : Nat) (c : Bool) (next : List (List Int)), j + d = ways.length → next.length + 4 * d ≤ 900 →
    Ev (fun k => posthornlaw05_RunesCut.l1 k l last (c || (ways.drop j).any (fun w => (ext w).any (gd l))) (next ++ (ways.drop j).flatMap ext) (wrap64 (cnt + 1))) R →
    Ev (fun k => posthornlaw05_RunesCut.l2 k l last c next cnt ways (ways.length : Int) (j : Int)) R
  | 0, j, c, next, hj, hn, h => by
    rw [List.drop_of_length_le (by omega), List.any_nil, Bool.or_false, List.flatMap_nil, List.append_nil] at h
    exact Ev.round (fun k => by rw [posthornlaw05_RunesCut.l2, if_neg (by omega)]) h
  | d + 1, j, c, next, hj, hn, h => by
    have hlt : j < ways.length := by omega
    rw [List.drop_eq_getElem_cons hlt, List.any_cons, List.flatMap_cons, ← Bool.or_assoc, ← List.append_assoc] at h
    have hrd : rd_L1 ways (j : Int) = ways[j] := by unfold rd_L1; simp [List.getD_eq_getElem?_getD, hlt]
    have hwm := hways ways[j] (List.getElem_mem hlt)
    generalize ways[j] = w at *
    have ih := cut_l2 l hl last cnt ways hways hwl R d (j + 1) (c || (ext w).any (gd l)) (next ++ ext w) (by omega) (by rw [List.length_append]; show next.length + 4 + 4 * d ≤ 900; omega) h
    have h3 := cut_l3 l hl last cnt ways (ways.length : Int) (j : Int) w hwm R 4 0 c next rfl (by omega) (by
      rw [show wrap64 ((j : Int) + 1) = ((j + 1 : Nat) : Int) from by rw [wrap_id _ (by omega) (by omega)]; rfl]
      exact ih)
    exact Ev.round (fun k => by rw [posthornlaw05_RunesCut.l2, if_pos (by omega), if_pos (by omega), if_pos (by omega), bind_some', hrd]; rfl) h3
theorem words_any (l : List Int) (d : Nat) : (words d).any (fun w => (ext w).any (gd l)) = (words (d + 1)).any (gd l) := by
  rw [words, List.any_flatMap]
theorem cut_l1 (l : List Int) (hl : l.length ≤ 1048576) (last c : Bool) (h : ((((c || (words 1).any (gd l)) || (words 2).any (gd l)) || (words 3).any (gd l)) == last) = true) :
    Ev (fun k => posthornlaw05_RunesCut.l1 k l last c [[]] 0) true := by
  have step : ∀ (d : Nat) (c : Bool), d < 3 → Ev (fun k => posthornlaw05_RunesCut.l1 k l last (c || (words (d + 1)).any (gd l)) (words (d + 1)) ((d + 1 : Nat) : Int)) true → Ev (fun k => posthornlaw05_RunesCut.l1 k l last c (words d) (d : Int)) true := by
    intro d c hd he
    have h2 := cut_l2 l hl last (d : Int) (words d) (by
      have : d = 0 ∨ d = 1 ∨ d = 2 := by omega
      rcases this with rfl | rfl | rfl <;> decide) (by
      have : d = 0 ∨ d = 1 ∨ d = 2 := by omega
      rcases this with rfl | rfl | rfl <;> decide) true (words d).length 0 c [] (by omega) (by
      have : d = 0 ∨ d = 1 ∨ d = 2 := by omega
      rcases this with rfl | rfl | rfl <;> decide) (by
      rw [List.drop_zero, words_any, List.nil_append, show wrap64 ((d : Int) + 1) = ((d + 1 : Nat) : Int) from by rw [wrap_id _ (by omega) (by omega)]; rfl]
      exact he)
    exact Ev.round (fun k => by rw [posthornlaw05_RunesCut.l1, if_pos (by omega)]; rfl) h2
  refine step 0 c (by decide) (step 1 _ (by decide) (step 2 _ (by decide) ?_))
  refine Ev.last fun k => ?_
  rw [posthornlaw05_RunesCut.l1, if_neg (by decide), if_pos h]
  rfl
theorem cut_mx (a b : Int) : mx a b = if a < b then b else a := rfl
theorem cut_mn (a b : Int) : mn a b = if b < a then b else a := rfl
theorem cut_l0 (b cuts : List Int) (hb : b.length ≤ 1048576) (hc : cuts.length ≤ 1048577) (hlast : cuts.getLast? = some (b.length : Int)) (R : Bool)
    (he : Ev (fun k => (runes_Checker_Whole.f true (feedV b (false, 0, 0, 0)).1 (feedV b (false, 0, 0, 0)).2.1 (feedV b (false, 0, 0, 0)).2.2.1 (feedV b (false, 0, 0, 0)).2.2.2).bind fun bt127 => ((runes_Bad_byte.f k b).bind fun t133 => (if (bt127.1 != (t133 == (b.length : Int))) = true then (some false) else ((runes_Checker_Whole.f bt127.2.1 bt127.2.2.1 bt127.2.2.2.1 bt127.2.2.2.2.1 bt127.2.2.2.2.2).bind fun bt134 => (posthornlaw05_RunesCut.l1 k b (!(feedV b (false, 0, 0, 0)).1) bt134.1 (([(([] : List Int))] : List (List Int))) 0))))) R) :
    ∀ (d i from' : Nat) , i + d = cuts.length → from' ≤ b.length → (d = 0 → from' = b.length) →
    Ev (fun k => posthornlaw05_RunesCut.l0 k b (from' : Int) (!(feedV (b.take from') (false, 0, 0, 0)).1) cuts (cuts.length : Int) (i : Int) true (feedV (b.take from') (false, 0, 0, 0)).1 (feedV (b.take from') (false, 0, 0, 0)).2.1 (feedV (b.take from') (false, 0, 0, 0)).2.2.1 (feedV (b.take from') (false, 0, 0, 0)).2.2.2) R
  | 0, i, from', hi, hf, h0 => by
    obtain rfl := h0 rfl
    rw [List.take_of_length_le (Nat.le_refl _)]
    exact Ev.round (fun k => by rw [posthornlaw05_RunesCut.l0, if_neg (by omega)]) he
  | d + 1, i, from', hi, hf, h0 => by
    have hlt : i < cuts.length := by omega
    obtain ⟨to', ht⟩ : ∃ t : Nat, mn (mx (rd cuts (i : Int)) (from' : Int)) (b.length : Int) = (t : Int) ∧ from' ≤ t ∧ t ≤ b.length := by
      refine ⟨(mn (mx (rd cuts (i : Int)) (from' : Int)) (b.length : Int)).toNat, ?_, ?_, ?_⟩ <;> (rw [cut_mn, cut_mx]; repeat' split) <;> omega
    have hend : d = 0 → to' = b.length := by
      intro hd
      have e : rd cuts (i : Int) = (b.length : Int) := by
        rw [rd_nat cuts i hlt]
        rw [List.getLast?_eq_getElem?, show cuts.length - 1 = i from by omega, List.getElem?_eq_getElem hlt] at hlast
        exact Option.some.inj hlast
      have h1 := ht.1
      rw [e, cut_mn, cut_mx] at h1
      repeat' split at h1
      all_goals omega
    have ih := cut_l0 b cuts hb hc hlast R he d (i + 1) to' (by omega) ht.2.2 hend
    have hsplit : b.take to' = b.take from' ++ (b.take to').drop from' := by
      have : b.take from' = (b.take to').take from' := by rw [List.take_take, Nat.min_eq_left ht.2.1]
      rw [this, List.take_append_drop]
    rw [hsplit, feed_app] at ih
    have hlen : ((b.take to').drop from').length ≤ 140737488351232 := by rw [List.length_drop, List.length_take]; omega
    generalize hs : feedV (b.take from') (false, 0, 0, 0) = st at *
    obtain ⟨B, n, l, h⟩ := st
    have ef : runes_Checker_Feed.f true B n l h ((b.take to').drop from') = some (!(feedV ((b.take to').drop from') (B, n, l, h)).1, true, feedV ((b.take to').drop from') (B, n, l, h)) := by
      unfold runes_Checker_Feed.f
      rw [if_pos ⟨rfl, hlen⟩]
    have hbad : B = true → (feedV ((b.take to').drop from') (B, n, l, h)).1 = true := by rintro rfl; rw [feedV_bad]
    generalize feedV ((b.take to').drop from') (B, n, l, h) = st2 at *
    obtain ⟨B2, n2, l2, h2⟩ := st2
    dsimp only at ih hbad ⊢
    refine Ev.round (fun k => by rw [posthornlaw05_RunesCut.l0, if_pos (by omega), if_pos (by omega), if_pos (by omega), if_pos (by omega), ht.1, if_pos (by omega), if_pos (by omega), Int.toNat_natCast, Int.toNat_natCast, ef, bind_some', wrap_id ((i : Int) + 1) (by omega) (by omega)]) ?_
    cases B2 with
    | true => exact Ev.congr (fun k => by dsimp only; rw [if_neg (by decide)]; rfl) ih
    | false =>
      have hB : B = false := by
        cases B with
        | false => rfl
        | true => cases hbad rfl
      subst hB
      exact Ev.congr (fun k => by dsimp only; rw [if_pos (by decide), if_pos (by decide)]; rfl) ih
theorem cut_true (b cuts : List Int) (hb : b.length ≤ 1048576) (hc : cuts.length ≤ 1048576) : Ev (fun k => posthornlaw05_RunesCut.f k b cuts) true := by
  have e0 : runes_New.f = some (true, false, 0, 0, 0) := rfl
  have e1 : runes_Checker_Feed.f true false 0 0 0 [] = some (true, true, false, 0, 0, 0) := rfl
  have e2 : slices_Clone_int_int.f cuts = some cuts := if_pos (by omega)
  unfold posthornlaw05_RunesCut.f
  refine Ev.congr (fun k => by rw [e0, bind_some', e1, bind_some', e2, bind_some', if_pos (by omega), bind_some']) ?_
  have hG := feed_G b false 0 0 0 ⟨by omega, by omega, fun h => by omega⟩
  have hW := whole_iff b
  have hgd := fun w => gd_iff b w
  have key : Ev (fun k => (runes_Checker_Whole.f true (feedV b (false, 0, 0, 0)).1 (feedV b (false, 0, 0, 0)).2.1 (feedV b (false, 0, 0, 0)).2.2.1 (feedV b (false, 0, 0, 0)).2.2.2).bind fun bt127 => ((runes_Bad_byte.f k b).bind fun t133 => (if (bt127.1 != (t133 == (b.length : Int))) = true then (some false) else ((runes_Checker_Whole.f bt127.2.1 bt127.2.2.1 bt127.2.2.2.1 bt127.2.2.2.2.1 bt127.2.2.2.2.2).bind fun bt134 => (posthornlaw05_RunesCut.l1 k b (!(feedV b (false, 0, 0, 0)).1) bt134.1 (([(([] : List Int))] : List (List Int))) 0))))) true := by
    generalize feedV b (false, 0, 0, 0) = st at *
    obtain ⟨B, n, l, h⟩ := st
    dsimp only at hG hW hgd ⊢
    have ew : runes_Checker_Whole.f true B n l h = some (!B && n == 0, true, B, n, l, h) := if_pos rfl
    refine Ev.congr (fun k => by rw [ew, bind_some']) ?_
    refine Ev.bind (badB_same b (by omega)) ?_
    have hq : ((!B && n == 0) != (((badV b.length b : Nat) : Int) == (b.length : Int))) = false := by
      by_cases hz : badV b.length b = b.length
      · obtain ⟨h1, h2⟩ := hW.1 hz
        rw [hz, h1, h2, beq_self_eq_true, beq_self_eq_true]
        rfl
      · have : (((badV b.length b : Nat) : Int) == (b.length : Int)) = false := beq_eq_false_iff_ne.2 (by omega)
        rw [this]
        cases B with
        | true => rfl
        | false =>
          have hn : n ≠ 0 := fun e => hz (hW.2 ⟨rfl, e⟩)
          rw [beq_eq_false_iff_ne.2 hn]
          rfl
    refine Ev.congr (fun k => by dsimp only; rw [if_neg (by rw [hq]; decide), ew, bind_some']) (cut_l1 b hb (!B) (!B && n == 0) ?_)
    cases B with
    | true =>
      have hf : ∀ w, gd b w = false := fun w => by
        cases hx : gd b w with
        | false => rfl
        | true =>
          have := ((hgd w).1 hx).1
          rw [feedV_bad] at this
          cases this
      have hany : ∀ ws : List (List Int), ws.any (gd b) = false := fun ws => by
        rw [List.any_eq_false]
        intro w _
        rw [hf w]
        decide
      rw [hany, hany, hany]
      rfl
    | false =>
      by_cases hn : n = 0
      · subst hn
        rfl
      · obtain ⟨d, w, hd1, hd3, hw, hw1, hw2⟩ := can_end n l h hG (by have := hG.1; omega)
        have hg := (hgd w).2 ⟨hw1, hw2⟩
        have hany : (words d).any (gd b) = true := List.any_eq_true.2 ⟨w, hw, hg⟩
        have hd : d = 1 ∨ d = 2 ∨ d = 3 := by omega
        rcases hd with rfl | rfl | rfl
        · rw [hany]; simp
        · rw [hany]; simp
        · rw [hany]; simp
  exact cut_l0 b (cuts ++ [(b.length : Int)]) hb (by rw [List.length_append]; simp; omega) (by simp) true key (cuts ++ [(b.length : Int)]).length 0 0 (by omega) (Nat.zero_le _) (by simp)
theorem RunesCut (a0 : Option Addr) (len0 cap0 : Nat) (z0 : List Int) (a1 : Option Addr) (len1 cap1 : Nat) (z1 : List Int) (w : World) (w0 : (a0 = none ∧ len0 = 0 ∧ cap0 = 0 ∧ z0 = []) ∨ ∃ x, a0 = some x ∧ len0 ≤ cap0 ∧ cap0 ≤ maxLen ∧ z0.length = cap0 ∧ (∀ i, i < z0.length → w.cell? (x.add i) = some (.int .u8 (z0.getD i 0))) ∧ ∀ n ∈ z0, (Lit.int .u8 n).wf = true) (_y0 : len0 * 1 ≤ 140737488351232)
    (w1 : (a1 = none ∧ len1 = 0 ∧ cap1 = 0 ∧ z1 = []) ∨ ∃ x, a1 = some x ∧ len1 ≤ cap1 ∧ cap1 ≤ maxLen ∧ z1.length = cap1 ∧ (∀ i, i < z1.length → w.cell? (x.add i) = some (.int .i64 (z1.getD i 0))) ∧ ∀ n ∈ z1, (Lit.int .i64 n).wf = true) (_y1 : len1 * 8 ≤ 140737488351232) (b0 : len0 ≤ 1048576) (b1 : len1 ≤ 1048576) :
    Calls Try.prog 10 #[.slice a0 len0 cap0, .slice a1 len1 cap1] w fun e w' => e = .returned (.bool true) ∧ Below w.heap.size w w' := by
  obtain ⟨l, rfl, hr, hm, hw, hc⟩ := ReadsInt.ofRowC w0
  obtain ⟨l1, rfl, hr1, hm1, hw1, hc1⟩ := ReadsInt.ofRowC w1
  have hC := Kd.C_of_reads (d := (0 : Int)) (h1 := fun _ => rfl) hr
  have hC1 := Kd.C_of_reads (d := (0 : Int)) (h1 := fun _ => rfl) hr1
  obtain ⟨k, hk⟩ := cut_true l l1 b0 b1
  exact posthornlaw05_RunesCut.calls k a0 cap0 l a1 cap1 l1 true w hC hc hC1 hc1 (hk k (Nat.le_refl _))
end Go.Proofs.Ytabjfpjmiiiecaa.Pure
