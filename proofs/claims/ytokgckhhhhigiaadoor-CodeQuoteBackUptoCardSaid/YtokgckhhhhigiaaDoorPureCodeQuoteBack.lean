/- CodeQuoteBack, where what it reads is of bulk at most 1048576: bytes quoted, and back; few letters, short rows, no blank at a row's end; not shorter. -/
import Derived.Test.YtokgckhhhhigiaaDoorCod
import Derived.Test.YtokgckhhhhigiaaDoorGQ3
namespace Go.Proofs.YtokgckhhhhigiaaDoor.Pure
set_option linter.unusedVariables false
set_option linter.unusedSimpArgs false
open Go.RowKit Go.Proofs.YtokgckhhhhigiaaDoor.GQ Go.Proofs.YtokgckhhhhigiaaDoorW.PrintWords Go.Proofs.YtokgckhhhhigiaaDoorW.PrintMore
open Go.Proofs.YtokgckhhhhigiaaDoor.B Go.Proofs.YtokgckhhhhigiaaDoor.Q Go.Proofs.YtokgckhhhhigiaaDoor.CM Go.Proofs.YtokgckhhhhigiaaDoor.Glob

theorem quote_f (xs : List Int) (hx : InB xs) (hl : xs.length ≤ 10000000000000) : code_Quote.f xs = some (strOfNums (quo xs)) := if_pos ⟨allB_in.2 hx, hl⟩
theorem unquote_f (s : ByteArray) (hs : s.size ≤ 40000000000000) : code_Unquote.f s = some (unq (bytesOf s)) := if_pos hs
theorem beq_dec (a b : Int) : (a == b) = decide (a = b) := by
  by_cases h : a = b
  · rw [decide_eq_true h, beq_iff_eq.2 h]
  · rw [decide_eq_false h, beq_eq_false_iff_ne.2 h]
def endB (r : List Int) : Bool := r.isEmpty || r.headD 0 == 13
/-- What the statement asks of the letters, row by row. -/
def chk : List Int → Int → Nat → Bool
  | [], _, _ => true
  | c :: r, prev, row =>
    if c = 13 then decide (r.headD 0 = 10) && decide (row ≤ 76) && chk r 13 row
    else if c = 10 then decide (prev = 13) && chk r 10 0
    else !(decide (c > 126) || (decide (c < 32) && decide (c ≠ 9)) || (blankB c && endB r)) && decide (row + 1 ≤ 76) && chk r c (row + 1)
theorem chk_plain {c : Int} {r : List Int} {prev : Int} {row : Nat} (h13 : c ≠ 13) (h10 : c ≠ 10) (h126 : c ≤ 126) (h32 : c < 32 → c = 9) (hb : blankB c = true → endB r = false) (hrow : row + 1 ≤ 76) : chk (c :: r) prev row = chk r c (row + 1) := by
  rw [chk, if_neg h13, if_neg h10]
  have e1 : decide (c > 126) = false := decide_eq_false (by omega)
  have e2 : (decide (c < 32) && decide (c ≠ 9)) = false := by
    by_cases h : c < 32
    · rw [decide_eq_true h, decide_eq_false (fun h' => h' (h32 h))]; rfl
    · rw [decide_eq_false h]; rfl
  have e3 : (blankB c && endB r) = false := by
    cases h : blankB c
    · rfl
    · rw [hb h]; rfl
  rw [e1, e2, e3, decide_eq_true hrow]
  simp
theorem chk_soft {r : List Int} {prev : Int} {row : Nat} (hrow : row ≤ 75) : chk (61 :: 13 :: 10 :: r) prev row = chk r 10 0 := by
  rw [chk_plain (by decide) (by decide) (by decide) (by decide) (fun h => by cases h) (by omega), chk, if_pos rfl, chk, if_neg (by decide), if_pos rfl]
  have : decide (row + 1 ≤ 76) = true := decide_eq_true (by omega)
  rw [this]
  simp
theorem chk_crlf {r : List Int} {prev : Int} {row : Nat} (hrow : row ≤ 76) : chk (13 :: 10 :: r) prev row = chk r 10 0 := by
  rw [chk, if_pos rfl, chk, if_neg (by decide), if_pos rfl, decide_eq_true hrow]
  simp
theorem chk_sgn (c : Int) (hc : 0 ≤ c ∧ c ≤ 255) (last : Bool) (rest : List Int) (prev : Int) (row : Nat) (hrow : row + (sgn c last).length ≤ 76) (hrest : last = false → endB rest = false) : ∃ prev', chk (sgn c last ++ rest) prev row = chk rest prev' (row + (sgn c last).length) := by
  rcases sgn_cases c last with h | ⟨h, h1, h2, h3⟩
  · rw [h] at hrow ⊢
    simp only [List.length_cons, List.length_nil] at hrow
    obtain ⟨_, _, a3, a4, a5⟩ := hx_of (c / 16) (by omega)
    obtain ⟨_, _, b3, b4, b5⟩ := hx_of (c % 16) (by omega)
    have hbl : ∀ x : Int, 48 ≤ x → blankB x = false := fun x hx => by
      unfold blankB
      have a : (x == 32) = false := beq_eq_false_iff_ne.2 (by omega)
      have b : (x == 9) = false := beq_eq_false_iff_ne.2 (by omega)
      rw [a, b]; rfl
    refine ⟨hx (c % 16), ?_⟩
    simp only [List.cons_append, List.nil_append, List.length_cons, List.length_nil]
    rw [chk_plain (by decide) (by decide) (by decide) (by decide) (fun h => by cases h) (by omega), chk_plain a3 (by omega) (by omega) (by omega) (fun h => by rw [hbl _ a4] at h; cases h) (by omega), chk_plain b3 (by omega) (by omega) (by omega) (fun h => by rw [hbl _ b4] at h; cases h) (by omega)]
  · rw [h] at hrow ⊢
    obtain ⟨p1, p2, p3, p4⟩ := plain_of c hc h1
    refine ⟨c, ?_⟩
    simp only [List.cons_append, List.nil_append, List.length_cons, List.length_nil] at hrow ⊢
    refine chk_plain p1 p2 p3 p4 (fun hb => hrest ?_) (by omega)
    cases hl : last
    · rfl
    · rw [h3 hl] at hb; cases hb
theorem qL_head (n : Nat) (r : List Int) (row : Nat) (hn : r.length ≤ n) (hin : InB r) (hl : lastB r = false) : endB (qL n r row) = false := by
  match n, r, hn, hl with
  | n, [], _, hl => simp [lastB] at hl
  | 0, _ :: _, hn, _ => simp at hn
  | n + 1, c :: r, hn, hl =>
    have hc : 0 ≤ c ∧ c ≤ 255 := hin c List.mem_cons_self
    have he : ¬ endsB (c :: r) = true := fun h => by unfold lastB at hl; rw [h] at hl; simp at hl
    rw [qL, if_neg he]
    have hs : ∀ b rest, endB (sgn c b ++ rest) = false := fun b rest => by
      rcases sgn_cases c b with h | ⟨h, h1, _, _⟩
      · rw [h]; rfl
      · rw [h]
        have := (plain_of c hc h1).1
        unfold endB
        simp [this]
    split
    · rfl
    · exact hs _ _
theorem chk_quo : ∀ (n : Nat) (xs : List Int) (row : Nat) (prev : Int), xs.length ≤ n → InB xs → row ≤ 76 → (lastB xs = false → row ≤ 75) → chk (qL n xs row) prev row = true := by
  intro n
  induction n with
  | zero => intro xs row prev _ _ _ _; rfl
  | succ n ih =>
    intro xs row prev hn hin hr hl
    match xs, hn, hin, hl with
    | [], _, _, _ => rfl
    | c :: r, hn, hin, hl =>
      have hc : 0 ≤ c ∧ c ≤ 255 := hin c List.mem_cons_self
      have hir : InB r := fun x hx => hin x (List.mem_cons_of_mem _ hx)
      simp only [List.length_cons] at hn
      rw [qL]
      by_cases he : endsB (c :: r) = true
      · rw [if_pos he, chk_crlf hr]
        exact ih _ 0 10 (by rw [List.length_drop]; omega) (fun x hx => hir x (List.mem_of_mem_drop hx)) (by omega) (fun _ => by omega)
      · rw [if_neg he]
        have hlast : lastB (c :: r) = false := by
          unfold lastB
          simp only [List.isEmpty_cons, Bool.false_or]
          exact Bool.eq_false_iff.2 he
        have hrow := hl hlast
        have hsl := sgn_len c (lastB r)
        have hmr := mostN_range (lastB r)
        have hnext : ∀ q, q ≤ mostN (lastB r) → (lastB r = false → q ≤ 75) := fun q hq hf => by rw [hf] at hq; simp [mostN] at hq; exact hq
        by_cases hg : row + (sgn c (lastB r)).length > mostN (lastB r)
        · rw [if_pos hg, chk_soft hrow]
          obtain ⟨prev', e⟩ := chk_sgn c hc (lastB r) (qL n r (sgn c (lastB r)).length) 10 0 (by omega) (fun h => qL_head n r _ (by omega) hir h)
          rw [e, Nat.zero_add]
          exact ih r _ prev' (by omega) hir (by omega) (hnext _ (by omega))
        · rw [if_neg hg]
          obtain ⟨prev', e⟩ := chk_sgn c hc (lastB r) (qL n r (row + (sgn c (lastB r)).length)) prev row (by omega) (fun h => qL_head n r _ (by omega) hir h)
          rw [e]
          exact ih r _ prev' (by omega) hir (by omega) (hnext _ (by omega))

section
variable (S : List Int) (hS : InB S) (hs : S.length ≤ 10000000)
include hS hs
theorem chk_ev (d : Nat) : ∀ (i row : Nat) (prev : Int), i + d = S.length → (i ≠ 0 → prev = S.getD (i - 1) 0) → (i = 0 → prev ≠ 13) → chk (S.drop i) prev row = true → Ev (fun k => posthornlaw04_CodeQuoteBack.l0 k (strOfNums S) (row : Int) (i : Int)) true := by
  have hz : (strOfNums S).size = S.length := strOfNums_len _
  have hbt : ∀ j, (h : j < S.length) → bt (strOfNums S) (j : Int) = S[j] := fun j h => bt_strOfNums S hS j h
  induction d with
  | zero =>
    intro i row prev h _ _ _
    refine Ev.last fun k => ?_
    simp only [posthornlaw04_CodeQuoteBack.l0]
    rw [hz, if_neg (by omega)]
  | succ d ih =>
    intro i row prev h hp hp0 hc
    have hi : i < S.length := by omega
    have hrowb : row ≤ 76 ∨ True := .inr trivial
    rw [List.drop_eq_getElem_cons hi, chk] at hc
    obtain ⟨c, hcc⟩ : ∃ c, c = S[i] := ⟨_, rfl⟩
    rw [← hcc] at hc
    have hprev : (S.getD (i + 1 - 1) 0) = c := by rw [Nat.add_sub_cancel, hcc]; simp [List.getD_eq_getElem?_getD, hi]
    have hw1 : wrap64 ((i : Int) + 1) = ((i + 1 : Nat) : Int) := by rw [wrap_id _ (by omega) (by omega)]; omega
    -- what j2 does
    have hend : endB (S.drop (i + 1)) = if h : i + 1 < S.length then decide (S[i + 1] = 13) else true := by
      by_cases h1 : i + 1 < S.length
      · rw [dif_pos h1, List.drop_eq_getElem_cons h1]
        unfold endB
        simp only [List.isEmpty_cons, Bool.false_or, List.headD_cons]
        exact beq_dec _ _
      · rw [dif_neg h1, List.drop_eq_nil_of_le (by omega)]
        rfl
    have j2 : Ev (fun k => posthornlaw04_CodeQuoteBack.j2 k (strOfNums S) (row : Int) (i : Int) c (endB (S.drop (i + 1)))) true := by
      by_cases h13 : c = 13
      · rw [if_pos h13] at hc
        simp only [Bool.and_eq_true, decide_eq_true_eq] at hc
        obtain ⟨⟨g1, g2⟩, g3⟩ := hc
        have h1 : i + 1 < S.length := by
          refine Decidable.by_contra fun h1 => ?_
          rw [List.drop_eq_nil_of_le (by omega)] at g1
          cases g1
        have e10 : S[i + 1] = 10 := by rw [List.drop_eq_getElem_cons h1] at g1; exact g1
        have nx := ih (i + 1) row 13 (by omega) (fun _ => by rw [hprev, h13]) (fun h => by omega) g3
        have j3 : Ev (fun k => posthornlaw04_CodeQuoteBack.j3 k (strOfNums S) (row : Int) (i : Int) false) true := by
          refine Ev.round (fun k => ?_) nx
          simp only [posthornlaw04_CodeQuoteBack.j3]
          rw [if_neg (by decide), if_neg (by omega), hw1]
        refine Ev.round (fun k => ?_) j3
        simp only [posthornlaw04_CodeQuoteBack.j2]
        rw [if_pos h13, hw1, hz, if_neg (by omega), if_pos (by omega), if_pos (by omega), hbt _ h1, e10]
        rfl
      · rw [if_neg h13] at hc
        by_cases h10 : c = 10
        · rw [if_pos h10] at hc
          simp only [Bool.and_eq_true, decide_eq_true_eq] at hc
          obtain ⟨g1, g2⟩ := hc
          have hi0 : i ≠ 0 := fun h0 => hp0 h0 g1
          have hpi := hp hi0
          have e13 : S[i - 1]'(by omega) = 13 := by
            rw [g1, List.getD_eq_getElem?_getD, List.getElem?_eq_getElem (by omega)] at hpi
            exact hpi.symm
          have nx := ih (i + 1) 0 10 (by omega) (fun _ => by rw [hprev, h10]) (fun h => by omega) g2
          have j4 : Ev (fun k => posthornlaw04_CodeQuoteBack.j4 k (strOfNums S) (i : Int) false) true := by
            refine Ev.round (fun k => ?_) nx
            simp only [posthornlaw04_CodeQuoteBack.j4]
            rw [if_neg (by decide), if_neg (by decide), hw1]
            rfl
          have hwm : wrap64 ((i : Int) - 1) = ((i - 1 : Nat) : Int) := by rw [wrap_id _ (by omega) (by omega)]; omega
          refine Ev.round (fun k => ?_) j4
          simp only [posthornlaw04_CodeQuoteBack.j2]
          rw [if_neg h13, if_pos h10, if_neg (by omega), hwm, hz, if_pos (by omega), if_pos (by omega), hbt _ (by omega), e13]
          rfl
        · rw [if_neg h10] at hc
          simp only [Bool.and_eq_true, decide_eq_true_eq, Bool.not_eq_true', Bool.or_eq_false_iff, decide_eq_false_iff_not] at hc
          obtain ⟨⟨⟨⟨g1, g2⟩, g3⟩, g4⟩, g5⟩ := hc
          have nx := ih (i + 1) (row + 1) c (by omega) (fun _ => hprev.symm) (fun h => by omega) g5
          have hwr : wrap64 ((row : Int) + 1) = ((row + 1 : Nat) : Int) := by rw [wrap_id _ (by omega) (by omega)]; omega
          have j5 : Ev (fun k => posthornlaw04_CodeQuoteBack.j5 k (strOfNums S) (row : Int) (i : Int) false) true := by
            refine Ev.round (fun k => ?_) nx
            simp only [posthornlaw04_CodeQuoteBack.j5]
            rw [if_neg (by decide), hwr, if_neg (by omega), hw1]
          refine Ev.round (fun k => ?_) j5
          simp only [posthornlaw04_CodeQuoteBack.j2]
          rw [if_neg h13, if_neg h10, if_neg (by omega)]
          by_cases h32 : c < 32
          · have h9 : c = 9 := by
              refine Decidable.by_contra fun h9 => ?_
              rw [Bool.and_eq_false_iff] at g2
              rcases g2 with g2 | g2
              · exact absurd h32 (of_decide_eq_false g2)
              · exact absurd h9 (of_decide_eq_false g2)
            have hbb : blankB c = true := by rw [h9]; rfl
            rw [hbb, Bool.true_and] at g3
            rw [if_pos h32, if_pos h9, g3]
            split <;> rfl
          · rw [if_neg h32]
            by_cases h32' : c = 32
            · have hbb : blankB c = true := by rw [h32']; rfl
              rw [hbb, Bool.true_and] at g3
              rw [if_pos h32', g3]
            · rw [if_neg h32', if_neg (by omega)]
    refine Ev.round (fun k => ?_) j2
    simp only [posthornlaw04_CodeQuoteBack.l0]
    rw [hz, if_pos (by omega), if_pos (by omega), hw1, hbt i hi, ← hcc, hend]
    by_cases h1 : i + 1 < S.length
    · rw [dif_pos h1, if_neg (by omega), if_pos (by omega), if_pos (by omega), hbt _ h1, beq_dec]
    · rw [dif_neg h1, if_pos (by omega)]
end
theorem quote_back (l : List Int) (hl : InB l) (hs : l.length ≤ 1048576) : ∃ k, posthornlaw04_CodeQuoteBack.f k l = some true := by
  apply Ev.rounds
  have hq : InB (quo l) := qL_in _ _ _ hl
  have h6 : (quo l).length ≤ 6 * l.length := qL_len_le _ _ _
  have hge : l.length ≤ (quo l).length := qL_len_ge _ _ _ (Nat.le_refl _)
  have hz : (strOfNums (quo l)).size = (quo l).length := strOfNums_len _
  have hc : chk (quo l) (-1) 0 = true := chk_quo l.length l 0 (-1) (Nat.le_refl _) hl (by omega) (fun _ => by omega)
  have hev := chk_ev (quo l) hq (by omega) (quo l).length 0 0 (-1) (by omega) (fun h => absurd rfl h) (fun _ => by decide) hc
  have hj : Ev (fun k => posthornlaw04_CodeQuoteBack.j0 k (strOfNums (quo l)) false) true := by
    refine Ev.round (fun k => ?_) hev
    simp only [posthornlaw04_CodeQuoteBack.j0]
    rw [if_neg (by decide)]
    rfl
  refine Ev.congr (fun k => ?_) hj
  unfold posthornlaw04_CodeQuoteBack.f
  rw [show posthornlaw04_wakes.f = some true from rfl, Option.bind_some, if_pos rfl, quote_f l hl (by omega), Option.bind_some, unquote_f _ (by rw [hz]; omega), bytesOf_strOfNums _ hq, unq_of_quo l hl, Option.bind_some]
  simp only
  rw [if_neg (by simp), if_pos trivial, hz, decide_eq_false (by omega)]

theorem CodeQuoteBack (a0 : Option Addr) (len0 cap0 : Nat) (z0 : List Int) (w : World) (w0 : (a0 = none ∧ len0 = 0 ∧ cap0 = 0 ∧ z0 = []) ∨ ∃ x, a0 = some x ∧ len0 ≤ cap0 ∧ cap0 ≤ maxLen ∧ z0.length = cap0 ∧ (∀ i, i < z0.length → w.cell? (x.add i) = some (.int .u8 (z0.getD i 0))) ∧ ∀ n ∈ z0, (Lit.int .u8 n).wf = true) (_y0 : len0 * 1 ≤ 140737488351232) (b0 : len0 ≤ 1048576) (HG : GOk w) :
    Calls Tryd.prog 7 #[.slice a0 len0 cap0] w fun e w' => e = .returned (.bool true) ∧ Below w.heap.size w w' := by
  obtain ⟨l0, rfl, hr0, hm0, hw0, hc0⟩ := ReadsInt.ofRowC w0
  obtain ⟨k, h⟩ := quote_back l0 (fun x hx => wf_u8 (hw0 x hx)) b0
  refine (posthornlaw04_CodeQuoteBack.calls k _ _ l0 true w (Kd.C_of_reads (d := (0 : Int)) (h1 := fun _ => rfl) hr0) hc0 HG h).mono ?_
  rintro e w' ⟨rfl, hd⟩
  exact ⟨rfl, hd⟩
end Go.Proofs.YtokgckhhhhigiaaDoor.Pure
