/- CodeReaders: readers, rows and what is lent, as things in memory; what the calls say of them. -/
import Derived.Test.YtokgckhhhhigiaaRefFd
import Derived.Test.YtokgckhhhhigiaaSpoilF
import Derived.Test.YtokgckhhhhigiaaNew
namespace Go.Proofs.Ytokgckhhhhigiaa.PA
set_option linter.unusedVariables false
set_option linter.unusedSimpArgs false
set_option linter.unusedVariables false
set_option linter.unusedSimpArgs false
open Go.RowKit Go.Proofs.YtokgckhhhhigiaaW.PrintWords Go.Proofs.YtokgckhhhhigiaaW.PrintLast Go.Proofs.YtokgckhhhhigiaaW.PrintMore Go.Proofs.Ytokgckhhhhigiaa.B Go.Proofs.Ytokgckhhhhigiaa.M Go.Proofs.Ytokgckhhhhigiaa.G Go.Proofs.Ytokgckhhhhigiaa.Rd Go.Proofs.Ytokgckhhhhigiaa.UnbP Go.Proofs.Ytokgckhhhhigiaa.Fd Go.Proofs.Ytokgckhhhhigiaa.Fd2 Go.Proofs.Ytokgckhhhhigiaa.RdP Go.Proofs.Ytokgckhhhhigiaa.XF Go.Proofs.Ytokgckhhhhigiaa.Turn Go.Proofs.Ytokgckhhhhigiaa.Lent
/-- What Feed makes of bytes, in any state. -/
def feedA (l : List Int) (st : St) (er : Int) : List Int × St × Int := if er = 0 then feedL l st [] else ([], st, er)
theorem feed_n3 : ∀ (l : List Int) (st : St) (out : List Int), st.n ≤ 3 → (feedL l st out).2.1.n ≤ 3
  | [], st, out, h => h
  | ch :: r, st, out, h => by
    unfold feedL
    split
    · exact feed_n3 r st out h
    · split
      · exact h
      · exact feed_n3 r _ _ (St.put_n _ _ h)
theorem feedA_n (l : List Int) (st : St) (er : Int) (h : st.n ≤ 3) : (feedA l st er).2.1.n ≤ 3 := by
  unfold feedA
  split
  · exact feed_n3 l st [] h
  · exact h
theorem feed_len3 : ∀ (l : List Int) (st : St) (out : List Int), (feedL l st out).1.length ≤ out.length + 3 * l.length
  | [], st, out => by unfold feedL; simp
  | ch :: r, st, out => by
    unfold feedL
    split
    · have := feed_len3 r st out; simp; omega
    · split
      · exact Nat.le_add_right _ _
      · have := feed_len3 r (st.put (valV ch)) (out ++ st.out (valV ch))
        have := out_len st (valV ch)
        rw [List.length_append] at *
        simp
        omega
theorem feedA_len (l : List Int) (st : St) (er : Int) : (feedA l st er).1.length ≤ 3 * l.length := by
  unfold feedA
  split
  · have := feed_len3 l st []; simpa using this
  · simp
section
variable {w W W' : World}
/-- The program's reader. -/
def rd (w : World) (g : Nat) (st : St) (er : Int) : Ob w where
  K W F := st.n ≤ 3 ∧ (box w g 47 (st.cells true er)).K W F
  bl := fun h => (box w g 47 (st.cells true er)).bl h.2
  cells := fun h => (box w g 47 (st.cells true er)).cells h.2
  kept := fun h hb hk => ⟨h.1, (box w g 47 (st.cells true er)).kept h.2 hb hk⟩
/-- A row without room. -/
def full (w : World) (v : Value) (xs : List Int) : Ob w where
  K W F := Below w.heap.size w W ∧ FullB W w.heap.size v xs ∧ F = fun i => v.ownBlock = some i
  bl := fun h => h.1
  cells := fun ⟨_, h, e⟩ i hi => by
    subst e
    rcases h with ⟨rfl, _⟩ | ⟨g, cur, rfl, hg, hc, _⟩
    · simp [Value.ownBlock] at hi
    · have : g = i := by simpa [Value.ownBlock] using hi
      subst this
      exact ⟨hg, _, _, hc⟩
  kept := fun ⟨_, h, e⟩ hb hk => by
    subst e
    refine ⟨hb, ?_, rfl⟩
    rcases h with h | ⟨g, cur, rfl, hg, hc, ht⟩
    · exact .inl h
    · exact .inr ⟨g, cur, rfl, hg, (hk g (by simp [Value.ownBlock])).trans hc, ht⟩
/-- A row of one's own. -/
def row (w : World) (v : Value) (xs : List Int) : Ob w where
  K W F := Below w.heap.size w W ∧ RU W w.heap.size v xs ∧ F = fun i => v.ownBlock = some i
  bl := fun h => h.1
  cells := fun ⟨_, h, e⟩ i hi => by
    subst e
    obtain ⟨cs, hc⟩ := Kd.R_typed h i hi
    exact ⟨Kd.R_base h i hi, _, _, hc⟩
  kept := fun ⟨_, h, e⟩ hb hk => by
    subst e
    exact ⟨hb, Kd.R_mono (Kd.R_move (Kd.R_tight rfl h) (fun k hk2 => hk k hk2.symm)) (fun _ _ => trivial), rfl⟩
/-- What is lent, with the marks behind it. -/
def lentO (w : World) (v : Value) (xs : List Int) : Ob w where
  K W F := ∃ A c, v = .slice A xs.length c ∧ (row w (.slice A (xs.length + 70) c) (marked xs)).K W F
  bl := fun ⟨_, _, _, h⟩ => h.1
  cells := fun ⟨_, _, _, h⟩ => (row w _ _).cells h
  kept := fun ⟨A, c, e, h⟩ hb hk => ⟨A, c, e, (row w _ _).kept h hb hk⟩
/-- The reference's reader: m: how many letters at most. -/
def xr (w : World) (h : Nat) (st : St) (er : Int) (m : Nat) : Ob w where
  K W F := w.heap.size ≤ h ∧ Below w.heap.size w W ∧ ((er = 0 ∧ ∃ v T, W.heap[h]? = some (.cells #[v, .int .i64 0] tX (0, 0)) ∧ RU W w.heap.size v T ∧ Rel T st ∧ T.length ≤ m ∧ F = fun i => i = h ∨ v.ownBlock = some i) ∨ (er ≠ 0 ∧ ∃ v, W.heap[h]? = some (.cells #[v, .int .i64 er] tX (0, 0)) ∧ F = fun i => i = h))
  bl := fun h => h.2.1
  cells := fun ⟨h0, _, h⟩ i hi => by
    rcases h with ⟨_, v, T, hk, hr, _, _, rfl⟩ | ⟨_, v, hk, rfl⟩
    · rcases hi with rfl | hi
      · exact ⟨h0, _, _, hk⟩
      · obtain ⟨cs, hc⟩ := Kd.R_typed hr i hi
        exact ⟨Kd.R_base hr i hi, _, _, hc⟩
    · subst hi
      exact ⟨h0, _, _, hk⟩
  kept := fun ⟨h0, _, h⟩ hb hk => by
    refine ⟨h0, hb, ?_⟩
    rcases h with ⟨e, v, T, h1, hr, h2, h3, rfl⟩ | ⟨e, v, h1, rfl⟩
    · exact .inl ⟨e, v, T, (hk _ (.inl rfl)).trans h1, Kd.R_mono (Kd.R_move (Kd.R_tight rfl hr) (fun k hk2 => hk k (.inr hk2.symm))) (fun _ _ => trivial), h2, h3, rfl⟩
    · exact .inr ⟨e, v, (hk _ rfl).trans h1, rfl⟩
theorem row_nil (h : Below w.heap.size w W) : (row w (.slice none 0 0) []).K W (fun _ => False) := ⟨h, Kd.R_nil _ _ _ _ _, by funext i; simp [Value.ownBlock]⟩
theorem full_nil (h : Below w.heap.size w W) : (full w (.slice none 0 0) []).K W (fun _ => False) := ⟨h, .inl ⟨rfl, rfl⟩, by funext i; simp [Value.ownBlock]⟩
theorem Has.none (o : Ob w) {o' : Ob w} (h : Has o W) (hn : ∀ {W}, Below w.heap.size w W → o'.K W (fun _ => False)) : Has (both2 o o') W := by
  obtain ⟨F, h⟩ := h
  exact ⟨_, F, _, h, hn (o.bl h), fun _ _ h => h, rfl⟩
/-- A call that is fed and tells a row. -/
theorem s_feed (g : Nat) (st : St) (er : Int) (vin : Value) (l : List Int) (hl : l.length ≤ 10000000000000) (hin : InB l) :
    Steps (both2 (rd w g st er) (lentO w vin l)) 17 #[.pointer (some ⟨g, 0, none⟩), vin] (fun v : Value => .tuple #[v, .int .i64 (feedA l st er).2.2]) (fun v => both2 (both2 (rd w g (feedA l st er).2.1 (feedA l st er).2.2) (full w v (feedA l st er).1)) (lentO w vin l)) := by
  rintro W _ ⟨F1, F2, ⟨hn, h1, hB, hk, rfl⟩, ⟨A, c, rfl, hB2, hr, rfl⟩, hd, rfl⟩
  by_cases he : er = 0
  · subst he
    have hC : Kd.C (Kd.int .u8) W A l.length l := C_front (R_C hr).1
    have hA : ∀ ad, A = some ad → 0 < l.length → ad.block ≠ g := fun ad e _ e2 => hd g rfl (by subst e; simp [Value.ownBlock, e2])
    refine (Fd2.feed_calls w.heap.size g st hn A c l W h1 hB.size hk hC hA hl hin).mono ?_
    rintro e W' ⟨v1, rfl, hf, hk', hkp, hb⟩
    have e1 : feedA l st 0 = feedL l st [] := if_pos rfl
    have hB' : Below w.heap.size w W' := hB.trans hb
    have hfn : ∀ i, v1.ownBlock = some i → W.heap.size ≤ i ∧ ∃ cs t, W'.heap[i]? = some (.cells cs t (0, 0)) := fun i hi => by
      rcases hf with ⟨rfl, _⟩ | ⟨g9, cur, rfl, hg9, hc9, _⟩
      · simp [Value.ownBlock] at hi
      · have : g9 = i := by simpa [Value.ownBlock] using hi
        subst this
        exact ⟨hg9, _, _, hc9⟩
    have hgl := blk_lt hk
    have hrow' : RU W' w.heap.size (.slice A (l.length + 70) c) (marked l) := Kd.R_mono (Kd.R_move (Kd.R_tight rfl hr) (fun k hk2 => hkp.2 k (Kd.R_lt hr k hk2.symm) (fun e => hd k e (by rw [← hk2])) (by simp))) (fun _ _ => trivial)
    refine ⟨v1, by rw [e1], _, ⟨_, _, ⟨_, _, ⟨by rw [e1]; exact feed_n3 l st [] hn, h1, hB', by rw [e1]; exact hk', rfl⟩, ⟨hB', ?_, rfl⟩, fun i hi hi2 => ?_, rfl⟩, ⟨A, c, rfl, hB', hrow', rfl⟩, fun i hi hi2 => ?_, rfl⟩, ⟨hb.size, fun i hi hn' => hkp.2 i hi (fun e => hn' (.inl e)) (by simp), fun i hi => ?_⟩⟩
    · rw [e1]
      rcases hf with h9 | ⟨g9, cur, h9, hg9, hc9⟩
      · exact .inl h9
      · exact .inr ⟨g9, cur, h9, Nat.le_trans hB.size hg9, hc9⟩
    · have := (hfn i hi2).1
      have hi : i = g := hi
      omega
    · rcases hi with hi | hi
      · exact hd i hi hi2
      · have := (hfn i hi).1
        have := Kd.R_lt hr i hi2
        omega
    · rcases hi with (hi | hi) | hi
      · exact .inl (.inl hi)
      · exact .inr (hfn i hi).1
      · exact .inl (.inr hi)
  · refine (feed_err g st er he (.slice A l.length c) W hk).mono ?_
    rintro e W' ⟨rfl, hd'⟩
    have e1 : feedA l st er = ([], st, er) := if_neg he
    have hb := hd'.below
    have hgl := blk_lt hk
    have hB' : Below w.heap.size w W' := below_step hB hb
    refine ⟨.slice none 0 0, by rw [e1], _, ⟨_, _, ⟨_, _, ⟨by rw [e1]; exact hn, h1, hB', by rw [e1]; exact blk_below hk hb, rfl⟩, by rw [e1]; exact full_nil hB', fun i _ h => h, rfl⟩, ⟨A, c, rfl, hB', Kd.R_below hr hb, rfl⟩, fun i hi hi2 => hi.elim (fun hi => hd i hi hi2) id, rfl⟩, ⟨hb.size, fun i hi _ => hb.block i hi, fun i hi => ?_⟩⟩
    rcases hi with (hi | hi) | hi
    · exact .inl (.inl hi)
    · exact hi.elim
    · exact .inl (.inr hi)
theorem s_xfeed (h : Nat) (st : St) (er : Int) (m : Nat) (A : Option Addr) (c0 : Nat) (l : List Int) (hl0 : Kd.C (Kd.int .u8) w A l.length l) (hin : InB l) (hlen : m + l.length ≤ 10000000000000) :
    Steps (xr w h st er m) 19 #[.pointer (some ⟨h, 0, none⟩), .slice A l.length c0] (fun v : Value => .tuple #[v, .int .i64 (feedA l st er).2.2]) (fun v => both2 (xr w h (feedA l st er).2.1 (feedA l st er).2.2 (m + l.length)) (row w v (feedA l st er).1)) := by
  rintro W _ ⟨h0, hB, ⟨rfl, v, T, hk, hr, hrel, hm, rfl⟩ | ⟨he, v, hk, rfl⟩⟩
  · have e1 : feedA l st 0 = feedL l st [] := if_pos rfl
    refine (xfeed_calls w W h v T st A c0 l hk h0 hr hB hrel hl0 hin (by omega)).mono ?_
    rintro e W' ⟨o, v', T', t, rfl, hx, h9⟩
    rw [e1]
    have hob : ∀ i, o.ownBlock = some i → W.heap.size ≤ i := fun i hi => Kd.R_base hx.out i hi
    have hrow : ∃ F, (row w o (feedL l st []).1).K W' F ∧ F = fun i => o.ownBlock = some i := ⟨_, ⟨hx.bl, Kd.R_lower hx.out hB.size, rfl⟩, rfl⟩
    by_cases he : (feedL l st []).2.2 = 0
    · obtain ⟨rfl, h10, h11⟩ := h9 he
      refine ⟨o, rfl, _, ⟨_, _, ⟨h0, hx.bl, .inl ⟨he, t, T', by have := hx.bk; rw [he] at this; exact this, hx.row, h10, by omega, rfl⟩⟩, ⟨hx.bl, Kd.R_lower hx.out hB.size, rfl⟩, fun i hi hi2 => ?_, rfl⟩, ⟨hx.kp.1, fun i hi hn => hx.kp.2 i hi (fun e => hn (.inl e)) (fun e => hn (.inr e.symm)), fun i hi => ?_⟩⟩
      · rcases hi with rfl | hi
        · have := hob _ hi2
          have := hx.hl
          omega
        · exact hx.ap i hi hi2
      · rcases hi with (hi | hi) | hi
        · exact .inl (.inl hi)
        · rcases hx.mv with m9 | ⟨k, m9, hk9⟩
          · exact .inl (.inr (m9 ▸ hi))
          · rw [hi] at m9
            injection m9 with m9
            exact .inr (m9 ▸ hk9)
        · exact .inr (hob i hi)
    · refine ⟨o, rfl, _, ⟨_, _, ⟨h0, hx.bl, .inr ⟨he, v', hx.bk, rfl⟩⟩, ⟨hx.bl, Kd.R_lower hx.out hB.size, rfl⟩, fun i hi hi2 => ?_, rfl⟩, ⟨hx.kp.1, fun i hi hn => hx.kp.2 i hi (fun e => hn (.inl e)) (fun e => hn (.inr e.symm)), fun i hi => ?_⟩⟩
      · have := hob _ hi2
        have := hx.hl
        have hi : i = h := hi
        omega
      · rcases hi with hi | hi
        · exact .inl (.inl hi)
        · exact .inr (hob i hi)
  · have e1 : feedA l st er = ([], st, er) := if_neg he
    refine (xfeed_err h er he v (.slice A l.length c0) W hk).mono ?_
    rintro e W' ⟨rfl, hd⟩
    have hb := hd.below
    have hB' : Below w.heap.size w W' := below_step hB hb
    rw [e1]
    refine ⟨.slice none 0 0, rfl, _, ⟨_, _, ⟨h0, hB', .inr ⟨he, v, blk_below hk hb, rfl⟩⟩, row_nil hB', fun i _ h => h, rfl⟩, ⟨hb.size, fun i hi _ => hb.block i hi, fun i hi => hi.elim .inl False.elim⟩⟩
theorem s_close (g : Nat) (st : St) (er : Int) : Steps (rd w g st er) 18 #[.pointer (some ⟨g, 0, none⟩)] (fun _ : Unit => .int .i64 (closeV st er)) (fun _ => rd w g st er) := by
  refine Steps.asks ?_
  rintro W F ⟨hn, h1, hB, hk, rfl⟩
  exact (close_calls g st er W hk).mono fun e W' ⟨h1, h2⟩ => ⟨h1, by rw [h2]; exact Below.refl _ _⟩
theorem s_xclose (h : Nat) (st : St) (er : Int) (m : Nat) : Steps (xr w h st er m) 20 #[.pointer (some ⟨h, 0, none⟩)] (fun _ : Unit => .int .i64 (closeV st er)) (fun _ => xr w h st er m) := by
  refine Steps.asks ?_
  rintro W F ⟨h0, hB, ⟨rfl, v, T, hk, hr, hrel, hm, rfl⟩ | ⟨he, v, hk, rfl⟩⟩
  · refine (xclose_ok h W _ v T hk hr).mono fun e W' ⟨h1, h2⟩ => ⟨?_, h2.below⟩
    rw [h1]
    unfold closeV
    rw [hrel.n]
    by_cases h4 : T.length % 4 = 0
    · rw [if_pos h4, if_neg (by omega)]
    · rw [if_neg h4, if_pos ⟨rfl, by omega⟩]
  · refine (xclose_err h er he v W hk).mono fun e W' ⟨h1, h2⟩ => ⟨?_, h2.below⟩
    rw [h1]
    unfold closeV
    rw [if_neg (fun h => he h.1)]
theorem s_new (o : Ob w) : Steps o 15 #[] (fun g : Nat => .pointer (some ⟨g, 0, none⟩)) (fun g => rd w g St.new 0) := by
  intro W F hh
  refine (Rd.new_calls W).mono ?_
  rintro e W' ⟨g, rfl, hg, hk, hb⟩
  exact ⟨g, rfl, _, ⟨by decide, Nat.le_trans (o.bl hh).size hg, below_step (o.bl hh) hb, hk, rfl⟩, ⟨hb.size, fun i hi _ => hb.block i hi, fun i hi => by subst hi; exact .inr hg⟩⟩
theorem s_xnew (o : Ob w) (m : Nat) : Steps o 16 #[] (fun g : Nat => .pointer (some ⟨g, 0, none⟩)) (fun g => xr w g St.new 0 m) := by
  intro W F hh
  refine (xnew_calls W).mono ?_
  rintro e W' ⟨rfl, rfl⟩
  have hb := below_alloc (Below.refl W.heap.size W) (.cells #[.slice none 0 0, .int .i64 0] tX (0, 0))
  refine ⟨W.heap.size, rfl, _, ⟨(o.bl hh).size, below_step (o.bl hh) hb, .inl ⟨rfl, .slice none 0 0, [], heap_alloc_new W _, Kd.R_nil _ _ _ _ _, Rel.new, Nat.zero_le _, rfl⟩⟩, ⟨hb.size, fun i hi _ => hb.block i hi, fun i hi => ?_⟩⟩
  rcases hi with rfl | hi
  · exact .inr (Nat.le_refl _)
  · simp [Value.ownBlock] at hi
theorem s_lent (A : Option Addr) (c0 : Nat) (l : List Int) (hl0 : Kd.C (Kd.int .u8) w A l.length l) (hs : l.length ≤ 140737488351232) :
    Steps (emp w) 6 #[.slice A l.length c0] (fun v : Value => v) (fun v => lentO w v l) := by
  rintro W F ⟨hB, rfl⟩
  refine (lent_calls A c0 l W (Kd.C_below hl0 hB) hs).mono ?_
  rintro e W' ⟨A', c', rfl, hr, hb⟩
  exact ⟨_, rfl, _, ⟨A', c', rfl, below_step hB hb, Kd.R_lower hr hB.size, rfl⟩, ⟨hb.size, fun i hi _ => hb.block i hi, fun i hi => .inr (Kd.R_base hr i hi)⟩⟩
theorem s_spoil (v : Value) (l : List Int) (hs : l.length ≤ 70368744177664) : Steps (lentO w v l) 14 #[v] (fun _ : Unit => .tuple #[]) (fun _ => emp w) := by
  rintro W F ⟨A, c, rfl, hB, hr, rfl⟩
  have h1 := Kd.R_take hr (m := l.length) (by rw [marked_len]; omega)
  have hl : ((marked l).take l.length).length = l.length := by rw [List.length_take, marked_len]; omega
  have h2 := own_weaken (Kd.own_of_R h1) (Nat.zero_le _)
  rw [hl] at h2
  refine (spoil_calls A l.length c _ W h2 hs).mono ?_
  rintro e W' ⟨rfl, hg⟩
  refine ⟨(), rfl, _, ⟨hB.grown hg hB.size (fun k hk => ?_), rfl⟩, ⟨hg.size, fun i hi hn => hg.block i hi (fun e => hn ?_), fun i hi => hi.elim⟩⟩
  · exact Kd.R_base hr k (by cases A with | none => simp [Value.ownBlock] at hk | some a => exact hk)
  · cases A with
    | none => simp [Value.ownBlock] at e
    | some a => exact e.symm
theorem s_spoilF (v : Value) (l : List Int) (hs : l.length ≤ 70368744177664) : Steps (full w v l) 14 #[v] (fun _ : Unit => .tuple #[]) (fun _ => emp w) := by
  rintro W F ⟨hB, ⟨rfl, rfl⟩ | ⟨g, cur, rfl, hg, hc, ht, hm⟩, rfl⟩
  · refine (spoil_calls none 0 0 [] W (World.ownsRow_nil W _ _ _) (by omega)).mono ?_
    rintro e W' ⟨rfl, hg⟩
    exact ⟨(), rfl, _, ⟨hB.grown hg hB.size (fun k hk => by simp [Value.ownBlock] at hk), rfl⟩, ⟨hg.size, fun i hi hn => hg.block i hi (by simp [Value.ownBlock]), fun i hi => hi.elim⟩⟩
  · have hcs : l.length ≤ cur.size := by
      have h9 := congrArg List.length ht
      rw [List.length_take] at h9
      simp [nums] at h9
      omega
    refine (spoil_full (some ⟨g, 0, none⟩) l.length g l.length W rfl rfl ⟨blk_lt hc, ⟨cur, hc, hcs⟩, World.grownBy.refl W _⟩ hs).mono ?_
    rintro e W' ⟨rfl, hg2⟩
    exact ⟨(), rfl, _, ⟨hB.grown hg2 hB.size (fun k hk => by cases hk; exact hg), rfl⟩, ⟨hg2.size, fun i hi hn => hg2.block i hi (fun e => hn (by cases e; simp [Value.ownBlock])), fun i hi => hi.elim⟩⟩
theorem s_kept (v : Value) (A : Option Addr) (c0 : Nat) (l : List Int) (hl0 : Kd.C (Kd.int .u8) w A l.length l) (hs : l.length ≤ 140737488351232) :
    Steps (lentO w v l) 11 #[v, .slice A l.length c0] (fun _ : Unit => .bool true) (fun _ => lentO w v l) := by
  refine Steps.asks ?_
  rintro W F ⟨A', c', rfl, hB, hr, rfl⟩
  exact (kept_calls l A' A c' c0 W hs (R_C hr).2 (R_C hr).1 (Kd.C_below hl0 hB)).mono fun e W' ⟨h1, h2⟩ => ⟨h1, h2.below⟩
/-- A row as a text. -/
theorem Has.str {v : Value} {xs : List Int} (h : Has (row w v xs) W) : (convert 22 9 v).run Try.prog W = .ok (.string (strOfNums xs)) W := by
  obtain ⟨F, _, hr, _⟩ := h
  exact own_string (P := Try.prog) Try.underlying22 Try.underlying5 Try.underlying9 (Kd.own_of_R hr)
theorem Has.strF {v : Value} {xs : List Int} (h : Has (full w v xs) W) : (convert 22 9 v).run Try.prog W = .ok (.string (strOfNums xs)) W := by
  obtain ⟨F, _, hr, _⟩ := h
  have hv : ∃ A n c, v = .slice A n c := by
    rcases hr with ⟨rfl, _⟩ | ⟨g, cur, rfl, _⟩
    · exact ⟨_, _, _, rfl⟩
    · exact ⟨_, _, _, rfl⟩
  obtain ⟨A, n, c, rfl⟩ := hv
  exact string_of_reads (P := Try.prog) Try.underlying22 Try.underlying5 Try.underlying9 hr.reads
end
end Go.Proofs.Ytokgckhhhhigiaa.PA
