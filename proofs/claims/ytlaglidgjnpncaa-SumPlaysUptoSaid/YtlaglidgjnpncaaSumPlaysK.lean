/- SumPlays: the calls of one round, by what stands about it. -/
import Derived.Test.YtlaglidgjnpncaaSumPlaysD
import Derived.Test.YtlaglidgjnpncaaSumQH
import Derived.Test.YtlaglidgjnpncaaH2
namespace Go.Proofs.Ytlaglidgjnpncaa.SumF
set_option linter.unusedVariables false
set_option linter.unusedSimpArgs false
set_option linter.unusedVariables false
set_option linter.unusedSimpArgs false
open Go.RowKit Go.Proofs.YtlaglidgjnpncaaW.PrintWords Go.Proofs.YtlaglidgjnpncaaW.PrintLast Go.Proofs.YtlaglidgjnpncaaW.PrintMore Go.Proofs.Ytlaglidgjnpncaa.B Go.Proofs.Ytlaglidgjnpncaa.M Go.Proofs.Ytlaglidgjnpncaa.H Go.Proofs.Ytlaglidgjnpncaa.SumP Go.Proofs.Ytlaglidgjnpncaa.Crc

/-- A step of the script, as it lies there. -/
structure StepV where
  kind : Int
  who : Int
  too : Int
  A : Option Addr
  c : Nat
  ps : List Int
def stepCells (s : StepV) : Array Value := #[.int .i64 s.kind, .int .i64 s.who, .int .i64 s.too, .slice s.A s.ps.length s.c]
structure PStepAt (w : World) (p : Addr) (s : StepV) : Prop where
  c0 : w.cell? (p.add 0) = some (.int .i64 s.kind)
  c1 : w.cell? (p.add 1) = some (.int .i64 s.who)
  c2 : w.cell? (p.add 2) = some (.int .i64 s.too)
  c3 : w.cell? (p.add 3) = some (.slice s.A s.ps.length s.c)
  row : Kd.C (Kd.int .u8) w s.A s.ps.length s.ps
  cap : s.ps.length ≤ s.c
  inb : InB s.ps
section
variable {w W : World} {gG gW gS gB : Nat} {q : Nat → Option Nat} {r : Nat → Option Addr × Nat} {x y : St} {cs cb : Array Value}
theorem KB.seen {b : Bool} {v : Value} (h : KB w gG gW gS gB q r x y cs #[.bool b, v] W) : KB w gG gW gS gB q r x y cs #[.bool b, v] W ∧ W.cell? ⟨gB, 0, none⟩ = some (.bool b) ∧ W.cell? ⟨gB, 1, none⟩ = some v := ⟨h, blk_cell h.B 0, blk_cell h.B 1⟩
theorem KB_sum (h : KB w gG gW gS gB q r x y cs cb W) {i : Nat} (hi : i < 5) (hz : (x i).1 = false → (x i).2 = []) :
    Calls Try.prog 23 #[ptrv (q i)] W fun e w' => e = .returned (.int .u32 (crc (x i).2)) ∧ w' = W := by
  cases hb : (x i).1 with
  | true =>
    obtain ⟨g, hq, hg, hk⟩ := h.G.made hi hb
    rw [hq]
    exact (sum_calls g _ _ W hk).mono fun e w' ⟨h1, h2⟩ => ⟨h1, h2.symm⟩
  | false =>
    obtain ⟨s, n, hk⟩ := h.G.notmade hi hb
    rw [hz hb, crc_nil]
    exact (sum_no _ s n W hk).mono fun e w' ⟨h1, h2⟩ => ⟨h1, h2.symm⟩
theorem KB_len (h : KB w gG gW gS gB q r x y cs cb W) {i : Nat} (hi : i < 5) (hz : (x i).1 = false → (x i).2 = []) :
    Calls Try.prog 24 #[ptrv (q i)] W fun e w' => e = .returned (.int .i64 ((x i).2.length : Int)) ∧ w' = W := by
  cases hb : (x i).1 with
  | true =>
    obtain ⟨g, hq, hg, hk⟩ := h.G.made hi hb
    rw [hq]
    exact (len_calls g _ _ W hk).mono fun e w' ⟨h1, h2⟩ => ⟨h1, h2.symm⟩
  | false =>
    obtain ⟨s, n, hk⟩ := h.G.notmade hi hb
    rw [hz hb]
    exact (len_no _ s n W hk).mono fun e w' ⟨h1, h2⟩ => ⟨h1, h2.symm⟩
/-- The row that the reference's stream holds, read. -/
theorem KB.row (h : KB w gG gW gS gB q r x y cs cb W) {i : Nat} (hi : i < 5) : Kd.C (Kd.int .u8) W (r i).1 (y i).2.length (y i).2 ∧ (y i).2.length ≤ (r i).2 := ⟨(Kd.R_reads' (h.R.row i hi)).2.2, (Kd.R_reads' (h.R.row i hi)).2.1⟩
theorem KB_refsum (h : KB w gG gW gS gB q r x y cs cb W) {i : Nat} (hi : i < 5) (hz : (y i).1 = false → (y i).2 = []) (hl : (y i).2.length ≤ 140737488355327) (hb : InB (y i).2) :
    Calls Try.prog 28 #[.agg #[.bool (y i).1, .slice (r i).1 (y i).2.length (r i).2]] W fun e w' => e = .returned (.int .u32 (crc (y i).2)) ∧ KB w gG gW gS gB q r x y cs cb w' := by
  obtain ⟨K, e⟩ := refOf_ev (y i).2 (by omega) hb
  have e2 : posthornref02_Stream_Sum.f K (y i).1 (y i).2 = some (crc (y i).2) := by
    unfold posthornref02_Stream_Sum.f
    cases hb1 : (y i).1 with
    | true =>
      have e3 : posthornref02_Of.f K (y i).2 = some (crc (y i).2) := e K (Nat.le_refl _)
      rw [if_pos rfl, e3]; rfl
    | false => rw [if_neg (by decide), hz hb1, crc_nil]
  exact (posthornref02_Stream_Sum.calls K (y i).1 _ _ (y i).2 _ W (h.row hi).1 (h.row hi).2 e2).mono fun e w' ⟨h1, h2⟩ => ⟨h1, h.step h2⟩
theorem KB_reset (h : KB w gG gW gS gB q r x y cs cb W) {i : Nat} (hi : i < 5) (hz : (x i).1 = false → (x i).2 = []) :
    Calls Try.prog 29 #[ptrv (q i)] W fun e w' => e = .returned (.tuple #[]) ∧ KB w gG gW gS gB q r (upd x i ((x i).1, [])) y cs cb w' := by
  cases hb : (x i).1 with
  | true =>
    obtain ⟨g, hq, hg, hk⟩ := h.G.made hi hb
    rw [hq]
    refine (reset_yes g _ _ W hk).mono fun e w' ⟨h1, h2⟩ => ⟨h1, h.left hi hq hg hk (true, []) ?_⟩
    rw [crc_nil]; exact h2
  | false =>
    obtain ⟨s, n, hk⟩ := h.G.notmade hi hb
    have e1 : (false, []) = x i := by rw [← hz hb, ← hb]
    rw [e1, upd_same]
    exact (reset_no _ s n W hk).mono fun e w' ⟨h1, h2⟩ => ⟨h1, h2 ▸ h⟩
theorem KB_write_yes (h : KB w gG gW gS gB q r x y cs cb W) {i : Nat} (hi : i < 5) (hb : (x i).1 = true) (A : Option Addr) (c : Nat) (ps l2 : List Int) (h2 : l2 = (x i).2 ++ ps) (hC : Kd.C (Kd.int .u8) W A ps.length ps) (hc : ps.length ≤ c) (hp : InB ps) (hl : (x i).2.length + ps.length ≤ 9223372036854775807) :
    Calls Try.prog 22 #[ptrv (q i), .slice A ps.length c] W fun e w' => e = .returned (.int .i64 0) ∧ KB w gG gW gS gB q r (upd x i (true, l2)) y cs cb w' := by
  subst h2
  obtain ⟨g, hq, hg, hk⟩ := h.G.made hi hb
  rw [hq]
  refine (write_calls g _ _ _ A c ps W hk hC hc (crc_more (x i).2 ps hp) (by omega) (by omega)).mono fun e w' ⟨h1, h2⟩ => ⟨h1, h.left hi hq hg hk (true, (x i).2 ++ ps) ?_⟩
  have e1 : (((x i).2 ++ ps).length : Int) = ((x i).2.length : Int) + (ps.length : Int) := by rw [List.length_append]; omega
  rw [e1]; exact h2
theorem KB_write_no (h : KB w gG gW gS gB q r x y cs cb W) {i : Nat} (hi : i < 5) (hb : (x i).1 = false) (v : Value) :
    Calls Try.prog 22 #[ptrv (q i), v] W fun e w' => e = .returned (.int .i64 1) ∧ w' = W := by
  obtain ⟨s, n, hk⟩ := h.G.notmade hi hb
  exact (write_no _ s n v W hk).mono fun e w' ⟨h1, h2⟩ => ⟨h1, h2.symm⟩
theorem KB_refwrite_yes (h : KB w gG gW gS gB q r x y cs cb W) {i : Nat} (hi : i < 5) (A : Option Addr) (c : Nat) (ps l2 : List Int) (h2 : l2 = (y i).2 ++ ps) (hC : Kd.C (Kd.int .u8) W A ps.length ps) (hc : ps.length ≤ c) (hl : (y i).2.length + ps.length < 140737488355328) :
    Calls Try.prog 27 #[.agg #[.bool true, .slice (r i).1 (y i).2.length (r i).2], .slice A ps.length c] W fun e w' => ∃ v : Option Addr × Nat, e = .returned (.agg #[.bool true, .slice v.1 l2.length v.2]) ∧ Kd.R (Kd.int .u8) 5 w' w.heap.size (fun _ => True) (.slice v.1 l2.length v.2) l2 ∧ KB w gG gW gS gB q r x y cs cb w' := by
  subst h2
  refine (refWrite_yes _ A _ c (y i).2 ps W (h.row hi).1 (h.row hi).2 hC hc hl).mono fun e w' ⟨v, h1, h2, h3⟩ => ?_
  obtain ⟨A2, c2, rfl⟩ := Kd.R_slice h2
  exact ⟨(A2, c2), h1, Kd.R_lower h2 h.below.size, h.step h3⟩
theorem KB_refwrite_no (h : KB w gG gW gS gB q r x y cs cb W) {i : Nat} (hi : i < 5) (v : Value) :
    Calls Try.prog 27 #[.agg #[.bool false, .slice (r i).1 (y i).2.length (r i).2], v] W fun e w' => e = .returned (.agg #[.bool false, .slice (r i).1 (y i).2.length (r i).2]) ∧ KB w gG gW gS gB q r x y cs cb w' :=
  (refWrite_no _ _ _ v W).mono fun e w' ⟨h1, h2⟩ => ⟨h1, h.step h2⟩
theorem KB_refreset (h : KB w gG gW gS gB q r x y cs cb W) {i : Nat} (hi : i < 5) :
    Calls Try.prog 30 #[.agg #[.bool (y i).1, .slice (r i).1 (y i).2.length (r i).2]] W fun e w' => ∃ v : Option Addr × Nat, e = .returned (.agg #[.bool (y i).1, .slice v.1 0 v.2]) ∧ Kd.R (Kd.int .u8) 5 w' w.heap.size (fun _ => True) (.slice v.1 0 v.2) [] ∧ KB w gG gW gS gB q r x y cs cb w' := by
  refine (posthornref02_Stream_Reset.calls (y i).1 _ _ (y i).2 _ _ W (h.row hi).1 (h.row hi).2 rfl).mono fun e w' ⟨v, h1, h2, h3⟩ => ?_
  obtain ⟨A2, c2, rfl⟩ := Kd.R_slice h2
  exact ⟨(A2, c2), h1, Kd.R_lower h2 h.below.size, h.step h3⟩
theorem KB_refnew (h : KB w gG gW gS gB q r x y cs cb W) :
    Calls Try.prog 25 #[] W fun e w' => ∃ v : Option Addr × Nat, e = .returned (.agg #[.bool true, .slice v.1 0 v.2]) ∧ Kd.R (Kd.int .u8) 5 w' w.heap.size (fun _ => True) (.slice v.1 0 v.2) [] ∧ Below W.heap.size W w' ∧ KB w gG gW gS gB q r x y cs cb w' := by
  refine (posthornref02_New.calls true [] W rfl).mono fun e w' ⟨v, h1, h2, h3⟩ => ?_
  obtain ⟨A2, c2, rfl⟩ := Kd.R_slice h2
  exact ⟨(A2, c2), h1, Kd.R_lower h2 h.below.size, h3, h.step h3⟩
/-- A pointer that is none of the five. -/
def Fresh (W : World) (q : Nat → Option Nat) (v : Option Nat) (z : Bool × List Int) (w : World) : Prop :=
  ((v = none ∧ z.1 = false) ∨ ∃ g, v = some g ∧ w.heap.size ≤ g ∧ W.heap[g]? = some (.cells (strm z.1 (crc z.2) z.2.length) 50 (0, 0))) ∧ ∀ g j, v = some g → j < 5 → q j ≠ some g
theorem KB.fresh (h : KB w gG gW gS gB q r x y cs cb W) (j : Nat) (hj : j < 5) : q j ≠ some W.heap.size := by
  intro e
  rcases h.G.ent j hj with ⟨h1, _⟩ | ⟨g, h1, _, h2⟩
  · rw [h1] at e; cases e
  · rw [h1] at e; injection e with e; have := blk_lt h2; omega
theorem Fresh.step {W2 : World} {v : Option Nat} {z : Bool × List Int} (h : Fresh W q v z w) (hb : Below W.heap.size W W2) : Fresh W2 q v z w := ⟨h.1.imp id fun ⟨g, h1, h2, h3⟩ => ⟨g, h1, h2, blk_below h3 hb⟩, h.2⟩
theorem KB_copy (h : KB w gG gW gS gB q r x y cs cb W) {i : Nat} (hi : i < 5) :
    Calls Try.prog 31 #[ptrv (q i)] W fun e w' => ∃ v : Option Nat, e = .returned (ptrv v) ∧ v.isSome = (x i).1 ∧ Fresh w' q v (x i) w ∧ KB w gG gW gS gB q r x y cs cb w' := by
  cases hb : (x i).1 with
  | true =>
    obtain ⟨g, hq, hg, hk⟩ := h.G.made hi hb
    rw [hq]
    refine (copy_yes g _ _ W hk).mono fun e w' ⟨h1, h2, h3⟩ => ⟨some W.heap.size, h1, rfl, ⟨.inr ⟨_, rfl, h.below.size, by rw [hb]; exact h2⟩, fun g j e hj => by injection e with e; rw [← e]; exact h.fresh j hj⟩, h.step h3⟩
  | false =>
    obtain ⟨s, n, hk⟩ := h.G.notmade hi hb
    refine (copy_no _ s n W hk).mono fun e w' ⟨h1, h2⟩ => ⟨none, h1, rfl, ⟨.inl ⟨rfl, hb⟩, fun g j e hj => by cases e⟩, h2 ▸ h⟩
theorem KB_new (h : KB w gG gW gS gB q r x y cs cb W) :
    Calls Try.prog 20 #[] W fun e w' => ∃ g : Nat, e = .returned (.pointer (some ⟨g, 0, none⟩)) ∧ Fresh w' q (some g) (true, []) w ∧ KB w gG gW gS gB q r x y cs cb w' := by
  refine (new_calls W).mono fun e w' ⟨h1, h2⟩ => ⟨W.heap.size, h1, ⟨.inr ⟨_, rfl, h.below.size, ?_⟩, fun g j e hj => by injection e with e; rw [← e]; exact h.fresh j hj⟩, h.step (by rw [h2]; exact below_alloc (Below.refl _ _) _)⟩
  rw [h2, crc_nil]; exact blk_new _ _
theorem KB.ne (h : KB w gG gW gS gB q r x y cs cb W) : gG ≠ gW := blk_types h.G.blk h.R.blk (by decide)
theorem KB.putG (h : KB w gG gW gS gB q r x y cs cb W) {i : Nat} (hi : i < 5) (v : Option Nat) (z : Bool × List Int) (hf : Fresh W q v z w) : KB w gG gW gS gB (upd q i v) r (upd x i z) y cs cb (W.setCell ⟨gG, i, none⟩ (ptrv v)) :=
  ⟨below_set h.below h.G.hG, h.G.set hi v z hf.1 hf.2, h.R.setG h.G.blk (by decide) (by decide), h.S.imp fun _ k => ⟨k.1, k.2.1, (Below.heap_setCell _ _ _ _ (blk_types k.2.2 h.G.blk k.1)).trans k.2.2⟩, (Below.heap_setCell _ _ _ _ (blk_types h.B h.G.blk (by decide))).trans h.B⟩
theorem KB.keepG (h : KB w gG gW gS gB q r x y cs cb W) (i : Nat) (p : Value) {v : Value} {xs : List Int} (hr : Kd.R (Kd.int .u8) 5 W w.heap.size (fun _ => True) v xs) : Kd.R (Kd.int .u8) 5 (W.setCell ⟨gG, i, none⟩ p) w.heap.size (fun _ => True) v xs := by
  refine Kd.R_of_own (h1 := fun _ => rfl) (own_move (Kd.own_of_R hr) fun k2 hk2 => ?_) (fun _ _ => trivial)
  obtain ⟨cells, hc⟩ := own_typed (Kd.own_of_R hr) k2 hk2
  exact Below.heap_setCell _ _ _ _ (blk_types hc h.G.blk (by decide))
theorem KB.putW (h : KB w gG gW gS gB q r x y cs cb W) {i : Nat} (hi : i < 5) (v : Option Addr × Nat) (z : Bool × List Int) (hr : Kd.R (Kd.int .u8) 5 W w.heap.size (fun _ => True) (.slice v.1 z.2.length v.2) z.2) :
    Below w.heap.size w ((W.setCell ⟨gW, i * 2, none⟩ (.bool z.1)).setCell ⟨gW, i * 2 + 1, none⟩ (.slice v.1 z.2.length v.2)) ∧ PG w gG q x ((W.setCell ⟨gW, i * 2, none⟩ (.bool z.1)).setCell ⟨gW, i * 2 + 1, none⟩ (.slice v.1 z.2.length v.2)) ∧ PW w gW (upd r i v) (upd y i z) ((W.setCell ⟨gW, i * 2, none⟩ (.bool z.1)).setCell ⟨gW, i * 2 + 1, none⟩ (.slice v.1 z.2.length v.2)) :=
  ⟨below_set (below_set h.below h.R.hW) h.R.hW, (h.G.setW h.R.blk (by decide) (by decide)).setW (blk_set h.R.blk _ _) (by decide) (by decide), h.R.set hi v z hr⟩
end
def tot (ss : List StepV) (j : Nat) : Nat := ((ss.take j).map fun s => s.ps.length).sum
theorem inb_append {a b : List Int} (ha : InB a) (hb : InB b) : InB (a ++ b) := fun v hv => (List.mem_append.1 hv).elim (ha v) (hb v)
theorem tot_succ (ss : List StepV) (j : Nat) (h : j < ss.length) : tot ss (j + 1) = tot ss j + (ss[j]).ps.length := by
  unfold tot
  rw [List.take_succ_eq_append_getElem h, List.map_append, List.sum_append]
  simp
theorem tot_le (ss : List StepV) (j : Nat) (h : j ≤ ss.length) : tot ss j ≤ tot ss ss.length := by
  unfold tot
  have e : ss.take ss.length = ss.take j ++ ss.drop j := by rw [List.take_length, List.take_append_drop]
  rw [e, List.map_append, List.sum_append]
  omega
def x0 : St := fun i => (decide (i < 3), [])
theorem alloc_old {W : World} {g : Nat} {o : Obj} (h : g < W.heap.size) (o2 : Obj) (hk : W.heap[g]? = some o) : (W.alloc o2).heap[g]? = some o := by
  have := blk_below hk (below_alloc (Below.refl _ _) o2)
  exact this
theorem start_PG (w wa wb wc : World) (ha : wa = w.alloc (.cells (strm true 0 0) 50)) (hb : wb = wa.alloc (.cells (strm true 0 0) 50)) (hc : wc = wb.alloc (.cells (strm true 0 0) 50)) :
    ∃ q, PG w (wc.heap.size + 1) q x0 ((wc.alloc (.cells #[.bool false, .int .u32 0, .int .i64 0] 50)).alloc (.cells #[.pointer (some ⟨w.heap.size, 0, none⟩), .pointer (some ⟨wa.heap.size, 0, none⟩), .pointer (some ⟨wb.heap.size, 0, none⟩), .pointer none, .pointer (some ⟨wc.heap.size, 0, none⟩)] 40)) := by
  have sa : wa.heap.size = w.heap.size + 1 := by rw [ha]; simp
  have sb : wb.heap.size = wa.heap.size + 1 := by rw [hb]; simp
  have sc : wc.heap.size = wb.heap.size + 1 := by rw [hc]; simp
  have ka : wa.heap[w.heap.size]? = some (.cells (strm true 0 0) 50 (0, 0)) := by rw [ha]; exact blk_new _ _
  have kb : wb.heap[wa.heap.size]? = some (.cells (strm true 0 0) 50 (0, 0)) := by rw [hb]; exact blk_new _ _
  have kc : wc.heap[wb.heap.size]? = some (.cells (strm true 0 0) 50 (0, 0)) := by rw [hc]; exact blk_new _ _
  have b1 : Below wa.heap.size wa wb := by rw [hb]; exact below_alloc (Below.refl _ _) _
  have b2 : Below wb.heap.size wb wc := by rw [hc]; exact below_alloc (Below.refl _ _) _
  obtain ⟨wd, hd⟩ : ∃ W, W = wc.alloc (.cells #[.bool false, .int .u32 0, .int .i64 0] 50) := ⟨_, rfl⟩
  have kd : wd.heap[wc.heap.size]? = some (.cells (strm false 0 0) 50 (0, 0)) := by rw [hd]; exact blk_new _ _
  have b3 : Below wc.heap.size wc wd := by rw [hd]; exact below_alloc (Below.refl _ _) _
  have sd : wd.heap.size = wc.heap.size + 1 := by rw [hd]; simp
  rw [← hd]
  have b4 : ∀ o, Below wd.heap.size wd (wd.alloc o) := fun o => below_alloc (Below.refl _ _) o
  have e0 : crc [] = 0 := crc_nil
  refine ⟨fun i => if i = 0 then some w.heap.size else if i = 1 then some wa.heap.size else if i = 2 then some wb.heap.size else if i = 3 then none else some wc.heap.size, ?_, by omega, ?_, ?_⟩
  · rw [← sd]; exact blk_new _ _
  · refine five ?_ ?_ ?_ ?_ ?_
    · refine .inr ⟨_, rfl, Nat.le_refl _, ?_⟩
      show _ = some (Obj.cells (strm true (crc []) 0) 50 (0, 0))
      rw [e0]
      exact blk_below (blk_below (blk_below (blk_below ka b1) b2) b3) (b4 _)
    · refine .inr ⟨_, rfl, by omega, ?_⟩
      show _ = some (Obj.cells (strm true (crc []) 0) 50 (0, 0))
      rw [e0]
      exact blk_below (blk_below (blk_below kb b2) b3) (b4 _)
    · refine .inr ⟨_, rfl, by omega, ?_⟩
      show _ = some (Obj.cells (strm true (crc []) 0) 50 (0, 0))
      rw [e0]
      exact blk_below (blk_below kc b3) (b4 _)
    · exact .inl ⟨rfl, rfl⟩
    · refine .inr ⟨_, rfl, by omega, ?_⟩
      show _ = some (Obj.cells (strm false (crc []) 0) 50 (0, 0))
      rw [e0]
      exact blk_below kd (b4 _)
  · intro i j g hi hj e1 e2
    have h1 : ∀ i, i < 5 → (if i = 0 then some w.heap.size else if i = 1 then some wa.heap.size else if i = 2 then some wb.heap.size else if i = 3 then none else some wc.heap.size) = some g → (i = 0 ∧ g = w.heap.size) ∨ (i = 1 ∧ g = wa.heap.size) ∨ (i = 2 ∧ g = wb.heap.size) ∨ (i = 4 ∧ g = wc.heap.size) := by
      refine five ?_ ?_ ?_ ?_ ?_ <;> intro h <;> simp at h <;> omega
    have a1 := h1 i hi e1
    have a2 := h1 j hj e2
    omega
theorem start_PW (w W : World) (A0 A1 A2 : Option Addr) (c0 c1 c2 : Nat) (h0 : Kd.R (Kd.int .u8) 5 W w.heap.size (fun _ => True) (.slice A0 0 c0) []) (h1 : Kd.R (Kd.int .u8) 5 W w.heap.size (fun _ => True) (.slice A1 0 c1) []) (h2 : Kd.R (Kd.int .u8) 5 W w.heap.size (fun _ => True) (.slice A2 0 c2) []) (hw : w.heap.size ≤ W.heap.size) :
    ∃ r, PW w W.heap.size r x0 (W.alloc (.cells #[.bool true, .slice A0 0 c0, .bool true, .slice A1 0 c1, .bool true, .slice A2 0 c2, .bool false, .slice none 0 0, .bool false, .slice none 0 0] 53)) := by
  refine ⟨fun i => if i = 0 then (A0, c0) else if i = 1 then (A1, c1) else if i = 2 then (A2, c2) else (none, 0), blk_new _ _, hw, ?_⟩
  refine five ?_ ?_ ?_ ?_ ?_
  · exact Kd.R_alloc h0 _
  · exact Kd.R_alloc h1 _
  · exact Kd.R_alloc h2 _
  · exact Kd.R_nil _ _ _ _ _
  · exact Kd.R_nil _ _ _ _ _
theorem start_good (T : Nat) : Good x0 T := fun i hi => ⟨fun _ h => (by cases h), Nat.zero_le _, fun _ => rfl⟩
end Go.Proofs.Ytlaglidgjnpncaa.SumF
