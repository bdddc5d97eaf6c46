/- RunesFeeds: the calls of one round, by what stands about it. -/
import Derived.Test.YtabjfpjmiiiecaaFeedsD
namespace Go.Proofs.Ytabjfpjmiiiecaa.FE
set_option linter.unusedVariables false
set_option linter.unusedSimpArgs false
set_option linter.unusedVariables false
set_option linter.unusedSimpArgs false
open Go.RowKit Go.Proofs.YtabjfpjmiiiecaaW.PrintWords Go.Proofs.YtabjfpjmiiiecaaW.PrintLast Go.Proofs.YtabjfpjmiiiecaaW.PrintMore Go.Proofs.Ytabjfpjmiiiecaa.B Go.Proofs.Ytabjfpjmiiiecaa.M Go.Proofs.Ytabjfpjmiiiecaa.D Go.Proofs.Ytabjfpjmiiiecaa.CK Go.Proofs.Ytabjfpjmiiiecaa.BG

section
variable {w W : World} {gG gW gS : Nat} {q : Nat → Option Nat} {r : Nat → Option Addr × Nat} {x y : St} {cs : Array Value}
theorem KB.seen (h : KB w gG gW gS q r x y cs W) {i : Nat} (hi : i < 5) : KB w gG gW gS q r x y cs W ∧ W.cell? ⟨gG, i, none⟩ = some (ptrv (q i)) ∧ W.cell? ⟨gW, i * 2, none⟩ = some (.bool (y i).1) ∧ W.cell? ⟨gW, i * 2 + 1, none⟩ = some (.slice (r i).1 (y i).2.length (r i).2) ∧ (∀ k, W.cell? ⟨gS, k, none⟩ = cs[k]?) ∧ gS < W.heap.size :=
  ⟨h, (h.G.cell i hi).1, (h.R.cell i hi).1, (h.R.cell i hi).2.1, h.sc, by obtain ⟨t, _, _, hk⟩ := h.S; exact blk_lt hk⟩
/-- The row that the reference's checker holds, read. -/
theorem KB.row (h : KB w gG gW gS q r x y cs W) {i : Nat} (hi : i < 5) : Kd.C (Kd.int .u8) W (r i).1 (y i).2.length (y i).2 ∧ (y i).2.length ≤ (r i).2 := ⟨(Kd.R_reads' (h.R.row i hi)).2.2, (Kd.R_reads' (h.R.row i hi)).2.1⟩
/-- What is fed to none, or to one that New did not make, is not kept. -/
theorem KB.no (h : KB w gG gW gS q r x y cs W) {i : Nat} (hi : i < 5) (hb : (x i).1 = false) (l2 : List Int) : KB w gG gW gS q r (upd x i (false, l2)) y cs W :=
  ⟨h.below, ⟨h.G.blk, h.G.hG, fun j hj => by
    by_cases hji : j = i
    · subst hji
      rw [upd_self]
      refine (h.G.ent j hj).imp (fun h => ⟨h.1, rfl⟩) fun ⟨g, h1, h2, h3⟩ => ⟨g, h1, h2, ?_⟩
      have e1 : x j = (false, (x j).2) := by rw [← hb]
      rw [e1, ck_no] at h3
      rw [ck_no]; exact h3
    · rw [upd_ne _ _ _ _ hji]; exact h.G.ent j hj, h.G.apart⟩, h.R, h.S, h.ne⟩
theorem KB_feed_no (h : KB w gG gW gS q r x y cs W) {i : Nat} (hi : i < 5) (hb : (x i).1 = false) (v : Value) :
    Calls Try.prog 23 #[ptrv (q i), v] W fun e w' => e = .returned (.bool false) ∧ ∃ m, w' = W.drewN m := by
  rcases h.G.at_ hi with ⟨hq, _⟩ | ⟨g, hq, hg, hk⟩
  · rw [hq]
    exact (feed_nil _ W).mono fun e w' ⟨h1, h2⟩ => ⟨h1, h2.out⟩
  · have e1 : x i = (false, (x i).2) := by rw [← hb]
    rw [e1, ck_no] at hk
    rw [hq]
    exact (feed_no _ g W hk).mono fun e w' ⟨h1, h2⟩ => ⟨h1, h2.out⟩
theorem KB_whole_no (h : KB w gG gW gS q r x y cs W) {i : Nat} (hi : i < 5) (hb : (x i).1 = false) :
    Calls Try.prog 25 #[ptrv (q i)] W fun e w' => e = .returned (.bool false) ∧ ∃ m, w' = W.drewN m := by
  rcases h.G.at_ hi with ⟨hq, _⟩ | ⟨g, hq, hg, hk⟩
  · rw [hq]
    exact (whole_nil W).mono fun e w' ⟨h1, h2⟩ => ⟨h1, h2.out⟩
  · have e1 : x i = (false, (x i).2) := by rw [← hb]
    rw [e1, ck_no] at hk
    rw [hq]
    exact (whole_no g W hk).mono fun e w' ⟨h1, h2⟩ => ⟨h1, h2.out⟩
theorem KB_feed (h : KB w gG gW gS q r x y cs W) {i : Nat} (hi : i < 5) {b : Bool} (hb : (x i).1 = b) (A : Option Addr) (c : Nat) (ps l2 : List Int) (h2 : l2 = (x i).2 ++ ps) (hC : Kd.C (Kd.int .u8) w A ps.length ps) (hc : ps.length ≤ c) (hl : ps.length ≤ 140737488351232) :
    Calls Try.prog 23 #[ptrv (q i), .slice A ps.length c] W fun e w' => e = .returned (.bool (b && !(fd l2).1)) ∧ KB w gG gW gS q r (upd x i (b, l2)) y cs w' := by
  subst h2
  cases b with
  | true =>
    rcases h.G.at_ hi with ⟨_, h2⟩ | ⟨g, hq, hg, hk⟩
    · rw [h2] at hb; cases hb
    · have e1 : x i = (true, (x i).2) := by rw [← hb]
      rw [hq]
      have hk2 := hk
      rw [e1] at hk2
      exact (feed_yes w W g (x i).2 ps A c hk2 hg h.below hC hc hl).mono fun e w' ⟨h1, h2⟩ => ⟨h1, h.left hi hq hk _ h2⟩
  | false =>
    rcases h.G.at_ hi with ⟨hq, _⟩ | ⟨g, hq, hg, hk⟩
    · rw [hq]
      exact (feed_nil _ W).mono fun e w' ⟨h1, h2⟩ => ⟨h1, (h.step h2.below).no hi hb _⟩
    · have e1 : x i = (false, (x i).2) := by rw [← hb]
      rw [e1, ck_no] at hk
      rw [hq]
      exact (feed_no _ g W hk).mono fun e w' ⟨h1, h2⟩ => ⟨h1, (h.step h2.below).no hi hb _⟩
theorem KB_whole (h : KB w gG gW gS q r x y cs W) {i : Nat} (hi : i < 5) {b : Bool} (hb : (x i).1 = b) :
    Calls Try.prog 25 #[ptrv (q i)] W fun e w' => e = .returned (.bool (b && wholeV (x i).2)) ∧ KB w gG gW gS q r x y cs w' := by
  cases b with
  | true =>
    rcases h.G.at_ hi with ⟨_, h2⟩ | ⟨g, hq, hg, hk⟩
    · rw [h2] at hb; cases hb
    · have e1 : x i = (true, (x i).2) := by rw [← hb]
      rw [e1] at hk
      rw [hq]
      exact (whole_calls w W g (fd (x i).2).1 (fd (x i).2).2.1 (fd (x i).2).2.2.1 (fd (x i).2).2.2.2 ⟨hk, hg⟩).mono fun e w' ⟨h1, h2⟩ => ⟨h1, h.step h2.below⟩
  | false =>
    rcases h.G.at_ hi with ⟨hq, _⟩ | ⟨g, hq, hg, hk⟩
    · rw [hq]
      exact (whole_nil W).mono fun e w' ⟨h1, h2⟩ => ⟨h1, h.step h2.below⟩
    · have e1 : x i = (false, (x i).2) := by rw [← hb]
      rw [e1, ck_no] at hk
      rw [hq]
      exact (whole_no g W hk).mono fun e w' ⟨h1, h2⟩ => ⟨h1, h.step h2.below⟩
theorem KB_refbad (h : KB w gG gW gS q r x y cs W) {i : Nat} (hi : i < 5) (hin : InB (y i).2) (hl : (y i).2.length ≤ 140737488351232) :
    Calls Try.prog 18 #[.slice (r i).1 (y i).2.length (r i).2] W fun e w' => e = .returned (.int .i64 ((badV (y i).2.length (y i).2 : Nat) : Int)) ∧ KB w gG gW gS q r x y cs w' :=
  (refBad_calls _ _ _ W (h.row hi).1 (h.row hi).2 hin hl).mono fun e w' ⟨h1, h2⟩ => ⟨h1, h.step h2⟩
theorem KB_begins (h : KB w gG gW gS q r x y cs W) {i : Nat} (hi : i < 5) (hin : InB (y i).2) (hl : (y i).2.length ≤ 140737488351232) :
    Calls Try.prog 24 #[.slice (r i).1 (y i).2.length (r i).2] W fun e w' => e = .returned (.bool (!(fd (y i).2).1)) ∧ KB w gG gW gS q r x y cs w' :=
  (begins_calls _ _ _ W (h.row hi).1 (h.row hi).2 hin hl).mono fun e w' ⟨h1, h2⟩ => ⟨h1, h.step h2⟩
theorem KB_reffeed (h : KB w gG gW gS q r x y cs W) {i : Nat} (hi : i < 5) {b : Bool} (A : Option Addr) (c : Nat) (ps l2 : List Int) (h2 : l2 = (y i).2 ++ ps) (hC : Kd.C (Kd.int .u8) w A ps.length ps) (hc : ps.length ≤ c) (hl : (y i).2.length + ps.length < 140737488355328) :
    Calls Try.prog 22 #[.agg #[.bool b, .slice (r i).1 (y i).2.length (r i).2], .slice A ps.length c] W fun e w' => ∃ v : Option Addr × Nat, e = .returned (.agg #[.bool b, .slice v.1 l2.length v.2]) ∧ Kd.R (Kd.int .u8) 5 w' w.heap.size (fun _ => True) (.slice v.1 l2.length v.2) l2 ∧ KB w gG gW gS q r x y cs w' := by
  subst h2
  refine (refFeed b _ A _ c (y i).2 ps W (h.row hi).1 (h.row hi).2 (Kd.C_below hC h.below) hc hl).mono fun e w' ⟨v, h1, h2, h3⟩ => ?_
  obtain ⟨A2, c2, rfl⟩ := Kd.R_slice h2
  exact ⟨(A2, c2), h1, Kd.R_lower h2 h.below.size, h.step h3⟩
/-- A pointer that is none of the five. -/
def Fresh (W : World) (q : Nat → Option Nat) (v : Option Nat) (z : Bool × List Int) (w : World) : Prop :=
  ((v = none ∧ z.1 = false) ∨ ∃ g, v = some g ∧ w.heap.size ≤ g ∧ W.heap[g]? = some (.cells (ck z) 48 (0, 0))) ∧ ∀ g j, v = some g → j < 5 → q j ≠ some g
theorem Fresh.step {W2 : World} {v : Option Nat} {z : Bool × List Int} (h : Fresh W q v z w) (hb : Below W.heap.size W W2) : Fresh W2 q v z w := ⟨h.1.imp id fun ⟨g, h1, h2, h3⟩ => ⟨g, h1, h2, blk_below h3 hb⟩, h.2⟩
theorem KB_new (h : KB w gG gW gS q r x y cs W) :
    Calls Try.prog 21 #[] W fun e w' => ∃ g : Nat, e = .returned (.pointer (some ⟨g, 0, none⟩)) ∧ Fresh w' q (some g) (true, []) w ∧ KB w gG gW gS q r x y cs w' := by
  refine (CK.new_calls W).mono fun e w' ⟨g, h1, h2, h3⟩ => ⟨g, h1, ⟨.inr ⟨g, rfl, Nat.le_trans h.below.size h2.2, h2.1⟩, fun g' j e hj hq => ?_⟩, h.step h3⟩
  injection e with e
  subst e
  rcases h.G.ent j hj with ⟨k1, _⟩ | ⟨g2, k1, _, k2⟩
  · rw [k1] at hq; cases hq
  · rw [k1] at hq
    injection hq with hq
    subst hq
    have := blk_lt k2
    have := h2.2
    omega
theorem KB.gne (h : KB w gG gW gS q r x y cs W) : gG ≠ gW := blk_types h.G.blk h.R.blk (by decide)
theorem KB.putG (h : KB w gG gW gS q r x y cs W) {i : Nat} (hi : i < 5) (v : Option Nat) (z : Bool × List Int) (hf : Fresh W q v z w) : KB w gG gW gS (upd q i v) r (upd x i z) y cs (W.setCell ⟨gG, i, none⟩ (ptrv v)) :=
  ⟨below_set h.below h.G.hG, h.G.set hi v z hf.1 hf.2, h.R.setG h.G.blk (by decide) (by decide), h.S.imp fun _ k => ⟨k.1, k.2.1, (Below.heap_setCell _ _ _ _ (blk_types k.2.2 h.G.blk k.1)).trans k.2.2⟩, h.ne⟩
theorem KB.keepG (h : KB w gG gW gS q r x y cs W) (i : Nat) (p : Value) {v : Value} {xs : List Int} (hr : Kd.R (Kd.int .u8) 5 W w.heap.size (fun _ => True) v xs) : Kd.R (Kd.int .u8) 5 (W.setCell ⟨gG, i, none⟩ p) w.heap.size (fun _ => True) v xs := by
  refine Kd.R_of_own (h1 := fun _ => rfl) (own_move (Kd.own_of_R hr) fun k2 hk2 => ?_) (fun _ _ => trivial)
  obtain ⟨cells, hc⟩ := own_typed (Kd.own_of_R hr) k2 hk2
  exact Below.heap_setCell _ _ _ _ (blk_types hc h.G.blk (by decide))
theorem KB.putW (h : KB w gG gW gS q r x y cs W) {i : Nat} (hi : i < 5) (v : Option Addr × Nat) (z : Bool × List Int) (hr : Kd.R (Kd.int .u8) 5 W w.heap.size (fun _ => True) (.slice v.1 z.2.length v.2) z.2) :
    KB w gG gW gS q (upd r i v) x (upd y i z) cs ((W.setCell ⟨gW, i * 2, none⟩ (.bool z.1)).setCell ⟨gW, i * 2 + 1, none⟩ (.slice v.1 z.2.length v.2)) :=
  ⟨below_set (below_set h.below h.R.hW) h.R.hW, (h.G.setW h.R.blk (by decide) (by decide)).setW (blk_set h.R.blk _ _) (by decide) (by decide), h.R.set hi v z hr,
    h.S.imp fun _ k => ⟨k.1, k.2.1, (Below.heap_setCell _ _ _ _ h.ne).trans ((Below.heap_setCell _ _ _ _ h.ne).trans k.2.2)⟩, h.ne⟩
end
theorem inb_append {a b : List Int} (ha : InB a) (hb : InB b) : InB (a ++ b) := fun v hv => (List.mem_append.1 hv).elim (ha v) (hb v)
def x0 : St := fun i => (decide (i < 3), [])
theorem start_PG (w wa wb wc : World) (ga gb gc : Nat) (ha : IsC w wa ga true false 0 0 0) (hb : IsC wa wb gb true false 0 0 0) (hc : IsC wb wc gc true false 0 0 0) (b0 : Below w.heap.size w wa) (b1 : Below wa.heap.size wa wb) (b2 : Below wb.heap.size wb wc) :
    ∃ q, PG w (wc.heap.size + 1) q x0 ((wc.alloc (.cells #[.bool false, .bool false, .int .u8 0, .int .u8 0, .int .u8 0] 48)).alloc (.cells #[.pointer (some ⟨ga, 0, none⟩), .pointer (some ⟨gb, 0, none⟩), .pointer (some ⟨gc, 0, none⟩), .pointer none, .pointer (some ⟨wc.heap.size, 0, none⟩)] 43)) := by
  have s0 := b0.size
  have s1 := b1.size
  have s2 := b2.size
  have ka := ha.1
  have kb := hb.1
  have kc := hc.1
  have la := blk_lt ka
  have lb := blk_lt kb
  have lc := blk_lt kc
  have ga0 := ha.2
  have gb0 := hb.2
  have gc0 := hc.2
  obtain ⟨wd, hd⟩ : ∃ W, W = wc.alloc (.cells #[.bool false, .bool false, .int .u8 0, .int .u8 0, .int .u8 0] 48) := ⟨_, rfl⟩
  have kd : wd.heap[wc.heap.size]? = some (.cells (cells0 false false 0 0 0) 48 (0, 0)) := by rw [hd]; exact blk_new _ _
  have b3 : Below wc.heap.size wc wd := by rw [hd]; exact below_alloc (Below.refl _ _) _
  have sd : wd.heap.size = wc.heap.size + 1 := by rw [hd]; simp
  rw [← hd]
  have b4 : ∀ o, Below wd.heap.size wd (wd.alloc o) := fun o => below_alloc (Below.refl _ _) o
  refine ⟨fun i => if i = 0 then some ga else if i = 1 then some gb else if i = 2 then some gc else if i = 3 then none else some wc.heap.size, ?_, by omega, ?_, ?_⟩
  · rw [← sd]; exact blk_new _ _
  · refine five ?_ ?_ ?_ ?_ ?_
    · exact .inr ⟨_, rfl, by omega, blk_below (blk_below (blk_below (blk_below ka b1) b2) b3) (b4 _)⟩
    · exact .inr ⟨_, rfl, by omega, blk_below (blk_below (blk_below kb b2) b3) (b4 _)⟩
    · exact .inr ⟨_, rfl, by omega, blk_below (blk_below kc b3) (b4 _)⟩
    · exact .inl ⟨rfl, rfl⟩
    · exact .inr ⟨_, rfl, by omega, blk_below kd (b4 _)⟩
  · intro i j g hi hj e1 e2
    have h1 : ∀ i, i < 5 → (if i = 0 then some ga else if i = 1 then some gb else if i = 2 then some gc else if i = 3 then none else some wc.heap.size) = some g → (i = 0 ∧ g = ga) ∨ (i = 1 ∧ g = gb) ∨ (i = 2 ∧ g = gc) ∨ (i = 4 ∧ g = wc.heap.size) := by
      refine five ?_ ?_ ?_ ?_ ?_ <;> intro h <;> simp at h <;> omega
    have a1 := h1 i hi e1
    have a2 := h1 j hj e2
    omega
theorem start_PW (w W : World) (hw : w.heap.size ≤ W.heap.size) :
    ∃ r, PW w W.heap.size r x0 (W.alloc (.cells #[.bool true, .slice none 0 0, .bool true, .slice none 0 0, .bool true, .slice none 0 0, .bool false, .slice none 0 0, .bool false, .slice none 0 0] 51)) := by
  refine ⟨fun i => (none, 0), blk_new _ _, hw, ?_⟩
  exact five (Kd.R_nil _ _ _ _ _) (Kd.R_nil _ _ _ _ _) (Kd.R_nil _ _ _ _ _) (Kd.R_nil _ _ _ _ _) (Kd.R_nil _ _ _ _ _)
theorem start_good (T : Nat) : Good x0 T := fun i hi => ⟨fun _ h => (by cases h), Nat.zero_le _⟩
end Go.Proofs.Ytabjfpjmiiiecaa.FE
