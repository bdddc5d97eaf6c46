/- RunesFeeds: the five checkers and the five of the reference, as they stand in memory. -/
import Derived.Test.YtabjfpjmiiiecaaFeedsC
namespace Go.Proofs.Ytabjfpjmiiiecaa.FE
set_option linter.unusedVariables false
set_option linter.unusedSimpArgs false
set_option linter.unusedVariables false
set_option linter.unusedSimpArgs false
open Go.RowKit Go.Proofs.YtabjfpjmiiiecaaW.PrintWords Go.Proofs.YtabjfpjmiiiecaaW.PrintLast Go.Proofs.YtabjfpjmiiiecaaW.PrintMore Go.Proofs.Ytabjfpjmiiiecaa.B Go.Proofs.Ytabjfpjmiiiecaa.M Go.Proofs.Ytabjfpjmiiiecaa.D Go.Proofs.Ytabjfpjmiiiecaa.CK Go.Proofs.Ytabjfpjmiiiecaa.BG
/-- A state of the five: made or not, and all bytes. -/
abbrev St := Nat → Bool × List Int
def upd {α : Type} (x : Nat → α) (i : Nat) (v : α) : Nat → α := fun j => if j = i then v else x j
theorem upd_self {α : Type} (x : Nat → α) (i : Nat) (v : α) : upd x i v i = v := if_pos rfl
theorem upd_ne {α : Type} (x : Nat → α) (i j : Nat) (v : α) (h : j ≠ i) : upd x i v j = x j := if_neg h
def gots (q : Nat → Option Nat) : List Value := (List.range 5).map fun i => ptrv (q i)
def rowv (r : Nat → Option Addr × Nat) (x : St) (i : Nat) : Value := .slice (r i).1 (x i).2.length (r i).2
def wants (r : Nat → Option Addr × Nat) (x : St) : List Value := (List.range 5).flatMap fun i => [.bool (x i).1, rowv r x i]
/-- Where the streams stand. -/
structure PG (w : World) (gG : Nat) (q : Nat → Option Nat) (x : St) (W : World) : Prop where
  blk : W.heap[gG]? = some (.cells (gots q).toArray 43 (0, 0))
  hG : w.heap.size ≤ gG
  ent : ∀ i, i < 5 → ((q i = none ∧ (x i).1 = false) ∨ ∃ g, q i = some g ∧ w.heap.size ≤ g ∧ W.heap[g]? = some (.cells (ck (x i)) 48 (0, 0)))
  apart : ∀ i j g, i < 5 → j < 5 → q i = some g → q j = some g → i = j
/-- Where the reference's streams stand. -/
structure PW (w : World) (gW : Nat) (r : Nat → Option Addr × Nat) (x : St) (W : World) : Prop where
  blk : W.heap[gW]? = some (.cells (wants r x).toArray 51 (0, 0))
  hW : w.heap.size ≤ gW
  row : ∀ i, i < 5 → Kd.R (Kd.int .u8) 5 W w.heap.size (fun _ => True) (rowv r x i) (x i).2
theorem five {P : Nat → Prop} (h0 : P 0) (h1 : P 1) (h2 : P 2) (h3 : P 3) (h4 : P 4) : ∀ i, i < 5 → P i := by
  intro i hi
  match i, hi with
  | 0, _ => exact h0
  | 1, _ => exact h1
  | 2, _ => exact h2
  | 3, _ => exact h3
  | 4, _ => exact h4
theorem gots_at (q : Nat → Option Nat) : ∀ i, i < 5 → (gots q).toArray[i]? = some (ptrv (q i)) := five rfl rfl rfl rfl rfl
theorem wants_at (r : Nat → Option Addr × Nat) (x : St) : ∀ i, i < 5 → (wants r x).toArray[i * 2]? = some (.bool (x i).1) := five rfl rfl rfl rfl rfl
theorem wants_at1 (r : Nat → Option Addr × Nat) (x : St) : ∀ i, i < 5 → (wants r x).toArray[i * 2 + 1]? = some (rowv r x i) := five rfl rfl rfl rfl rfl
theorem gots_set (q : Nat → Option Nat) (v : Option Nat) : ∀ i, i < 5 → (gots q).toArray.setIfInBounds i (ptrv v) = (gots (upd q i v)).toArray := five rfl rfl rfl rfl rfl
theorem wants_set (r : Nat → Option Addr × Nat) (x : St) (v : Option Addr × Nat) (y : Bool × List Int) : ∀ i, i < 5 → ((wants r x).toArray.setIfInBounds (i * 2) (.bool y.1)).setIfInBounds (i * 2 + 1) (.slice v.1 y.2.length v.2) = (wants (upd r i v) (upd x i y)).toArray := five rfl rfl rfl rfl rfl
section
variable {w W W2 : World} {gG gW : Nat} {q : Nat → Option Nat} {x : St} {r : Nat → Option Addr × Nat}
theorem PG.step (h : PG w gG q x W) (hb : Below W.heap.size W W2) : PG w gG q x W2 :=
  ⟨blk_below h.blk hb, h.hG, fun i hi => (h.ent i hi).imp id fun ⟨g, e, hg, hk⟩ => ⟨g, e, hg, blk_below hk hb⟩, h.apart⟩
theorem PW.step (h : PW w gW r x W) (hb : Below W.heap.size W W2) : PW w gW r x W2 :=
  ⟨blk_below h.blk hb, h.hW, fun i hi => Kd.R_below (h.row i hi) hb⟩
theorem PG.cell (h : PG w gG q x W) (i : Nat) (hi : i < 5) : W.cell? ⟨gG, i, none⟩ = some (ptrv (q i)) ∧ W.frozen? ⟨gG, i, none⟩ = false := ⟨(blk_cell h.blk i).trans (gots_at q i hi), blk_frozen h.blk i⟩
theorem PW.cell (h : PW w gW r x W) (i : Nat) (hi : i < 5) : W.cell? ⟨gW, i * 2, none⟩ = some (.bool (x i).1) ∧ W.cell? ⟨gW, i * 2 + 1, none⟩ = some (rowv r x i) ∧ W.frozen? ⟨gW, i * 2, none⟩ = false ∧ W.frozen? ⟨gW, i * 2 + 1, none⟩ = false :=
  ⟨(blk_cell h.blk _).trans (wants_at r x i hi), (blk_cell h.blk _).trans (wants_at1 r x i hi), blk_frozen h.blk _, blk_frozen h.blk _⟩
theorem blk_types {g g' t t' : Nat} {cs cs' : Array Value} {f f' : Nat × Nat} (h : W.heap[g]? = some (.cells cs t f)) (h' : W.heap[g']? = some (.cells cs' t' f')) (ht : t ≠ t') : g ≠ g' := by
  intro e
  subst e
  rw [h] at h'
  injection h' with h'
  injection h' with _ h2 _
  exact ht h2
/-- What writes one stream's block leaves the rest. -/
theorem PG.left (h : PG w gG q x W) {i g : Nat} (hi : i < 5) (hq : q i = some g) (y : Bool × List Int) (hl : Left w g (ck y) W W2) : PG w gG q (upd x i y) W2 := by
  obtain ⟨g', e', hg', hk'⟩ := (h.ent i hi).resolve_left (fun h0 => by rw [h0.1] at hq; cases hq)
  obtain rfl : g' = g := by rw [e'] at hq; injection hq
  refine ⟨(hl.keep.2 gG (blk_lt h.blk) (blk_types h.blk hk' (by decide)) (by simp)).trans h.blk, h.hG, fun j hj => ?_, h.apart⟩
  by_cases hji : j = i
  · subst hji
    rw [upd_self]
    exact .inr ⟨g', hq, hg', hl.blk⟩
  · rw [upd_ne _ _ _ _ hji]
    refine (h.ent j hj).imp id fun ⟨g2, e2, hg2, hk2⟩ => ⟨g2, e2, hg2, (hl.keep.2 g2 (blk_lt hk2) (fun e => hji (h.apart j i g' hj hi (by rw [e2, e]) hq)) (by simp)).trans hk2⟩
theorem PW.left (h : PW w gW r x W) {g : Nat} {cs cs' : Array Value} (hk : W.heap[g]? = some (.cells cs' 48 (0, 0))) (hl : Left w g cs W W2) : PW w gW r x W2 := by
  refine ⟨(hl.keep.2 gW (blk_lt h.blk) (blk_types h.blk hk (by decide)) (by simp)).trans h.blk, h.hW, fun i hi => ?_⟩
  have hr := h.row i hi
  refine Kd.R_of_own (h1 := fun _ => rfl) (own_move (Kd.own_of_R hr) fun k hk2 => ?_) (fun _ _ => trivial)
  obtain ⟨cells, hc⟩ := own_typed (Kd.own_of_R hr) k hk2
  exact hl.keep.2 k (blk_lt hc) (blk_types hc hk (by decide)) (by simp)
/-- A cell of the reference's row is written. -/
theorem PG.setW (h : PG w gG q x W) {g k t : Nat} {cs : Array Value} {v : Value} (hk : W.heap[g]? = some (.cells cs t (0, 0))) (h1 : 43 ≠ t) (h2 : 48 ≠ t) : PG w gG q x (W.setCell ⟨g, k, none⟩ v) := by
  have hf : ∀ {g2 t2 : Nat} {cs2 : Array Value}, W.heap[g2]? = some (.cells cs2 t2 (0, 0)) → t2 ≠ t → (W.setCell ⟨g, k, none⟩ v).heap[g2]? = some (.cells cs2 t2 (0, 0)) := fun hh ht => (Below.heap_setCell _ _ _ _ (blk_types hh hk ht)).trans hh
  exact ⟨hf h.blk h1, h.hG, fun i hi => (h.ent i hi).imp id fun ⟨g2, e, hg, hk2⟩ => ⟨g2, e, hg, hf hk2 h2⟩, h.apart⟩
theorem PW.setG (h : PW w gW r x W) {g k t : Nat} {cs : Array Value} {v : Value} (hk : W.heap[g]? = some (.cells cs t (0, 0))) (h1 : 51 ≠ t) (h2 : 5 ≠ t) : PW w gW r x (W.setCell ⟨g, k, none⟩ v) := by
  refine ⟨(Below.heap_setCell _ _ _ _ (blk_types h.blk hk h1)).trans h.blk, h.hW, fun i hi => ?_⟩
  have hr := h.row i hi
  refine Kd.R_of_own (h1 := fun _ => rfl) (own_move (Kd.own_of_R hr) fun k2 hk2 => ?_) (fun _ _ => trivial)
  obtain ⟨cells, hc⟩ := own_typed (Kd.own_of_R hr) k2 hk2
  exact Below.heap_setCell _ _ _ _ (blk_types hc hk h2)
theorem PW.set (h : PW w gW r x W) {i : Nat} (hi : i < 5) (v : Option Addr × Nat) (y : Bool × List Int) (hr : Kd.R (Kd.int .u8) 5 W w.heap.size (fun _ => True) (.slice v.1 y.2.length v.2) y.2) :
    PW w gW (upd r i v) (upd x i y) ((W.setCell ⟨gW, i * 2, none⟩ (.bool y.1)).setCell ⟨gW, i * 2 + 1, none⟩ (.slice v.1 y.2.length v.2)) := by
  have hb := blk_set (blk_set h.blk (i * 2) (.bool y.1)) (i * 2 + 1) (.slice v.1 y.2.length v.2)
  refine ⟨by rw [← wants_set r x v y i hi]; exact hb, h.hW, fun j hj => ?_⟩
  have key : ∀ {u : Value} {xs : List Int}, Kd.R (Kd.int .u8) 5 W w.heap.size (fun _ => True) u xs → Kd.R (Kd.int .u8) 5 ((W.setCell ⟨gW, i * 2, none⟩ (.bool y.1)).setCell ⟨gW, i * 2 + 1, none⟩ (.slice v.1 y.2.length v.2)) w.heap.size (fun _ => True) u xs := fun hr => by
    refine Kd.R_of_own (h1 := fun _ => rfl) (own_move (Kd.own_of_R hr) fun k2 hk2 => ?_) (fun _ _ => trivial)
    obtain ⟨cells, hc⟩ := own_typed (Kd.own_of_R hr) k2 hk2
    have hne := blk_types hc h.blk (by decide)
    rw [Below.heap_setCell _ _ _ _ hne, Below.heap_setCell _ _ _ _ hne]
  by_cases hji : j = i
  · subst hji
    unfold rowv
    rw [upd_self, upd_self]
    exact key hr
  · unfold rowv
    rw [upd_ne _ _ _ _ hji, upd_ne _ _ _ _ hji]
    exact key (h.row j hj)
theorem PG.set (h : PG w gG q x W) {i : Nat} (hi : i < 5) (v : Option Nat) (y : Bool × List Int) (hv : (v = none ∧ y.1 = false) ∨ ∃ g, v = some g ∧ w.heap.size ≤ g ∧ W.heap[g]? = some (.cells (ck y) 48 (0, 0))) (hn : ∀ g j, v = some g → j < 5 → q j ≠ some g) :
    PG w gG (upd q i v) (upd x i y) (W.setCell ⟨gG, i, none⟩ (ptrv v)) := by
  have hb := blk_set h.blk i (ptrv v)
  have hf : ∀ {g2 : Nat} {cs2 : Array Value}, W.heap[g2]? = some (.cells cs2 48 (0, 0)) → (W.setCell ⟨gG, i, none⟩ (ptrv v)).heap[g2]? = some (.cells cs2 48 (0, 0)) := fun hh => (Below.heap_setCell _ _ _ _ (blk_types hh h.blk (by decide))).trans hh
  refine ⟨by rw [← gots_set q v i hi]; exact hb, h.hG, fun j hj => ?_, fun j k g hj hk e1 e2 => ?_⟩
  · by_cases hji : j = i
    · subst hji
      rw [upd_self, upd_self]
      exact hv.imp id fun ⟨g, e, hg, hk⟩ => ⟨g, e, hg, hf hk⟩
    · rw [upd_ne _ _ _ _ hji, upd_ne _ _ _ _ hji]
      exact (h.ent j hj).imp id fun ⟨g, e, hg, hk⟩ => ⟨g, e, hg, hf hk⟩
  · by_cases hji : j = i
    · by_cases hki : k = i
      · omega
      · rw [hji, upd_self] at e1
        rw [upd_ne _ _ _ _ hki] at e2
        exact absurd e2 (hn g k e1 hk)
    · rw [upd_ne _ _ _ _ hji] at e1
      by_cases hki : k = i
      · rw [hki, upd_self] at e2
        exact absurd e1 (hn g j e2 hj)
      · rw [upd_ne _ _ _ _ hki] at e2
        exact h.apart j k g hj hk e1 e2
end

theorem PG.at_ {w W : World} {gG : Nat} {q : Nat → Option Nat} {x : St} (h : PG w gG q x W) {i : Nat} (hi : i < 5) : (q i = none ∧ (x i).1 = false) ∨ ∃ g, q i = some g ∧ w.heap.size ≤ g ∧ W.heap[g]? = some (.cells (ck (x i)) 48 (0, 0)) := h.ent i hi
/-- All that stands about one round. -/
structure KB (w : World) (gG gW gS : Nat) (q : Nat → Option Nat) (r : Nat → Option Addr × Nat) (x y : St) (cs : Array Value) (W : World) : Prop where
  below : Below w.heap.size w W
  G : PG w gG q x W
  R : PW w gW r y W
  S : ∃ t : Nat, t ≠ 43 ∧ t ≠ 48 ∧ W.heap[gS]? = some (.cells cs t (0, 0))
  ne : gS ≠ gW
section
variable {w W W2 : World} {gG gW gS : Nat} {q : Nat → Option Nat} {r : Nat → Option Addr × Nat} {x y : St} {cs : Array Value}
theorem KB.step (h : KB w gG gW gS q r x y cs W) (hb : Below W.heap.size W W2) : KB w gG gW gS q r x y cs W2 :=
  ⟨below_step h.below hb, h.G.step hb, h.R.step hb, h.S.imp fun _ k => ⟨k.1, k.2.1, blk_below k.2.2 hb⟩, h.ne⟩
theorem KB.sc (h : KB w gG gW gS q r x y cs W) (k : Nat) : W.cell? ⟨gS, k, none⟩ = cs[k]? := by
  obtain ⟨t, _, _, hk⟩ := h.S
  exact blk_cell hk k
theorem KB.drew (h : KB w gG gW gS q r x y cs W) : KB w gG gW gS q r x y cs W.drew := h.step (below_drew1 (Below.refl _ _))
theorem KB.drewN (h : KB w gG gW gS q r x y cs W) (n : Nat) : KB w gG gW gS q r x y cs (W.drewN n) := h.step (pw_below_drewN (Below.refl _ _) _)
theorem KB.left (h : KB w gG gW gS q r x y cs W) {i g : Nat} (hi : i < 5) (hq : q i = some g) {ks : Array Value} (hk : W.heap[g]? = some (.cells ks 48 (0, 0))) (z : Bool × List Int) (hl : Left w g (ck z) W W2) : KB w gG gW gS q r (upd x i z) y cs W2 :=
  ⟨hl.below, h.G.left hi hq z hl, h.R.left hk hl, h.S.imp fun _ k => ⟨k.1, k.2.1, (hl.keep.2 gS (blk_lt k.2.2) (blk_types k.2.2 hk k.2.1) (by simp)).trans k.2.2⟩, h.ne⟩
end
/-- What is told of the five by themselves. -/
def Good (x : St) (T : Nat) : Prop := ∀ i, i < 5 → InB (x i).2 ∧ (x i).2.length ≤ T
theorem Good.mono {x : St} {T T' : Nat} (h : Good x T) (ht : T ≤ T') : Good x T' := fun i hi => ⟨(h i hi).1, Nat.le_trans (h i hi).2 ht⟩
theorem Good.upd {x : St} {T : Nat} (h : Good x T) (i : Nat) (y : Bool × List Int) (h1 : InB y.2) (h2 : y.2.length ≤ T) : Good (upd x i y) T := by
  intro j hj
  by_cases hji : j = i
  · subst hji; rw [upd_self]; exact ⟨h1, h2⟩
  · rw [upd_ne _ _ _ _ hji]; exact h j hj
theorem upd_same {α : Type} (x : Nat → α) (i : Nat) : upd x i (x i) = x := by
  funext j
  by_cases hji : j = i
  · subst hji; exact upd_self _ _ _
  · exact upd_ne _ _ _ _ hji
end Go.Proofs.Ytabjfpjmiiiecaa.FE
