/- QueueHeaps: what stands from round to round. -/
import Derived.Test.YtekjkookkjjbcaaSorts
import Derived.Test.YtekjkookkjjbcaaRefI
namespace Go.Proofs.Ytekjkookkjjbcaa.HT
set_option linter.unusedVariables false
set_option linter.unusedSimpArgs false
set_option linter.unusedVariables false
set_option linter.unusedSimpArgs false
open Go.RowKit Go.Proofs.YtekjkookkjjbcaaW.PrintWords Go.Proofs.YtekjkookkjjbcaaW.PrintLast Go.Proofs.YtekjkookkjjbcaaW.PrintMore Go.Proofs.Ytekjkookkjjbcaa.B Go.Proofs.Ytekjkookkjjbcaa.M Go.Proofs.Ytekjkookkjjbcaa.HW Go.Proofs.Ytekjkookkjjbcaa.RH
theorem type_ne {W : World} {a b t t' : Nat} {cs ds : Array Value} (ha : W.heap[a]? = some (.cells cs t (0, 0))) (hb : W.heap[b]? = some (.cells ds t' (0, 0))) (ht : t ≠ t') : a ≠ b := fun e => by
  rw [e, hb] at ha
  injection ha with ha
  injection ha with _ ha
  exact ht ha.symm
def upd {α : Type} (f : Nat → α) (q : Nat) (v : α) : Nat → α := fun i => if i = q then v else f i
theorem upd_same {α : Type} (f : Nat → α) (q : Nat) (v : α) : upd f q v q = v := if_pos rfl
theorem upd_other {α : Type} (f : Nat → α) (q i : Nat) (v : α) (h : i ≠ q) : upd f q v i = f i := if_neg h
def th (y : T3) : T2 := (y.1, y.2.1)
/-- A heap of the reference's; b: the block of its row. -/
structure RQ (w W : World) (g : Nat) (gs : List T2) (b : Option Nat) : Prop where
  ex : ∃ v, HR w W g v gs ∧ v.ownBlock = b
section
variable {w W W' : World} {g : Nat} {gs : List T2} {b : Option Nat}
theorem RQ.below (h : RQ w W g gs b) (hb : Below W.heap.size W W') : RQ w W' g gs b := by
  obtain ⟨v, h1, h2⟩ := h.ex
  exact ⟨v, h1.below hb, h2⟩
theorem RQ.bl (h : RQ w W g gs b) : Below w.heap.size w W := by
  obtain ⟨v, h1, h2⟩ := h.ex
  exact h1.bl
theorem RQ.blk (h : RQ w W g gs b) : (∃ cs, W.heap[g]? = some (.cells cs 99 (0, 0))) ∧ w.heap.size ≤ g := by
  obtain ⟨v, h1, h2⟩ := h.ex
  exact ⟨⟨_, h1.bk⟩, h1.gg⟩
theorem RQ.row (h : RQ w W g gs b) : ∀ k, b = some k → (∃ cs, W.heap[k]? = some (.cells cs 29 (0, 0))) ∧ w.heap.size ≤ k := by
  obtain ⟨v, h1, h2⟩ := h.ex
  intro k hk
  obtain ⟨cs, hc⟩ := Kd.R_typed h1.ow k (h2.trans hk)
  exact ⟨⟨cs, hc⟩, Kd.R_base h1.ow k (h2.trans hk)⟩
theorem RQ.kept (h : RQ w W g gs b) (hb : Below w.heap.size w W') (hg : W'.heap[g]? = W.heap[g]?) (hr : ∀ k, b = some k → W'.heap[k]? = W.heap[k]?) : RQ w W' g gs b := by
  obtain ⟨v, h1, h2⟩ := h.ex
  exact ⟨v, ⟨hg.trans h1.bk, h1.gg, hb, Kd.R_mono (Kd.R_move (Kd.R_tight rfl h1.ow) (fun k hk => hr k (by rw [← h2]; exact hk.symm))) (fun _ _ => trivial)⟩, h2⟩
end
/-- The two heaps and the reference's two. -/
structure TH (w W : World) (G R : Nat → Nat) (B RB : Nat → Option Nat) (CM : Nat → Int) (PS : Nat → List T3) (PR : Nat → List T2) (la ma : Nat) : Prop where
  bl : Below w.heap.size w W
  hq : ∀ i, i < 2 → HQ w W (G i) 13 kcmp (CM i) (PS i) (B i)
  rq : ∀ i, i < 2 → RQ w W (R i) (PR i) (RB i)
  al : W.heap[la]? = some (.cells #[.pointer (some ⟨G 0, 0, none⟩), .pointer (some ⟨G 1, 0, none⟩)] 24 (0, 0))
  am : W.heap[ma]? = some (.cells #[.pointer (some ⟨R 0, 0, none⟩), .pointer (some ⟨R 1, 0, none⟩)] 26 (0, 0))
  lw : w.heap.size ≤ la
  mw : w.heap.size ≤ ma
  dG : ∀ i j, i < 2 → j < 2 → i ≠ j → G i ≠ G j
  dR : ∀ i j, i < 2 → j < 2 → i ≠ j → R i ≠ R j
  dB : ∀ i j, i < 2 → j < 2 → i ≠ j → ∀ k, B i = some k → B j ≠ some k
  dE : ∀ i j, i < 2 → j < 2 → i ≠ j → ∀ k, RB i = some k → RB j ≠ some k
section
variable {w W W' : World} {G R : Nat → Nat} {B RB : Nat → Option Nat} {CM : Nat → Int} {PS : Nat → List T3} {PR : Nat → List T2} {la ma q : Nat}
theorem TH.below (h : TH w W G R B RB CM PS PR la ma) (hb : Below W.heap.size W W') : TH w W' G R B RB CM PS PR la ma :=
  ⟨below_step h.bl hb, fun i hi => (h.hq i hi).below hb, fun i hi => (h.rq i hi).below hb, blk_below h.al hb, blk_below h.am hb, h.lw, h.mw, h.dG, h.dR, h.dB, h.dE⟩
/-- A call of heap q has been. -/
theorem TH.heap {cm : Int} {ps : List T3} {b : Option Nat} (h : TH w W G R B RB CM PS PR la ma) (hq2 : q < 2) (hq : HQ w W' (G q) 13 kcmp cm ps b) (hk : KeepBut W W' (G q) (B q)) (hm : MovedH W (B q) b) : TH w W' G R (upd B q b) RB (upd CM q cm) (upd PS q ps) PR la ma := by
  obtain ⟨⟨cg, hcg⟩, _⟩ := (h.hq q hq2).blk
  have hrow := (h.hq q hq2).row
  have keep : ∀ {a t : Nat} {cs : Array Value}, W.heap[a]? = some (.cells cs t (0, 0)) → t ≠ 97 → t ≠ 101 → W'.heap[a]? = W.heap[a]? := fun {a t cs} ha h1 h2 =>
    hk.2 a (blk_lt ha) (type_ne ha hcg h1) (fun e => by
      obtain ⟨⟨cr, hcr⟩, _⟩ := hrow a e.symm
      exact type_ne ha hcr h2 rfl)
  refine ⟨hq.bl, fun i hi => ?_, fun i hi => ?_, (keep h.al (by decide) (by decide)).trans h.al, (keep h.am (by decide) (by decide)).trans h.am, h.lw, h.mw, h.dG, h.dR, ?_, h.dE⟩
  · by_cases e : i = q
    · subst e
      rw [upd_same, upd_same, upd_same]
      exact hq
    · rw [upd_other _ _ _ _ e, upd_other _ _ _ _ e, upd_other _ _ _ _ e]
      obtain ⟨⟨ci, hci⟩, _⟩ := (h.hq i hi).blk
      refine (h.hq i hi).kept hq.bl (hk.2 _ (blk_lt hci) (h.dG i q hi hq2 e) (fun e2 => ?_)) (fun k hki => ?_)
      · obtain ⟨⟨cr, hcr⟩, _⟩ := hrow _ e2.symm
        exact type_ne hci hcr (by decide) rfl
      · obtain ⟨⟨cr, hcr⟩, _⟩ := (h.hq i hi).row k hki
        exact hk.2 k (blk_lt hcr) (type_ne hcr hcg (by decide)) (fun e2 => h.dB i q hi hq2 e k hki e2.symm)
  · obtain ⟨⟨ci, hci⟩, _⟩ := (h.rq i hi).blk
    refine (h.rq i hi).kept hq.bl (keep hci (by decide) (by decide)) (fun k hki => ?_)
    obtain ⟨⟨cr, hcr⟩, _⟩ := (h.rq i hi).row k hki
    exact keep hcr (by decide) (by decide)
  · have hnew : ∀ i, i < 2 → i ≠ q → ∀ k, B i = some k → b ≠ some k := fun i hi e k hk1 e2 => by
      rcases hm with hm | ⟨j, hm, hj⟩
      · exact h.dB i q hi hq2 e k hk1 (hm ▸ e2)
      · obtain ⟨⟨cr, hcr⟩, _⟩ := (h.hq i hi).row k hk1
        have := blk_lt hcr
        rw [hm] at e2
        injection e2 with e2
        omega
    intro i j hi hj hij k hk1
    by_cases e : i = q
    · subst e
      rw [upd_same] at hk1
      rw [upd_other _ _ _ _ (Ne.symm hij)]
      intro e2
      exact hnew j hj (Ne.symm hij) k e2 hk1
    · rw [upd_other _ _ _ _ e] at hk1
      by_cases e2 : j = q
      · subst e2
        rw [upd_same]
        exact hnew i hi e k hk1
      · rw [upd_other _ _ _ _ e2]
        exact h.dB i j hi hj hij k hk1
/-- A call of the reference's heap q has been. -/
theorem TH.ref {gs : List T2} {b : Option Nat} (h : TH w W G R B RB CM PS PR la ma) (hq2 : q < 2) (hq : RQ w W' (R q) gs b) (hk : KeepBut W W' (R q) (RB q)) (hm : MovedR W (RB q) b) : TH w W' G R B (upd RB q b) CM PS (upd PR q gs) la ma := by
  obtain ⟨⟨cg, hcg⟩, _⟩ := (h.rq q hq2).blk
  have hrow := (h.rq q hq2).row
  have keep : ∀ {a t : Nat} {cs : Array Value}, W.heap[a]? = some (.cells cs t (0, 0)) → t ≠ 99 → t ≠ 29 → W'.heap[a]? = W.heap[a]? := fun {a t cs} ha h1 h2 =>
    hk.2 a (blk_lt ha) (type_ne ha hcg h1) (fun e => by
      obtain ⟨⟨cr, hcr⟩, _⟩ := hrow a e.symm
      exact type_ne ha hcr h2 rfl)
  refine ⟨hq.bl, fun i hi => ?_, fun i hi => ?_, (keep h.al (by decide) (by decide)).trans h.al, (keep h.am (by decide) (by decide)).trans h.am, h.lw, h.mw, h.dG, h.dR, h.dB, ?_⟩
  · obtain ⟨⟨ci, hci⟩, _⟩ := (h.hq i hi).blk
    refine (h.hq i hi).kept hq.bl (keep hci (by decide) (by decide)) (fun k hki => ?_)
    obtain ⟨⟨cr, hcr⟩, _⟩ := (h.hq i hi).row k hki
    exact keep hcr (by decide) (by decide)
  · by_cases e : i = q
    · subst e
      rw [upd_same, upd_same]
      exact hq
    · rw [upd_other _ _ _ _ e, upd_other _ _ _ _ e]
      obtain ⟨⟨ci, hci⟩, _⟩ := (h.rq i hi).blk
      refine (h.rq i hi).kept hq.bl (hk.2 _ (blk_lt hci) (h.dR i q hi hq2 e) (fun e2 => ?_)) (fun k hki => ?_)
      · obtain ⟨⟨cr, hcr⟩, _⟩ := hrow _ e2.symm
        exact type_ne hci hcr (by decide) rfl
      · obtain ⟨⟨cr, hcr⟩, _⟩ := (h.rq i hi).row k hki
        exact hk.2 k (blk_lt hcr) (type_ne hcr hcg (by decide)) (fun e2 => h.dE i q hi hq2 e k hki e2.symm)
  · have hnew : ∀ i, i < 2 → i ≠ q → ∀ k, RB i = some k → b ≠ some k := fun i hi e k hk1 e2 => by
      rcases hm with hm | ⟨j, hm, hj⟩
      · exact h.dE i q hi hq2 e k hk1 (hm ▸ e2)
      · obtain ⟨⟨cr, hcr⟩, _⟩ := (h.rq i hi).row k hk1
        have := blk_lt hcr
        rw [hm] at e2
        injection e2 with e2
        omega
    intro i j hi hj hij k hk1
    by_cases e : i = q
    · subst e
      rw [upd_same] at hk1
      rw [upd_other _ _ _ _ (Ne.symm hij)]
      intro e2
      exact hnew j hj (Ne.symm hij) k e2 hk1
    · rw [upd_other _ _ _ _ e] at hk1
      by_cases e2 : j = q
      · subst e2
        rw [upd_same]
        exact hnew i hi e k hk1
      · rw [upd_other _ _ _ _ e2]
        exact h.dE i j hi hj hij k hk1
theorem TH.cell_l (h : TH w W G R B RB CM PS PR la ma) (hq2 : q < 2) : W.cell? ⟨la, q, none⟩ = some (.pointer (some ⟨G q, 0, none⟩)) := by
  have h0 := blk_cell h.al 0
  have h1 := blk_cell h.al 1
  match q, hq2 with
  | 0, _ => exact h0
  | 1, _ => exact h1
theorem TH.cell_m (h : TH w W G R B RB CM PS PR la ma) (hq2 : q < 2) : W.cell? ⟨ma, q, none⟩ = some (.pointer (some ⟨R q, 0, none⟩)) := by
  have h0 := blk_cell h.am 0
  have h1 := blk_cell h.am 1
  match q, hq2 with
  | 0, _ => exact h0
  | 1, _ => exact h1
/-- A new heap in the place of heap q. -/
theorem TH.newL {W1 : World} {g : Nat} (h : TH w W G R B RB CM PS PR la ma) (hq2 : q < 2) (hb : Below W.heap.size W W1) (hq : HQ w W1 g 13 kcmp 0 [] none) (hg : W.heap.size ≤ g) : TH w (W1.setCell ⟨la, q, none⟩ (.pointer (some ⟨g, 0, none⟩))) (upd G q g) R (upd B q none) RB (upd CM q 0) (upd PS q []) PR la ma := by
  have h1 := h.below hb
  have hbl : Below w.heap.size w (W1.setCell ⟨la, q, none⟩ (.pointer (some ⟨g, 0, none⟩))) := below_set h1.bl h.lw
  have keep : ∀ {a t : Nat} {cs : Array Value}, W1.heap[a]? = some (.cells cs t (0, 0)) → t ≠ 24 → (W1.setCell ⟨la, q, none⟩ (.pointer (some ⟨g, 0, none⟩))).heap[a]? = W1.heap[a]? := fun {a t cs} ha ht =>
    Below.heap_setCell W1 ⟨la, q, none⟩ _ a (type_ne ha h1.al ht)
  refine ⟨hbl, fun i hi => ?_, fun i hi => ?_, ?_, (keep h1.am (by decide)).trans h1.am, h.lw, h.mw, ?_, h.dR, ?_, h.dE⟩
  · by_cases e : i = q
    · subst e
      rw [upd_same, upd_same, upd_same, upd_same]
      obtain ⟨⟨ci, hci⟩, _⟩ := hq.blk
      exact hq.kept hbl (keep hci (by decide)) (fun k hk => by cases hk)
    · rw [upd_other _ _ _ _ e, upd_other _ _ _ _ e, upd_other _ _ _ _ e, upd_other _ _ _ _ e]
      obtain ⟨⟨ci, hci⟩, _⟩ := (h1.hq i hi).blk
      refine (h1.hq i hi).kept hbl (keep hci (by decide)) (fun k hki => ?_)
      obtain ⟨⟨cr, hcr⟩, _⟩ := (h1.hq i hi).row k hki
      exact keep hcr (by decide)
  · obtain ⟨⟨ci, hci⟩, _⟩ := (h1.rq i hi).blk
    refine (h1.rq i hi).kept hbl (keep hci (by decide)) (fun k hki => ?_)
    obtain ⟨⟨cr, hcr⟩, _⟩ := (h1.rq i hi).row k hki
    exact keep hcr (by decide)
  · match q, hq2 with
    | 0, _ => exact blk_put h1.al 0 _ rfl
    | 1, _ => exact blk_put h1.al 1 _ rfl
  · have hne : ∀ i, i < 2 → G i ≠ g := fun i hi e => by
      obtain ⟨⟨ci, hci⟩, _⟩ := (h.hq i hi).blk
      have := blk_lt hci
      omega
    intro i j hi hj hij
    by_cases e : i = q
    · subst e
      rw [upd_same, upd_other _ _ _ _ (Ne.symm hij)]
      exact fun e2 => hne j hj e2.symm
    · rw [upd_other _ _ _ _ e]
      by_cases e2 : j = q
      · subst e2
        rw [upd_same]
        exact hne i hi
      · rw [upd_other _ _ _ _ e2]
        exact h.dG i j hi hj hij
  · intro i j hi hj hij k hk1
    by_cases e : i = q
    · subst e
      rw [upd_same] at hk1
      cases hk1
    · rw [upd_other _ _ _ _ e] at hk1
      by_cases e2 : j = q
      · subst e2
        rw [upd_same]
        exact fun e3 => by cases e3
      · rw [upd_other _ _ _ _ e2]
        exact h.dB i j hi hj hij k hk1
/-- A new heap of the reference's in the place of heap q. -/
theorem TH.newM {W1 : World} {g : Nat} (h : TH w W G R B RB CM PS PR la ma) (hq2 : q < 2) (hb : Below W.heap.size W W1) (hq : RQ w W1 g [] none) (hg : W.heap.size ≤ g) : TH w (W1.setCell ⟨ma, q, none⟩ (.pointer (some ⟨g, 0, none⟩))) G (upd R q g) B (upd RB q none) CM PS (upd PR q []) la ma := by
  have h1 := h.below hb
  have hbl : Below w.heap.size w (W1.setCell ⟨ma, q, none⟩ (.pointer (some ⟨g, 0, none⟩))) := below_set h1.bl h.mw
  have keep : ∀ {a t : Nat} {cs : Array Value}, W1.heap[a]? = some (.cells cs t (0, 0)) → t ≠ 26 → (W1.setCell ⟨ma, q, none⟩ (.pointer (some ⟨g, 0, none⟩))).heap[a]? = W1.heap[a]? := fun {a t cs} ha ht =>
    Below.heap_setCell W1 ⟨ma, q, none⟩ _ a (type_ne ha h1.am ht)
  refine ⟨hbl, fun i hi => ?_, fun i hi => ?_, (keep h1.al (by decide)).trans h1.al, ?_, h.lw, h.mw, h.dG, ?_, h.dB, ?_⟩
  · obtain ⟨⟨ci, hci⟩, _⟩ := (h1.hq i hi).blk
    refine (h1.hq i hi).kept hbl (keep hci (by decide)) (fun k hki => ?_)
    obtain ⟨⟨cr, hcr⟩, _⟩ := (h1.hq i hi).row k hki
    exact keep hcr (by decide)
  · by_cases e : i = q
    · subst e
      rw [upd_same, upd_same, upd_same]
      obtain ⟨⟨ci, hci⟩, _⟩ := hq.blk
      exact hq.kept hbl (keep hci (by decide)) (fun k hk => by cases hk)
    · rw [upd_other _ _ _ _ e, upd_other _ _ _ _ e, upd_other _ _ _ _ e]
      obtain ⟨⟨ci, hci⟩, _⟩ := (h1.rq i hi).blk
      refine (h1.rq i hi).kept hbl (keep hci (by decide)) (fun k hki => ?_)
      obtain ⟨⟨cr, hcr⟩, _⟩ := (h1.rq i hi).row k hki
      exact keep hcr (by decide)
  · match q, hq2 with
    | 0, _ => exact blk_put h1.am 0 _ rfl
    | 1, _ => exact blk_put h1.am 1 _ rfl
  · have hne : ∀ i, i < 2 → R i ≠ g := fun i hi e => by
      obtain ⟨⟨ci, hci⟩, _⟩ := (h.rq i hi).blk
      have := blk_lt hci
      omega
    intro i j hi hj hij
    by_cases e : i = q
    · subst e
      rw [upd_same, upd_other _ _ _ _ (Ne.symm hij)]
      exact fun e2 => hne j hj e2.symm
    · rw [upd_other _ _ _ _ e]
      by_cases e2 : j = q
      · subst e2
        rw [upd_same]
        exact hne i hi
      · rw [upd_other _ _ _ _ e2]
        exact h.dR i j hi hj hij
  · intro i j hi hj hij k hk1
    by_cases e : i = q
    · subst e
      rw [upd_same] at hk1
      cases hk1
    · rw [upd_other _ _ _ _ e] at hk1
      by_cases e2 : j = q
      · subst e2
        rw [upd_same]
        exact fun e3 => by cases e3
      · rw [upd_other _ _ _ _ e2]
        exact h.dE i j hi hj hij k hk1
end
end Go.Proofs.Ytekjkookkjjbcaa.HT
