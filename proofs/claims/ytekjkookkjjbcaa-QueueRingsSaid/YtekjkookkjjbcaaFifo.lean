/- QueueFifo: what stands from round to round. -/
import Derived.Test.YtekjkookkjjbcaaRingW
namespace Go.Proofs.Ytekjkookkjjbcaa.RI
set_option linter.unusedVariables false
set_option linter.unusedSimpArgs false
set_option linter.unusedVariables false
set_option linter.unusedSimpArgs false
open Go.RowKit Go.Proofs.YtekjkookkjjbcaaW.PrintWords Go.Proofs.YtekjkookkjjbcaaW.PrintLast Go.Proofs.YtekjkookkjjbcaaW.PrintMore Go.Proofs.Ytekjkookkjjbcaa.B Go.Proofs.Ytekjkookkjjbcaa.M
abbrev OwnW (w W : World) (v : Value) (xs : List Int) : Prop := Kd.R (Kd.int .i64) 3 W w.heap.size (fun _ => True) v xs
theorem own_keep {w W W' : World} {g : Nat} {b : Option Nat} {v : Value} {xs : List Int} (h : OwnW w W v xs) (hk : KeepBut W W' g b) (hne : ∀ j, v.ownBlock = some j → j ≠ g ∧ some j ≠ b) : OwnW w W' v xs :=
  Kd.R_mono (Kd.R_kept (S := fun j => j = g ∨ some j = b) (Kd.R_tight rfl h) ⟨hk.1, fun i hi hn => hk.2 i hi (fun e => hn (.inl e)) (fun e => hn (.inr e))⟩ (fun j hj hS => by
    rcases hS with e | e
    · exact (hne j hj.symm).1 e
    · exact (hne j hj.symm).2 e)) (fun _ _ => trivial)
theorem RQ.blk {w0 W : World} {g : Nat} {most : Int} {xs : List Int} {b : Option Nat} (h : RQ w0 W g most xs b) : ∃ cs, W.heap[g]? = some (.cells cs 59 (0, 0)) := by
  obtain ⟨v, rm, f, h1, h2, h3⟩ := h.ex
  exact ⟨_, h1.bk⟩
theorem RQ.past {w0 W W1 : World} {g : Nat} {most : Int} {xs : List Int} {b row : Option Nat} (h : RQ w0 W g most xs b) (hg : W.grownBy W1 row) (hr : ∀ j, row = some j → w0.heap.size ≤ j ∧ j ≠ g ∧ some j ≠ b) : RQ w0 W1 g most xs b := by
  obtain ⟨v, rm, f, h1, h2, h3⟩ := h.ex
  refine ⟨v, rm, f, ⟨blk_grown h1.bk hg (fun e => (hr g e.symm).2.1 rfl), h1.gg, pw_below_grown h1.bl row (below_size h1.bl) hg (fun k hk => (hr k hk).1), own_past h1.ow hg ?_, h1.fl, h1.nl, h1.ml, h1.m1, h1.m2⟩, h2, h3⟩
  intro j hj e
  exact (hr j e.symm).2.2 (by rw [← h3, hj])
theorem RQ.b_lt {w0 W : World} {g : Nat} {most : Int} {xs : List Int} {b : Option Nat} (h : RQ w0 W g most xs b) : ∀ j, b = some j → j < W.heap.size := by
  obtain ⟨v, rm, f, h1, h2, h3⟩ := h.ex
  intro j hj
  exact own_lt (Kd.own_of_R h1.ow) j (h3.trans hj)
/-- The ring and the two lists. -/
structure FI (w W : World) (g : Nat) (most : Int) (b : Option Nat) (vi vo : Value) (inn out ring : List Int) : Prop where
  rq : RQ w W g most ring b
  ii : OwnW w W vi inn
  oo : OwnW w W vo out
  d1 : ∀ j, vi.ownBlock = some j → some j ≠ b
  d2 : ∀ j, vo.ownBlock = some j → some j ≠ b
  d3 : ∀ j, vi.ownBlock = some j → vo.ownBlock ≠ some j
section
variable {w W W' : World} {g : Nat} {most : Int} {b b' : Option Nat} {vi vo : Value} {inn out ring ring' : List Int}
theorem FI.below (h : FI w W g most b vi vo inn out ring) (hb : Below W.heap.size W W') : FI w W' g most b vi vo inn out ring :=
  ⟨h.rq.below hb, Kd.R_below h.ii hb, Kd.R_below h.oo hb, h.d1, h.d2, h.d3⟩
theorem FI.pushed (h : FI w W g most b vi vo inn out ring) (hq : RQ w W' g most ring' b') (hk : KeepBut W W' g b) (hm : Moved W b b') : FI w W' g most b' vi vo inn out ring' := by
  obtain ⟨cs, hc⟩ := h.rq.blk
  have e1 : ∀ j, vi.ownBlock = some j → j ≠ g ∧ some j ≠ b := fun j hj => ⟨fun e => Kd.R_ne h.ii hc (by decide) (by rw [hj, e]), h.d1 j hj⟩
  have e2 : ∀ j, vo.ownBlock = some j → j ≠ g ∧ some j ≠ b := fun j hj => ⟨fun e => Kd.R_ne h.oo hc (by decide) (by rw [hj, e]), h.d2 j hj⟩
  have lt1 : ∀ j, vi.ownBlock = some j → j < W.heap.size := fun j hj => own_lt (Kd.own_of_R h.ii) j hj
  have lt2 : ∀ j, vo.ownBlock = some j → j < W.heap.size := fun j hj => own_lt (Kd.own_of_R h.oo) j hj
  refine ⟨hq, own_keep h.ii hk e1, own_keep h.oo hk e2, ?_, ?_, h.d3⟩
  · intro j hj
    rcases hm with rfl | ⟨k, rfl, hk⟩
    · exact h.d1 j hj
    · intro e
      injection e with e
      have := lt1 j hj
      omega
  · intro j hj
    rcases hm with rfl | ⟨k, rfl, hk⟩
    · exact h.d2 j hj
    · intro e
      injection e with e
      have := lt2 j hj
      omega
theorem FI.appI {v1 : Value} {inn1 : List Int} (h : FI w W g most b vi vo inn out ring) (ho : OwnW w W' v1 inn1) (hg : W.grownBy W' vi.ownBlock) (hat : v1.ownBlock = vi.ownBlock ∨ ∃ k, v1.ownBlock = some k ∧ W.heap.size ≤ k) : FI w W' g most b v1 vo inn1 out ring := by
  obtain ⟨cs, hc⟩ := h.rq.blk
  refine ⟨h.rq.past hg (fun j hj => ⟨Kd.R_base h.ii j hj, fun e => Kd.R_ne h.ii hc (by decide) (by rw [hj, e]), h.d1 j hj⟩), ho, own_past h.oo hg (fun j hj e => h.d3 j e.symm hj), ?_, h.d2, ?_⟩
  · intro j hj e
    rcases hat with hat | ⟨k, hk, hl⟩
    · exact h.d1 j (hat ▸ hj) e
    · have e1 := h.rq.b_lt j e.symm
      rw [hk] at hj
      injection hj with hj
      omega
  · intro j hj e
    rcases hat with hat | ⟨k, hk, hl⟩
    · exact h.d3 j (hat ▸ hj) e
    · have e1 := own_lt (Kd.own_of_R h.oo) j e
      rw [hk] at hj
      injection hj with hj
      omega
theorem FI.appO {v1 : Value} {out1 : List Int} (h : FI w W g most b vi vo inn out ring) (ho : OwnW w W' v1 out1) (hg : W.grownBy W' vo.ownBlock) (hat : v1.ownBlock = vo.ownBlock ∨ ∃ k, v1.ownBlock = some k ∧ W.heap.size ≤ k) : FI w W' g most b vi v1 inn out1 ring := by
  obtain ⟨cs, hc⟩ := h.rq.blk
  refine ⟨h.rq.past hg (fun j hj => ⟨Kd.R_base h.oo j hj, fun e => Kd.R_ne h.oo hc (by decide) (by rw [hj, e]), h.d2 j hj⟩), own_past h.ii hg (fun j hj e => h.d3 j hj e.symm), ho, h.d1, ?_, ?_⟩
  · intro j hj e
    rcases hat with hat | ⟨k, hk, hl⟩
    · exact h.d2 j (hat ▸ hj) e
    · have e1 := h.rq.b_lt j e.symm
      rw [hk] at hj
      injection hj with hj
      omega
  · intro j hj e
    rcases hat with hat | ⟨k, hk, hl⟩
    · exact h.d3 j hj (hat ▸ e)
    · have e1 := own_lt (Kd.own_of_R h.ii) j hj
      rw [hk] at e
      injection e with e
      omega
end
end Go.Proofs.Ytekjkookkjjbcaa.RI
