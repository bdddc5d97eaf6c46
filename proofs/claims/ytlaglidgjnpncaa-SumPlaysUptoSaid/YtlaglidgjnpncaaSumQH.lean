/- The reference's sums as maps over one bit (plain). -/
import Derived.Test.YtlaglidgjnpncaaSumP

import Derived.Test.YtlaglidgjnpncaaH2
namespace Go.Proofs.Ytlaglidgjnpncaa.SumP
set_option linter.unusedVariables false
set_option linter.unusedSimpArgs false
set_option linter.unusedVariables false
set_option linter.unusedSimpArgs false
open Go.RowKit Go.Proofs.YtlaglidgjnpncaaW.PrintWords Go.Proofs.YtlaglidgjnpncaaW.PrintLast Go.Proofs.YtlaglidgjnpncaaW.PrintMore Go.Proofs.Ytlaglidgjnpncaa.B Go.Proofs.Ytlaglidgjnpncaa.Mtx Go.Proofs.Ytlaglidgjnpncaa.SumF Go.Proofs.Ytlaglidgjnpncaa.Crc Go.Proofs.Ytlaglidgjnpncaa.H

theorem Down_w (x : W) : posthornref02_Down.f (ofW x) = some (ofW (D x)) := by
  unfold posthornref02_Down.f D
  have hu := ofW_u x
  unfold U at hu
  rw [Int.tmod_eq_emod_of_nonneg hu.1, Int.tdiv_eq_ediv_of_nonneg hu.1, low_w]
  have e : ofW x / (2 : Int) % (4294967296 : Int) = ofW (x >>> 1) := by rw [← half1]; omega
  rw [e, xor_w, toW_ofW]
  by_cases h : x.getLsbD 0 = true
  · rw [if_pos h, if_pos rfl, if_pos h]; rfl
  · rw [if_neg h, if_neg (by decide), if_neg h]
/-! ### The reference's More -/
theorem ref_eight (d : Nat) : ∀ (x : W) (l : List Int) (n i : Int) (j : Nat) (r : Int), j + d = 8 → Ev (fun k => posthornref02_More.l0 k (ofW (it D d x)) l n (wrap64 (i + 1))) r → Ev (fun k => posthornref02_More.l1 k (ofW x) l n i (j : Int)) r := by
  induction d with
  | zero =>
    intro x l n i j r hj h
    refine Ev.round (fun k => ?_) h
    simp only [posthornref02_More.l1]
    rw [if_neg (by omega)]; rfl
  | succ d ih =>
    intro x l n i j r hj h
    refine Ev.round (f := fun k => posthornref02_More.l1 k (ofW (D x)) l n i ((j + 1 : Nat) : Int)) (fun k => ?_) (ih (D x) l n i (j + 1) r (by omega) h)
    simp only [posthornref02_More.l1]
    rw [if_pos (by omega), Down_w, bind_some', wrap_id _ (by omega) (by omega)]; rfl
theorem refMore_loop (l : List Int) (hl : l.length ≤ 140737488355328) (h : InB l) (d : Nat) : ∀ (i : Nat) (x : W), i + d = l.length → Ev (fun k => posthornref02_More.l0 k (ofW x) l (l.length : Int) (i : Int)) (ofW (~~~ (run x (ws (l.drop i))))) := by
  induction d with
  | zero =>
    intro i x hi
    refine Ev.last fun k => ?_
    simp only [posthornref02_More.l0]
    rw [if_neg (by omega), List.drop_eq_nil_of_le (by omega), xor_w, ones_m, toW_ofW, BitVec.xor_comm, ← not_eq]; rfl
  | succ d ih =>
    intro i x hi
    have hlt : i < l.length := by omega
    have hr : rd l (i : Int) = l[i] := by unfold rd; simp [List.getD_eq_getElem?_getD, hlt]
    have hb := h l[i] (List.getElem_mem hlt)
    have key := ih (i + 1) (it D 8 (x ^^^ toW l[i])) (by omega)
    rw [drop_cons l i hlt]
    refine Ev.round (f := fun k => posthornref02_More.l1 k (ofW (x ^^^ toW l[i])) l (l.length : Int) (i : Int) ((0 : Nat) : Int)) (fun k => ?_) (ref_eight 8 _ _ _ _ 0 _ rfl (Ev.congr (fun k => ?_) key))
    · simp only [posthornref02_More.l0]
      rw [if_pos (by omega), if_pos (by omega), if_pos (by omega), hr, show l[i] % 4294967296 = l[i] by omega, xor_w, toW_ofW]; rfl
    · rw [wrap_id _ (by omega) (by omega)]; rfl
theorem refMore_ev (s : Int) (l : List Int) (hl : l.length ≤ 140737488355328) (h : InB l) : Ev (fun k => posthornref02_More.f k s l) (ofW (more (toW s) (ws l))) := by
  have key := refMore_loop l hl h l.length 0 (~~~ (toW s)) (by omega)
  refine Ev.congr (fun k => ?_) key
  unfold posthornref02_More.f
  rw [xor_w, ones_m, BitVec.xor_comm, ← not_eq]; rfl
theorem refOf_ev (l : List Int) (hl : l.length ≤ 140737488355328) (h : InB l) : Ev (fun k => posthornref02_Of.f k l) (ofW (more 0#32 (ws l))) :=
  Ev.same (refMore_ev 0 l hl h)
end Go.Proofs.Ytlaglidgjnpncaa.SumP
