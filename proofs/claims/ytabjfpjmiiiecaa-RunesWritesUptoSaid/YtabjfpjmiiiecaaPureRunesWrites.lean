/- RunesWrites, where what it reads is of bulk at most 1048576: Encode and Puny of any numbers tell what the document tells. -/
import Derived.Test.YtabjfpjmiiiecaaY2
import Derived.Test.YtabjfpjmiiiecaaPunR
import Derived.Test.YtabjfpjmiiiecaaRunE
namespace Go.Proofs.Ytabjfpjmiiiecaa.Pure
set_option linter.unusedVariables false
set_option linter.unusedSimpArgs false
open Go.RowKit Go.Proofs.Ytabjfpjmiiiecaa.Y Go.Proofs.YtabjfpjmiiiecaaW.PrintWords Go.Proofs.YtabjfpjmiiiecaaW.PrintLast Go.Proofs.YtabjfpjmiiiecaaW.PrintMore
open Go.Proofs.Ytabjfpjmiiiecaa.B Go.Proofs.Ytabjfpjmiiiecaa.WK Go.Proofs.Ytabjfpjmiiiecaa.CL Go.Proofs.Ytabjfpjmiiiecaa.D

theorem RunesWrites (a0 : Option Addr) (len0 cap0 : Nat) (z0 : List Int) (w : World) (w0 : (a0 = none ∧ len0 = 0 ∧ cap0 = 0 ∧ z0 = []) ∨ ∃ x, a0 = some x ∧ len0 ≤ cap0 ∧ cap0 ≤ maxLen ∧ z0.length = cap0 ∧ (∀ i, i < z0.length → w.cell? (x.add i) = some (.int .i32 (z0.getD i 0))) ∧ ∀ n ∈ z0, (Lit.int .i32 n).wf = true) (_y0 : len0 * 4 ≤ 140737488351232) (b0 : len0 ≤ 1048576) :
    Calls Try.prog 9 #[.slice a0 len0 cap0] w fun e w' => e = .returned (.bool true) ∧ Below w.heap.size w w' := by
  obtain ⟨l, rfl, hr, hm, hw, hc⟩ := ReadsInt.ofRowC w0
  have hC := Kd.C_of_reads (d := (0 : Int)) (h1 := fun _ => rfl) hr
  have hin : ∀ x ∈ l, -2147483648 ≤ x ∧ x ≤ 2147483647 := fun x hx => wf_i32 (hw x hx)
  obtain ⟨k, hk⟩ : Ev (fun k => posthornlaw05_RunesWrites.f k l) true := by
    unfold posthornlaw05_RunesWrites.f
    have e1 : slices_Clone_rune_rune.f l = some l := if_pos (by omega)
    refine Ev.bind (EN.refEncode_ev l (by omega) hin) ?_
    refine Ev.bind (PU.refPuny_ev l b0 hin) ?_
    refine Ev.congr (fun k => by rw [e1, bind_some']) ?_
    refine Ev.bind (EN.encode_ev l (by omega)) ?_
    refine Ev.congr (fun k => by rw [bind_some']) ?_
    refine Ev.bind (PU.puny_ev l b0 hin) ?_
    exact Ev.val fun k => by rw [if_pos (by rw [beq_self_eq_true, beq_self_eq_true]; rfl), if_pos rfl, if_pos rfl, if_pos rfl]; rfl
  exact posthornlaw05_RunesWrites.calls k a0 cap0 l true w hC hc (hk k (Nat.le_refl _))
end Go.Proofs.Ytabjfpjmiiiecaa.Pure
