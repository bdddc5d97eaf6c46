/- CodeBack, where what it reads is of bulk at most 1048576: bytes in base64, and back; four letters for each three. -/
import Derived.Test.YtokgckhhhhigiaaDoorCod
import Derived.Test.YtokgckhhhhigiaaDoorGB2
namespace Go.Proofs.YtokgckhhhhigiaaDoor.Pure
set_option linter.unusedVariables false
set_option linter.unusedSimpArgs false
open Go.RowKit Go.Proofs.YtokgckhhhhigiaaDoor.GB Go.Proofs.YtokgckhhhhigiaaDoorW.PrintWords
open Go.Proofs.YtokgckhhhhigiaaDoor.B Go.Proofs.YtokgckhhhhigiaaDoor.B64 Go.Proofs.YtokgckhhhhigiaaDoor.UB Go.Proofs.YtokgckhhhhigiaaDoor.Rd Go.Proofs.YtokgckhhhhigiaaDoor.CM Go.Proofs.YtokgckhhhhigiaaDoor.Glob

theorem base64_f (xs : List Int) (hx : InB xs) (hl : xs.length ≤ 10000000000000) : code_Base64.f xs = some (strOfNums (b64 xs)) := if_pos ⟨allB_in.2 hx, hl⟩
theorem unb_f (s : ByteArray) (hs : s.size ≤ 40000000000000) : code_Unbase64.f s = some (unbL (bytesOf s) St.new [] 0) := if_pos hs
theorem refUnb_f (s : ByteArray) (hs : s.size ≤ 40000000000000) : posthornref04_Unbase64.f s = some (unbL (bytesOf s) St.new [] 0) := if_pos hs
theorem unb_back (l : List Int) (hl : InB l) (hs : l.length ≤ 1048576) : code_Unbase64.f (strOfNums (b64 l)) = some (l, 0, 0) := by
  have hz : (strOfNums (b64 l)).size = 4 * ((l.length + 2) / 3) := by rw [strOfNums_len, b64_len]
  rw [unb_f _ (by rw [hz]; omega), bytesOf_strOfNums _ (b64_in l hl), unb_b64 l hl St.new rfl rfl 0]
theorem code_back (l : List Int) (hl : InB l) (hs : l.length ≤ 1048576) : posthornlaw04_CodeBack.f l = some true := by
  have hz : (strOfNums (b64 l)).size = 4 * ((l.length + 2) / 3) := by rw [strOfNums_len, b64_len]
  unfold posthornlaw04_CodeBack.f
  rw [show posthornlaw04_wakes.f = some true from rfl, Option.bind_some, if_pos rfl, base64_f l hl (by omega), Option.bind_some, unb_back l hl hs, Option.bind_some]
  have h2 : wrap64 ((l.length : Int) + 2) = (l.length : Int) + 2 := wrap_id _ (by omega) (by omega)
  rw [h2, Int.tdiv_eq_ediv_of_nonneg (by omega), wrap_id ((((l.length : Int) + 2) / 3)) (by omega) (by omega), wrap_id _ (by omega) (by omega), hz, if_pos (by omega)]
  exact (if_pos rfl).trans (by simp)

theorem CodeBack (a0 : Option Addr) (len0 cap0 : Nat) (z0 : List Int) (w : World) (w0 : (a0 = none ∧ len0 = 0 ∧ cap0 = 0 ∧ z0 = []) ∨ ∃ x, a0 = some x ∧ len0 ≤ cap0 ∧ cap0 ≤ maxLen ∧ z0.length = cap0 ∧ (∀ i, i < z0.length → w.cell? (x.add i) = some (.int .u8 (z0.getD i 0))) ∧ ∀ n ∈ z0, (Lit.int .u8 n).wf = true) (_y0 : len0 * 1 ≤ 140737488351232) (b0 : len0 ≤ 1048576) (HG : GOk w) :
    Calls Tryd.prog 5 #[.slice a0 len0 cap0] w fun e w' => e = .returned (.bool true) ∧ Below w.heap.size w w' := by
  obtain ⟨l0, rfl, hr0, hm0, hw0, hc0⟩ := ReadsInt.ofRowC w0
  have h := code_back l0 (fun x hx => wf_u8 (hw0 x hx)) b0
  refine (posthornlaw04_CodeBack.calls _ _ l0 true w (Kd.C_of_reads (d := (0 : Int)) (h1 := fun _ => rfl) hr0) hc0 HG h).mono ?_
  rintro e w' ⟨rfl, hd⟩
  exact ⟨rfl, hd⟩
end Go.Proofs.YtokgckhhhhigiaaDoor.Pure
