/- Quote, Unquote and the reference's Unquote, in the form that the printed callers want (for CodeQuoteOnce alone). -/
import Derived.Test.YtokgckhhhhigiaaDoorWakesQ
import Derived.Test.YtokgckhhhhigiaaDoorURef
import Derived.Test.YtokgckhhhhigiaaDoorF5
namespace Go.Proofs.YtokgckhhhhigiaaDoor.CM
set_option linter.unusedVariables false
set_option linter.unusedSimpArgs false
open Go.RowKit Go.Proofs.YtokgckhhhhigiaaDoorW.PrintWords Go.Proofs.YtokgckhhhhigiaaDoorW.PrintLast Go.Proofs.YtokgckhhhhigiaaDoorW.PrintMore Go.Proofs.YtokgckhhhhigiaaDoor.B Go.Proofs.YtokgckhhhhigiaaDoor.M Go.Proofs.YtokgckhhhhigiaaDoor.Turn Go.Proofs.YtokgckhhhhigiaaDoor.Glob Go.Proofs.YtokgckhhhhigiaaDoor.Q Go.Proofs.YtokgckhhhhigiaaDoor.QW Go.Proofs.YtokgckhhhhigiaaDoor.UW

def allB (xs : List Int) : Bool := xs.all fun x => decide (0 ≤ x) && decide (x ≤ 255)
theorem allB_in {xs : List Int} : allB xs = true ↔ InB xs := by
  unfold allB InB
  simp only [List.all_eq_true, Bool.and_eq_true, decide_eq_true_eq]
def code_Unquote.f (a0 : ByteArray) : Option (List Int × Int × Int) := if a0.size ≤ 40000000000000 then some (unq (bytesOf a0)) else none
theorem code_Unquote.calls (a0 : ByteArray) (r1 : List Int) (r2 r3 : Int) (w : World) (HG : GOk w) (h : code_Unquote.f a0 = some (r1, r2, r3)) :
    Calls Tryd.prog 16 #[.string a0] w fun e w' => ∃ v0_ : Value, e = .returned (.tuple #[v0_, .agg #[.int .i64 r2, .int .i64 r3]]) ∧ Kd.R (Kd.int .u8) 5 w' w.heap.size (fun _ => True) v0_ r1 ∧ Below w.heap.size w w' := by
  unfold code_Unquote.f at h
  by_cases hs : a0.size ≤ 40000000000000
  · rw [if_pos hs] at h
    exact unq_calls a0 r1 r2 r3 w HG hs (Option.some.inj h)
  · rw [if_neg hs] at h; cases h
def code_Quote.f (l0 : List Int) : Option ByteArray := if allB l0 = true ∧ l0.length ≤ 10000000000000 then some (strOfNums (quo l0)) else none
theorem code_Quote.calls (A0 : Option Addr) (c0 : Nat) (l0 : List Int) (r : ByteArray) (w : World) (hr0 : Kd.C (Kd.int .u8) w A0 l0.length l0) (hc0 : l0.length ≤ c0) (HG : GOk w) (h : code_Quote.f l0 = some r) :
    Calls Tryd.prog 12 #[.slice A0 l0.length c0] w fun e w' => e = .returned (.string r) ∧ Below w.heap.size w w' := by
  unfold code_Quote.f at h
  by_cases hs : allB l0 = true ∧ l0.length ≤ 10000000000000
  · rw [if_pos hs] at h
    obtain rfl := Option.some.inj h
    exact quote_calls A0 c0 l0 w HG hr0 hc0 (allB_in.1 hs.1) hs.2
  · rw [if_neg hs] at h; cases h
def posthornlaw04_wakes.f : Option Bool := some true
theorem posthornlaw04_wakes.calls (r : Bool) (w : World) (HG : GOk w) (h : posthornlaw04_wakes.f = some r) :
    Calls Tryd.prog 18 #[] w fun e w' => e = .returned (.bool r) ∧ Below w.heap.size w w' := by
  obtain rfl := Option.some.inj h
  exact WK.wakes_calls w HG
def posthornref04_Unquote.f (a0 : ByteArray) : Option (List Int × Int × Int) := if a0.size ≤ 10000000000 then some (unq (bytesOf a0)) else none
theorem posthornref04_Unquote.calls (a0 : ByteArray) (r1 : List Int) (r2 r3 : Int) (w : World) (h : posthornref04_Unquote.f a0 = some (r1, r2, r3)) :
    Calls Tryd.prog 15 #[.string a0] w fun e w' => ∃ v0_ : Value, e = .returned (.tuple #[v0_, .agg #[.int .i64 r2, .int .i64 r3]]) ∧ Kd.R (Kd.int .u8) 5 w' w.heap.size (fun _ => True) v0_ r1 ∧ Below w.heap.size w w' := by
  unfold posthornref04_Unquote.f at h
  by_cases hs : a0.size ≤ 10000000000
  · rw [if_pos hs] at h
    obtain ⟨k, hk⟩ := UF.refUnq_ev (bytesOf a0) (bytesOf_in a0) (by rw [bytesOf_len]; exact hs)
    rw [strOfNums_bytesOf, Option.some.inj h] at hk
    exact F.posthornref04_Unquote.calls k a0 r1 r2 r3 w (hk k (Nat.le_refl _))
  · rw [if_neg hs] at h; cases h
end Go.Proofs.YtokgckhhhhigiaaDoor.CM
