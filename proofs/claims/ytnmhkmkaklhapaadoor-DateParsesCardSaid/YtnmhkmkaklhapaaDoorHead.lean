/- What each of date's statements asks first. -/
import Derived.Test.YtnmhkmkaklhapaaDoorMC
import Derived.Test.YtnmhkmkaklhapaaDoorME
import Derived.Test.YtnmhkmkaklhapaaDoorG2
import Derived.Test.YtnmhkmkaklhapaaDoorD2
namespace Go.Proofs.YtnmhkmkaklhapaaDoor.DP
set_option linter.unusedVariables false
set_option linter.unusedSimpArgs false
open Go.RowKit Go.Proofs.YtnmhkmkaklhapaaDoorW.PrintWords Go.Proofs.YtnmhkmkaklhapaaDoorW.PrintLast Go.Proofs.YtnmhkmkaklhapaaDoorW.PrintMore Go.Proofs.YtnmhkmkaklhapaaDoor.B Go.Proofs.YtnmhkmkaklhapaaDoor.G Go.Proofs.YtnmhkmkaklhapaaDoor.Cal Go.Proofs.YtnmhkmkaklhapaaDoor.Chk Go.Proofs.YtnmhkmkaklhapaaDoor.T Go.Proofs.YtnmhkmkaklhapaaDoor.D

/-- The second of a date. -/
def secV (y mo d h m s z : Int) : Int := (daysV y mo d).1 * 86400 + h * 3600 + m * 60 + s - z * 60
theorem Seconds_ev (y mo d h m s z : Int) (hy : -32768 ≤ y) (hy2 : y ≤ 32767) (hm : -128 ≤ mo) (hm2 : mo ≤ 127) (hd : -128 ≤ d) (hd2 : d ≤ 127) (hh : -128 ≤ h) (hh2 : h ≤ 127) (hmi : -128 ≤ m) (hmi2 : m ≤ 127) (hs : -128 ≤ s) (hs2 : s ≤ 127) (hz : -32768 ≤ z) (hz2 : z ≤ 32767) :
    Ev (fun k => date_Seconds.f k y mo d h m s z) (if chkV y mo d h m s z = 0 then (secV y mo d h m s z, 0) else (0, chkV y mo d h m s z)) := by
  unfold date_Seconds.f
  refine Ev.bind (Check_ev y mo d h m s z hy hy2 hm hm2 hd hd2) ?_
  by_cases hc : chkV y mo d h m s z = 0
  · rw [if_pos hc]
    refine Ev.congr (fun k => by rw [if_pos hc]) (Ev.bind (Days_ev y mo d hy hy2 hm hm2 hd hd2) (Ev.val fun k => ?_))
    have hr : -719162 ≤ (daysV y mo d).1 ∧ (daysV y mo d).1 ≤ 2932896 := by
      unfold daysV
      split
      · rename_i hv
        have hq := of_decide_eq_true hv
        have := dn_range (y := y.toNat) (m := mo.toNat) (d := d.toNat) ⟨by omega, by omega, by omega, by omega, by omega, by unfold longI at hq; omega⟩
        show -719162 ≤ ((dn y.toNat mo.toNat d.toNat : Nat) : Int) - 719162 ∧ ((dn y.toNat mo.toNat d.toNat : Nat) : Int) - 719162 ≤ 2932896
        omega
      · exact ⟨by decide, by decide⟩
    unfold secV
    obtain ⟨n, e⟩ : ∃ n, (daysV y mo d).1 = n := ⟨_, rfl⟩
    rw [e] at hr ⊢
    rw [wrap_id (n * 86400) (by omega) (by omega), wrap_id h (by omega) (by omega), wrap_id (h * 3600) (by omega) (by omega), wrap_id (n * 86400 + h * 3600) (by omega) (by omega), wrap_id m (by omega) (by omega), wrap_id (m * 60) (by omega) (by omega), wrap_id (n * 86400 + h * 3600 + m * 60) (by omega) (by omega), wrap_id s (by omega) (by omega), wrap_id (n * 86400 + h * 3600 + m * 60 + s) (by omega) (by omega), wrap_id z (by omega) (by omega), wrap_id (z * 60) (by omega) (by omega), wrap_id _ (by omega) (by omega)]
  · rw [if_neg hc]
    exact Ev.val fun k => by rw [if_neg hc]
theorem head_parse : date_Parse.f (⟨#[84, 117, 101, 44, 32, 50, 57, 32, 70, 101, 98, 32, 50, 48, 48, 48, 32, 48, 51, 58, 48, 52, 58, 48, 53, 32, 45, 48, 49, 51, 48]⟩ : ByteArray) = some (2000, 2, 29, 3, 4, 5, -90, 0, 0) := by kernel_rfl
theorem head_ev : Ev (fun k => posthornlaw06_head.f k) true := by
  unfold posthornlaw06_head.f
  rw [head_parse]
  refine Ev.congr (fun k => by rw [bind_some']) ?_
  have hs := Seconds_ev 2000 2 29 3 4 5 (-90) (by decide) (by decide) (by decide) (by decide) (by decide) (by decide) (by decide) (by decide) (by decide) (by decide) (by decide) (by decide) (by decide) (by decide)
  have hv : (if chkV 2000 2 29 3 4 5 (-90) = 0 then (secV 2000 2 29 3 4 5 (-90), (0 : Int)) else (0, chkV 2000 2 29 3 4 5 (-90))) = (951798845, 0) := by kernel_rfl
  rw [hv] at hs
  exact Ev.bind hs (Ev.val fun k => by rfl)
end Go.Proofs.YtnmhkmkaklhapaaDoor.DP
