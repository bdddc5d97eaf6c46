/- Facts of made dates and of days. -/
import Derived.Test.YtnmhkmkaklhapaaDoorMan
namespace Go.Proofs.YtnmhkmkaklhapaaDoor.DP
set_option linter.unusedVariables false
set_option linter.unusedSimpArgs false
open Go.RowKit Go.Proofs.YtnmhkmkaklhapaaDoorW.PrintWords Go.Proofs.YtnmhkmkaklhapaaDoor.B Go.Proofs.YtnmhkmkaklhapaaDoor.Cal Go.Proofs.YtnmhkmkaklhapaaDoor.Chk Go.Proofs.YtnmhkmkaklhapaaDoor.MN
theorem civ_eta (n : Int) : civV n = ((civV n).1, (civV n).2.1, (civV n).2.2.1, (civV n).2.2.2) := rfl
/-- A right day, and back. -/
theorem civ_facts (n : Int) (h1 : -719162 ≤ n) (h2 : n ≤ 2932896) : dayOk (civV n).1 (civV n).2.1 (civV n).2.2.1 = true ∧ daysV (civV n).1 (civV n).2.1 (civV n).2.2.1 = (n, 0) ∧ 1 ≤ (civV n).1 ∧ (civV n).1 ≤ 9999 ∧ 1 ≤ (civV n).2.1 ∧ (civV n).2.1 ≤ 12 ∧ 1 ≤ (civV n).2.2.1 ∧ (civV n).2.2.1 ≤ 31 := by
  obtain ⟨Y, M, D, v, hn, eY, eM, eD⟩ := civ_of n h1 h2
  have e : civV n = ((Y : Int), (M : Int), (D : Int), 0) := by unfold civV; rw [if_neg (by omega), eY, eM, eD]
  have hl := long_range Y M
  have a1 := v.y1
  have a2 := v.y2
  have a3 := v.m1
  have a4 := v.m2
  have a5 := v.d1
  have a6 := v.d2
  rw [e]
  have hok : dayOk (Y : Int) (M : Int) (D : Int) = true := by
    unfold dayOk longI
    rw [Int.toNat_natCast, Int.toNat_natCast]
    exact decide_eq_true ⟨by omega, by omega, by omega, by omega, by omega, by omega⟩
  refine ⟨hok, ?_, by show 1 ≤ (Y : Int); omega, by show (Y : Int) ≤ 9999; omega, by show 1 ≤ (M : Int); omega, by show (M : Int) ≤ 12; omega, by show 1 ≤ (D : Int); omega, by show (D : Int) ≤ 31; omega⟩
  show daysV (Y : Int) (M : Int) (D : Int) = _
  unfold daysV
  rw [if_pos hok, Int.toNat_natCast, Int.toNat_natCast, Int.toNat_natCast]
  refine Prod.ext ?_ rfl
  show ((dn Y M D : Nat) : Int) - 719162 = n
  omega
theorem tmz (z : Int) : -1439 ≤ z.tmod 1440 ∧ z.tmod 1440 ≤ 1439 := by
  by_cases h : 0 ≤ z
  · rw [Int.tmod_eq_emod_of_nonneg h]; omega
  · obtain ⟨y, rfl⟩ : ∃ y, z = -y := ⟨-z, by omega⟩
    rw [Int.neg_tmod, Int.tmod_eq_emod_of_nonneg (by omega)]
    omega
/-- A date out of any numbers: its parts' bounds, no error, its second, its day. -/
theorem made_facts (n h m s z : Int) : allI (civV (n % 3652059 - 719162)).1 (civV (n % 3652059 - 719162)).2.1 (civV (n % 3652059 - 719162)).2.2.1 (h % 24) (m % 60) (s % 60) (z.tmod 1440) ∧
    chkV (civV (n % 3652059 - 719162)).1 (civV (n % 3652059 - 719162)).2.1 (civV (n % 3652059 - 719162)).2.2.1 (h % 24) (m % 60) (s % 60) (z.tmod 1440) = 0 ∧
    date_Seconds.f (civV (n % 3652059 - 719162)).1 (civV (n % 3652059 - 719162)).2.1 (civV (n % 3652059 - 719162)).2.2.1 (h % 24) (m % 60) (s % 60) (z.tmod 1440) = some ((n % 3652059 - 719162) * 86400 + h % 24 * 3600 + m % 60 * 60 + s % 60 - z.tmod 1440 * 60, 0) ∧
    daysV (civV (n % 3652059 - 719162)).1 (civV (n % 3652059 - 719162)).2.1 (civV (n % 3652059 - 719162)).2.2.1 = (n % 3652059 - 719162, 0) ∧ (1 ≤ (civV (n % 3652059 - 719162)).1 ∧ (civV (n % 3652059 - 719162)).1 ≤ 9999) ∧ (1 ≤ (civV (n % 3652059 - 719162)).2.1 ∧ (civV (n % 3652059 - 719162)).2.1 ≤ 12) ∧ (1 ≤ (civV (n % 3652059 - 719162)).2.2.1 ∧ (civV (n % 3652059 - 719162)).2.2.1 ≤ 31) := by
  obtain ⟨f1, f2, f3, f4, f5, f6, f7, f8⟩ := civ_facts (n % 3652059 - 719162) (by omega) (by omega)
  have tz := tmz z
  have ha : allI (civV (n % 3652059 - 719162)).1 (civV (n % 3652059 - 719162)).2.1 (civV (n % 3652059 - 719162)).2.2.1 (h % 24) (m % 60) (s % 60) (z.tmod 1440) := ⟨⟨by omega, by omega⟩, ⟨by omega, by omega⟩, ⟨by omega, by omega⟩, ⟨by omega, by omega⟩, ⟨by omega, by omega⟩, ⟨by omega, by omega⟩, by omega, by omega⟩
  have hk : chkV (civV (n % 3652059 - 719162)).1 (civV (n % 3652059 - 719162)).2.1 (civV (n % 3652059 - 719162)).2.2.1 (h % 24) (m % 60) (s % 60) (z.tmod 1440) = 0 := by
    unfold chkV timeOk
    rw [if_neg (by rw [f1]; decide), if_neg (by simp; omega), if_neg (by omega)]
  refine ⟨ha, hk, ?_, f2, ⟨f3, f4⟩, ⟨f5, f6⟩, f7, f8⟩
  unfold date_Seconds.f
  rw [if_pos ha]
  unfold secT
  rw [if_pos hk]
  unfold secV
  rw [f2]
end Go.Proofs.YtnmhkmkaklhapaaDoor.DP
