/- What Civil, Days, Weekday of both sides tell, in closed words. -/
import Derived.Test.YtnmhkmkaklhapaaDoorMC
import Derived.Test.YtnmhkmkaklhapaaDoorMA
import Derived.Test.YtnmhkmkaklhapaaDoorG2
import Derived.Test.YtnmhkmkaklhapaaDoorG3
namespace Go.Proofs.YtnmhkmkaklhapaaDoor.DP
set_option linter.unusedVariables false
set_option linter.unusedSimpArgs false
open Go.RowKit Go.Proofs.YtnmhkmkaklhapaaDoorW.PrintWords Go.Proofs.YtnmhkmkaklhapaaDoorW.PrintLast Go.Proofs.YtnmhkmkaklhapaaDoorW.PrintMore Go.Proofs.YtnmhkmkaklhapaaDoor.B Go.Proofs.YtnmhkmkaklhapaaDoor.G Go.Proofs.YtnmhkmkaklhapaaDoor.Cal Go.Proofs.YtnmhkmkaklhapaaDoor.Chk Go.Proofs.YtnmhkmkaklhapaaDoor.T Go.Proofs.YtnmhkmkaklhapaaDoor.D

theorem leap_f (Y : Nat) : posthornref06_leap.f (Y : Int) = some (leapN Y) := by
  unfold posthornref06_leap.f
  have a4 : (Int.tmod (Y : Int) 4 = 0) ↔ Y % 4 = 0 := by rw [Int.tmod_eq_emod_of_nonneg (by omega)]; omega
  have a100 : (Int.tmod (Y : Int) 100 = 0) ↔ Y % 100 = 0 := by rw [Int.tmod_eq_emod_of_nonneg (by omega)]; omega
  have a400 : (Int.tmod (Y : Int) 400 = 0) ↔ Y % 400 = 0 := by rw [Int.tmod_eq_emod_of_nonneg (by omega)]; omega
  have hl := leap_iff Y
  by_cases h4 : Y % 4 = 0
  · rw [if_pos (a4.2 h4)]
    by_cases h100 : Y % 100 = 0
    · rw [if_pos (a100.2 h100)]
      by_cases h400 : Y % 400 = 0
      · rw [hl.2 ⟨h4, .inr h400⟩, a400.2 h400]; rfl
      · have : leapN Y = false := Bool.eq_false_iff.2 fun h => by have := hl.1 h; omega
        rw [this, beq_eq_false_iff_ne.2 (fun h => h400 (a400.1 h))]
    · rw [if_neg (fun h => h100 (a100.1 h)), hl.2 ⟨h4, .inl h100⟩]
  · have : leapN Y = false := Bool.eq_false_iff.2 fun h => by have := hl.1 h; omega
    rw [if_neg (fun h => h4 (a4.1 h)), this]
theorem whole_f (Y : Nat) : posthornref06_whole.f (Y : Int) = some (wholeN Y : Int) := by
  unfold posthornref06_whole.f wholeN
  rw [leap_f, bind_some']
  cases leapN Y <;> rfl
theorem long_ev (Y M : Nat) : Ev (fun k => posthornref06_long.f k (Y : Int) (M : Int)) (longN Y M : Int) := by
  unfold posthornref06_long.f longN
  have yes : Ev (fun k => posthornref06_long.j0 k (Y : Int) (M : Int) true) 30 := Ev.last fun k => by rw [posthornref06_long.j0]; exact if_pos rfl
  by_cases m4 : M = 4
  · rw [if_pos (by omega)]; exact Ev.congr (fun k => by rw [if_pos (by omega), beq_iff_eq.2 (by omega)]) yes
  by_cases m6 : M = 6
  · rw [if_pos (by omega)]; exact Ev.congr (fun k => by rw [if_neg (by omega), if_pos (by omega), beq_iff_eq.2 (by omega)]) yes
  by_cases m9 : M = 9
  · rw [if_pos (by omega)]; exact Ev.congr (fun k => by rw [if_neg (by omega), if_neg (by omega), if_pos (by omega), beq_iff_eq.2 (by omega)]) yes
  by_cases m11 : M = 11
  · rw [if_pos (by omega)]; exact Ev.congr (fun k => by rw [if_neg (by omega), if_neg (by omega), if_neg (by omega), beq_iff_eq.2 (by omega)]) yes
  rw [if_neg (by omega)]
  refine Ev.congr (f := fun k => posthornref06_long.j0 k (Y : Int) (M : Int) false) (fun k => by rw [if_neg (by omega), if_neg (by omega), if_neg (by omega), beq_eq_false_iff_ne.2 (by omega)]) (Ev.last fun k => ?_)
  rw [posthornref06_long.j0, if_neg (by decide)]
  by_cases m2 : M = 2
  · rw [if_pos (by omega), leap_f, bind_some', if_pos m2]
    cases leapN Y <;> rfl
  · rw [if_neg (by omega), if_neg m2]; rfl
theorem yb_le {Y : Nat} (h : Y ≤ 10000) (h1 : 1 ≤ Y) : yb Y ≤ 3652059 := by
  have := yb_mono h1 h
  have e : yb 10000 = 3652059 := by decide
  omega
theorem mb_le {Y M : Nat} (h1 : 1 ≤ M) (h : M ≤ 13) : mb Y M ≤ 366 := by
  have := mb_mono Y h1 h
  have := lp_le Y
  have := (mb_table Y).2.2.2.2.2.2.2.2.2.2.2.2
  omega
theorem refDays_l1 (Y M D : Nat) (hY : 1 ≤ Y) (hY2 : Y ≤ 9999) (hM2 : M ≤ 12) (hD : 1 ≤ D) (hD2 : D ≤ 127) (c : Nat) : ∀ i : Nat, M - i = c → 1 ≤ i → i ≤ M →
    Ev (fun k => posthornref06_Days.l1 k (D : Int) (Y : Int) (M : Int) (((yb Y + mb Y i : Nat) : Int) - 719162) (i : Int)) (((dn Y M D : Nat) : Int) - 719162, 0) := by
  have b1 := yb_le (by omega : Y ≤ 10000) hY
  induction c with
  | zero =>
    intro i hc h1 h2
    obtain rfl : i = M := by omega
    have b2 := mb_le (Y := Y) h1 (by omega : i ≤ 13)
    refine Ev.last fun k => ?_
    rw [posthornref06_Days.l1, if_neg (by omega), wrap_id (D : Int) (by omega) (by omega), wrap_id (((yb Y + mb Y i : Nat) : Int) - 719162 + (D : Int)) (by omega) (by omega), wrap_id _ (by omega) (by omega)]
    unfold dn
    refine congrArg some (Prod.ext ?_ rfl)
    show ((yb Y + mb Y i : Nat) : Int) - 719162 + (D : Int) - 1 = _
    omega
  | succ c ih =>
    intro i hc h1 h2
    have b2 := mb_le (Y := Y) h1 (by omega : i ≤ 13)
    have b3 := long_range Y i
    have key := ih (i + 1) (by omega) (by omega) (by omega)
    rw [mb_succ Y i h1] at key
    refine Ev.step (f := fun k => (posthornref06_long.f k (Y : Int) (i : Int)).bind fun t106 => (posthornref06_Days.l1 k (D : Int) (Y : Int) (M : Int) (wrap64 ((((yb Y + mb Y i : Nat) : Int) - 719162) + t106)) (wrap64 ((i : Int) + 1)))) (fun k => ?_) ?_
    · rw [posthornref06_Days.l1, if_pos (by omega)]
    · refine Ev.bind (long_ev Y i) ?_
      rw [wrap_id (((yb Y + mb Y i : Nat) : Int) - 719162 + ((longN Y i : Nat) : Int)) (by omega) (by omega), wrap_id ((i : Int) + 1) (by omega) (by omega), show ((yb Y + mb Y i : Nat) : Int) - 719162 + ((longN Y i : Nat) : Int) = ((yb Y + (mb Y i + longN Y i) : Nat) : Int) - 719162 from by omega]
      exact key
theorem refDays_l0 (Y M D : Nat) (hY2 : Y ≤ 9999) (hM : 1 ≤ M) (hM2 : M ≤ 12) (hD : 1 ≤ D) (hD2 : D ≤ 127) (c : Nat) : ∀ i : Nat, Y - i = c → 1 ≤ i → i ≤ Y →
    Ev (fun k => posthornref06_Days.l0 k (D : Int) (Y : Int) (M : Int) (((yb i : Nat) : Int) - 719162) (i : Int)) (((dn Y M D : Nat) : Int) - 719162, 0) := by
  induction c with
  | zero =>
    intro i hc h1 h2
    obtain rfl : i = Y := by omega
    have key := refDays_l1 i M D h1 hY2 hM2 hD hD2 (M - 1) 1 rfl (Nat.le_refl _) hM
    rw [show mb i 1 = 0 from rfl, Nat.add_zero] at key
    exact Ev.step (fun k => by rw [posthornref06_Days.l0, if_neg (by omega)]; rfl) key
  | succ c ih =>
    intro i hc h1 h2
    have b1 := yb_le (by omega : i ≤ 10000) h1
    have b3 : wholeN i ≤ 366 := by have := lp_le i; rw [whole_lp]; omega
    have key := ih (i + 1) (by omega) (by omega) (by omega)
    rw [yb_succ i h1] at key
    refine Ev.step (fun k => ?_) key
    rw [posthornref06_Days.l0, if_pos (by omega), whole_f, bind_some', wrap_id (((yb i : Nat) : Int) - 719162 + ((wholeN i : Nat) : Int)) (by omega) (by omega), wrap_id ((i : Int) + 1) (by omega) (by omega), show ((yb i : Nat) : Int) - 719162 + ((wholeN i : Nat) : Int) = ((yb i + wholeN i : Nat) : Int) - 719162 from by omega]
    rfl
theorem refIsDay_ev (y m d : Int) : Ev (fun k => posthornref06_isDay.f k y m d) (dayOk y m d) := by
  unfold posthornref06_isDay.f dayOk
  by_cases h1 : y ≥ 1
  · by_cases h2 : y ≤ 9999
    · by_cases h3 : m ≥ 1
      · by_cases h4 : m ≤ 12
        · by_cases h5 : d ≥ 1
          · have hl := long_ev y.toNat m.toNat
            rw [Int.toNat_of_nonneg (by omega), Int.toNat_of_nonneg (by omega)] at hl
            refine Ev.congr (fun k => by rw [if_pos h1, if_pos h2, if_pos h3, if_pos h4, if_pos h5]) (Ev.bind (f := fun _ t => some (decide (d ≤ t))) hl (Ev.val fun k => ?_))
            refine congrArg some (decide_eq_decide.2 ?_)
            show d ≤ longI y m ↔ _
            omega
          · rw [decide_eq_false (by omega)]; exact Ev.val fun k => by rw [if_pos h1, if_pos h2, if_pos h3, if_pos h4, if_neg h5]
        · rw [decide_eq_false (by omega)]; exact Ev.val fun k => by rw [if_pos h1, if_pos h2, if_pos h3, if_neg h4]
      · rw [decide_eq_false (by omega)]; exact Ev.val fun k => by rw [if_pos h1, if_pos h2, if_neg h3]
    · rw [decide_eq_false (by omega)]; exact Ev.val fun k => by rw [if_pos h1, if_neg h2]
  · rw [decide_eq_false (by omega)]; exact Ev.val fun k => by rw [if_neg h1]
theorem refDays_ev (y m d : Int) (hy : -32768 ≤ y) (hy2 : y ≤ 32767) (hm : -128 ≤ m) (hm2 : m ≤ 127) (hd : -128 ≤ d) (hd2 : d ≤ 127) : Ev (fun k => posthornref06_Days.f k y m d) (daysV y m d) := by
  unfold posthornref06_Days.f daysV
  rw [wrap_id y (by omega) (by omega), wrap_id m (by omega) (by omega), wrap_id d (by omega) (by omega)]
  refine Ev.bind (refIsDay_ev y m d) ?_
  cases hv : dayOk y m d with
  | false => rw [if_neg (by decide)]; exact Ev.val fun k => by rw [if_neg (by decide)]
  | true =>
    rw [if_pos rfl]
    have hq := of_decide_eq_true hv
    obtain ⟨Y, rfl⟩ := Int.eq_ofNat_of_zero_le (show 0 ≤ y by omega)
    obtain ⟨M, rfl⟩ := Int.eq_ofNat_of_zero_le (show 0 ≤ m by omega)
    obtain ⟨D, rfl⟩ := Int.eq_ofNat_of_zero_le (show 0 ≤ d by omega)
    simp only [Int.toNat_natCast]
    have key := refDays_l0 Y M D (by omega) (by omega) (by omega) (by omega) (by omega) (Y - 1) 1 rfl (Nat.le_refl _) (by omega)
    exact Ev.congr (fun k => if_pos trivial) key
theorem refWeekday_f (n : Int) : posthornref06_Weekday.f n = some (wkV n) := by
  unfold posthornref06_Weekday.f wkV
  have h : Int.tmod n 7 = n % 7 ∨ (Int.tmod n 7 = n % 7 - 7 ∧ 0 < n % 7) := by
    rw [Int.tmod_eq_emod]
    split
    · exact .inl (by omega)
    · rename_i hc
      simp only [not_or] at hc
      refine .inr ⟨by simp, ?_⟩
      have : ¬ (7 : Int) ∣ n := hc.2
      omega
  have hb : -7 < Int.tmod n 7 ∧ Int.tmod n 7 < 7 := by omega
  generalize Int.tmod n 7 = t at *
  by_cases ht : t < 0
  · rw [if_pos ht, wrap_id (t + 7) (by omega) (by omega), wrap_id (t + 7 + 4) (by omega) (by omega), Int.tmod_eq_emod_of_nonneg (by omega), wrapi8' _ (by omega) (by omega)]
    congr 1
    omega
  · rw [if_neg ht, wrap_id (t + 4) (by omega) (by omega), Int.tmod_eq_emod_of_nonneg (by omega), wrapi8' _ (by omega) (by omega)]
    congr 1
    omega

/-- The day of a number, or the error. -/
def civV (n : Int) : Int × Int × Int × Int := if n < -719162 ∨ n > 2932896 then (0, 0, 0, 5) else ((civY (n + 719468).toNat : Nat), (civM (n + 719468).toNat : Nat), (civD (n + 719468).toNat : Nat), 0)
theorem civ_of (n : Int) (h1 : -719162 ≤ n) (h2 : n ≤ 2932896) : ∃ Y M D : Nat, Valid Y M D ∧ ((dn Y M D : Nat) : Int) = n + 719162 ∧ Y = civY (n + 719468).toNat ∧ M = civM (n + 719468).toNat ∧ D = civD (n + 719468).toNat := by
  have hv := civ_valid (n + 719162).toNat (by omega)
  rw [show (n + 719162).toNat + 306 = (n + 719468).toNat from by omega] at hv
  exact ⟨_, _, _, hv.1, by rw [hv.2]; omega, rfl, rfl, rfl⟩
theorem refCivil_l1 (Y M D : Nat) (v : Valid Y M D) (c : Nat) : ∀ m : Nat, M - m = c → 1 ≤ m → m ≤ M →
    Ev (fun k => posthornref06_Civil.l1 k ((mb Y M - mb Y m + (D - 1) : Nat) : Int) (Y : Int) (m : Int)) ((Y : Int), (M : Int), (D : Int), (0 : Int)) := by
  have hd := v.d2
  have hl := long_range Y M
  have hd1 := v.d1
  have hy2 := v.y2
  have hm2 := v.m2
  induction c with
  | zero =>
    intro m hc h1 h2
    obtain rfl : m = M := by omega
    refine Ev.step (f := fun k => (posthornref06_long.f k (Y : Int) (m : Int)).bind fun t227 => (if ((mb Y m - mb Y m + (D - 1) : Nat) : Int) ≥ t227 then ((posthornref06_long.f k (Y : Int) (m : Int)).bind fun t228 => (posthornref06_Civil.l1 k (wrap64 (((mb Y m - mb Y m + (D - 1) : Nat) : Int) - t228)) (Y : Int) (wrap64 ((m : Int) + 1)))) else (some (IntKind.i16.wrap (Y : Int), IntKind.i8.wrap (m : Int), IntKind.i8.wrap (wrap64 (((mb Y m - mb Y m + (D - 1) : Nat) : Int) + 1)), 0)))) (fun k => by rw [posthornref06_Civil.l1]) ?_
    refine Ev.bind (long_ev Y m) (Ev.val fun k => ?_)
    rw [if_neg (by omega), wrap16 _ (by omega) (by omega), wrapi8' _ (by omega) (by omega), wrap_id _ (by omega) (by omega), wrapi8' _ (by omega) (by omega)]
    refine congrArg some (Prod.ext rfl (Prod.ext rfl (Prod.ext ?_ rfl)))
    show ((mb Y m - mb Y m + (D - 1) : Nat) : Int) + 1 = (D : Int)
    omega
  | succ c ih =>
    intro m hc h1 h2
    have b2 := mb_le (Y := Y) v.m1 (by omega : M ≤ 13)
    have b3 := mb_mono Y (a := m + 1) (b := M) (by omega) (by omega)
    have b4 := long_range Y m
    have key := ih (m + 1) (by omega) (by omega) (by omega)
    rw [mb_succ Y m h1] at key b3
    refine Ev.step (f := fun k => (posthornref06_long.f k (Y : Int) (m : Int)).bind fun t227 => (if ((mb Y M - mb Y m + (D - 1) : Nat) : Int) ≥ t227 then ((posthornref06_long.f k (Y : Int) (m : Int)).bind fun t228 => (posthornref06_Civil.l1 k (wrap64 (((mb Y M - mb Y m + (D - 1) : Nat) : Int) - t228)) (Y : Int) (wrap64 ((m : Int) + 1)))) else (some (IntKind.i16.wrap (Y : Int), IntKind.i8.wrap (m : Int), IntKind.i8.wrap (wrap64 (((mb Y M - mb Y m + (D - 1) : Nat) : Int) + 1)), 0)))) (fun k => by rw [posthornref06_Civil.l1]) ?_
    refine Ev.bind (long_ev Y m) (Ev.congr (fun k => by rw [if_pos (by omega)]) (Ev.bind (long_ev Y m) ?_))
    rw [wrap_id ((m : Int) + 1) (by omega) (by omega), wrap_id _ (by omega) (by omega), show ((mb Y M - mb Y m + (D - 1) : Nat) : Int) - ((longN Y m : Nat) : Int) = ((mb Y M - (mb Y m + longN Y m) + (D - 1) : Nat) : Int) from by omega]
    exact key
theorem refCivil_l0 (Y M D : Nat) (v : Valid Y M D) (c : Nat) : ∀ y : Nat, Y - y = c → 1 ≤ y → y ≤ Y →
    Ev (fun k => posthornref06_Civil.l0 k ((yb Y - yb y + mb Y M + (D - 1) : Nat) : Int) (y : Int)) ((Y : Int), (M : Int), (D : Int), (0 : Int)) := by
  have hw := dn_year v.m1 v.m2 v.d1 v.d2
  have hd := v.d2
  have hl := long_range Y M
  have hy2 := v.y2
  have b1 := yb_le (by omega : Y ≤ 10000) v.y1
  have b2 := mb_le (Y := Y) v.m1 (by have := v.m2; omega : M ≤ 13)
  induction c with
  | zero =>
    intro y hc h1 h2
    obtain rfl : y = Y := by omega
    have key := refCivil_l1 y M D v (M - 1) 1 rfl (Nat.le_refl _) v.m1
    refine Ev.step (fun k => ?_) key
    rw [posthornref06_Civil.l0, whole_f, bind_some', if_neg (by omega), show yb y - yb y + mb y M + (D - 1) = mb y M - mb y 1 + (D - 1) from by rw [show mb y 1 = 0 from rfl]; omega]
    rfl
  | succ c ih =>
    intro y hc h1 h2
    have b3 := yb_mono (a := y + 1) (b := Y) (by omega) (by omega)
    have b4 : wholeN y ≤ 366 := by have := lp_le y; rw [whole_lp]; omega
    have key := ih (y + 1) (by omega) (by omega) (by omega)
    rw [yb_succ y h1] at key b3
    refine Ev.step (fun k => ?_) key
    rw [posthornref06_Civil.l0, whole_f, bind_some', if_pos (by omega), bind_some', wrap_id ((y : Int) + 1) (by omega) (by omega), wrap_id _ (by omega) (by omega), show ((yb Y - yb y + mb Y M + (D - 1) : Nat) : Int) - ((wholeN y : Nat) : Int) = ((yb Y - (yb y + wholeN y) + mb Y M + (D - 1) : Nat) : Int) from by omega]
    rfl
theorem refCivil_ev (n : Int) : Ev (fun k => posthornref06_Civil.f k n) (civV n) := by
  unfold posthornref06_Civil.f civV
  have no : Ev (fun k => posthornref06_Civil.j0 k n true) (0, 0, 0, 5) := Ev.last fun k => by rw [posthornref06_Civil.j0]; exact if_pos rfl
  by_cases h1 : n < -719162
  · rw [if_pos (.inl h1)]; exact Ev.congr (fun k => by rw [if_pos h1]) no
  by_cases h2 : n > 2932896
  · rw [if_pos (.inr h2)]; exact Ev.congr (fun k => by rw [if_neg h1, decide_eq_true h2]) no
  rw [if_neg (by omega)]
  obtain ⟨Y, M, D, v, hn, eY, eM, eD⟩ := civ_of n (by omega) (by omega)
  rw [← eY, ← eM, ← eD]
  have key := refCivil_l0 Y M D v (Y - 1) 1 rfl (Nat.le_refl _) v.y1
  refine Ev.congr (f := fun k => posthornref06_Civil.j0 k n false) (fun k => by rw [if_neg h1, decide_eq_false h2]) (Ev.step (fun k => ?_) key)
  rw [posthornref06_Civil.j0, if_neg (by decide), wrap_id _ (by omega) (by omega), show n - -719162 = ((yb Y - yb 1 + mb Y M + (D - 1) : Nat) : Int) from by unfold dn at hn; rw [show yb 1 = 0 from rfl]; omega]
  rfl

theorem fy_words (d : Nat) (h : d ≤ 146096) : wrap64 (wrap64 (wrap64 ((d : Int) - wrap64 (Int.tdiv (d : Int) 1460)) + wrap64 (Int.tdiv (d : Int) 36524)) - wrap64 (Int.tdiv (d : Int) 146096)) = ((fy d : Nat) : Int) := by
  rw [Int.tdiv_eq_ediv_of_nonneg (by omega), Int.tdiv_eq_ediv_of_nonneg (by omega), Int.tdiv_eq_ediv_of_nonneg (by omega), wrap_id ((d : Int) / 1460) (by omega) (by omega), wrap_id ((d : Int) / 36524) (by omega) (by omega), wrap_id ((d : Int) / 146096) (by omega) (by omega),
    wrap_id ((d : Int) - (d : Int) / 1460) (by omega) (by omega), wrap_id ((d : Int) - (d : Int) / 1460 + (d : Int) / 36524) (by omega) (by omega), wrap_id _ (by omega) (by omega)]
  unfold fy
  omega
theorem ny_words (d y : Nat) (hy : y ≤ 399) (hd : d ≤ 146096) (h : ny y ≤ d) : wrap64 ((d : Int) - wrap64 (wrap64 (wrap64 (365 * (y : Int)) + wrap64 (Int.tdiv (y : Int) 4)) - wrap64 (Int.tdiv (y : Int) 100))) = ((d - ny y : Nat) : Int) := by
  rw [Int.tdiv_eq_ediv_of_nonneg (by omega), Int.tdiv_eq_ediv_of_nonneg (by omega), wrap_id (365 * (y : Int)) (by omega) (by omega), wrap_id ((y : Int) / 4) (by omega) (by omega), wrap_id ((y : Int) / 100) (by omega) (by omega),
    wrap_id (365 * (y : Int) + (y : Int) / 4) (by omega) (by omega), wrap_id (365 * (y : Int) + (y : Int) / 4 - (y : Int) / 100) (by omega) (by omega), wrap_id _ (by omega) (by omega)]
  unfold ny at h ⊢
  omega
theorem mp_words (d : Nat) (h : d ≤ 365) : wrap64 (Int.tdiv (wrap64 (wrap64 (5 * (d : Int)) + 2)) 153) = ((mpf d : Nat) : Int) := by
  rw [wrap_id (5 * (d : Int)) (by omega) (by omega), wrap_id (5 * (d : Int) + 2) (by omega) (by omega), Int.tdiv_eq_ediv_of_nonneg (by omega), wrap_id _ (by omega) (by omega)]
  unfold mpf
  omega
theorem dp_words (d : Nat) (h : d ≤ 365) : wrap64 (wrap64 ((d : Int) - wrap64 (Int.tdiv (wrap64 (wrap64 (153 * ((mpf d : Nat) : Int)) + 2)) 5)) + 1) = ((dpf d : Nat) : Int) := by
  have hm := month_at d (by omega)
  have h11 := hm.1
  have hle := hm.2.1
  rw [wrap_id (153 * ((mpf d : Nat) : Int)) (by omega) (by omega), wrap_id (153 * ((mpf d : Nat) : Int) + 2) (by omega) (by omega), Int.tdiv_eq_ediv_of_nonneg (by omega), wrap_id ((153 * ((mpf d : Nat) : Int) + 2) / 5) (by omega) (by omega)]
  rw [wrap_id ((d : Int) - (153 * ((mpf d : Nat) : Int) + 2) / 5) (by omega) (by omega), wrap_id _ (by omega) (by omega)]
  unfold dpf
  omega
theorem doe_words (z : Nat) : Int.tmod (z : Int) 146097 = ((doeZ z : Nat) : Int) := by rw [Int.tmod_eq_emod_of_nonneg (by omega)]; unfold doeZ; omega
theorem era_words (z : Nat) (h : z ≤ 4000000) : wrap64 (Int.tdiv (z : Int) 146097) = ((eraZ z : Nat) : Int) := by rw [Int.tdiv_eq_ediv_of_nonneg (by omega), wrap_id _ (by omega) (by omega)]; unfold eraZ; omega
theorem yoe_words (d : Nat) (h : d ≤ 146096) : wrap64 (Int.tdiv ((fy d : Nat) : Int) 365) = ((yoe d : Nat) : Int) := by
  have h1 : fy d / 365 = yoe d := rfl
  have h2 : fy d ≤ 200000 := by unfold fy; omega
  rw [Int.tdiv_eq_ediv_of_nonneg (by omega), wrap_id _ (by omega) (by omega)]
  omega
theorem m3_words (d : Nat) (h : d ≤ 365) : wrap64 (((mpf d : Nat) : Int) + 3) = ((mpf d : Nat) : Int) + 3 := by
  have h11 := (month_at d (by omega)).1
  exact wrap_id _ (by omega) (by omega)
theorem e4_words (e : Nat) (h : e ≤ 100) : wrap64 (400 * (e : Int)) = 400 * (e : Int) := wrap_id _ (by omega) (by omega)
theorem yz_words (z : Nat) (h : z ≤ 4000000) (hy : yoe (doeZ z) ≤ 399) : wrap64 (((yoe (doeZ z) : Nat) : Int) + 400 * ((eraZ z : Nat) : Int)) = ((yZ z : Nat) : Int) := by
  have hera : eraZ z ≤ 28 := by unfold eraZ; omega
  rw [wrap_id _ (by omega) (by omega)]
  unfold yZ
  omega
theorem Civil_round (k z : Nat) (n : Int) (hz : (z : Int) = n + 719468) (hz2 : z ≤ 3652364) :
    date_Civil.j0 (k + 1) n false = if ((mpf (doyZ z) : Nat) : Int) + 3 > 12 then some (IntKind.i16.wrap (wrap64 (((yZ z : Nat) : Int) + 1)), IntKind.i8.wrap (wrap64 (((mpf (doyZ z) : Nat) : Int) + 3 - 12)), IntKind.i8.wrap ((dpf (doyZ z) : Nat) : Int), 0) else some (IntKind.i16.wrap ((yZ z : Nat) : Int), IntKind.i8.wrap (((mpf (doyZ z) : Nat) : Int) + 3), IntKind.i8.wrap ((dpf (doyZ z) : Nat) : Int), 0) := by
  have w0 : wrap64 (n + 719468) = (z : Int) := by rw [wrap_id _ (by omega) (by omega)]; omega
  have hdoe : doeZ z ≤ 146096 := by unfold doeZ; omega
  have hera : eraZ z ≤ 100 := by unfold eraZ; omega
  have hya := yoe_at (doeZ z) hdoe
  have hdoy := (doy_lt z).1
  have w5 : _ = ((doyZ z : Nat) : Int) := ny_words (doeZ z) (yoe (doeZ z)) hya.1 hdoe hya.2.1
  rw [date_Civil.j0, if_neg (by decide)]
  simp only [w0, doe_words z, era_words z (by omega), fy_words (doeZ z) hdoe, yoe_words (doeZ z) hdoe, w5, mp_words (doyZ z) hdoy, dp_words (doyZ z) hdoy, m3_words (doyZ z) hdoy, e4_words (eraZ z) hera, yz_words z (by omega) hya.1]
theorem Civil_ev (n : Int) (hn : -9223372036854775808 ≤ n) (hn2 : n ≤ 9223372036854775807) : Ev (fun k => date_Civil.f k n) (civV n) := by
  unfold date_Civil.f
  have no : Ev (fun k => date_Civil.j0 k n true) (0, 0, 0, 5) := Ev.last fun k => by rw [date_Civil.j0]; exact if_pos rfl
  by_cases h1 : n < -719162
  · unfold civV; rw [if_pos (.inl h1)]; exact Ev.congr (fun k => by rw [if_pos h1]) no
  by_cases h2 : n > 2932896
  · unfold civV; rw [if_pos (.inr h2)]; exact Ev.congr (fun k => by rw [if_neg h1, decide_eq_true h2]) no
  clear no
  obtain ⟨Y, M, D, v, _, eY, eM, eD⟩ := civ_of n (by omega) (by omega)
  obtain ⟨z, hz⟩ : ∃ z, (n + 719468).toNat = z := ⟨_, rfl⟩
  have hv : civV n = ((Y : Int), (M : Int), (D : Int), 0) := by unfold civV; rw [if_neg (by omega), eY, eM, eD]
  rw [hv]
  rw [hz] at eY eM eD
  refine Ev.congr (f := fun k => date_Civil.j0 k n false) (fun k => by rw [if_neg h1, decide_eq_false h2]) (Ev.last fun k => ?_)
  rw [Civil_round k z n (by omega) (by omega)]
  have hy : Y ≤ 9999 := v.y2
  have hM := v.m2
  have hD : D ≤ 31 := by have := v.d2; have := long_range Y M; omega
  unfold civY at eY
  unfold civM at eM
  unfold civD at eD
  generalize mpf (doyZ z) = p at *
  generalize dpf (doyZ z) = q at *
  generalize yZ z = r at *
  clear hv v
  by_cases h12 : p + 3 > 12
  · rw [if_pos h12] at eY eM
    rw [if_pos (by omega), wrap_id ((r : Int) + 1) (by omega) (by omega), wrap16 _ (by omega) (by omega), wrap_id ((p : Int) + 3 - 12) (by omega) (by omega), wrapi8' _ (by omega) (by omega), wrapi8' _ (by omega) (by omega)]
    refine congrArg some (Prod.ext ?_ (Prod.ext ?_ (Prod.ext ?_ rfl)))
    · show (r : Int) + 1 = (Y : Int); omega
    · show (p : Int) + 3 - 12 = (M : Int); omega
    · show (q : Int) = (D : Int); omega
  · rw [if_neg h12] at eY eM
    rw [if_neg (by omega), wrap16 _ (by omega) (by omega), wrapi8' _ (by omega) (by omega), wrapi8' _ (by omega) (by omega)]
    refine congrArg some (Prod.ext ?_ (Prod.ext ?_ (Prod.ext ?_ rfl)))
    · show (r : Int) = (Y : Int); omega
    · show (p : Int) + 3 = (M : Int); omega
    · show (q : Int) = (D : Int); omega
end Go.Proofs.YtnmhkmkaklhapaaDoor.DP
