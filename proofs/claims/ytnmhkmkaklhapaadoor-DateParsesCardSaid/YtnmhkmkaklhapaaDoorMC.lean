/- The calendar, with no program in sight: days counted from January 1 of the year 1, there and back. What date's Days, Weekday and Check tell, in closed words (the calendar). -/
import Derived.Test.YtnmhkmkaklhapaaDoorBase
import Derived.Test.YtnmhkmkaklhapaaDoorMk
import Derived.Test.YtnmhkmkaklhapaaDoorD1
namespace Go.Proofs.YtnmhkmkaklhapaaDoor.Cal
set_option linter.unusedVariables false
set_option linter.unusedSimpArgs false

def leapN (y : Nat) : Bool := y % 4 == 0 && (y % 100 != 0 || y % 400 == 0)
def longN (y m : Nat) : Nat := if m = 4 ∨ m = 6 ∨ m = 9 ∨ m = 11 then 30 else if m = 2 then (if leapN y = true then 29 else 28) else 31
def wholeN (y : Nat) : Nat := if leapN y = true then 366 else 365
/-- Days ahead of the year y (y at least 1). -/
def yb (y : Nat) : Nat := 365 * (y - 1) + (y - 1) / 4 - (y - 1) / 100 + (y - 1) / 400
/-- Days ahead of the month m in its year. -/
def mb (y : Nat) : Nat → Nat
  | 0 => 0
  | 1 => 0
  | m + 1 => mb y m + longN y m
def dn (y m d : Nat) : Nat := yb y + mb y m + (d - 1)
structure Valid (y m d : Nat) : Prop where
  y1 : 1 ≤ y
  y2 : y ≤ 9999
  m1 : 1 ≤ m
  m2 : m ≤ 12
  d1 : 1 ≤ d
  d2 : d ≤ longN y m

theorem leap_iff (y : Nat) : leapN y = true ↔ (y % 4 = 0 ∧ (y % 100 ≠ 0 ∨ y % 400 = 0)) := by
  unfold leapN
  simp
theorem yb_succ (y : Nat) (h : 1 ≤ y) : yb (y + 1) = yb y + wholeN y := by
  obtain ⟨x, rfl⟩ : ∃ x, y = x + 1 := ⟨y - 1, by omega⟩
  unfold yb wholeN
  rw [Nat.add_sub_cancel, Nat.add_sub_cancel]
  have a1 : (x + 1) % 4 = 0 ∧ (x + 1) / 4 = x / 4 + 1 ∨ (x + 1) % 4 ≠ 0 ∧ (x + 1) / 4 = x / 4 := by omega
  have a2 : (x + 1) % 100 = 0 ∧ (x + 1) / 100 = x / 100 + 1 ∨ (x + 1) % 100 ≠ 0 ∧ (x + 1) / 100 = x / 100 := by omega
  have a3 : (x + 1) % 400 = 0 ∧ (x + 1) / 400 = x / 400 + 1 ∨ (x + 1) % 400 ≠ 0 ∧ (x + 1) / 400 = x / 400 := by omega
  have b1 : (x + 1) % 100 = 0 → (x + 1) % 4 = 0 := by omega
  have b2 : (x + 1) % 400 = 0 → (x + 1) % 100 = 0 := by omega
  have b3 : x / 100 ≤ x / 4 := by omega
  have hl := leap_iff (x + 1)
  generalize leapN (x + 1) = L at *
  generalize (x + 1) % 4 = p at *
  generalize (x + 1) % 100 = q at *
  generalize (x + 1) % 400 = r at *
  generalize (x + 1) / 4 = e at *
  generalize (x + 1) / 100 = f at *
  generalize (x + 1) / 400 = g at *
  generalize x / 4 = e' at *
  generalize x / 100 = f' at *
  generalize x / 400 = g' at *
  cases L
  · rw [if_neg (by decide)]
    have : ¬ (p = 0 ∧ (q ≠ 0 ∨ r = 0)) := fun h => Bool.noConfusion (hl.2 h)
    omega
  · rw [if_pos rfl]
    have := hl.1 rfl
    omega
theorem mb_succ (y m : Nat) (h : 1 ≤ m) : mb y (m + 1) = mb y m + longN y m := by
  cases m with
  | zero => omega
  | succ m => rfl
/-- 0 or 1: the day that a leap year has more. -/
def lp (y : Nat) : Nat := if leapN y = true then 1 else 0
theorem lp_le (y : Nat) : lp y ≤ 1 := by unfold lp; split <;> omega
theorem whole_lp (y : Nat) : wholeN y = 365 + lp y := by unfold wholeN lp; split <;> rfl
theorem long_lp (y : Nat) : longN y 2 = 28 + lp y := by unfold longN lp; rw [if_neg (by decide), if_pos rfl]; split <;> rfl
theorem long_other (y m : Nat) (h : m ≠ 2) : longN y m = if m = 4 ∨ m = 6 ∨ m = 9 ∨ m = 11 then 30 else 31 := by unfold longN; rw [if_neg h]
theorem mb_table (y : Nat) : mb y 1 = 0 ∧ mb y 2 = 31 ∧ mb y 3 = 59 + lp y ∧ mb y 4 = 90 + lp y ∧ mb y 5 = 120 + lp y ∧ mb y 6 = 151 + lp y ∧ mb y 7 = 181 + lp y ∧ mb y 8 = 212 + lp y ∧ mb y 9 = 243 + lp y ∧ mb y 10 = 273 + lp y ∧ mb y 11 = 304 + lp y ∧ mb y 12 = 334 + lp y ∧ mb y 13 = 365 + lp y := by
  have h1 : mb y 1 = 0 := rfl
  have h2 : mb y 2 = 31 := by rw [mb_succ y 1 (by omega), h1, long_other y 1 (by decide), if_neg (by decide)]
  have h3 : mb y 3 = 59 + lp y := by rw [mb_succ y 2 (by omega), h2, long_lp]; omega
  have l31 : ∀ m, m ≠ 2 → ¬ (m = 4 ∨ m = 6 ∨ m = 9 ∨ m = 11) → longN y m = 31 := fun m a b => by rw [long_other y m a, if_neg b]
  have l30 : ∀ m, m ≠ 2 → (m = 4 ∨ m = 6 ∨ m = 9 ∨ m = 11) → longN y m = 30 := fun m a b => by rw [long_other y m a, if_pos b]
  have h4 : mb y 4 = 90 + lp y := by rw [mb_succ y 3 (by omega), h3, l31 3 (by decide) (by decide)]; omega
  have h5 : mb y 5 = 120 + lp y := by rw [mb_succ y 4 (by omega), h4, l30 4 (by decide) (by decide)]; omega
  have h6 : mb y 6 = 151 + lp y := by rw [mb_succ y 5 (by omega), h5, l31 5 (by decide) (by decide)]; omega
  have h7 : mb y 7 = 181 + lp y := by rw [mb_succ y 6 (by omega), h6, l30 6 (by decide) (by decide)]; omega
  have h8 : mb y 8 = 212 + lp y := by rw [mb_succ y 7 (by omega), h7, l31 7 (by decide) (by decide)]; omega
  have h9 : mb y 9 = 243 + lp y := by rw [mb_succ y 8 (by omega), h8, l31 8 (by decide) (by decide)]; omega
  have h10 : mb y 10 = 273 + lp y := by rw [mb_succ y 9 (by omega), h9, l30 9 (by decide) (by decide)]; omega
  have h11 : mb y 11 = 304 + lp y := by rw [mb_succ y 10 (by omega), h10, l31 10 (by decide) (by decide)]; omega
  have h12 : mb y 12 = 334 + lp y := by rw [mb_succ y 11 (by omega), h11, l30 11 (by decide) (by decide)]; omega
  have h13 : mb y 13 = 365 + lp y := by rw [mb_succ y 12 (by omega), h12, l31 12 (by decide) (by decide)]; omega
  exact ⟨h1, h2, h3, h4, h5, h6, h7, h8, h9, h10, h11, h12, h13⟩
theorem yb_lp (y : Nat) (h : 1 ≤ y) : yb (y + 1) = yb y + 365 + lp y := by rw [yb_succ y h, whole_lp]; omega

/-- Years that begin with March: the year, the month (March 0) and how many days lie ahead of it. -/
def my (y m : Nat) : Nat := if m < 3 then y - 1 else y
def mm (m : Nat) : Nat := if m < 3 then m + 9 else m - 3
theorem march (y m : Nat) (hy : 1 ≤ y) (h1 : 1 ≤ m) (h2 : m ≤ 12) : 365 * my y m + my y m / 4 - my y m / 100 + my y m / 400 + (153 * mm m + 2) / 5 = yb y + mb y m + 306 := by
  have hy1 : yb (y + 1) = 365 * y + y / 4 - y / 100 + y / 400 := by unfold yb; rw [Nat.add_sub_cancel]
  have hy0 : yb y = 365 * (y - 1) + (y - 1) / 4 - (y - 1) / 100 + (y - 1) / 400 := rfl
  have hl := yb_lp y hy
  obtain ⟨t1, t2, t3, t4, t5, t6, t7, t8, t9, t10, t11, t12, _⟩ := mb_table y
  by_cases h : m < 3
  · have e : my y m = y - 1 := if_pos h
    have e' : mm m = m + 9 := if_pos h
    rw [e, e', ← hy0]
    clear hy0 hy1 hl
    have : m = 1 ∨ m = 2 := by omega
    rcases this with rfl | rfl
    · rw [t1]
    · rw [t2]
  · have e : my y m = y := if_neg h
    have e' : mm m = m - 3 := if_neg h
    rw [e, e', ← hy1, hl]
    clear hy0 hy1 hl
    have : m = 3 ∨ m = 4 ∨ m = 5 ∨ m = 6 ∨ m = 7 ∨ m = 8 ∨ m = 9 ∨ m = 10 ∨ m = 11 ∨ m = 12 := by omega
    rcases this with rfl | rfl | rfl | rfl | rfl | rfl | rfl | rfl | rfl | rfl
    · rw [t3]; omega
    · rw [t4]; omega
    · rw [t5]; omega
    · rw [t6]; omega
    · rw [t7]; omega
    · rw [t8]; omega
    · rw [t9]; omega
    · rw [t10]; omega
    · rw [t11]; omega
    · rw [t12]; omega

/-! The year of a day within four hundred years. -/
def fy (d : Nat) : Nat := d - d / 1460 + d / 36524 - d / 146096
def yoe (d : Nat) : Nat := fy d / 365
def ny (y : Nat) : Nat := 365 * y + y / 4 - y / 100
theorem fy_step (d : Nat) : fy d ≤ fy (d + 1) := by
  unfold fy
  have h1 : d / 146096 = d / 36524 / 4 := by rw [Nat.div_div_eq_div_mul]
  have h2 : (d + 1) / 146096 = (d + 1) / 36524 / 4 := by rw [Nat.div_div_eq_div_mul]
  have h3 : d / 36524 ≤ (d + 1) / 36524 ∧ (d + 1) / 36524 ≤ d / 36524 + 1 := by omega
  have h4 : d / 1460 ≤ (d + 1) / 1460 ∧ (d + 1) / 1460 ≤ d / 1460 + 1 := by omega
  have h5 : d / 1460 ≤ d := Nat.div_le_self ..
  rw [h1, h2]
  generalize d / 36524 = a at *
  generalize (d + 1) / 36524 = b at *
  generalize d / 1460 = p at *
  generalize (d + 1) / 1460 = q at *
  omega
theorem fy_mono {a b : Nat} (h : a ≤ b) : fy a ≤ fy b := by
  induction b with
  | zero => obtain rfl : a = 0 := by omega
            exact Nat.le_refl _
  | succ b ih =>
    by_cases e : a = b + 1
    · rw [e]; exact Nat.le_refl _
    · exact Nat.le_trans (ih (by omega)) (fy_step b)
theorem yoe_mono {a b : Nat} (h : a ≤ b) : yoe a ≤ yoe b := Nat.div_le_div_right (fy_mono h)
theorem ends_fin : ∀ y : Fin 400, yoe (ny y.val) = y.val ∧ (y.val < 399 → yoe (ny (y.val + 1) - 1) = y.val) ∧ (y.val < 399 → 1 ≤ ny (y.val + 1)) := by decide +kernel
theorem ends (y : Nat) (h : y < 400) : yoe (ny y) = y ∧ (y < 399 → yoe (ny (y + 1) - 1) = y) ∧ (y < 399 → 1 ≤ ny (y + 1)) := ends_fin ⟨y, h⟩
theorem yoe_top : yoe 146096 = 399 := by decide +kernel
theorem yoe_at (d : Nat) (h : d ≤ 146096) : yoe d ≤ 399 ∧ ny (yoe d) ≤ d ∧ (yoe d < 399 → d < ny (yoe d + 1)) := by
  have h1 : yoe d ≤ 399 := yoe_top ▸ yoe_mono h
  refine ⟨h1, ?_, fun h2 => ?_⟩
  · refine Nat.le_of_not_lt fun hc => ?_
    by_cases h0 : yoe d = 0
    · rw [h0] at hc
      exact absurd hc (by simp [ny])
    · obtain ⟨_, e2, _⟩ := ends (yoe d - 1) (by omega)
      have e2 := e2 (by omega)
      rw [show yoe d - 1 + 1 = yoe d by omega] at e2
      have := yoe_mono (a := d) (b := ny (yoe d) - 1) (by omega)
      omega
  · refine Nat.lt_of_not_le fun hc => ?_
    obtain ⟨e1, _, _⟩ := ends (yoe d + 1) (by omega)
    have := yoe_mono hc
    omega

/-! The month of a day within a year that begins with March. -/
def mpf (doy : Nat) : Nat := (5 * doy + 2) / 153
def dpf (doy : Nat) : Nat := doy - (153 * mpf doy + 2) / 5 + 1
def mpl (m : Nat) : Nat := if m = 1 ∨ m = 3 ∨ m = 6 ∨ m = 8 then 30 else 31
theorem month_fin : ∀ doy : Fin 366, mpf doy.val ≤ 11 ∧ (153 * mpf doy.val + 2) / 5 ≤ doy.val ∧ (mpf doy.val ≠ 11 → dpf doy.val ≤ mpl (mpf doy.val)) ∧ (mpf doy.val = 11 → dpf doy.val ≤ 29 ∧ (dpf doy.val = 29 → doy.val = 365)) ∧ (mpf doy.val < 10 ↔ doy.val < 306) := by decide +kernel
theorem month_at (doy : Nat) (h : doy < 366) : mpf doy ≤ 11 ∧ (153 * mpf doy + 2) / 5 ≤ doy ∧ (mpf doy ≠ 11 → dpf doy ≤ mpl (mpf doy)) ∧ (mpf doy = 11 → dpf doy ≤ 29 ∧ (dpf doy = 29 → doy = 365)) ∧ (mpf doy < 10 ↔ doy < 306) := month_fin ⟨doy, h⟩

/-! The day that lies z days behind March 1 of the year 0. -/
def eraZ (z : Nat) : Nat := z / 146097
def doeZ (z : Nat) : Nat := z % 146097
def doyZ (z : Nat) : Nat := doeZ z - ny (yoe (doeZ z))
def yZ (z : Nat) : Nat := yoe (doeZ z) + 400 * eraZ z
def civY (z : Nat) : Nat := if mpf (doyZ z) + 3 > 12 then yZ z + 1 else yZ z
def civM (z : Nat) : Nat := if mpf (doyZ z) + 3 > 12 then mpf (doyZ z) + 3 - 12 else mpf (doyZ z) + 3
def civD (z : Nat) : Nat := dpf (doyZ z)

theorem leap_march (e y : Nat) (hy : y ≤ 399) (h : y = 399 ∨ ny (y + 1) = ny y + 366) : leapN (y + 400 * e + 1) = true := by
  rw [leap_iff]
  unfold ny at h
  omega
theorem doy_lt (z : Nat) : doyZ z ≤ 365 ∧ (doyZ z = 365 → leapN (yZ z + 1) = true) := by
  have hd : doeZ z ≤ 146096 := by unfold doeZ; omega
  obtain ⟨h1, h2, h3⟩ := yoe_at _ hd
  unfold doyZ yZ
  generalize doeZ z = d at *
  generalize yoe d = y at *
  by_cases hy : y = 399
  · subst hy
    have : ny 399 = 145731 := by decide
    rw [this] at h2 ⊢
    exact ⟨by omega, fun _ => leap_march _ _ (Nat.le_refl _) (.inl rfl)⟩
  · have h3 := h3 (by omega)
    have hn : ny (y + 1) ≤ ny y + 366 := by unfold ny; omega
    refine ⟨by omega, fun h => leap_march _ _ h1 (.inr (by omega))⟩
theorem z_of (z : Nat) : 365 * yZ z + yZ z / 4 - yZ z / 100 + yZ z / 400 + doyZ z = z := by
  have hd : doeZ z ≤ 146096 := by unfold doeZ; omega
  obtain ⟨h1, h2, h3⟩ := yoe_at _ hd
  unfold doyZ yZ
  have hz : z = 146097 * eraZ z + doeZ z := by unfold eraZ doeZ; omega
  generalize doeZ z = d at *
  generalize yoe d = y at *
  generalize eraZ z = e at *
  have g1 : (y + 400 * e) / 4 = y / 4 + 100 * e := by omega
  have g2 : (y + 400 * e) / 100 = y / 100 + 4 * e := by omega
  have g3 : (y + 400 * e) / 400 = e := by omega
  have g4 : y / 100 ≤ y / 4 := by omega
  rw [g1, g2, g3, hz]
  unfold ny at *
  clear hz h3
  omega
theorem my_civ (z : Nat) : my (civY z) (civM z) = yZ z ∧ mm (civM z) = mpf (doyZ z) ∧ 1 ≤ civM z ∧ civM z ≤ 12 := by
  have hm := (month_at (doyZ z) (by have := (doy_lt z).1; omega)).1
  unfold my mm civY civM
  by_cases h : mpf (doyZ z) + 3 > 12
  · rw [if_pos h, if_pos h, if_pos (by omega), if_pos (by omega)]; omega
  · rw [if_neg h, if_neg h, if_neg (by omega), if_neg (by omega)]; omega
theorem civ_dn (z : Nat) (hz : 306 ≤ z) : 1 ≤ civY z ∧ dn (civY z) (civM z) (civD z) + 306 = z ∧ 1 ≤ civD z ∧ civD z ≤ longN (civY z) (civM z) := by
  obtain ⟨m1, m2, m3, m4, m5⟩ := month_at (doyZ z) (by have := (doy_lt z).1; omega)
  obtain ⟨e1, e2, e3, e4⟩ := my_civ z
  have hy1 : 1 ≤ civY z := by
    unfold civY
    by_cases h : mpf (doyZ z) + 3 > 12
    · rw [if_pos h]; omega
    · rw [if_neg h]
      refine Nat.pos_of_ne_zero fun h0 => ?_
      have := z_of z
      rw [h0] at this
      have := m5.1 (by omega)
      omega
  have hm := march (civY z) (civM z) hy1 e3 e4
  rw [e1, e2] at hm
  have hz2 := z_of z
  refine ⟨hy1, ?_, by unfold civD dpf; omega, ?_⟩
  · unfold dn civD dpf
    omega
  · unfold civD
    by_cases h11 : mpf (doyZ z) = 11
    · have hmon : civM z = 2 := by unfold civM; rw [if_pos (by omega), h11]
      obtain ⟨a, b⟩ := m4 h11
      rw [hmon, long_lp]
      by_cases h29 : dpf (doyZ z) = 29
      · have hl := (doy_lt z).2 (b h29)
        have hyy : civY z = yZ z + 1 := by unfold civY; rw [if_pos (by omega)]
        rw [hyy]; unfold lp; rw [if_pos hl]; omega
      · omega
    · have a := m3 h11
      have hne : civM z ≠ 2 := by unfold civM; split <;> omega
      rw [long_other _ _ hne]
      refine Nat.le_trans a ?_
      unfold mpl civM
      repeat' split
      all_goals omega

theorem yb_mono {a b : Nat} (h1 : 1 ≤ a) (h : a ≤ b) : yb a ≤ yb b := by
  induction b with
  | zero => omega
  | succ b ih =>
    by_cases e : a = b + 1
    · rw [e]; exact Nat.le_refl _
    · have := ih (by omega)
      rw [yb_succ b (by omega)]; omega
theorem mb_mono (y : Nat) {a b : Nat} (h1 : 1 ≤ a) (h : a ≤ b) : mb y a ≤ mb y b := by
  induction b with
  | zero => omega
  | succ b ih =>
    by_cases e : a = b + 1
    · rw [e]; exact Nat.le_refl _
    · have := ih (by omega)
      rw [mb_succ y b (by omega)]; omega
theorem dn_year {y m d : Nat} (m1 : 1 ≤ m) (m2 : m ≤ 12) (d1 : 1 ≤ d) (d2 : d ≤ longN y m) : mb y m + (d - 1) < wholeN y := by
  have := mb_mono y (a := m + 1) (b := 13) (by omega) (by omega)
  rw [mb_succ y m m1, (mb_table y).2.2.2.2.2.2.2.2.2.2.2.2] at this
  rw [whole_lp]
  omega
/-- One day has one number. -/
theorem dn_inj {y m d y' m' d' : Nat} (hy : 1 ≤ y) (hy' : 1 ≤ y') (m1 : 1 ≤ m) (m2 : m ≤ 12) (d1 : 1 ≤ d) (d2 : d ≤ longN y m) (m1' : 1 ≤ m') (m2' : m' ≤ 12) (d1' : 1 ≤ d') (d2' : d' ≤ longN y' m') (h : dn y m d = dn y' m' d') : y = y' ∧ m = m' ∧ d = d' := by
  have a := dn_year m1 m2 d1 d2
  have a' := dn_year m1' m2' d1' d2'
  unfold dn at h
  have hyy : y = y' := by
    rcases Nat.lt_trichotomy y y' with g | g | g
    · have := yb_mono (a := y + 1) (b := y') (by omega) (by omega)
      rw [yb_succ y hy] at this
      omega
    · exact g
    · have := yb_mono (a := y' + 1) (b := y) (by omega) (by omega)
      rw [yb_succ y' hy'] at this
      omega
  subst hyy
  have hmm : m = m' := by
    rcases Nat.lt_trichotomy m m' with g | g | g
    · have := mb_mono y (a := m + 1) (b := m') (by omega) (by omega)
      rw [mb_succ y m m1] at this
      omega
    · exact g
    · have := mb_mono y (a := m' + 1) (b := m) (by omega) (by omega)
      rw [mb_succ y m' m1'] at this
      omega
  subst hmm
  exact ⟨rfl, rfl, by omega⟩
/-- The day of a number: right, and of that number. -/
theorem civ_valid (n : Nat) (h : n ≤ 3652058) : Valid (civY (n + 306)) (civM (n + 306)) (civD (n + 306)) ∧ dn (civY (n + 306)) (civM (n + 306)) (civD (n + 306)) = n := by
  obtain ⟨a, b, c, d⟩ := civ_dn (n + 306) (by omega)
  obtain ⟨_, _, e3, e4⟩ := my_civ (n + 306)
  refine ⟨⟨a, ?_, e3, e4, c, d⟩, by omega⟩
  refine Nat.le_of_not_lt fun hc => ?_
  have := yb_mono (a := 10000) (b := civY (n + 306)) (by omega) (by omega)
  have e : yb 10000 = 3652059 := by decide
  unfold dn at b
  omega
theorem dn_range {y m d : Nat} (h : Valid y m d) : dn y m d ≤ 3652058 := by
  have a := dn_year h.m1 h.m2 h.d1 h.d2
  have := yb_mono (a := y + 1) (b := 10000) (by omega) (by have := h.y2; omega)
  rw [yb_succ y h.y1] at this
  have e : yb 10000 = 3652059 := by decide
  unfold dn
  omega
theorem civ_of_dn {y m d : Nat} (h : Valid y m d) : civY (dn y m d + 306) = y ∧ civM (dn y m d + 306) = m ∧ civD (dn y m d + 306) = d := by
  obtain ⟨v, e⟩ := civ_valid (dn y m d) (dn_range h)
  exact dn_inj v.y1 h.y1 v.m1 v.m2 v.d1 v.d2 h.m1 h.m2 h.d1 h.d2 e
end Go.Proofs.YtnmhkmkaklhapaaDoor.Cal
namespace Go.Proofs.YtnmhkmkaklhapaaDoor.Chk
set_option linter.unusedVariables false
set_option linter.unusedSimpArgs false
open Go.RowKit Go.Proofs.YtnmhkmkaklhapaaDoorW.PrintWords Go.Proofs.YtnmhkmkaklhapaaDoorW.PrintLast Go.Proofs.YtnmhkmkaklhapaaDoorW.PrintMore Go.Proofs.YtnmhkmkaklhapaaDoor.B Go.Proofs.YtnmhkmkaklhapaaDoor.D Go.Proofs.YtnmhkmkaklhapaaDoor.Cal

def longI (y m : Int) : Int := (longN y.toNat m.toNat : Int)
def dayOk (y m d : Int) : Bool := decide (1 ≤ y ∧ y ≤ 9999 ∧ 1 ≤ m ∧ m ≤ 12 ∧ 1 ≤ d ∧ d ≤ longI y m)
def daysV (y m d : Int) : Int × Int := if dayOk y m d = true then ((dn y.toNat m.toNat d.toNat : Int) - 719162, 0) else (0, 60)
def wkV (n : Int) : Int := (n + 4) % 7
def timeOk (h m s : Int) : Bool := decide (0 ≤ h ∧ h ≤ 23 ∧ 0 ≤ m ∧ m ≤ 59 ∧ 0 ≤ s ∧ s ≤ 59)
def chkV (y mo d h m s z : Int) : Int := if dayOk y mo d = false then 60 else if timeOk h m s = false then 60 else if z < -1439 ∨ z > 1439 then 61 else 0
theorem long_range (y m : Nat) : 28 ≤ longN y m ∧ longN y m ≤ 31 := by
  unfold longN
  repeat' split
  all_goals omega
theorem length_f (y m : Int) (hy : 0 ≤ y) (hm : 0 ≤ m) : date_length.f y m = some (longI y m) := by
  obtain ⟨Y, rfl⟩ := Int.eq_ofNat_of_zero_le hy
  obtain ⟨M, rfl⟩ := Int.eq_ofNat_of_zero_le hm
  unfold date_length.f longI longN
  rw [Int.toNat_natCast, Int.toNat_natCast]
  have a4 : (Int.tmod (Y : Int) 4 = 0) ↔ Y % 4 = 0 := by rw [Int.tmod_eq_emod_of_nonneg (by omega)]; omega
  have a100 : (Int.tmod (Y : Int) 100 = 0) ↔ Y % 100 = 0 := by rw [Int.tmod_eq_emod_of_nonneg (by omega)]; omega
  have a400 : (Int.tmod (Y : Int) 400 = 0) ↔ Y % 400 = 0 := by rw [Int.tmod_eq_emod_of_nonneg (by omega)]; omega
  have hl := leap_iff Y
  by_cases m2 : M = 2
  · subst m2
    rw [if_pos (by rfl)]
    show _ = some (((if leapN Y = true then 29 else 28 : Nat)) : Int)
    by_cases h4 : Y % 4 = 0
    · rw [if_pos (a4.2 h4)]
      by_cases h100 : Y % 100 = 0
      · rw [if_pos (a100.2 h100)]
        by_cases h400 : Y % 400 = 0
        · rw [if_pos (a400.2 h400), if_pos (hl.2 ⟨h4, .inr h400⟩)]; rfl
        · rw [if_neg (fun h => h400 (a400.1 h)), if_neg (fun h => by have := hl.1 h; omega)]; rfl
      · rw [if_neg (fun h => h100 (a100.1 h)), if_pos (hl.2 ⟨h4, .inl h100⟩)]; rfl
    · rw [if_neg (fun h => h4 (a4.1 h)), if_neg (fun h => by have := hl.1 h; omega)]; rfl
  · rw [if_neg (by omega)]
    by_cases m4 : M = 4
    · rw [if_pos (by omega), if_pos (by omega)]; rfl
    by_cases m6 : M = 6
    · rw [if_neg (by omega), if_pos (by omega), if_pos (by omega)]; rfl
    by_cases m9 : M = 9
    · rw [if_neg (by omega), if_neg (by omega), if_pos (by omega), if_pos (by omega)]; rfl
    by_cases m11 : M = 11
    · rw [if_neg (by omega), if_neg (by omega), if_neg (by omega), if_pos (by omega), if_pos (by omega)]; rfl
    rw [if_neg (by omega), if_neg (by omega), if_neg (by omega), if_neg (by omega), if_neg (by omega), if_neg m2]; rfl
theorem days_chain (Y M d : Int) (y0 : 0 ≤ Y) (y1 : Y ≤ 9999) (m0 : 0 ≤ M) (m1 : M ≤ 11) (d0 : 1 ≤ d) (d1 : d ≤ 31) :
    wrap64 ((wrap64 ((wrap64 ((wrap64 ((wrap64 ((wrap64 ((wrap64 ((wrap64 (365 * Y)) + (wrap64 (Int.tdiv Y 4)))) - (wrap64 (Int.tdiv Y 100)))) + (wrap64 (Int.tdiv Y 400)))) + (wrap64 (Int.tdiv (wrap64 ((wrap64 (153 * M)) + 2)) 5)))) + d)) - 1)) - 719468) = 365 * Y + Y / 4 - Y / 100 + Y / 400 + (153 * M + 2) / 5 + d - 1 - 719468 := by
  rw [Int.tdiv_eq_ediv_of_nonneg y0, Int.tdiv_eq_ediv_of_nonneg y0, Int.tdiv_eq_ediv_of_nonneg y0]
  rw [wrap_id (365 * Y) (by omega) (by omega), wrap_id (Y / 4) (by omega) (by omega), wrap_id (Y / 100) (by omega) (by omega), wrap_id (Y / 400) (by omega) (by omega), wrap_id (153 * M) (by omega) (by omega), wrap_id (153 * M + 2) (by omega) (by omega), Int.tdiv_eq_ediv_of_nonneg (by omega), wrap_id ((153 * M + 2) / 5) (by omega) (by omega)]
  rw [wrap_id (365 * Y + Y / 4) (by omega) (by omega), wrap_id (365 * Y + Y / 4 - Y / 100) (by omega) (by omega), wrap_id (365 * Y + Y / 4 - Y / 100 + Y / 400) (by omega) (by omega), wrap_id (365 * Y + Y / 4 - Y / 100 + Y / 400 + (153 * M + 2) / 5) (by omega) (by omega), wrap_id (365 * Y + Y / 4 - Y / 100 + Y / 400 + (153 * M + 2) / 5 + d) (by omega) (by omega), wrap_id (365 * Y + Y / 4 - Y / 100 + Y / 400 + (153 * M + 2) / 5 + d - 1) (by omega) (by omega), wrap_id _ (by omega) (by omega)]
theorem Days_ev (y m d : Int) (hy : -32768 ≤ y) (hy2 : y ≤ 32767) (hm : -128 ≤ m) (hm2 : m ≤ 127) (hd : -128 ≤ d) (hd2 : d ≤ 127) : Ev (fun k => date_Days.f k y m d) (daysV y m d) := by
  unfold date_Days.f daysV dayOk
  have no : Ev (fun k => date_Days.j0 k y m d true) (0, 60) := Ev.last fun k => by rw [date_Days.j0]; exact if_pos rfl
  have wy : wrap64 y = y := wrap_id _ (by omega) (by omega)
  have wm : wrap64 m = m := wrap_id _ (by omega) (by omega)
  have wd : wrap64 d = d := wrap_id _ (by omega) (by omega)
  by_cases h1 : y < 1
  · rw [if_neg (by simp; omega)]; exact Ev.congr (fun k => by rw [if_pos h1]) no
  by_cases h2 : y > 9999
  · rw [if_neg (by simp; omega)]; exact Ev.congr (fun k => by rw [if_neg h1, if_pos h2]) no
  by_cases h3 : m < 1
  · rw [if_neg (by simp; omega)]; exact Ev.congr (fun k => by rw [if_neg h1, if_neg h2, if_pos h3]) no
  by_cases h4 : m > 12
  · rw [if_neg (by simp; omega)]; exact Ev.congr (fun k => by rw [if_neg h1, if_neg h2, if_neg h3, if_pos h4]) no
  by_cases h5 : d < 1
  · rw [if_neg (by simp; omega)]; exact Ev.congr (fun k => by rw [if_neg h1, if_neg h2, if_neg h3, if_neg h4, if_pos h5]) no
  have hl := length_f y m (by omega) (by omega)
  by_cases h6 : d > longI y m
  · rw [if_neg (by simp; omega)]
    refine Ev.congr (fun k => ?_) no
    rw [if_neg h1, if_neg h2, if_neg h3, if_neg h4, if_neg h5, wy, hl, bind_some', decide_eq_true h6]
  · rw [if_pos (by simp; omega)]
    have hlr := long_range y.toNat m.toNat
    have h31 : d ≤ 31 := by unfold longI at h6; omega
    refine Ev.congr (f := fun k => date_Days.j0 k y m d false) (fun k => by rw [if_neg h1, if_neg h2, if_neg h3, if_neg h4, if_neg h5, wy, hl, bind_some', decide_eq_false h6]) (Ev.last fun k => ?_)
    rw [date_Days.j0, if_neg (by decide), wy, wm, wd, wrap_id (m - 3) (by omega) (by omega)]
    have hma := march y.toNat m.toNat (by omega) (by omega) (by omega)
    unfold dn
    clear hlr hl wy wm wd no
    obtain ⟨Y, rfl⟩ := Int.eq_ofNat_of_zero_le (show 0 ≤ y by omega)
    obtain ⟨M, rfl⟩ := Int.eq_ofNat_of_zero_le (show 0 ≤ m by omega)
    obtain ⟨D, rfl⟩ := Int.eq_ofNat_of_zero_le (show 0 ≤ d by omega)
    clear h6
    simp only [Int.toNat_natCast] at hma ⊢
    by_cases h7 : (M : Int) - 3 < 0
    · obtain ⟨A, rfl⟩ : ∃ A, Y = A + 1 := ⟨Y - 1, by omega⟩
      have eA : ((A + 1 : Nat) : Int) - 1 = (A : Int) := by omega
      have eM : (M : Int) - 3 + 12 = ((M + 9 : Nat) : Int) := by omega
      rw [if_pos h7, wrap_id (((A + 1 : Nat) : Int) - 1) (by omega) (by omega), wrap_id ((M : Int) - 3 + 12) (by omega) (by omega), eA, eM, days_chain (A : Int) ((M + 9 : Nat) : Int) (D : Int) (by omega) (by omega) (by omega) (by omega) (by omega) h31]
      unfold my mm at hma
      rw [if_pos (by omega), if_pos (by omega), Nat.add_sub_cancel] at hma
      refine congrArg some (Prod.ext ?_ rfl)
      show (365 * (A : Int) + A / 4 - A / 100 + A / 400 + (153 * ((M + 9 : Nat) : Int) + 2) / 5 + D - 1 - 719468) = ((yb (A + 1) + mb (A + 1) M + (D - 1) : Nat) : Int) - 719162
      omega
    · obtain ⟨B, rfl⟩ : ∃ B, M = B + 3 := ⟨M - 3, by omega⟩
      have eM : ((B + 3 : Nat) : Int) - 3 = (B : Int) := by omega
      rw [if_neg h7, eM, days_chain (Y : Int) (B : Int) (D : Int) (by omega) (by omega) (by omega) (by omega) (by omega) h31]
      unfold my mm at hma
      rw [if_neg (by omega), if_neg (by omega), Nat.add_sub_cancel] at hma
      refine congrArg some (Prod.ext ?_ rfl)
      show (365 * (Y : Int) + Y / 4 - Y / 100 + Y / 400 + (153 * (B : Int) + 2) / 5 + D - 1 - 719468) = ((yb Y + mb Y (B + 3) + (D - 1) : Nat) : Int) - 719162
      omega
theorem wrapi8' (x : Int) (h1 : -128 ≤ x) (h2 : x ≤ 127) : IntKind.i8.wrap x = x := by
  unfold IntKind.wrap
  simp only [show IntKind.i8.bits = 8 from rfl, show IntKind.i8.signed = true from rfl, Bool.true_and, decide_eq_true_eq, show (2 : Int) ^ 8 = 256 from by decide, show (2 : Int) ^ (8 - 1) = 128 from by decide]
  split <;> omega
theorem Weekday_f (n : Int) : date_Weekday.f n = some (wkV n) := by
  unfold date_Weekday.f wkV
  have h : Int.tmod n 7 = n % 7 ∨ (Int.tmod n 7 = n % 7 - 7 ∧ 0 < n % 7) := by
    rw [Int.tmod_eq_emod]
    split
    · exact .inl (by omega)
    · rename_i hc
      simp only [not_or] at hc
      refine .inr ⟨by simp, ?_⟩
      have : ¬ (7 : Int) ∣ n := hc.2
      omega
  have hb : -7 < Int.tmod n 7 ∧ Int.tmod n 7 < 7 := by omega
  generalize Int.tmod n 7 = t at *
  rw [wrap_id (t + 11) (by omega) (by omega), Int.tmod_eq_emod_of_nonneg (by omega)]
  rw [wrapi8' _ (by omega) (by omega)]
  congr 1
  omega
theorem wk_range (n : Int) : 0 ≤ wkV n ∧ wkV n < 7 := by unfold wkV; omega
theorem Check_ev (y mo d h m s z : Int) (hy : -32768 ≤ y) (hy2 : y ≤ 32767) (hm : -128 ≤ mo) (hm2 : mo ≤ 127) (hd : -128 ≤ d) (hd2 : d ≤ 127) : Ev (fun k => date_Check.f k y mo d h m s z) (chkV y mo d h m s z) := by
  unfold date_Check.f chkV
  have yes : Ev (fun k => date_Check.j0 k true y mo d h m s z) 60 := Ev.last fun k => by rw [date_Check.j0]; exact if_pos rfl
  refine Ev.bind (Days_ev y mo d hy hy2 hm hm2 hd hd2) ?_
  unfold daysV
  cases hv : dayOk y mo d with
  | false =>
    rw [if_neg (by decide), if_pos rfl]
    exact Ev.val fun k => by rw [if_neg (by decide)]
  | true =>
    rw [if_pos rfl, if_neg (by decide)]
    refine Ev.congr (fun k => by rw [if_pos rfl]) ?_
    unfold timeOk
    by_cases h1 : h < 0
    · rw [if_pos (by simp; omega)]; exact Ev.congr (fun k => by rw [if_pos h1]) yes
    by_cases h2 : h > 23
    · rw [if_pos (by simp; omega)]; exact Ev.congr (fun k => by rw [if_neg h1, if_pos h2]) yes
    by_cases h3 : m < 0
    · rw [if_pos (by simp; omega)]; exact Ev.congr (fun k => by rw [if_neg h1, if_neg h2, if_pos h3]) yes
    by_cases h4 : m > 59
    · rw [if_pos (by simp; omega)]; exact Ev.congr (fun k => by rw [if_neg h1, if_neg h2, if_neg h3, if_pos h4]) yes
    by_cases h5 : s < 0
    · rw [if_pos (by simp; omega)]; exact Ev.congr (fun k => by rw [if_neg h1, if_neg h2, if_neg h3, if_neg h4, if_pos h5]) yes
    by_cases h6 : s > 59
    · rw [if_pos (by simp; omega)]; exact Ev.congr (fun k => by rw [if_neg h1, if_neg h2, if_neg h3, if_neg h4, if_neg h5, decide_eq_true h6]) yes
    rw [if_neg (by simp; omega)]
    refine Ev.congr (f := fun k => date_Check.j0 k false y mo d h m s z) (fun k => by rw [if_neg h1, if_neg h2, if_neg h3, if_neg h4, if_neg h5, decide_eq_false h6]) (Ev.last fun k => ?_)
    rw [date_Check.j0, if_neg (by decide)]
    by_cases z1 : z < -1439
    · rw [if_pos z1, if_pos (.inl z1)]
    by_cases z2 : z > 1439
    · rw [if_neg z1, if_pos z2, if_pos (.inr z2)]
    rw [if_neg z1, if_neg z2, if_neg (by omega)]
theorem Days_calls (y m d : Int) (hy : -32768 ≤ y) (hy2 : y ≤ 32767) (hm : -128 ≤ m) (hm2 : m ≤ 127) (hd : -128 ≤ d) (hd2 : d ≤ 127) (w : World) :
    Calls Tryd.prog 14 #[.int .i16 y, .int .i8 m, .int .i8 d] w fun e w' => e = .returned (.tuple #[.int .i64 (daysV y m d).1, .int .i64 (daysV y m d).2]) ∧ Drawn0 w w' := by
  obtain ⟨k, hk⟩ := Days_ev y m d hy hy2 hm hm2 hd hd2
  exact date_Days.calls k y m d (daysV y m d).1 (daysV y m d).2 w (hk k (Nat.le_refl _))
theorem Check_calls (y mo d h m s z : Int) (hy : -32768 ≤ y) (hy2 : y ≤ 32767) (hm : -128 ≤ mo) (hm2 : mo ≤ 127) (hd : -128 ≤ d) (hd2 : d ≤ 127) (w : World) :
    Calls Tryd.prog 29 #[.agg #[.int .i16 y, .int .i8 mo, .int .i8 d, .int .i8 h, .int .i8 m, .int .i8 s, .int .i16 z]] w fun e w' => e = .returned (.int .i64 (chkV y mo d h m s z)) ∧ Below w.heap.size w w' := by
  obtain ⟨k, hk⟩ := Check_ev y mo d h m s z hy hy2 hm hm2 hd hd2
  exact date_Check.calls k _ _ _ _ _ _ _ (chkV y mo d h m s z) w (hk k (Nat.le_refl _))
theorem Weekday_calls (n : Int) (w : World) :
    Calls Tryd.prog 20 #[.int .i64 n] w fun e w' => e = .returned (.int .i8 (wkV n)) ∧ Drawn0 w w' := date_Weekday.calls _ _ w (Weekday_f n)
end Go.Proofs.YtnmhkmkaklhapaaDoor.Chk
