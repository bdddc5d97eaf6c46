/- DateNext: the number behind a day's is that of the next day. -/
import Derived.Test.YtnmhkmkaklhapaaDoorMan
import Derived.Test.YtnmhkmkaklhapaaDoorH2
namespace Go.Proofs.YtnmhkmkaklhapaaDoor.Pure
set_option linter.unusedVariables false
set_option linter.unusedSimpArgs false
open Go.RowKit Go.Proofs.YtnmhkmkaklhapaaDoorW.PrintWords Go.Proofs.YtnmhkmkaklhapaaDoorW.PrintLast Go.Proofs.YtnmhkmkaklhapaaDoorW.PrintMore Go.Proofs.YtnmhkmkaklhapaaDoor.B Go.Proofs.YtnmhkmkaklhapaaDoor.H Go.Proofs.YtnmhkmkaklhapaaDoor.Cal Go.Proofs.YtnmhkmkaklhapaaDoor.Chk Go.Proofs.YtnmhkmkaklhapaaDoor.MN Go.Proofs.YtnmhkmkaklhapaaDoor.DP Go.Proofs.YtnmhkmkaklhapaaDoor.T
theorem last_ev (Y M : Nat) : Ev (fun k => posthornlaw06_last.f k (Y : Int) (M : Int)) (longN Y M : Int) := by
  unfold posthornlaw06_last.f
  have a4 : (Int.tmod (Y : Int) 4 = 0) ↔ Y % 4 = 0 := by rw [Int.tmod_eq_emod_of_nonneg (by omega)]; omega
  have a100 : (Int.tmod (Y : Int) 100 = 0) ↔ Y % 100 = 0 := by rw [Int.tmod_eq_emod_of_nonneg (by omega)]; omega
  have a400 : (Int.tmod (Y : Int) 400 = 0) ↔ Y % 400 = 0 := by rw [Int.tmod_eq_emod_of_nonneg (by omega)]; omega
  have hl := leap_iff Y
  have yes : Ev (fun k => posthornlaw06_last.j0 k true) 29 := Ev.last fun k => by rw [posthornlaw06_last.j0]; exact if_pos rfl
  have no : Ev (fun k => posthornlaw06_last.j0 k false) 28 := Ev.last fun k => by rw [posthornlaw06_last.j0]; exact if_neg (by decide)
  by_cases m2 : M = 2
  · subst m2
    refine Ev.congr (fun k => by rw [if_pos (by rfl)]) ?_
    show Ev _ (((if leapN Y = true then 29 else 28 : Nat)) : Int)
    by_cases h400 : Y % 400 = 0
    · rw [if_pos (hl.2 ⟨by omega, .inr h400⟩)]
      exact Ev.congr (fun k => by rw [if_pos (a400.2 h400)]) yes
    · by_cases h4 : Y % 4 = 0
      · by_cases h100 : Y % 100 = 0
        · rw [if_neg (fun h => by have := hl.1 h; omega)]
          exact Ev.congr (fun k => by rw [if_neg (fun h => h400 (a400.1 h)), if_pos (a4.2 h4), bne_eq_false_iff_eq.2 (a100.2 h100)]) no
        · rw [if_pos (hl.2 ⟨h4, .inl h100⟩)]
          exact Ev.congr (fun k => by rw [if_neg (fun h => h400 (a400.1 h)), if_pos (a4.2 h4), bne_iff_ne.2 (fun h => h100 (a100.1 h))]) yes
      · rw [if_neg (fun h => by have := hl.1 h; omega)]
        exact Ev.congr (fun k => by rw [if_neg (fun h => h400 (a400.1 h)), if_neg (fun h => h4 (a4.1 h))]) no
  by_cases m4 : M = 4
  · have hL : longN Y M = 30 := by unfold longN; rw [if_pos (by omega)]
    rw [hL]; exact Ev.val fun k => by rw [if_neg (by omega), if_pos (by omega)]; rfl
  by_cases m6 : M = 6
  · have hL : longN Y M = 30 := by unfold longN; rw [if_pos (by omega)]
    rw [hL]; exact Ev.val fun k => by rw [if_neg (by omega), if_neg (by omega), if_pos (by omega)]; rfl
  by_cases m9 : M = 9
  · have hL : longN Y M = 30 := by unfold longN; rw [if_pos (by omega)]
    rw [hL]; exact Ev.val fun k => by rw [if_neg (by omega), if_neg (by omega), if_neg (by omega), if_pos (by omega)]; rfl
  by_cases m11 : M = 11
  · have hL : longN Y M = 30 := by unfold longN; rw [if_pos (by omega)]
    rw [hL]; exact Ev.val fun k => by rw [if_neg (by omega), if_neg (by omega), if_neg (by omega), if_neg (by omega), if_pos (by omega)]; rfl
  have hL : longN Y M = 31 := by unfold longN; rw [if_neg (by omega), if_neg m2]
  rw [hL]
  exact Ev.val fun k => by rw [if_neg (by omega), if_neg (by omega), if_neg (by omega), if_neg (by omega), if_neg (by omega)]; rfl
theorem next_day {Y M D Y' M' D' : Nat} (v : Valid Y M D) (v' : Valid Y' M' D') (h : dn Y' M' D' = dn Y M D + 1) :
    (D < longN Y M ∧ Y' = Y ∧ M' = M ∧ D' = D + 1) ∨ (D = longN Y M ∧ M < 12 ∧ Y' = Y ∧ M' = M + 1 ∧ D' = 1) ∨ (D = 31 ∧ M = 12 ∧ D = longN Y M ∧ Y' = Y + 1 ∧ M' = 1 ∧ D' = 1) := by
  have hr := long_range Y M
  have hd := v.d2
  have hd1 := v.d1
  by_cases c1 : D < longN Y M
  · refine .inl ⟨c1, dn_inj v'.y1 v.y1 v'.m1 v'.m2 v'.d1 v'.d2 v.m1 v.m2 (by omega) (by omega) ?_⟩
    rw [h]; unfold dn; omega
  have e : D = longN Y M := by omega
  by_cases c2 : M < 12
  · have := long_range Y (M + 1)
    refine .inr (.inl ⟨e, c2, dn_inj v'.y1 v.y1 v'.m1 v'.m2 v'.d1 v'.d2 (by omega) (by omega) (by omega) (by omega) ?_⟩)
    rw [h]; unfold dn; rw [mb_succ Y M v.m1]; omega
  · have hm := v.m2
    obtain rfl : M = 12 := by omega
    have l12 : longN Y 12 = 31 := by rw [long_other Y 12 (by decide), if_neg (by decide)]
    refine .inr (.inr ⟨by omega, rfl, e, dn_inj v'.y1 (by have := v.y1; omega) v'.m1 v'.m2 v'.d1 v'.d2 (by omega) (by omega) (by omega) (by have := long_range (Y + 1) 1; omega) ?_⟩)
    have t := (mb_table Y).2.2.2.2.2.2.2.2.2.2.2
    rw [h]; unfold dn; rw [yb_succ Y v.y1, whole_lp, show mb (Y + 1) 1 = 0 from rfl]; omega
theorem tm (n : Int) : (n.tmod 3652058 < 0 ∧ n.tmod 3652058 + 3652058 = n % 3652058) ∨ (0 ≤ n.tmod 3652058 ∧ n.tmod 3652058 = n % 3652058) := by
  by_cases h : 0 ≤ n
  · rw [Int.tmod_eq_emod_of_nonneg h]; omega
  · obtain ⟨y, rfl⟩ : ∃ y, n = -y := ⟨-n, by omega⟩
    rw [Int.neg_tmod, Int.tmod_eq_emod_of_nonneg (by omega)]
    omega
theorem next_core (x : Int) (h0 : 0 ≤ x) (h1 : x ≤ 3652057) : Ev (fun k => posthornlaw06_DateNext.j0 k x) true := by
  obtain ⟨n, hn⟩ : ∃ n, x - 719162 = n := ⟨_, rfl⟩
  obtain ⟨Y, M, D, v, e1, eY, eM, eD⟩ := civ_of n (by omega) (by omega)
  obtain ⟨Y', M', D', v', e2, eY', eM', eD'⟩ := civ_of (n + 1) (by omega) (by omega)
  have c1 : date_Civil.f n = some ((Y : Int), (M : Int), (D : Int), 0) := by unfold date_Civil.f civV; rw [if_pos ⟨by omega, by omega⟩, if_neg (by omega), eY, eM, eD]
  have c2 : date_Civil.f (n + 1) = some ((Y' : Int), (M' : Int), (D' : Int), 0) := by unfold date_Civil.f civV; rw [if_pos ⟨by omega, by omega⟩, if_neg (by omega), eY', eM', eD']
  have hx := next_day v v' (by omega)
  have hl := last_ev Y M
  have hr := long_range Y M
  have y2 := v.y2
  have m2 := v.m2
  have d2 := v.d2
  have d1 := v.d1
  clear eY eM eD eY' eM' eD' e1 e2
  refine Ev.step (f := fun k => posthornlaw06_DateNext.j1 k n (Y : Int) (M : Int) (D : Int) (Y' : Int) (M' : Int) (D' : Int) false) (fun k => ?_) ?_
  · rw [posthornlaw06_DateNext.j0, wrap_id (x - 719162) (by omega) (by omega), hn, wrap_id (n + 1) (by omega) (by omega), c1, bind_some', c2, bind_some', if_pos rfl]
    rfl
  have hk := wk_range n
  refine Ev.step (f := fun k => posthornlaw06_DateNext.j2 k (Y : Int) (M : Int) (D : Int) (Y' : Int) (M' : Int) (D' : Int) false) (fun k => ?_) ?_
  · rw [posthornlaw06_DateNext.j1, if_neg (by decide), wrap_id (n + 1) (by omega) (by omega)]
    unfold date_Weekday.f
    rw [bind_some', bind_some', wrapi8' (wkV n + 1) (by omega) (by omega), Int.tmod_eq_emod_of_nonneg (by omega), if_pos (by unfold wkV; omega), bind_some', decide_eq_false (by omega)]
  refine Ev.step (f := fun k => (posthornlaw06_last.f k (Y : Int) (M : Int)).bind fun t113 => (if (D : Int) < t113 then (if (Y' : Int) = (Y : Int) then (if (M' : Int) = (M : Int) then (some ((D' : Int) == (IntKind.i8.wrap ((D : Int) + 1)))) else (some false)) else (some false)) else (if (M : Int) < 12 then ((posthornlaw06_last.f k (Y : Int) (M : Int)).bind fun t114 => (if (D : Int) = t114 then (if (Y' : Int) = (Y : Int) then (if (M' : Int) = (IntKind.i8.wrap ((M : Int) + 1)) then (some ((D' : Int) == 1)) else (some false)) else (some false)) else (some false))) else (if (D : Int) = 31 then (if (Y' : Int) = (IntKind.i16.wrap ((Y : Int) + 1)) then (if (M' : Int) = 1 then (some ((D' : Int) == 1)) else (some false)) else (some false)) else (some false))))) (fun k => by rw [posthornlaw06_DateNext.j2, if_neg (by decide)]) (Ev.bind hl ?_)
  rcases hx with ⟨a, rfl, rfl, rfl⟩ | ⟨a, b, rfl, rfl, rfl⟩ | ⟨a, b, c, rfl, rfl, rfl⟩
  · refine Ev.val fun k => ?_
    rw [if_pos (by omega), if_pos rfl, if_pos rfl, wrapi8' _ (by omega) (by omega), beq_iff_eq.2 (by omega)]
  · refine Ev.congr (fun k => by rw [if_neg (by omega), if_pos (by omega)]) (Ev.bind hl (Ev.val fun k => ?_))
    rw [if_pos (by omega), if_pos rfl, wrapi8' _ (by omega) (by omega), if_pos (by omega)]
    rfl
  · refine Ev.val fun k => ?_
    rw [if_neg (by omega), if_neg (by omega), if_pos (by omega), wrap16 _ (by omega) (by omega), if_pos (by omega), if_pos (by omega)]
    rfl
theorem DateNext : posthornlaw06_DateNext.Pure := by
  intro n hn
  have hn := wf_i64 hn
  have h : Ev (fun k => posthornlaw06_DateNext.f k n) true := by
    unfold posthornlaw06_DateNext.f
    refine Ev.congr (f := fun k => posthornlaw06_DateNext.j0 k (n % 3652058)) (fun k => ?_) (next_core _ (by omega) (by omega))
    unfold posthornlaw06_head.f
    rw [bind_some', if_pos rfl]
    rcases tm n with ⟨a, b⟩ | ⟨a, b⟩
    · rw [if_pos a, wrap_id _ (by omega) (by omega), b]
    · rw [if_neg (by omega), b]
  exact h.rounds
end Go.Proofs.YtnmhkmkaklhapaaDoor.Pure
