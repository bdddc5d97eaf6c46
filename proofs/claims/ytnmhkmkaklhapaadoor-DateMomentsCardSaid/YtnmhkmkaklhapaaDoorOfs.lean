/- What Of of both sides tells, in closed words. -/
import Derived.Test.YtnmhkmkaklhapaaDoorFact
import Derived.Test.YtnmhkmkaklhapaaDoorH3
namespace Go.Proofs.YtnmhkmkaklhapaaDoor.DP
set_option linter.unusedVariables false
set_option linter.unusedSimpArgs false
open Go.RowKit Go.Proofs.YtnmhkmkaklhapaaDoorW.PrintWords Go.Proofs.YtnmhkmkaklhapaaDoorW.PrintLast Go.Proofs.YtnmhkmkaklhapaaDoorW.PrintMore Go.Proofs.YtnmhkmkaklhapaaDoor.B Go.Proofs.YtnmhkmkaklhapaaDoor.H Go.Proofs.YtnmhkmkaklhapaaDoor.Cal Go.Proofs.YtnmhkmkaklhapaaDoor.Chk Go.Proofs.YtnmhkmkaklhapaaDoor.MN

def V8 : Type := Int × Int × Int × Int × Int × Int × Int × Int
def ofV (s z : Int) : Int × Int × Int × Int × Int × Int × Int × Int :=
  if z < -1439 ∨ z > 1439 then (0, 0, 0, 0, 0, 0, 0, 61) else
  if s + 60 * z < -62135596800 ∨ s + 60 * z > 253402300799 then (0, 0, 0, 0, 0, 0, 0, 5) else
  ((civV ((s + 60 * z) / 86400)).1, (civV ((s + 60 * z) / 86400)).2.1, (civV ((s + 60 * z) / 86400)).2.2.1, (s + 60 * z) % 86400 / 3600, (s + 60 * z) % 86400 / 60 % 60, (s + 60 * z) % 60, z, 0)
theorem tq (x : Int) : (x.tmod 86400 < 0 ∧ x.tdiv 86400 = x / 86400 + 1 ∧ x.tmod 86400 = x % 86400 - 86400) ∨ (0 ≤ x.tmod 86400 ∧ x.tdiv 86400 = x / 86400 ∧ x.tmod 86400 = x % 86400 ∧ x.tmod 60 = x % 60) := by
  by_cases h : 0 ≤ x
  · rw [Int.tdiv_eq_ediv_of_nonneg h, Int.tmod_eq_emod_of_nonneg h, Int.tmod_eq_emod_of_nonneg h]
    exact .inr ⟨by omega, rfl, rfl, rfl⟩
  · obtain ⟨y, rfl⟩ : ∃ y, x = -y := ⟨-x, by omega⟩
    rw [Int.neg_tdiv, Int.neg_tmod, Int.neg_tmod, Int.tdiv_eq_ediv_of_nonneg (by omega), Int.tmod_eq_emod_of_nonneg (by omega), Int.tmod_eq_emod_of_nonneg (by omega)]
    omega
theorem civ_in {n : Int} (h1 : -719162 ≤ n) (h2 : n ≤ 2932896) : (civV n).2.2.2 = 0 := by unfold civV; rw [if_neg (by omega)]
theorem small_words (r : Int) (h0 : 0 ≤ r) (h1 : r < 86400) : IntKind.i8.wrap (wrap64 (Int.tdiv r 3600)) = r / 3600 ∧ IntKind.i8.wrap (Int.tmod (wrap64 (Int.tdiv r 60)) 60) = r / 60 % 60 ∧ IntKind.i8.wrap (Int.tmod r 60) = r % 60 := by
  refine ⟨?_, ?_, ?_⟩
  · rw [Int.tdiv_eq_ediv_of_nonneg h0, wrap_id _ (by omega) (by omega), wrapi8' _ (by omega) (by omega)]
  · rw [Int.tdiv_eq_ediv_of_nonneg h0, wrap_id _ (by omega) (by omega), Int.tmod_eq_emod_of_nonneg (by omega), wrapi8' _ (by omega) (by omega)]
  · rw [Int.tmod_eq_emod_of_nonneg h0, wrapi8' _ (by omega) (by omega)]
theorem Of_ev (s z : Int) (hs : I64 s) (hz : I16 z) : Ev (fun k => date_Of.f k s z) (ofV s z) := by
  obtain ⟨hs1, hs2⟩ := hs
  obtain ⟨hz1, hz2⟩ := hz
  unfold date_Of.f ofV
  have no : Ev (fun k => date_Of.j0 k s z true) (0, 0, 0, 0, 0, 0, 0, 61) := Ev.last fun k => by rw [date_Of.j0]; exact if_pos rfl
  by_cases h1 : z < -1439
  · rw [if_pos (.inl h1)]; exact Ev.congr (fun k => by rw [if_pos h1]) no
  by_cases h2 : z > 1439
  · rw [if_pos (.inr h2)]; exact Ev.congr (fun k => by rw [if_neg h1, decide_eq_true h2]) no
  clear no
  rw [if_neg (by omega)]
  have wz : wrap64 z = z := wrap_id _ (by omega) (by omega)
  have wz2 : wrap64 (z * 60) = z * 60 := wrap_id _ (by omega) (by omega)
  have w1 : wrap64 (-62135596800 - z * 60) = -62135596800 - z * 60 := wrap_id _ (by omega) (by omega)
  have w2 : wrap64 (253402300799 - z * 60) = 253402300799 - z * 60 := wrap_id _ (by omega) (by omega)
  refine Ev.congr (f := fun k => date_Of.j0 k s z false) (fun k => by rw [if_neg h1, decide_eq_false h2]) ?_
  have no : Ev (fun k => date_Of.j1 k s z (z * 60) true) (0, 0, 0, 0, 0, 0, 0, 5) := Ev.last fun k => by rw [date_Of.j1]; exact if_pos rfl
  by_cases h3 : s + 60 * z < -62135596800
  · rw [if_pos (.inl h3)]
    exact Ev.step (fun k => by rw [date_Of.j0, if_neg (by decide), wz, wz2, w1, if_pos (by omega)]) no
  by_cases h4 : s + 60 * z > 253402300799
  · rw [if_pos (.inr h4)]
    exact Ev.step (fun k => by rw [date_Of.j0, if_neg (by decide), wz, wz2, w1, w2, if_neg (by omega), decide_eq_true (by omega)]) no
  clear no
  rw [if_neg (by omega)]
  refine Ev.step (f := fun k => date_Of.j1 k s z (z * 60) false) (fun k => by rw [date_Of.j0, if_neg (by decide), wz, wz2, w1, w2, if_neg (by omega), decide_eq_false (by omega)]) (Ev.last fun k => ?_)
  clear wz wz2 w1 w2
  have wl : wrap64 (s + z * 60) = s + 60 * z := by rw [wrap_id _ (by omega) (by omega)]; omega
  rw [date_Of.j1, if_neg (by decide), wl]
  clear wl
  generalize s + 60 * z = l at *
  have hq := tq l
  rcases hq with ⟨a, b, c⟩ | ⟨a, b, c, e⟩
  · rw [if_pos a, b, c]
    clear b c a
    have hd : 0 ≤ l % 86400 ∧ l % 86400 < 86400 := by omega
    obtain ⟨x1, x2, x3⟩ := small_words (l % 86400) hd.1 hd.2
    rw [wrap_id (l / 86400 + 1) (by omega) (by omega), wrap_id (l / 86400 + 1 - 1) (by omega) (by omega), wrap_id (l % 86400 - 86400 + 86400) (by omega) (by omega), show l % 86400 - 86400 + 86400 = l % 86400 from by omega, show l / 86400 + 1 - 1 = l / 86400 from by omega, x1, x2, x3]
    unfold date_Civil.f
    rw [if_pos ⟨by omega, by omega⟩, bind_some', civ_in (by omega) (by omega), show l % 86400 % 60 = l % 60 from by omega]
  · rw [if_neg (by omega), b, c, e]
    have hd : 0 ≤ l % 86400 ∧ l % 86400 < 86400 := by omega
    clear b c a e
    obtain ⟨x1, x2, x3⟩ := small_words (l % 86400) hd.1 hd.2
    rw [wrap_id (l / 86400) (by omega) (by omega), x1, x2, wrapi8' (l % 60) (by omega) (by omega)]
    unfold date_Civil.f
    rw [if_pos ⟨by omega, by omega⟩, bind_some', civ_in (by omega) (by omega)]
theorem refOf_l0 (z n r : Int) (hr : 0 ≤ r) (hr2 : r ≤ 253402500000) (hn : -800000 ≤ n) (hn2 : n ≤ 3000000) : Ev (fun k => posthornref06_Of.l0 k z n r) (if n + r / 86400 < -719162 ∨ n + r / 86400 > 2932896 then (0, 0, 0, 0, 0, 0, 0, 5) else ((civV (n + r / 86400)).1, (civV (n + r / 86400)).2.1, (civV (n + r / 86400)).2.2.1, r % 86400 / 3600, r % 86400 / 60 % 60, r % 60, z, 0)) := by
  refine Ev.last fun k => ?_
  have hd : 0 ≤ r % 86400 ∧ r % 86400 < 86400 := by omega
  obtain ⟨x1, x2, x3⟩ := small_words (r % 86400) hd.1 hd.2
  rw [posthornref06_Of.l0, if_neg (by omega), Int.tdiv_eq_ediv_of_nonneg hr, wrap_id (r / 86400) (by omega) (by omega), wrap_id (n + r / 86400) (by omega) (by omega), Int.tmod_eq_emod_of_nonneg hr, Int.tmod_eq_emod_of_nonneg hr, x1, x2, wrapi8' (r % 60) (by omega) (by omega)]
  unfold posthornref06_Civil.f
  rw [bind_some']
  by_cases h : n + r / 86400 < -719162 ∨ n + r / 86400 > 2932896
  · rw [if_pos h, if_neg (by unfold civV; rw [if_pos h]; decide)]
  · rw [if_neg h, if_pos (civ_in (by omega) (by omega))]
theorem refOf_ev (s z : Int) (hs : I64 s) (hz : I16 z) : Ev (fun k => posthornref06_Of.f k s z) (ofV s z) := by
  obtain ⟨hs1, hs2⟩ := hs
  obtain ⟨hz1, hz2⟩ := hz
  unfold posthornref06_Of.f ofV
  have no : Ev (fun k => posthornref06_Of.j0 k s z true) (0, 0, 0, 0, 0, 0, 0, 61) := Ev.last fun k => by rw [posthornref06_Of.j0]; exact if_pos rfl
  by_cases h1 : z < -1439
  · rw [if_pos (.inl h1)]; exact Ev.congr (fun k => by rw [if_pos h1]) no
  by_cases h2 : z > 1439
  · rw [if_pos (.inr h2)]; exact Ev.congr (fun k => by rw [if_neg h1, decide_eq_true h2]) no
  clear no
  rw [if_neg (by omega)]
  refine Ev.congr (f := fun k => posthornref06_Of.j0 k s z false) (fun k => by rw [if_neg h1, decide_eq_false h2]) ?_
  have no : Ev (fun k => posthornref06_Of.j1 k s z true) (0, 0, 0, 0, 0, 0, 0, 5) := Ev.last fun k => by rw [posthornref06_Of.j1]; exact if_pos rfl
  by_cases h3 : s < -62135683200
  · rw [if_pos (.inl (by omega))]
    exact Ev.step (fun k => by rw [posthornref06_Of.j0, if_neg (by decide), if_pos h3]) no
  by_cases h4 : s > 253402387200
  · rw [if_pos (.inr (by omega))]
    exact Ev.step (fun k => by rw [posthornref06_Of.j0, if_neg (by decide), if_neg h3, decide_eq_true h4]) no
  clear no
  refine Ev.step (f := fun k => posthornref06_Of.j1 k s z false) (fun k => by rw [posthornref06_Of.j0, if_neg (by decide), if_neg h3, decide_eq_false h4]) ?_
  refine Ev.step (f := fun k => posthornref06_Of.l0 k z 0 (s + 60 * z)) (fun k => ?_) ?_
  · rw [posthornref06_Of.j1, if_neg (by decide), wrap_id z (by omega) (by omega), wrap_id (60 * z) (by omega) (by omega), wrap_id (s + 60 * z) (by omega) (by omega)]
  generalize hl : s + 60 * z = l at *
  have b1 : -62135769600 ≤ l ∧ l ≤ 253402473600 := by omega
  clear hl h3 h4 hs1 hs2
  by_cases h0 : l < 0
  · have key := refOf_l0 z (l / 86400) (l % 86400) (by omega) (by omega) (by omega) (by omega)
    rw [show l / 86400 + l % 86400 / 86400 = l / 86400 from by omega, show l % 86400 % 86400 = l % 86400 from by omega, show l % 86400 % 60 = l % 60 from by omega] at key
    have e : (if l / 86400 < -719162 ∨ l / 86400 > 2932896 then ((0 : Int), (0 : Int), (0 : Int), (0 : Int), (0 : Int), (0 : Int), (0 : Int), (5 : Int)) else ((civV (l / 86400)).1, (civV (l / 86400)).2.1, (civV (l / 86400)).2.2.1, l % 86400 / 3600, l % 86400 / 60 % 60, l % 60, z, 0)) = (if l < -62135596800 ∨ l > 253402300799 then (0, 0, 0, 0, 0, 0, 0, 5) else ((civV (l / 86400)).1, (civV (l / 86400)).2.1, (civV (l / 86400)).2.2.1, l % 86400 / 3600, l % 86400 / 60 % 60, l % 60, z, 0)) := by
      by_cases hc : l < -62135596800 ∨ l > 253402300799
      · rw [if_pos hc, if_pos (by omega)]
      · rw [if_neg hc, if_neg (by omega)]
    rw [e] at key
    refine Ev.step (fun k => ?_) key
    rw [posthornref06_Of.l0, if_pos h0, wrap_id (-l) (by omega) (by omega), wrap_id (-l + 86399) (by omega) (by omega), Int.tdiv_eq_ediv_of_nonneg (by omega), wrap_id ((-l + 86399) / 86400) (by omega) (by omega), wrap_id (86400 * ((-l + 86399) / 86400)) (by omega) (by omega), wrap_id (0 - (-l + 86399) / 86400) (by omega) (by omega), wrap_id (l + 86400 * ((-l + 86399) / 86400)) (by omega) (by omega), show 0 - (-l + 86399) / 86400 = l / 86400 from by omega, show l + 86400 * ((-l + 86399) / 86400) = l % 86400 from by omega]
  · have key := refOf_l0 z 0 l (by omega) (by omega) (by omega) (by omega)
    rw [Int.zero_add] at key
    have e : (if l / 86400 < -719162 ∨ l / 86400 > 2932896 then ((0 : Int), (0 : Int), (0 : Int), (0 : Int), (0 : Int), (0 : Int), (0 : Int), (5 : Int)) else ((civV (l / 86400)).1, (civV (l / 86400)).2.1, (civV (l / 86400)).2.2.1, l % 86400 / 3600, l % 86400 / 60 % 60, l % 60, z, 0)) = (if l < -62135596800 ∨ l > 253402300799 then (0, 0, 0, 0, 0, 0, 0, 5) else ((civV (l / 86400)).1, (civV (l / 86400)).2.1, (civV (l / 86400)).2.2.1, l % 86400 / 3600, l % 86400 / 60 % 60, l % 60, z, 0)) := by
      by_cases hc : l < -62135596800 ∨ l > 253402300799
      · rw [if_pos hc, if_pos (by omega)]
      · rw [if_neg hc, if_neg (by omega)]
    rw [e] at key
    exact key

end Go.Proofs.YtnmhkmkaklhapaaDoor.DP
