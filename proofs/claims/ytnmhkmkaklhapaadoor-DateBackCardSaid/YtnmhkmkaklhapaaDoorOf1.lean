/- What Of tells, in closed words. -/
import Derived.Test.YtnmhkmkaklhapaaDoorFact
import Derived.Test.YtnmhkmkaklhapaaDoorFX
namespace Go.Proofs.YtnmhkmkaklhapaaDoor.DP
set_option linter.unusedVariables false
set_option linter.unusedSimpArgs false
open Go.RowKit Go.Proofs.YtnmhkmkaklhapaaDoorW.PrintWords Go.Proofs.YtnmhkmkaklhapaaDoorW.PrintLast Go.Proofs.YtnmhkmkaklhapaaDoorW.PrintMore Go.Proofs.YtnmhkmkaklhapaaDoor.B Go.Proofs.YtnmhkmkaklhapaaDoor.F Go.Proofs.YtnmhkmkaklhapaaDoor.Cal Go.Proofs.YtnmhkmkaklhapaaDoor.Chk Go.Proofs.YtnmhkmkaklhapaaDoor.MN

def V8 : Type := Int × Int × Int × Int × Int × Int × Int × Int
def ofV (s z : Int) : Int × Int × Int × Int × Int × Int × Int × Int :=
  if z < -1439 ∨ z > 1439 then (0, 0, 0, 0, 0, 0, 0, 61) else
  if s + 60 * z < -62135596800 ∨ s + 60 * z > 253402300799 then (0, 0, 0, 0, 0, 0, 0, 5) else
  ((civV ((s + 60 * z) / 86400)).1, (civV ((s + 60 * z) / 86400)).2.1, (civV ((s + 60 * z) / 86400)).2.2.1, (s + 60 * z) % 86400 / 3600, (s + 60 * z) % 86400 / 60 % 60, (s + 60 * z) % 60, z, 0)
theorem tq (x : Int) : (x.tmod 86400 < 0 ∧ x.tdiv 86400 = x / 86400 + 1 ∧ x.tmod 86400 = x % 86400 - 86400) ∨ (0 ≤ x.tmod 86400 ∧ x.tdiv 86400 = x / 86400 ∧ x.tmod 86400 = x % 86400 ∧ x.tmod 60 = x % 60) := by
  by_cases h : 0 ≤ x
  · rw [Int.tdiv_eq_ediv_of_nonneg h, Int.tmod_eq_emod_of_nonneg h, Int.tmod_eq_emod_of_nonneg h]
    exact .inr ⟨by omega, rfl, rfl, rfl⟩
  · obtain ⟨y, rfl⟩ : ∃ y, x = -y := ⟨-x, by omega⟩
    rw [Int.neg_tdiv, Int.neg_tmod, Int.neg_tmod, Int.tdiv_eq_ediv_of_nonneg (by omega), Int.tmod_eq_emod_of_nonneg (by omega), Int.tmod_eq_emod_of_nonneg (by omega)]
    omega
theorem civ_in {n : Int} (h1 : -719162 ≤ n) (h2 : n ≤ 2932896) : (civV n).2.2.2 = 0 := by unfold civV; rw [if_neg (by omega)]
theorem small_words (r : Int) (h0 : 0 ≤ r) (h1 : r < 86400) : IntKind.i8.wrap (wrap64 (Int.tdiv r 3600)) = r / 3600 ∧ IntKind.i8.wrap (Int.tmod (wrap64 (Int.tdiv r 60)) 60) = r / 60 % 60 ∧ IntKind.i8.wrap (Int.tmod r 60) = r % 60 := by
  refine ⟨?_, ?_, ?_⟩
  · rw [Int.tdiv_eq_ediv_of_nonneg h0, wrap_id _ (by omega) (by omega), wrapi8' _ (by omega) (by omega)]
  · rw [Int.tdiv_eq_ediv_of_nonneg h0, wrap_id _ (by omega) (by omega), Int.tmod_eq_emod_of_nonneg (by omega), wrapi8' _ (by omega) (by omega)]
  · rw [Int.tmod_eq_emod_of_nonneg h0, wrapi8' _ (by omega) (by omega)]
theorem Of_ev (s z : Int) (hs : I64 s) (hz : I16 z) : Ev (fun k => date_Of.f k s z) (ofV s z) := by
  obtain ⟨hs1, hs2⟩ := hs
  obtain ⟨hz1, hz2⟩ := hz
  unfold date_Of.f ofV
  have no : Ev (fun k => date_Of.j0 k s z true) (0, 0, 0, 0, 0, 0, 0, 61) := Ev.last fun k => by rw [date_Of.j0]; exact if_pos rfl
  by_cases h1 : z < -1439
  · rw [if_pos (.inl h1)]; exact Ev.congr (fun k => by rw [if_pos h1]) no
  by_cases h2 : z > 1439
  · rw [if_pos (.inr h2)]; exact Ev.congr (fun k => by rw [if_neg h1, decide_eq_true h2]) no
  clear no
  rw [if_neg (by omega)]
  have wz : wrap64 z = z := wrap_id _ (by omega) (by omega)
  have wz2 : wrap64 (z * 60) = z * 60 := wrap_id _ (by omega) (by omega)
  have w1 : wrap64 (-62135596800 - z * 60) = -62135596800 - z * 60 := wrap_id _ (by omega) (by omega)
  have w2 : wrap64 (253402300799 - z * 60) = 253402300799 - z * 60 := wrap_id _ (by omega) (by omega)
  refine Ev.congr (f := fun k => date_Of.j0 k s z false) (fun k => by rw [if_neg h1, decide_eq_false h2]) ?_
  have no : Ev (fun k => date_Of.j1 k s z (z * 60) true) (0, 0, 0, 0, 0, 0, 0, 5) := Ev.last fun k => by rw [date_Of.j1]; exact if_pos rfl
  by_cases h3 : s + 60 * z < -62135596800
  · rw [if_pos (.inl h3)]
    exact Ev.step (fun k => by rw [date_Of.j0, if_neg (by decide), wz, wz2, w1, if_pos (by omega)]) no
  by_cases h4 : s + 60 * z > 253402300799
  · rw [if_pos (.inr h4)]
    exact Ev.step (fun k => by rw [date_Of.j0, if_neg (by decide), wz, wz2, w1, w2, if_neg (by omega), decide_eq_true (by omega)]) no
  clear no
  rw [if_neg (by omega)]
  refine Ev.step (f := fun k => date_Of.j1 k s z (z * 60) false) (fun k => by rw [date_Of.j0, if_neg (by decide), wz, wz2, w1, w2, if_neg (by omega), decide_eq_false (by omega)]) (Ev.last fun k => ?_)
  clear wz wz2 w1 w2
  have wl : wrap64 (s + z * 60) = s + 60 * z := by rw [wrap_id _ (by omega) (by omega)]; omega
  rw [date_Of.j1, if_neg (by decide), wl]
  clear wl
  generalize s + 60 * z = l at *
  have hq := tq l
  rcases hq with ⟨a, b, c⟩ | ⟨a, b, c, e⟩
  · rw [if_pos a, b, c]
    clear b c a
    have hd : 0 ≤ l % 86400 ∧ l % 86400 < 86400 := by omega
    obtain ⟨x1, x2, x3⟩ := small_words (l % 86400) hd.1 hd.2
    rw [wrap_id (l / 86400 + 1) (by omega) (by omega), wrap_id (l / 86400 + 1 - 1) (by omega) (by omega), wrap_id (l % 86400 - 86400 + 86400) (by omega) (by omega), show l % 86400 - 86400 + 86400 = l % 86400 from by omega, show l / 86400 + 1 - 1 = l / 86400 from by omega, x1, x2, x3]
    unfold date_Civil.f
    rw [if_pos ⟨by omega, by omega⟩, bind_some', civ_in (by omega) (by omega), show l % 86400 % 60 = l % 60 from by omega]
  · rw [if_neg (by omega), b, c, e]
    have hd : 0 ≤ l % 86400 ∧ l % 86400 < 86400 := by omega
    clear b c a e
    obtain ⟨x1, x2, x3⟩ := small_words (l % 86400) hd.1 hd.2
    rw [wrap_id (l / 86400) (by omega) (by omega), x1, x2, wrapi8' (l % 60) (by omega) (by omega)]
    unfold date_Civil.f
    rw [if_pos ⟨by omega, by omega⟩, bind_some', civ_in (by omega) (by omega)]
end Go.Proofs.YtnmhkmkaklhapaaDoor.DP
