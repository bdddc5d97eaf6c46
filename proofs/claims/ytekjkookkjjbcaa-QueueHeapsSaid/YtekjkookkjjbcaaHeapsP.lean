/- QueueHeaps: the reference's least is the heap's. -/
import Derived.Test.YtekjkookkjjbcaaHeapsT
namespace Go.Proofs.Ytekjkookkjjbcaa.HT
set_option linter.unusedVariables false
set_option linter.unusedSimpArgs false
set_option linter.unusedVariables false
set_option linter.unusedSimpArgs false
open Go.RowKit Go.Proofs.YtekjkookkjjbcaaW.PrintWords Go.Proofs.Ytekjkookkjjbcaa.HW Go.Proofs.Ytekjkookkjjbcaa.RH
theorem key_le (y z : T3) : leW kcmp y z ↔ (y.1 < z.1 ∨ (y.1 = z.1 ∧ y.2.2 ≤ z.2.2)) := by
  unfold leW aheadB kcmp
  by_cases h1 : z.1 < y.1
  · simp [h1]; omega
  · by_cases h2 : y.1 < z.1
    · simp [h1, h2]
    · simp [h1, h2]; omega
theorem getD_map_th (ps : List T3) (j : Nat) (hj : j < ps.length) : (ps.map th).getD j d2 = th ps[j] := by
  rw [List.getD_eq_getElem?_getD, List.getElem?_map, List.getElem?_eq_getElem hj]
  rfl
theorem least_at {ps : List T3} {x : T3} {m : Nat} (hs : ps.Pairwise (fun y z => y.2.2 < z.2.2)) (hx : Least kcmp ps x) (hm : IsLeast (ps.map th) ps.length m) : ∃ h : m < ps.length, ps[m] = x := by
  obtain ⟨h1, h2, h3⟩ := hm
  refine ⟨h1, ?_⟩
  obtain ⟨p, hp, rfl⟩ := List.mem_iff_getElem.1 hx.1
  have a1 := h2 p hp
  rw [getD_map_th ps m h1, getD_map_th ps p hp] at a1
  have a2 := (key_le _ _).1 (hx.2 ps[m] (List.getElem_mem h1))
  rcases Nat.lt_trichotomy p m with h | h | h
  · have a3 := h3 p h
    rw [getD_map_th ps m h1, getD_map_th ps p hp] at a3
    simp only [th] at a3
    omega
  · subst h; rfl
  · have a4 := List.pairwise_iff_getElem.1 hs m p h1 hp h
    simp only [th] at a1
    omega
theorem least_get {ps : List T3} {x : T3} {m : Nat} (hs : ps.Pairwise (fun y z => y.2.2 < z.2.2)) (hx : Least kcmp ps x) (hm : IsLeast (ps.map th) (ps.map th).length m) : (ps.map th).getD m d2 = th x := by
  rw [List.length_map] at hm
  obtain ⟨h, e⟩ := least_at hs hx hm
  rw [getD_map_th ps m h, e]
theorem least_cut {ps : List T3} {x : T3} {m : Nat} (hs : ps.Pairwise (fun y z => y.2.2 < z.2.2)) (hx : Least kcmp ps x) (hm : IsLeast (ps.map th) (ps.map th).length m) : (ps.map th).take m ++ (ps.map th).drop (m + 1) = (ps.erase x).map th := by
  rw [List.length_map] at hm
  obtain ⟨h, e⟩ := least_at hs hx hm
  have hnd : ps.Nodup := hs.imp (fun {a b} hab e => by rw [e] at hab; exact absurd hab (Int.lt_irrefl _))
  have hd : ps = ps.take m ++ x :: ps.drop (m + 1) := by
    conv => lhs; rw [← List.take_append_drop m ps, List.drop_eq_getElem_cons h, e]
  have hni : x ∉ ps.take m := by
    intro hin
    rw [hd] at hnd
    exact (List.nodup_append.1 hnd).2.2 x hin x List.mem_cons_self rfl
  have he : ps.erase x = ps.take m ++ ps.drop (m + 1) := by
    conv => lhs; rw [hd]
    rw [List.erase_append_right _ hni, List.erase_cons_head]
  rw [he, List.map_append, List.map_take, List.map_drop]
end Go.Proofs.Ytekjkookkjjbcaa.HT
