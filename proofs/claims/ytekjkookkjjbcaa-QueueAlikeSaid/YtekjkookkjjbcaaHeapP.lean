/- Binary heaps of lists: the plain law. -/
import Derived.Test.YtekjkookkjjbcaaBase
set_option linter.unusedVariables false
namespace Go.Proofs.Ytekjkookkjjbcaa.HeapP
set_option linter.unusedVariables false
set_option linter.unusedSimpArgs false
variable {α : Type} (le : α → α → Prop) (d : α)
abbrev at_ (d : α) (xs : List α) (i : Nat) : α := xs.getD i d
def swp (d : α) (xs : List α) (i k : Nat) : List α := (xs.set i (xs.getD k d)).set k (xs.getD i d)
theorem swp_len (xs : List α) (i k : Nat) : (swp d xs i k).length = xs.length := by simp [swp]
theorem swp_at (xs : List α) (i k j : Nat) (hi : i < xs.length) (hk : k < xs.length) : (swp d xs i k).getD j d = if j = k then xs.getD i d else if j = i then xs.getD k d else xs.getD j d := by
  unfold swp
  simp only [List.getD_eq_getElem?_getD, List.getElem?_set]
  by_cases h1 : j = k
  · subst h1
    simp [hk]
  · have h1' : ¬ k = j := fun e => h1 e.symm
    by_cases h2 : j = i
    · subst h2
      simp [h1, h1', hi]
    · have h2' : ¬ i = j := fun e => h2 e.symm
      simp [h1, h1', h2, h2']
theorem swp_perm (xs : List α) (i k : Nat) (hi : i < xs.length) (hk : k < xs.length) : (swp d xs i k).Perm xs := by
  unfold swp
  have e1 : xs.getD k d = xs[k] := by simp [List.getD_eq_getElem?_getD, hk]
  have e2 : xs.getD i d = xs[i] := by simp [List.getD_eq_getElem?_getD, hi]
  rw [e1, e2]
  exact List.set_set_perm hi hk
def IsHeap (xs : List α) : Prop := ∀ j, 0 < j → j < xs.length → le (xs.getD ((j - 1) / 2) d) (xs.getD j d)
structure UpInv (xs : List α) (i : Nat) : Prop where
  lt : i < xs.length
  h : ∀ j, 0 < j → j < xs.length → j ≠ i → le (xs.getD ((j - 1) / 2) d) (xs.getD j d)
  c : ∀ j, 0 < j → j < xs.length → (j - 1) / 2 = i → 0 < i → le (xs.getD ((i - 1) / 2) d) (xs.getD j d)
theorem up_start (xs : List α) (x : α) (h : IsHeap le d xs) : UpInv le d (xs ++ [x]) xs.length := by
  have hg : ∀ j, j < xs.length → (xs ++ [x]).getD j d = xs.getD j d := fun j hj => by
    simp only [List.getD_eq_getElem?_getD]
    rw [List.getElem?_append_left hj]
  refine ⟨by simp, fun j h0 hj hne => ?_, fun j h0 hj he _ => ?_⟩
  · rw [List.length_append] at hj
    have hj' : j < xs.length := by simp at hj; omega
    rw [hg j hj', hg _ (by omega)]
    exact h j h0 hj'
  · simp at hj
    omega
theorem up_done {xs : List α} {i : Nat} (h : UpInv le d xs i) (hd : i = 0 ∨ le (xs.getD ((i - 1) / 2) d) (xs.getD i d)) : IsHeap le d xs := by
  intro j h0 hj
  by_cases e : j = i
  · subst e
    rcases hd with hd | hd
    · omega
    · exact hd
  · exact h.h j h0 hj e
theorem up_step (tr : ∀ a b c, le a b → le b c → le a c) {xs : List α} {i : Nat} (h : UpInv le d xs i) (h0 : 0 < i) (hl : le (xs.getD i d) (xs.getD ((i - 1) / 2) d)) : UpInv le d (swp d xs i ((i - 1) / 2)) ((i - 1) / 2) := by
  have hi := h.lt
  have hp : (i - 1) / 2 < xs.length := by omega
  have hA := fun j => swp_at d xs i ((i - 1) / 2) j hi hp
  refine ⟨by rw [swp_len]; exact hp, fun j h1 hj hne => ?_, fun j h1 hj he hpos => ?_⟩
  · rw [swp_len] at hj
    rw [hA, hA]
    by_cases e1 : j = i
    · subst e1
      rw [if_pos rfl, if_neg (by omega), if_pos rfl]
      exact hl
    · rw [if_neg hne, if_neg e1]
      by_cases e2 : (j - 1) / 2 = (i - 1) / 2
      · rw [if_pos e2]
        have := h.h j h1 hj e1
        rw [e2] at this
        exact tr _ _ _ hl this
      · rw [if_neg e2]
        by_cases e3 : (j - 1) / 2 = i
        · rw [if_pos e3]
          exact h.c j h1 hj e3 h0
        · rw [if_neg e3]
          exact h.h j h1 hj e1
  · rw [swp_len] at hj
    rw [hA, hA]
    have hq : ((i - 1) / 2 - 1) / 2 < (i - 1) / 2 := by omega
    rw [if_neg (by omega), if_neg (by omega), if_neg (by omega)]
    have hpp := h.h ((i - 1) / 2) hpos hp (by omega)
    by_cases e1 : j = i
    · rw [if_pos e1]
      exact hpp
    · rw [if_neg e1]
      have := h.h j h1 hj e1
      rw [he] at this
      exact tr _ _ _ hpp this
structure DownInv (xs : List α) (i : Nat) : Prop where
  h : ∀ j, 0 < j → j < xs.length → (j - 1) / 2 ≠ i → le (xs.getD ((j - 1) / 2) d) (xs.getD j d)
  c : ∀ j, 0 < j → j < xs.length → (j - 1) / 2 = i → 0 < i → le (xs.getD ((i - 1) / 2) d) (xs.getD j d)
theorem down_done {xs : List α} {i : Nat} (h : DownInv le d xs i) (hd : ∀ k, 2 * i + 1 ≤ k → k ≤ 2 * i + 2 → k < xs.length → le (xs.getD i d) (xs.getD k d)) : IsHeap le d xs := by
  intro j h0 hj
  by_cases e : (j - 1) / 2 = i
  · rw [e]
    exact hd j (by omega) (by omega) hj
  · exact h.h j h0 hj e
theorem down_step (tr : ∀ a b c, le a b → le b c → le a c) {xs : List α} {i m : Nat} (h : DownInv le d xs i) (hi : i < xs.length) (hm : m < xs.length) (hc : m = 2 * i + 1 ∨ m = 2 * i + 2) (hl : le (xs.getD m d) (xs.getD i d)) (hd : ∀ k, 2 * i + 1 ≤ k → k ≤ 2 * i + 2 → k < xs.length → le (xs.getD m d) (xs.getD k d)) : DownInv le d (swp d xs i m) m := by
  have hA := fun j => swp_at d xs i m j hi hm
  refine ⟨fun j h1 hj hne => ?_, fun j h1 hj he hpos => ?_⟩
  · rw [swp_len] at hj
    rw [hA, hA]
    by_cases e1 : (j - 1) / 2 = i
    · rw [if_neg hne, if_pos e1]
      by_cases e2 : j = m
      · rw [if_pos e2]
        exact hl
      · rw [if_neg e2, if_neg (by omega)]
        exact hd j (by omega) (by omega) hj
    · rw [if_neg hne, if_neg e1, if_neg (by omega)]
      by_cases e2 : j = i
      · rw [if_pos e2]
        subst e2
        exact h.c m (by omega) hm (by omega) h1
      · rw [if_neg e2]
        exact h.h j h1 hj e1
  · rw [swp_len] at hj
    have hmi : (m - 1) / 2 = i := by omega
    rw [hA, hA, hmi, if_neg (by omega), if_pos rfl, if_neg (by omega), if_neg (by omega)]
    have := h.h j h1 hj (by omega)
    rw [he] at this
    exact this
theorem heap_least (tr : ∀ a b c, le a b → le b c → le a c) (rf : ∀ a, le a a) {xs : List α} (h : IsHeap le d xs) : ∀ j, j < xs.length → le (xs.getD 0 d) (xs.getD j d) := by
  intro j
  induction j using Nat.strongRecOn with
  | ind j ih =>
    intro hj
    by_cases h0 : j = 0
    · subst h0
      exact rf _
    · exact tr _ _ _ (ih ((j - 1) / 2) (by omega) (by omega)) (h j (by omega) hj)
/-- What is left when the first one has gone to the last one's place and that is cut off. -/
theorem down_start {xs : List α} (h : IsHeap le d xs) (h0 : 0 < xs.length) : DownInv le d ((swp d xs 0 (xs.length - 1)).take (xs.length - 1)) 0 := by
  have hA := fun j => swp_at d xs 0 (xs.length - 1) j h0 (by omega)
  have hl : ((swp d xs 0 (xs.length - 1)).take (xs.length - 1)).length = xs.length - 1 := by rw [List.length_take, swp_len]; omega
  have hg : ∀ j, j < xs.length - 1 → ((swp d xs 0 (xs.length - 1)).take (xs.length - 1)).getD j d = (swp d xs 0 (xs.length - 1)).getD j d := fun j hj => by
    simp only [List.getD_eq_getElem?_getD, List.getElem?_take, if_pos hj]
  refine ⟨fun j h1 hj hne => ?_, fun j h1 hj he hp => by omega⟩
  rw [hl] at hj
  rw [hg _ hj, hg _ (by omega), hA, hA, if_neg (by omega), if_neg (by omega), if_neg (by omega), if_neg (by omega)]
  exact h j h1 (by omega)
theorem take_swp_perm {xs : List α} (h0 : 0 < xs.length) : (xs.getD 0 d :: (swp d xs 0 (xs.length - 1)).take (xs.length - 1)).Perm xs := by
  have hp := swp_perm d xs 0 (xs.length - 1) h0 (by omega)
  have hl := swp_len d xs 0 (xs.length - 1)
  have e : swp d xs 0 (xs.length - 1) = (swp d xs 0 (xs.length - 1)).take (xs.length - 1) ++ [xs.getD 0 d] := by
    have h1 : (swp d xs 0 (xs.length - 1)).drop (xs.length - 1) = [xs.getD 0 d] := by
      have h2 : xs.length - 1 < (swp d xs 0 (xs.length - 1)).length := by omega
      rw [List.drop_eq_getElem_cons h2, List.drop_of_length_le (by omega)]
      have h3 := swp_at d xs 0 (xs.length - 1) (xs.length - 1) h0 (by omega)
      rw [if_pos rfl, List.getD_eq_getElem?_getD, List.getElem?_eq_getElem h2, Option.getD_some] at h3
      rw [h3]
    have h4 := List.take_append_drop (xs.length - 1) (swp d xs 0 (xs.length - 1))
    rw [h1] at h4
    exact h4.symm
  have h5 : (xs.getD 0 d :: (swp d xs 0 (xs.length - 1)).take (xs.length - 1)).Perm ((swp d xs 0 (xs.length - 1)).take (xs.length - 1) ++ [xs.getD 0 d]) := List.perm_append_comm (l₁ := [xs.getD 0 d])
  rw [← e] at h5
  exact h5.trans hp
end Go.Proofs.Ytekjkookkjjbcaa.HeapP
