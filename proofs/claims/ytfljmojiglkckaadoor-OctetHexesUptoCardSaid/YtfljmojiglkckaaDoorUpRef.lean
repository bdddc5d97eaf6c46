/- What the reference's Upper and Same come to. -/
import Derived.Test.YtfljmojiglkckaaDoorUp
import Derived.Test.YtfljmojiglkckaaDoorG6
namespace Go.Proofs.YtfljmojiglkckaaDoor.U
set_option linter.unusedVariables false
set_option linter.unusedSimpArgs false
open Go.RowKit Go.Proofs.YtfljmojiglkckaaDoorW.PrintWords Go.Proofs.YtfljmojiglkckaaDoor.B Go.Proofs.YtfljmojiglkckaaDoor.G

def smallsT : ByteArray := ⟨#[97, 98, 99, 100, 101, 102, 103, 104, 105, 106, 107, 108, 109, 110, 111, 112, 113, 114, 115, 116, 117, 118, 119, 120, 121, 122]⟩
def capitalsT : ByteArray := ⟨#[65, 66, 67, 68, 69, 70, 71, 72, 73, 74, 75, 76, 77, 78, 79, 80, 81, 82, 83, 84, 85, 86, 87, 88, 89, 90]⟩
theorem smalls_at : ∀ j : Nat, j < 26 → bt smallsT (j : Int) = 97 + j := by decide
theorem capitals_at : ∀ j : Nat, j < 26 → bt capitalsT (j : Int) = 65 + j := by decide

theorem refUpper_in (s : ByteArray) (hs : s.size ≤ 140737488351232) (i : Nat) (hi : i < s.size) (xs : List Int) (hx : xs.length < 140737488355328) (r : ByteArray) (d : Nat) :
    ∀ (j : Nat) (b : Int), j ≤ 26 → 26 - j = d → (b = if 97 ≤ bt s (i : Int) ∧ bt s (i : Int) < 97 + j then bt s (i : Int) - 32 else bt s (i : Int)) →
    Ev (fun k => posthornref01_Upper.l0 k s (xs ++ [up (bt s (i : Int))]) ((i + 1 : Nat) : Int)) r →
    Ev (fun k => posthornref01_Upper.l1 k s xs (i : Int) b (j : Int)) r := by
  induction d with
  | zero =>
    intro j b hj hd hb hr
    obtain rfl : j = 26 := by omega
    refine Ev.round (f := fun k => posthornref01_Upper.l0 k s (xs ++ [up (bt s (i : Int))]) ((i + 1 : Nat) : Int)) (fun k => ?_) hr
    simp only [posthornref01_Upper.l1]
    rw [if_neg (by omega), if_pos hx, wrap_id _ (by omega) (by omega)]
    have : b = up (bt s (i : Int)) := by
      rw [hb]; unfold up
      by_cases h : 97 ≤ bt s (i : Int) ∧ bt s (i : Int) ≤ 122
      · rw [if_pos h, if_pos (by omega)]
      · rw [if_neg h, if_neg (by omega)]
    rw [this]
    rfl
  | succ d ih =>
    intro j b hj hd hb hr
    have hs1 : bt smallsT (j : Int) = 97 + j := smalls_at j (by omega)
    have hc1 : bt capitalsT (j : Int) = 65 + j := capitals_at j (by omega)
    unfold smallsT at hs1
    unfold capitalsT at hc1
    by_cases hc : bt s (i : Int) = 97 + j
    · have key := ih (j + 1) (65 + j) (by omega) (by omega) (by rw [if_pos (by omega)]; omega) hr
      refine Ev.round (f := fun k => posthornref01_Upper.l1 k s xs (i : Int) (65 + j) ((j + 1 : Nat) : Int)) (fun k => ?_) key
      simp only [posthornref01_Upper.l1]
      rw [if_pos (by omega), if_pos (by omega), if_pos (by omega), if_pos (by omega), hs1, if_pos (by omega), hc1, wrap_id _ (by omega) (by omega)]
      rfl
    · have key := ih (j + 1) b (by omega) (by omega) (by rw [hb]; by_cases h : 97 ≤ bt s (i : Int) ∧ bt s (i : Int) < 97 + (j : Int); (rw [if_pos h, if_pos (by omega)]); (rw [if_neg h, if_neg (by omega)])) hr
      refine Ev.round (f := fun k => posthornref01_Upper.l1 k s xs (i : Int) b ((j + 1 : Nat) : Int)) (fun k => ?_) key
      simp only [posthornref01_Upper.l1]
      rw [if_pos (by omega), if_pos (by omega), if_pos (by omega), if_pos (by omega), hs1, if_neg (by omega), wrap_id _ (by omega) (by omega)]
      rfl

theorem refUpper_loop (s : ByteArray) (hs : s.size ≤ 140737488351232) (d : Nat) : ∀ (i : Nat), i ≤ s.size → s.size - i = d →
    Ev (fun k => posthornref01_Upper.l0 k s ((upL (bytesOf s)).take i) (i : Int)) (upS s) := by
  induction d with
  | zero =>
    intro i h1 hd
    obtain rfl : i = s.size := by omega
    refine Ev.last fun k => ?_
    simp only [posthornref01_Upper.l0]
    rw [if_neg (by omega), List.take_of_length_le (by rw [upL_len, bytesOf_len]; exact Nat.le_refl _)]
    rfl
  | succ d ih =>
    intro i h1 hd
    have hlt : i < s.size := by omega
    have hb : i < (bytesOf s).length := by rw [bytesOf_len]; exact hlt
    have hu : i < (upL (bytesOf s)).length := by rw [upL_len]; exact hb
    have e1 : (upL (bytesOf s))[i] = up (bt s (i : Int)) := by rw [bt_bytes s i hb]; simp [upL]
    have key := ih (i + 1) (by omega) (by omega)
    rw [take_snoc _ i hu, e1] at key
    have key2 := refUpper_in s hs i hlt ((upL (bytesOf s)).take i) (by rw [List.length_take]; omega) (upS s) 26 0 (bt s (i : Int)) (by omega) (by omega) (by rw [if_neg (by omega)]) key
    refine Ev.round (fun k => ?_) key2
    simp only [posthornref01_Upper.l0]
    rw [if_pos (by omega), if_pos (by omega)]
    rfl

theorem refUpper_ev (s : ByteArray) (hs : s.size ≤ 140737488351232) : Ev (fun k => posthornref01_Upper.f k s) (upS s) := by
  have := refUpper_loop s hs s.size 0 (by omega) (by omega)
  simp only [List.take_zero] at this
  exact this

theorem upS_eq {s t : ByteArray} : upS s = upS t ↔ upL (bytesOf s) = upL (bytesOf t) :=
  ⟨fun h => by rw [← upS_bytes, ← upS_bytes, h], fun h => by unfold upS; rw [h]⟩

theorem refSame_ev (s t : ByteArray) (hs : s.size ≤ 140737488351232) (ht : t.size ≤ 140737488351232) : Ev (fun k => posthornref01_Same.f k s t) (sameB s t) := by
  unfold posthornref01_Same.f
  refine Ev.bind (refUpper_ev s hs) (Ev.bind (refUpper_ev t ht) (Ev.val fun k => ?_))
  rw [beq_toList]
  unfold sameB
  congr 1
  exact decide_eq_decide.2 upS_eq

end Go.Proofs.YtfljmojiglkckaaDoor.U
