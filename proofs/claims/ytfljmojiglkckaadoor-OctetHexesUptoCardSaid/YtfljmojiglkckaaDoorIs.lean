/- The reference's Is tells what octet.Is tells, of every byte. -/
import Derived.Test.YtfljmojiglkckaaDoorBase
import Derived.Test.YtfljmojiglkckaaDoorGlob
import Derived.Test.YtfljmojiglkckaaDoorG2
namespace Go.Proofs.YtfljmojiglkckaaDoor.I
set_option linter.unusedVariables false
set_option linter.unusedSimpArgs false
open Go.RowKit Go.Proofs.YtfljmojiglkckaaDoorW.PrintWords Go.Proofs.YtfljmojiglkckaaDoor.B Go.Proofs.YtfljmojiglkckaaDoor.Glob Go.Proofs.YtfljmojiglkckaaDoor.G

theorem Has_loop (s : ByteArray) (b : Int) (hs : s.size ≤ 140737488351232) (d : Nat) : ∀ i : Nat, i ≤ s.size → s.size - i = d →
    Ev (fun k => posthornref01_Has.l0 k s b (i : Int)) (((bytesOf s).drop i).contains b) := by
  induction d with
  | zero =>
    intro i h1 hd
    obtain rfl : i = s.size := by omega
    refine Ev.last fun k => ?_
    simp only [posthornref01_Has.l0]
    rw [if_neg (by omega), List.drop_eq_nil_of_le (by rw [bytesOf_len]; exact Nat.le_refl _)]
    rfl
  | succ d ih =>
    intro i h1 hd
    have hb : i < (bytesOf s).length := by rw [bytesOf_len]; omega
    rw [drop_cons _ i hb, List.contains_cons, ← bt_bytes s i hb]
    by_cases hc : bt s (i : Int) = b
    · refine Ev.last fun k => ?_
      simp only [posthornref01_Has.l0]
      rw [if_pos (by omega), if_pos (by omega), if_pos hc, hc, beq_self_eq_true, Bool.true_or]
    · have key := ih (i + 1) (by omega) (by omega)
      rw [show (b == bt s (i : Int)) = false from beq_eq_false_iff_ne.2 (fun e => hc e.symm), Bool.false_or]
      refine Ev.round (f := fun k => posthornref01_Has.l0 k s b ((i + 1 : Nat) : Int)) (fun k => ?_) key
      simp only [posthornref01_Has.l0]
      rw [if_pos (by omega), if_pos (by omega), if_neg hc, wrap_id _ (by omega) (by omega)]
      rfl

theorem Has_ev (s : ByteArray) (b : Int) (hs : s.size ≤ 140737488351232) : Ev (fun k => posthornref01_Has.f k s b) ((bytesOf s).contains b) := by
  have := Has_loop s b hs s.size 0 (by omega) (by omega)
  rwa [List.drop_zero] at this

def shownB (b : Int) (but : List Int) : Bool := decide (33 ≤ b) && decide (b ≤ 126) && !but.contains b
theorem shown_ev (b : Int) (s : ByteArray) (hs : s.size ≤ 140737488351232) : Ev (fun k => posthornref01_shown.f k b s) (shownB b (bytesOf s)) := by
  unfold posthornref01_shown.f shownB
  by_cases h1 : b ≥ 33
  · by_cases h2 : b ≤ 126
    · simp only [if_pos h1, if_pos h2]
      refine Ev.bind (Has_ev s b hs) (Ev.val fun k => ?_)
      rw [decide_eq_true (show 33 ≤ b from h1), decide_eq_true h2, Bool.true_and, Bool.true_and]
    · simp only [if_pos h1, if_neg h2]
      refine Ev.val fun k => ?_
      rw [decide_eq_false h2, Bool.and_false, Bool.false_and]
  · simp only [if_neg h1]
    refine Ev.val fun k => ?_
    rw [decide_eq_false (show ¬ 33 ≤ b from h1), Bool.false_and, Bool.false_and]

/-- Each class by its texts, as the reference has it. -/
def refB (c b : Int) : Bool :=
  if c = 1 then [65, 66, 67, 68, 69, 70, 71, 72, 73, 74, 75, 76, 77, 78, 79, 80, 81, 82, 83, 84, 85, 86, 87, 88, 89, 90].contains b || [97, 98, 99, 100, 101, 102, 103, 104, 105, 106, 107, 108, 109, 110, 111, 112, 113, 114, 115, 116, 117, 118, 119, 120, 121, 122].contains b
  else if c = 2 then [48, 49, 50, 51, 52, 53, 54, 55, 56, 57].contains b
  else if c = 4 then [48, 49, 50, 51, 52, 53, 54, 55, 56, 57, 65, 66, 67, 68, 69, 70, 97, 98, 99, 100, 101, 102].contains b
  else if c = 6 then (b == 32) || shownB b [34, 92]
  else if c = 7 then shownB b [91, 92, 93]
  else if c = 8 then shownB b [61]
  else if c = 9 then shownB b [43, 61]
  else if c = 11 then shownB b [58]
  else if c = 12 then (b == 9) || ((b == 32) || shownB b [])
  else if c = 13 then decide (b < 128)
  else if c = 14 then decide (b ≥ 128)
  else false
def signs : List Int := [33, 35, 36, 37, 38, 39, 42, 43, 45, 47, 61, 63, 94, 95, 123, 124, 125, 126, 96]
def refIs (c b : Int) : Bool :=
  if c = 3 then refB 1 b || refB 2 b
  else if c = 5 then (refB 1 b || refB 2 b) || signs.contains b
  else if c = 10 then (refB 1 b || refB 2 b) || (b == 45)
  else refB c b

theorem refIs_isB_small : ∀ c : Fin 15, ∀ b : Fin 256, refIs (c.val : Int) (b.val : Int) = isB (c.val : Int) (b.val : Int) := by decide +kernel

theorem hits_out {c b : Int} (hc : c < 1 ∨ 14 < c) : hits c b = false := by
  refine hits_none fun i hi => ?_
  unfold hit
  have : ∀ i : Fin 35, 1 ≤ (tb i.val).1 ∧ (tb i.val).1 ≤ 14 := by decide
  have h := this ⟨i, hi⟩
  rw [show ((tb i).1 == c) = false from beq_eq_false_iff_ne.2 (by simp only at h; omega), Bool.false_and, Bool.false_and]

theorem refIs_isB (c b : Int) (hb : 0 ≤ b ∧ b ≤ 255) : refIs c b = isB c b := by
  by_cases hc : 0 ≤ c ∧ c ≤ 14
  · have := refIs_isB_small ⟨c.toNat, by omega⟩ ⟨b.toNat, by omega⟩
    simp only at this
    rwa [Int.toNat_of_nonneg hc.1, Int.toNat_of_nonneg hb.1] at this
  · have h5 : (c == 5) = false := beq_eq_false_iff_ne.2 (by omega)
    have h10 : (c == 10) = false := beq_eq_false_iff_ne.2 (by omega)
    unfold isB
    rw [hits_out (by omega), h5, h10]
    unfold refIs refB
    repeat rw [if_neg (by omega)]
    rfl

abbrev tCap : ByteArray := ⟨#[65, 66, 67, 68, 69, 70, 71, 72, 73, 74, 75, 76, 77, 78, 79, 80, 81, 82, 83, 84, 85, 86, 87, 88, 89, 90]⟩
abbrev tSml : ByteArray := ⟨#[97, 98, 99, 100, 101, 102, 103, 104, 105, 106, 107, 108, 109, 110, 111, 112, 113, 114, 115, 116, 117, 118, 119, 120, 121, 122]⟩
abbrev tDig : ByteArray := ⟨#[48, 49, 50, 51, 52, 53, 54, 55, 56, 57]⟩
abbrev tHex : ByteArray := ⟨#[48, 49, 50, 51, 52, 53, 54, 55, 56, 57, 65, 66, 67, 68, 69, 70, 97, 98, 99, 100, 101, 102]⟩
abbrev tSig : ByteArray := ⟨#[33, 35, 36, 37, 38, 39, 42, 43, 45, 47, 61, 63, 94, 95, 123, 124, 125, 126, 96]⟩
abbrev t6 : ByteArray := ⟨#[34, 92]⟩
abbrev t7 : ByteArray := ⟨#[91, 92, 93]⟩
abbrev t8 : ByteArray := ⟨#[61]⟩
abbrev t9 : ByteArray := ⟨#[43, 61]⟩
abbrev t11 : ByteArray := ⟨#[58]⟩
abbrev t12 : ByteArray := ⟨#[]⟩

theorem Is_base (c b : Int) (h3 : c ≠ 3) (h5 : c ≠ 5) (h10 : c ≠ 10) : Ev (fun k => posthornref01_Is.f k c b) (refB c b) := by
  unfold refB
  by_cases c1 : c = 1
  · rw [if_pos c1]
    exact Ev.round (fun k => by simp only [posthornref01_Is.f]; rw [if_pos c1]) (Ev.or (Has_ev tCap b (by decide)) (Has_ev tSml b (by decide)))
  rw [if_neg c1]
  by_cases c2 : c = 2
  · rw [if_pos c2]
    exact Ev.round (fun k => by simp only [posthornref01_Is.f]; rw [if_neg c1, if_pos c2]) (Ev.same (Has_ev tDig b (by decide)))
  rw [if_neg c2]
  by_cases c4 : c = 4
  · rw [if_pos c4]
    exact Ev.round (fun k => by simp only [posthornref01_Is.f]; rw [if_neg c1, if_neg c2, if_neg h3, if_pos c4]) (Ev.same (Has_ev tHex b (by decide)))
  rw [if_neg c4]
  by_cases c6 : c = 6
  · rw [if_pos c6]
    by_cases hb : b = 32
    · rw [hb]
      exact Ev.last fun k => by simp only [posthornref01_Is.f]; rw [if_neg c1, if_neg c2, if_neg h3, if_neg c4, if_neg h5, if_pos c6, if_pos trivial]; rfl
    · rw [show (b == 32) = false from beq_eq_false_iff_ne.2 hb, Bool.false_or]
      exact Ev.round (fun k => by simp only [posthornref01_Is.f]; rw [if_neg c1, if_neg c2, if_neg h3, if_neg c4, if_neg h5, if_pos c6, if_neg hb]) (Ev.same (shown_ev b t6 (by decide)))
  rw [if_neg c6]
  by_cases c7 : c = 7
  · rw [if_pos c7]
    exact Ev.round (fun k => by simp only [posthornref01_Is.f]; rw [if_neg c1, if_neg c2, if_neg h3, if_neg c4, if_neg h5, if_neg c6, if_pos c7]) (Ev.same (shown_ev b t7 (by decide)))
  rw [if_neg c7]
  by_cases c8 : c = 8
  · rw [if_pos c8]
    exact Ev.round (fun k => by simp only [posthornref01_Is.f]; rw [if_neg c1, if_neg c2, if_neg h3, if_neg c4, if_neg h5, if_neg c6, if_neg c7, if_pos c8]) (Ev.same (shown_ev b t8 (by decide)))
  rw [if_neg c8]
  by_cases c9 : c = 9
  · rw [if_pos c9]
    exact Ev.round (fun k => by simp only [posthornref01_Is.f]; rw [if_neg c1, if_neg c2, if_neg h3, if_neg c4, if_neg h5, if_neg c6, if_neg c7, if_neg c8, if_pos c9]) (Ev.same (shown_ev b t9 (by decide)))
  rw [if_neg c9]
  by_cases c11 : c = 11
  · rw [if_pos c11]
    exact Ev.round (fun k => by simp only [posthornref01_Is.f]; rw [if_neg c1, if_neg c2, if_neg h3, if_neg c4, if_neg h5, if_neg c6, if_neg c7, if_neg c8, if_neg c9, if_neg h10, if_pos c11]) (Ev.same (shown_ev b t11 (by decide)))
  rw [if_neg c11]
  by_cases c12 : c = 12
  · rw [if_pos c12]
    by_cases h9 : b = 9
    · rw [h9]
      exact Ev.last fun k => by simp only [posthornref01_Is.f]; rw [if_neg c1, if_neg c2, if_neg h3, if_neg c4, if_neg h5, if_neg c6, if_neg c7, if_neg c8, if_neg c9, if_neg h10, if_neg c11, if_pos c12, if_pos trivial]; rfl
    · rw [show (b == 9) = false from beq_eq_false_iff_ne.2 h9, Bool.false_or]
      by_cases hb : b = 32
      · rw [hb]
        exact Ev.last fun k => by simp only [posthornref01_Is.f]; rw [if_neg c1, if_neg c2, if_neg h3, if_neg c4, if_neg h5, if_neg c6, if_neg c7, if_neg c8, if_neg c9, if_neg h10, if_neg c11, if_pos c12, if_neg (by decide), if_pos trivial]; rfl
      · rw [show (b == 32) = false from beq_eq_false_iff_ne.2 hb, Bool.false_or]
        exact Ev.round (fun k => by simp only [posthornref01_Is.f]; rw [if_neg c1, if_neg c2, if_neg h3, if_neg c4, if_neg h5, if_neg c6, if_neg c7, if_neg c8, if_neg c9, if_neg h10, if_neg c11, if_pos c12, if_neg h9, if_neg hb]) (Ev.same (shown_ev b t12 (by decide)))
  rw [if_neg c12]
  by_cases c13 : c = 13
  · rw [if_pos c13]
    exact Ev.last fun k => by simp only [posthornref01_Is.f]; rw [if_neg c1, if_neg c2, if_neg h3, if_neg c4, if_neg h5, if_neg c6, if_neg c7, if_neg c8, if_neg c9, if_neg h10, if_neg c11, if_neg c12, if_pos c13]
  rw [if_neg c13]
  by_cases c14 : c = 14
  · rw [if_pos c14]
    exact Ev.last fun k => by simp only [posthornref01_Is.f]; rw [if_neg c1, if_neg c2, if_neg h3, if_neg c4, if_neg h5, if_neg c6, if_neg c7, if_neg c8, if_neg c9, if_neg h10, if_neg c11, if_neg c12, if_neg c13, if_pos c14]
  rw [if_neg c14]
  exact Ev.last fun k => by simp only [posthornref01_Is.f]; rw [if_neg c1, if_neg c2, if_neg h3, if_neg c4, if_neg h5, if_neg c6, if_neg c7, if_neg c8, if_neg c9, if_neg h10, if_neg c11, if_neg c12, if_neg c13, if_neg c14]

theorem Is_three (b : Int) : Ev (fun k => posthornref01_Is.f k 3 b) (refB 1 b || refB 2 b) :=
  Ev.round (fun k => by simp only [posthornref01_Is.f]; rw [if_neg (by decide), if_neg (by decide), if_pos trivial])
    (Ev.or (Is_base 1 b (by decide) (by decide) (by decide)) (Is_base 2 b (by decide) (by decide) (by decide)))

theorem Is_spec (c b : Int) : Ev (fun k => posthornref01_Is.f k c b) (refIs c b) := by
  unfold refIs
  by_cases h3 : c = 3
  · rw [if_pos h3, h3]; exact Is_three b
  rw [if_neg h3]
  by_cases h5 : c = 5
  · rw [if_pos h5, h5]
    exact Ev.round (fun k => by simp only [posthornref01_Is.f]; rw [if_neg (by decide), if_neg (by decide), if_neg (by decide), if_neg (by decide), if_pos trivial]) (Ev.or (Is_three b) (Has_ev tSig b (by decide)))
  rw [if_neg h5]
  by_cases h10 : c = 10
  · rw [if_pos h10, h10]
    exact Ev.round (fun k => by simp only [posthornref01_Is.f]; rw [if_neg (by decide), if_neg (by decide), if_neg (by decide), if_neg (by decide), if_neg (by decide), if_neg (by decide), if_neg (by decide), if_neg (by decide), if_neg (by decide), if_pos trivial]) (Ev.bind (Is_three b) (r := (refB 1 b || refB 2 b) || (b == 45)) (f := fun _ t => if t = true then some true else some (b == 45)) (Ev.val fun k => by cases (refB 1 b || refB 2 b) <;> rfl))
  rw [if_neg h10]
  exact Is_base c b h3 h5 h10

/-- The reference's Is. -/
theorem refIs_ev (c b : Int) (hb : 0 ≤ b ∧ b ≤ 255) : Ev (fun k => posthornref01_Is.f k c b) (isB c b) := by
  rw [← refIs_isB c b hb]
  exact Is_spec c b

end Go.Proofs.YtfljmojiglkckaaDoor.I
