/- What octet.Upper, octet.Same and the reference's Upper and Same come to, as plain functions on lists. -/
import Derived.Test.YtfljmojiglkckaaDoorBase
import Derived.Test.YtfljmojiglkckaaDoorC1
namespace Go.Proofs.YtfljmojiglkckaaDoor.U
set_option linter.unusedVariables false
set_option linter.unusedSimpArgs false
open Go.RowKit Go.Proofs.YtfljmojiglkckaaDoorW.PrintWords Go.Proofs.YtfljmojiglkckaaDoor.B Go.Proofs.YtfljmojiglkckaaDoor.C

def up (c : Int) : Int := if 97 ≤ c ∧ c ≤ 122 then c - 32 else c
def upL (xs : List Int) : List Int := xs.map up

theorem up_range {c : Int} (h : 0 ≤ c ∧ c ≤ 255) : 0 ≤ up c ∧ up c ≤ 255 := by unfold up; split <;> omega
theorem upL_in {xs : List Int} (h : InB xs) : InB (upL xs) := by
  intro x hx
  obtain ⟨y, hy, rfl⟩ := List.mem_map.1 hx
  exact up_range (h y hy)
theorem upL_len (xs : List Int) : (upL xs).length = xs.length := List.length_map ..
theorem up_up (c : Int) : up (up c) = up c := by
  unfold up
  by_cases h : 97 ≤ c ∧ c ≤ 122
  · rw [if_pos h, if_neg (by omega)]
  · rw [if_neg h, if_neg h]
theorem upL_upL (xs : List Int) : upL (upL xs) = upL xs := by
  unfold upL
  rw [List.map_map]
  exact List.map_congr_left fun c _ => up_up c
theorem upL_append (xs ys : List Int) : upL (xs ++ ys) = upL xs ++ upL ys := List.map_append

theorem upper_f (c : Int) (h : 0 ≤ c ∧ c ≤ 255) : octet_upper.f c = some (up c) := by
  unfold octet_upper.f up
  by_cases h1 : 97 ≤ c
  · rw [if_pos h1]
    by_cases h2 : c ≤ 122
    · rw [if_pos h2, if_pos ⟨h1, h2⟩]
      congr 1
      omega
    · rw [if_neg h2, if_neg (by omega)]
  · rw [if_neg h1, if_neg (by omega)]

/-- The text that Upper tells. -/
def upS (s : ByteArray) : ByteArray := strOfNums (upL (bytesOf s))

theorem upS_bytes (s : ByteArray) : bytesOf (upS s) = upL (bytesOf s) := bytesOf_strOfNums _ (upL_in (bytesOf_in s))
theorem upS_size (s : ByteArray) : (upS s).size = s.size := by unfold upS; rw [strOfNums_len, upL_len, bytesOf_len]

theorem Upper_loop (s : ByteArray) (hs : s.size ≤ 281474976702464) (d : Nat) : ∀ (xs : List Int) (i : Nat), i ≤ s.size → s.size - i = d → xs.length = s.size →
    Ev (fun k => octet_Upper.l0 k s xs (s.size : Int) (i : Int)) (strOfNums (xs.take i ++ (upL (bytesOf s)).drop i)) := by
  induction d with
  | zero =>
    intro xs i h1 hd hl
    obtain rfl : i = s.size := by omega
    refine Ev.last fun k => ?_
    simp only [octet_Upper.l0]
    rw [if_neg (by omega), List.take_of_length_le (by omega), List.drop_eq_nil_of_le (by rw [upL_len, bytesOf_len]; exact Nat.le_refl _), List.append_nil]
  | succ d ih =>
    intro xs i h1 hd hl
    have hlt : i < s.size := by omega
    have hb : i < (bytesOf s).length := by rw [bytesOf_len]; exact hlt
    have hu : i < (upL (bytesOf s)).length := by rw [upL_len]; exact hb
    have key := ih (xs.set i (up (bt s (i : Int)))) (i + 1) (by omega) (by omega) (by rw [List.length_set]; exact hl)
    have e : (xs.set i (up (bt s (i : Int)))).take (i + 1) ++ (upL (bytesOf s)).drop (i + 1) = xs.take i ++ (upL (bytesOf s)).drop i := by
      rw [take_set _ _ _ (by omega), drop_cons _ i hu, List.append_assoc, List.singleton_append]
      congr 2
      rw [bt_bytes s i hb]
      simp [upL]
    rw [e] at key
    refine Ev.round (f := fun k => octet_Upper.l0 k s (xs.set i (up (bt s (i : Int)))) (s.size : Int) ((i + 1 : Nat) : Int)) (fun k => ?_) key
    simp only [octet_Upper.l0]
    rw [if_pos (by omega), if_pos (by omega), if_pos (by omega), upper_f _ (bt_range s i)]
    simp only [Option.bind_some]
    rw [if_pos (by omega), Int.toNat_natCast, wrap_id _ (by omega) (by omega)]
    rfl

theorem Upper_ev (s : ByteArray) (hs : s.size ≤ 281474976702464) : Ev (fun k => octet_Upper.f k s) (upS s) := by
  have key := Upper_loop s hs s.size (List.replicate s.size 0) 0 (by omega) (by omega) (by simp)
  simp only [List.take_zero, List.nil_append, List.drop_zero] at key
  refine Ev.congr (fun k => ?_) key
  unfold octet_Upper.f
  rw [if_pos (by omega), if_pos (by omega), Int.toNat_natCast]
  rfl

/-- Same, as it is told. -/
def sameB (s t : ByteArray) : Bool := decide (upL (bytesOf s) = upL (bytesOf t))

theorem Same_loop (s t : ByteArray) (hs : s.size ≤ 281474976702464) (hst : s.size = t.size) (d : Nat) : ∀ (i : Nat), i ≤ s.size → s.size - i = d →
    (upL (bytesOf s)).take i = (upL (bytesOf t)).take i →
    Ev (fun k => octet_Same.l0 k s t (s.size : Int) (i : Int)) (sameB s t) := by
  induction d with
  | zero =>
    intro i h1 hd ht
    obtain rfl : i = s.size := by omega
    refine Ev.last fun k => ?_
    simp only [octet_Same.l0]
    rw [if_neg (by omega)]
    rw [List.take_of_length_le (by rw [upL_len, bytesOf_len]; exact Nat.le_refl _), List.take_of_length_le (by rw [upL_len, bytesOf_len]; omega)] at ht
    unfold sameB
    rw [decide_eq_true ht]
  | succ d ih =>
    intro i h1 hd ht
    have hlt : i < s.size := by omega
    have hb : i < (bytesOf s).length := by rw [bytesOf_len]; exact hlt
    have hb' : i < (bytesOf t).length := by rw [bytesOf_len]; omega
    have hu : i < (upL (bytesOf s)).length := by rw [upL_len]; exact hb
    have hu' : i < (upL (bytesOf t)).length := by rw [upL_len]; exact hb'
    have e1 : (upL (bytesOf s))[i] = up (bt s (i : Int)) := by rw [bt_bytes s i hb]; simp [upL]
    have e2 : (upL (bytesOf t))[i] = up (bt t (i : Int)) := by rw [bt_bytes t i hb']; simp [upL]
    by_cases hc : up (bt s (i : Int)) = up (bt t (i : Int))
    · have key := ih (i + 1) (by omega) (by omega) (by rw [take_snoc _ i hu, take_snoc _ i hu', ht, e1, e2, hc])
      refine Ev.round (f := fun k => octet_Same.l0 k s t (s.size : Int) ((i + 1 : Nat) : Int)) (fun k => ?_) key
      simp only [octet_Same.l0]
      rw [if_pos (by omega), if_pos (by omega), if_pos (by omega), upper_f _ (bt_range s i)]
      simp only [Option.bind_some]
      rw [if_pos (by omega), upper_f _ (bt_range t i)]
      simp only [Option.bind_some]
      rw [if_pos hc, wrap_id _ (by omega) (by omega)]
      rfl
    · refine Ev.last fun k => ?_
      simp only [octet_Same.l0]
      rw [if_pos (by omega), if_pos (by omega), if_pos (by omega), upper_f _ (bt_range s i)]
      simp only [Option.bind_some]
      rw [if_pos (by omega), upper_f _ (bt_range t i)]
      simp only [Option.bind_some]
      rw [if_neg hc]
      unfold sameB
      rw [decide_eq_false]
      intro h
      apply hc
      rw [← e1, ← e2]
      simp only [h]

theorem sameB_sizes {s t : ByteArray} (h : s.size ≠ t.size) : sameB s t = false := by
  unfold sameB
  rw [decide_eq_false]
  intro e
  have := congrArg List.length e
  rw [upL_len, upL_len, bytesOf_len, bytesOf_len] at this
  exact h this

theorem Same_ev (s t : ByteArray) (hs : s.size ≤ 281474976702464) : Ev (fun k => octet_Same.f k s t) (sameB s t) := by
  unfold octet_Same.f
  by_cases h : s.size = t.size
  · refine Ev.congr (fun k => ?_) (Same_loop s t hs h s.size 0 (by omega) (by omega) (by simp))
    rw [if_pos (by omega)]
    rfl
  · refine Ev.val fun k => ?_
    rw [if_neg (by omega), sameB_sizes h]

end Go.Proofs.YtfljmojiglkckaaDoor.U
