/- SumOver: the sum of three rows laid over one another is their sums laid over one another. -/
import Derived.Test.YtlaglidgjnpncaaSumQ
import Derived.Test.YtlaglidgjnpncaaG2
namespace Go.Proofs.Ytlaglidgjnpncaa.Pure
set_option linter.unusedVariables false
set_option linter.unusedSimpArgs false
open Go.RowKit Go.Proofs.Ytlaglidgjnpncaa.G Go.Proofs.YtlaglidgjnpncaaW.PrintWords Go.Proofs.YtlaglidgjnpncaaW.PrintLast Go.Proofs.YtlaglidgjnpncaaW.PrintMore
open Go.Proofs.Ytlaglidgjnpncaa.B Go.Proofs.Ytlaglidgjnpncaa.SumF Go.Proofs.Ytlaglidgjnpncaa.SumP Go.Proofs.Ytlaglidgjnpncaa.Crc

theorem bits8 (x y : Nat) (hx : x < 256) (hy : y < 256) : Go.bits .xor .u8 (x : Int) (y : Int) = ((x ^^^ y : Nat) : Int) := by
  show IntKind.u8.wrap (((BitVec.ofInt 8 (x : Int) ^^^ BitVec.ofInt 8 (y : Int)).toNat : Nat) : Int) = _
  rw [BitVec.ofInt_natCast, BitVec.ofInt_natCast, BitVec.toNat_xor, BitVec.toNat_ofNat, BitVec.toNat_ofNat, Nat.mod_eq_of_lt (show x < 2 ^ 8 from hx), Nat.mod_eq_of_lt (show y < 2 ^ 8 from hy), IntKind.wrap_u8]
  have : x ^^^ y < 2 ^ 8 := Nat.xor_lt_two_pow hx hy
  omega
theorem bits8_w (x y : Int) (hx : 0 ≤ x ∧ x ≤ 255) (hy : 0 ≤ y ∧ y ≤ 255) : toW (Go.bits .xor .u8 x y) = toW x ^^^ toW y ∧ (0 ≤ Go.bits .xor .u8 x y ∧ Go.bits .xor .u8 x y ≤ 255) := by
  obtain ⟨x, rfl⟩ := Int.eq_ofNat_of_zero_le hx.1
  obtain ⟨y, rfl⟩ := Int.eq_ofNat_of_zero_le hy.1
  rw [bits8 x y (by omega) (by omega)]
  have : x ^^^ y < 2 ^ 8 := Nat.xor_lt_two_pow (by omega) (by omega)
  refine ⟨?_, by omega, by omega⟩
  unfold toW
  rw [BitVec.ofInt_natCast, BitVec.ofInt_natCast, BitVec.ofInt_natCast]
  apply BitVec.eq_of_toNat_eq
  rw [BitVec.toNat_xor, BitVec.toNat_ofNat, BitVec.toNat_ofNat, BitVec.toNat_ofNat, Nat.mod_eq_of_lt (by omega), Nat.mod_eq_of_lt (by omega), Nat.mod_eq_of_lt (by omega)]

theorem take_in (l : List Int) (h : InB l) (n : Nat) : InB (l.take n) := fun x hx => h x (List.mem_of_mem_take hx)
section
variable (a b c : List Int)
def X3 (i : Nat) : Int := Go.bits .xor .u8 (Go.bits .xor .u8 (a.getD i 0) (b.getD i 0)) (c.getD i 0)
def acc (n i : Nat) : List Int := (List.range n).map fun j => if j < i then X3 a b c j else 0
theorem acc_len (n i : Nat) : (acc a b c n i).length = n := by simp [acc]
theorem acc_zero (n : Nat) : acc a b c n 0 = List.replicate n 0 := by
  apply List.ext_getElem?
  intro j
  by_cases h : j < n
  · simp [acc, h]
  · simp [acc, h]
theorem acc_set (n i : Nat) (h : i < n) : (acc a b c n i).set i (X3 a b c i) = acc a b c n (i + 1) := by
  apply List.ext_getElem?
  intro j
  by_cases e : j = i
  · subst e
    rw [List.getElem?_set_self (by rw [acc_len]; exact h)]
    simp [acc, h]
  · rw [List.getElem?_set_ne (Ne.symm e)]
    by_cases hj : j < n
    · simp only [acc, List.getElem?_map, List.getElem?_range hj, Option.map_some]
      by_cases h2 : j < i
      · rw [if_pos h2, if_pos (by omega)]
      · rw [if_neg h2, if_neg (by omega)]
    · simp [acc, hj]
theorem getD_in (l : List Int) (h : InB l) (i : Nat) : 0 ≤ l.getD i 0 ∧ l.getD i 0 ≤ 255 := by
  by_cases hi : i < l.length
  · rw [List.getD_eq_getElem?_getD, List.getElem?_eq_getElem hi]; exact h _ (List.getElem_mem hi)
  · rw [List.getD_eq_getElem?_getD, List.getElem?_eq_none (by omega)]; simp
variable (ha : InB a) (hb : InB b) (hc : InB c)
include ha hb hc
theorem X3_w (i : Nat) : toW (X3 a b c i) = toW (a.getD i 0) ^^^ toW (b.getD i 0) ^^^ toW (c.getD i 0) ∧ (0 ≤ X3 a b c i ∧ X3 a b c i ≤ 255) := by
  have h1 := bits8_w _ _ (getD_in a ha i) (getD_in b hb i)
  have h2 := bits8_w _ _ h1.2 (getD_in c hc i)
  unfold X3
  rw [h2.1, h1.1]
  exact ⟨rfl, h2.2⟩
theorem acc_in (n i : Nat) : InB (acc a b c n i) := by
  intro x hx
  obtain ⟨j, _, rfl⟩ := List.mem_map.1 hx
  split
  · exact (X3_w a b c ha hb hc j).2
  · omega
theorem acc_ws (n : Nat) (h1 : n ≤ a.length) (h2 : n ≤ b.length) (h3 : n ≤ c.length) : ws (acc a b c n n) = List.zipWith (· ^^^ ·) (List.zipWith (· ^^^ ·) (ws (a.take n)) (ws (b.take n))) (ws (c.take n)) := by
  apply List.ext_getElem?
  intro j
  by_cases hj : j < n
  · have e1 : (ws (a.take n))[j]? = some (toW (a.getD j 0)) := by simp [ws, List.getElem?_take, hj, List.getD_eq_getElem?_getD, show j < a.length by omega]
    have e2 : (ws (b.take n))[j]? = some (toW (b.getD j 0)) := by simp [ws, List.getElem?_take, hj, List.getD_eq_getElem?_getD, show j < b.length by omega]
    have e3 : (ws (c.take n))[j]? = some (toW (c.getD j 0)) := by simp [ws, List.getElem?_take, hj, List.getD_eq_getElem?_getD, show j < c.length by omega]
    rw [List.getElem?_zipWith, List.getElem?_zipWith, e1, e2, e3]
    simp only [ws, acc, List.getElem?_map, List.getElem?_range hj, Option.map_some, if_pos hj]
    rw [(X3_w a b c ha hb hc j).1]
  · rw [List.getElem?_eq_none (by simp [ws, acc]; omega), List.getElem?_eq_none (by simp [ws]; omega)]
theorem over_loop (n : Nat) (h1 : n ≤ a.length) (h2 : n ≤ b.length) (h3 : n ≤ c.length) (hl : a.length ≤ 140737488355328) (d : Nat) : ∀ i, i + d = n → Ev (fun k => posthornlaw02_SumOver.l0 k a b c (n : Int) (acc a b c n i) (n : Int) (i : Int)) true := by
  induction d with
  | zero =>
    intro i hi
    obtain rfl : i = n := by omega
    refine Ev.last fun k => ?_
    simp only [posthornlaw02_SumOver.l0]
    have hm := more_over (ws (a.take i)) (ws (b.take i)) (ws (c.take i)) (by simp [ws]; omega) (by simp [ws]; omega)
    rw [← acc_ws a b c ha hb hc i h1 h2 h3] at hm
    rw [if_neg (by omega), Of_w _ (acc_in a b c ha hb hc i i), bind_some', if_pos (by omega), if_pos (by omega), Int.toNat_natCast, Of_w _ (take_in a ha i), bind_some', if_pos (by omega), Of_w _ (take_in b hb i), bind_some', if_pos (by omega), Of_w _ (take_in c hc i), bind_some', xor_w, xor_w, toW_ofW, toW_ofW, toW_ofW, toW_ofW, if_pos (by rw [hm])]
    rfl
  | succ d ih =>
    intro i hi
    refine Ev.round (fun k => ?_) (ih (i + 1) (by omega))
    have e1 : rd a (i : Int) = a.getD i 0 := rfl
    have e2 : rd b (i : Int) = b.getD i 0 := rfl
    have e3 : rd c (i : Int) = c.getD i 0 := rfl
    simp only [posthornlaw02_SumOver.l0]
    rw [if_pos (by omega), if_pos (by omega), if_pos (by omega), if_pos (by omega), if_pos (by omega), if_pos (by rw [acc_len]; omega), e1, e2, e3, Int.toNat_natCast, wrap_id _ (by omega) (by omega)]
    have hs := acc_set a b c n i (by omega)
    unfold X3 at hs
    rw [hs]; rfl
end
theorem mn_nat (a b : Nat) : mn (a : Int) (b : Int) = ((min a b : Nat) : Int) := by unfold mn; split <;> omega
theorem SumOver : posthornlaw02_SumOver.Pure := by
  intro a b c hla hza hba hlb hzb hbb hlc hzc hbc
  have ha : InB a := fun x hx => wf_u8 (hba x hx)
  have hb : InB b := fun x hx => wf_u8 (hbb x hx)
  have hc : InB c := fun x hx => wf_u8 (hbc x hx)
  obtain ⟨n, hn⟩ : ∃ n, n = min (min a.length b.length) c.length := ⟨_, rfl⟩
  have key := over_loop a b c ha hb hc n (by omega) (by omega) (by omega) (by omega) n 0 (by omega)
  obtain ⟨K, hK⟩ := key
  refine ⟨K, ?_⟩
  have hm : mn (mn (a.length : Int) (b.length : Int)) (c.length : Int) = (n : Int) := by rw [mn_nat, mn_nat, hn]
  unfold posthornlaw02_SumOver.f
  rw [hm, if_pos (by omega), if_pos (by omega), bind_some', Int.toNat_natCast, List.length_replicate, ← acc_zero a b c n]
  exact hK K (Nat.le_refl _)
end Go.Proofs.Ytlaglidgjnpncaa.Pure
