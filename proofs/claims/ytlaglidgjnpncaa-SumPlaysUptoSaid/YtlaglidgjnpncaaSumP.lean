/- sum, the program's and the reference's, as maps over one bit (plain). -/
import Derived.Test.YtlaglidgjnpncaaSumF
import Derived.Test.YtlaglidgjnpncaaCrc
namespace Go.Proofs.Ytlaglidgjnpncaa.SumP
set_option linter.unusedVariables false
set_option linter.unusedSimpArgs false
set_option linter.unusedVariables false
set_option linter.unusedSimpArgs false
open Go.RowKit Go.Proofs.YtlaglidgjnpncaaW.PrintWords Go.Proofs.YtlaglidgjnpncaaW.PrintLast Go.Proofs.YtlaglidgjnpncaaW.PrintMore Go.Proofs.Ytlaglidgjnpncaa.B Go.Proofs.Ytlaglidgjnpncaa.Mtx Go.Proofs.Ytlaglidgjnpncaa.SumF Go.Proofs.Ytlaglidgjnpncaa.Crc

def toW (x : Int) : W := BitVec.ofInt 32 x
def ofW (x : W) : Int := (x.toNat : Int)
theorem ofW_u (x : W) : U (ofW x) := by unfold U ofW; have := x.isLt; omega
theorem toW_ofW (x : W) : toW (ofW x) = x := by unfold toW ofW; rw [BitVec.ofInt_natCast]; simp
theorem ofW_toW (x : Int) (h : U x) : ofW (toW x) = x := by
  unfold U at h
  unfold ofW toW
  rw [BitVec.toNat_ofInt]
  omega
theorem u32_wrap (x : Nat) (h : x < 4294967296) : IntKind.u32.wrap ((x : Nat) : Int) = (x : Int) := by rw [IntKind.wrap_u32]; omega
theorem xor_w (a b : Int) : Go.bits .xor .u32 a b = ofW (toW a ^^^ toW b) := by
  show IntKind.u32.wrap (((BitVec.ofInt 32 a ^^^ BitVec.ofInt 32 b).toNat : Nat) : Int) = _
  rw [u32_wrap _ (BitVec.isLt _)]; rfl
theorem and_w (a b : Int) : Go.bits .and .u32 a b = ofW (toW a &&& toW b) := by
  show IntKind.u32.wrap (((BitVec.ofInt 32 a &&& BitVec.ofInt 32 b).toNat : Nat) : Int) = _
  rw [u32_wrap _ (BitVec.isLt _)]; rfl
theorem half_w (x : W) (n : Nat) : ofW x / (2 : Int) ^ n = ofW (x >>> n) := by
  unfold ofW
  rw [BitVec.toNat_ushiftRight, Nat.shiftRight_eq_div_pow]
  simp
theorem half1 (x : W) : ofW x / (2 : Int) = ofW (x >>> 1) := half_w x 1
theorem half4 (x : W) : ofW x / (16 : Int) = ofW (x >>> 4) := half_w x 4
theorem ofW_inj {x y : W} (h : ofW x = ofW y) : x = y := by rw [← toW_ofW x, ← toW_ofW y, h]
theorem low_w (x : W) : ofW x % 2 = if x.getLsbD 0 = true then 1 else 0 := by
  unfold ofW
  have : x.getLsbD 0 = decide (x.toNat % 2 = 1) := by
    rw [BitVec.getLsbD, Nat.testBit_zero]
  rw [this]
  by_cases h : x.toNat % 2 = 1
  · rw [if_pos (decide_eq_true h)]; omega
  · rw [if_neg (by simpa using h)]; omega
theorem and1_w (x : W) : ofW (x &&& toW 1) = ofW x % 2 := by
  unfold ofW toW
  rw [BitVec.toNat_and, show (BitVec.ofInt 32 1).toNat = 2 ^ 1 - 1 from rfl, Nat.and_two_pow_sub_one_eq_mod]
  omega

theorem dn_w (x : W) : dn (ofW x) = ofW (D x) := by
  unfold dn D
  rw [and_w, toW_ofW, and1_w, low_w, half1, xor_w, toW_ofW]
  by_cases h : x.getLsbD 0 = true
  · rw [if_pos h, if_pos rfl, if_pos h]; rfl
  · rw [if_neg h, if_neg (by decide), if_neg h]
theorem itd_w (n : Nat) (x : W) : itd n (ofW x) = ofW (it D n x) := by
  induction n with
  | zero => rfl
  | succ n ih => rw [itd, ih, dn_w, it_succ']
theorem tabF_w (x : W) (h : x.toNat < 16) : tabF x.toNat = ofW (it D 4 x) := itd_w 4 x
theorem nib_w (x : W) : nib (ofW x) = ofW (it D 4 x) := by
  have h15 : (x &&& 15#32).toNat < 16 := by
    rw [BitVec.toNat_and]
    have : x.toNat &&& 15 ≤ 15 := Nat.and_le_right
    show x.toNat &&& 15 < 16
    omega
  unfold nib
  rw [and_w, toW_ofW, half4, xor_w, toW_ofW, nibble x, show toW 15 = 15#32 from rfl]
  have e : tabF (ofW (x &&& 15#32)).toNat = ofW (it D 4 (x &&& 15#32)) := tabF_w _ h15
  rw [e, toW_ofW]
theorem mstep_w (s : W) (b : Int) (hb : 0 ≤ b ∧ b ≤ 255) : mstep (ofW s) b = ofW (it D 8 (s ^^^ toW b)) := by
  unfold mstep
  rw [show b % 4294967296 = b by omega, xor_w, toW_ofW, nib_w, nib_w, ← it_add]
/-- Bytes as numbers of the register. -/
def ws (l : List Int) : List W := l.map toW
theorem fold_w (s : W) (l : List Int) (h : InB l) : l.foldl mstep (ofW s) = ofW (run s (ws l)) := by
  induction l generalizing s with
  | nil => rfl
  | cons b l ih => rw [List.foldl_cons, mstep_w s b (h b List.mem_cons_self), ih _ fun x hx => h x (List.mem_cons_of_mem _ hx)]; rfl
theorem ones_w : toW 4294967295 = BitVec.allOnes 32 := by decide
theorem ones_m : toW (-1) = BitVec.allOnes 32 := by decide
theorem More_w (s : Int) (l : List Int) (h : InB l) : sum_More.f s l = some (ofW (more (toW s) (ws l))) := by
  unfold sum_More.f
  rw [xor_w s, ones_w, ← not_eq, fold_w _ l h, xor_w, toW_ofW, ones_w, ← not_eq]; rfl
theorem Of_w (l : List Int) (h : InB l) : sum_Of.f l = some (ofW (more 0#32 (ws l))) := by
  unfold sum_Of.f
  rw [More_w 0 l h]; rfl

/-! ### Join -/
theorem it_two (T : W → W) (m : Nat) (x : W) : it (fun x => T (T x)) m x = it T (2 * m) x := by
  have : (fun x => T (T x)) = it T 2 := rfl
  rw [this, it_it]
theorem tst_w (v : W) (i : Nat) : tst (ofW v) i = v.getLsbD i := by
  unfold tst
  rw [half_w, and_w, toW_ofW, and1_w, low_w]
  rw [BitVec.getLsbD_ushiftRight, Nat.add_zero]
  cases v.getLsbD i <;> rfl
theorem appN_w (T : W → W) (v : W) (f : Nat → Int) (hf : ∀ i, i < 32 → f i = ofW (T (BitVec.twoPow 32 i))) (n : Nat) (hn : n ≤ 32) : appN f (ofW v) n = ofW (over (fun i => T (BitVec.twoPow 32 i)) v n) := by
  induction n with
  | zero => rfl
  | succ n ih =>
    rw [appN, tst_w, ih (by omega), hf n (by omega), over]
    by_cases h : v.getLsbD n = true
    · rw [if_pos h, if_pos h, xor_w, toW_ofW, toW_ofW]
    · rw [if_neg h, if_neg h, BitVec.xor_zero]
theorem app_lin (T : W → W) (hT : Lin T) (v : W) (f : Nat → Int) (hf : ∀ i, i < 32 → f i = ofW (T (BitVec.twoPow 32 i))) : appN f (ofW v) 32 = ofW (T v) := by
  rw [appN_w T v f hf 32 (Nat.le_refl _), ← hT.over]
theorem odd_w (n : Int) (h : 0 ≤ n ∧ n < 9223372036854775808) : (Go.bits .and .i64 n 1 == 1) = decide (n % 2 = 1) := by
  obtain ⟨m, rfl⟩ := Int.eq_ofNat_of_zero_le h.1
  have e := (bits_nat .i64 63 (by decide) (fun n h0 h1 => by rw [IntKind.wrap_i64]; omega) m 1 (by omega) (by decide)).1
  rw [show (1 : Int) = ((1 : Nat) : Int) from rfl, e, show (1 : Nat) = 2 ^ 1 - 1 from rfl, Nat.and_two_pow_sub_one_eq_mod]
  by_cases hm : m % 2 = 1
  · rw [decide_eq_true (by omega)]
    exact beq_iff_eq.2 (by show ((m % 2 ^ 1 : Nat) : Int) = _; omega)
  · rw [decide_eq_false (by omega)]
    exact beq_eq_false_iff_ne.2 (by show ((m % 2 ^ 1 : Nat) : Int) ≠ _; omega)
theorem joinG_w (k : Nat) : ∀ (T : W → W) (hT : Lin T) (f : Nat → Int) (hf : ∀ i, i < 32 → f i = ofW (T (BitVec.twoPow 32 i))) (a : W) (n : Nat), n < 2 ^ k → n < 9223372036854775808 → joinG k f (ofW a) (n : Int) = ofW (it T n a) := by
  induction k with
  | zero =>
    intro T hT f hf a n hn _
    obtain rfl : n = 0 := by simpa using hn
    rfl
  | succ k ih =>
    intro T hT f hf a n hn h63
    rw [joinG]
    by_cases h0 : n = 0
    · subst h0; rw [if_neg (by decide)]; rfl
    · rw [if_pos (by omega), odd_w _ (by omega), app_lin T hT a f hf]
      have e2 : ((n : Int) / 2) = ((n / 2 : Nat) : Int) := by omega
      have h2 : Lin (fun x => T (T x)) := hT.comp hT
      have hf2 : ∀ i, i < 32 → twF f i = ofW (T (T (BitVec.twoPow 32 i))) := fun i hi => by
        unfold twF
        rw [hf i hi, app_lin T hT _ f hf]
      have hp : n / 2 < 2 ^ k := by rw [Nat.pow_succ] at hn; omega
      rw [e2]
      by_cases ho : n % 2 = 1
      · rw [if_pos (decide_eq_true (by omega)), ih _ h2 _ hf2 _ _ hp (by omega), it_two]
        conv => rhs; rw [show n = 2 * (n / 2) + 1 by omega]
        rfl
      · rw [if_neg (by simp; omega), ih _ h2 _ hf2 _ _ hp (by omega), it_two]
        conv => rhs; rw [show n = 2 * (n / 2) by omega]
theorem stp_w (i : Nat) (hi : i < 32) : stp i = ofW (it D 8 (BitVec.twoPow 32 i)) := by
  have e : (2 : Int) ^ i % 4294967296 = ofW (BitVec.twoPow 32 i) := by
    have h1 : (2 : Nat) ^ i < 2 ^ 32 := Nat.pow_lt_pow_right (by decide) hi
    unfold ofW
    rw [BitVec.toNat_twoPow, Nat.mod_eq_of_lt h1]
    have h2 : ((2 ^ i : Nat) : Int) = (2 : Int) ^ i := by simp
    rw [← h2]
    have h3 : (0 : Int) ≤ ((2 ^ i : Nat) : Int) := Int.natCast_nonneg _
    have h5 : (2 : Nat) ^ i < 4294967296 := Nat.lt_of_lt_of_eq h1 (by decide)
    have h4 : ((2 ^ i : Nat) : Int) < ((4294967296 : Nat) : Int) := Int.ofNat_lt.2 h5
    exact Int.emod_eq_of_lt h3 h4
  unfold stp
  rw [e, itd_w]
/-- A sum behind which n bytes stand. -/
def jn (a b : W) (n : Nat) : W := it D (8 * n) a ^^^ b
theorem Join_w (a b : W) (n : Nat) (h : n < 9223372036854775808) : sum_Join.f (ofW a) (ofW b) (n : Int) = some (ofW (jn a b n), 0) := by
  have hu := ofW_u a
  unfold U at hu
  unfold sum_Join.f
  rw [if_neg (by omega), if_pos ⟨hu.1, hu.2, by omega⟩, joinG_w 64 (it D 8) (Lin.D.it 8) stp stp_w a n (by omega) h, it_it, xor_w, toW_ofW, toW_ofW]; rfl

theorem over_bits (f : Nat → W) (p q : W) (n : Nat) (h : ∀ i, i < n → p.getLsbD i = q.getLsbD i) : over f p n = over f q n := by
  induction n with
  | zero => rfl
  | succ n ih => rw [over, over, ih fun i hi => h i (by omega), h n (by omega)]
/-- The reference's product, step by step: from the highest bit on. -/
def pl : Nat → W → W → W
  | 0, _, _ => 0#32
  | n + 1, p, q => (if p.getLsbD 31 = true then q else 0#32) ^^^ pl n (p <<< 1) (D q)
theorem pl_over (n : Nat) : ∀ (p q : W), n ≤ 32 → pl n p q = over (fun i => it D (n - 1 - i) q) (p >>> (32 - n)) n := by
  induction n with
  | zero => intro p q _; rfl
  | succ n ih =>
    intro p q hn
    rw [pl, ih _ _ (by omega), over]
    have hb : (p >>> (32 - (n + 1))).getLsbD n = p.getLsbD 31 := by
      rw [BitVec.getLsbD_ushiftRight, show 32 - (n + 1) + n = 31 by omega]
    rw [hb, show n + 1 - 1 - n = 0 by omega, BitVec.xor_comm]
    congr 1
    rw [over_bits _ ((p <<< 1) >>> (32 - n)) (p >>> (32 - (n + 1))) n]
    · refine over_congr _ _ _ _ fun i hi => ?_
      show it D (n - 1 - i) (D q) = it D (n + 1 - 1 - i) q
      rw [show n + 1 - 1 - i = (n - 1 - i) + 1 by omega]; rfl
    · intro i hi
      rw [BitVec.getLsbD_ushiftRight, BitVec.getLsbD_ushiftRight, BitVec.getLsbD_shiftLeft, show 32 - (n + 1) + i = 32 - n + i - 1 by omega]
      simp [show 32 - n + i < 32 by omega, show ¬ (32 - n + i < 1) by omega]
theorem pl_prod (p q : W) : pl 32 p q = prod p q := by
  rw [pl_over 32 p q (Nat.le_refl _)]; rfl
theorem top_w (x : W) : (ofW x ≥ 2147483648) ↔ x.getLsbD 31 = true := by
  unfold ofW
  have h := x.isLt
  have e : x.getLsbD 31 = decide (x.toNat / 2 ^ 31 % 2 = 1) := by
    rw [BitVec.getLsbD, Nat.testBit_eq_decide_div_mod_eq]
  rw [e, decide_eq_true_iff]
  omega
theorem dbl_w (x : W) : (ofW x * (2 : Int)) % (4294967296 : Int) = ofW (x <<< 1) := by
  unfold ofW
  rw [BitVec.toNat_shiftLeft, Nat.shiftLeft_eq]
  omega
/-- powers of the register's step. -/
def pw (n : Nat) : W := it D n one
theorem prod_pw (m n : Nat) : prod (pw m) (pw n) = pw (m + n) := by unfold pw; rw [prod_it, ← it_add]
/-! ### A few sums that the document names -/
theorem dig_in (l : List Int) (h : l.all (fun x => decide (0 ≤ x ∧ x ≤ 255)) = true) : InB l := fun x hx => by
  have := List.all_eq_true.1 h x hx
  simpa using this
end Go.Proofs.Ytlaglidgjnpncaa.SumP
