/- Check sums over one bit: the register as a linear map (plain, no program in sight). -/
namespace Go.Proofs.Ytlaglidgjnpncaa.Crc
set_option linter.unusedVariables false
set_option linter.unusedSimpArgs false
abbrev W := BitVec 32
def poly : W := 0x82F63B78#32
def D (x : W) : W := if x.getLsbD 0 then (x >>> 1) ^^^ poly else x >>> 1

theorem xor_left_comm (a b c : W) : a ^^^ (b ^^^ c) = b ^^^ (a ^^^ c) := by
  rw [← BitVec.xor_assoc, BitVec.xor_comm a b, BitVec.xor_assoc]
theorem xor_self_left (a b : W) : a ^^^ (a ^^^ b) = b := by
  rw [← BitVec.xor_assoc, BitVec.xor_self, BitVec.zero_xor]

theorem xor_cancel (a b p : W) : (a ^^^ p) ^^^ (b ^^^ p) = a ^^^ b := by
  rw [show (a ^^^ p) ^^^ (b ^^^ p) = (a ^^^ b) ^^^ (p ^^^ p) by ac_rfl, BitVec.xor_self, BitVec.xor_zero]
theorem D_xor (a b : W) : D (a ^^^ b) = D a ^^^ D b := by
  unfold D
  rw [BitVec.getLsbD_xor, BitVec.ushiftRight_xor_distrib]
  cases a.getLsbD 0 <;> cases b.getLsbD 0 <;> simp
  · ac_rfl
  · ac_rfl
  · exact (xor_cancel _ _ _).symm
theorem D_zero : D 0#32 = 0#32 := by decide

/-- Linear maps that go with D. -/
structure Lin (T : W → W) : Prop where
  xor : ∀ a b, T (a ^^^ b) = T a ^^^ T b
theorem Lin.zero {T : W → W} (h : Lin T) : T 0#32 = 0#32 := by
  have := h.xor 0#32 0#32
  rw [BitVec.xor_self] at this
  rw [this, BitVec.xor_self]
theorem Lin.D : Lin D := ⟨D_xor⟩
theorem Lin.id : Lin id := ⟨fun _ _ => rfl⟩
theorem Lin.comp {S T : W → W} (h : Lin S) (k : Lin T) : Lin (fun x => S (T x)) := ⟨fun a b => by rw [k.xor, h.xor]⟩
def it (T : W → W) : Nat → W → W
  | 0, x => x
  | n + 1, x => it T n (T x)
theorem it_add (T : W → W) (m n : Nat) (x : W) : it T (m + n) x = it T n (it T m x) := by
  induction m generalizing x with
  | zero => rw [Nat.zero_add]; rfl
  | succ m ih => rw [Nat.succ_add]; exact ih (T x)
theorem it_succ' (T : W → W) (n : Nat) (x : W) : it T (n + 1) x = T (it T n x) := by rw [it_add]; rfl
theorem it_comm (T : W → W) (n : Nat) (x : W) : it T n (T x) = T (it T n x) := it_succ' T n x
theorem Lin.it {T : W → W} (h : Lin T) (n : Nat) : Lin (it T n) := by
  induction n with
  | zero => exact ⟨fun _ _ => rfl⟩
  | succ n ih => exact ⟨fun a b => by show Go.Proofs.Ytlaglidgjnpncaa.Crc.it T n (T (a ^^^ b)) = _; rw [h.xor, ih.xor]; rfl⟩
theorem it_it (T : W → W) (m n : Nat) (x : W) : it (it T m) n x = it T (m * n) x := by
  induction n generalizing x with
  | zero => rfl
  | succ n ih => show it (it T m) n (it T m x) = _; rw [ih, ← it_add, Nat.mul_succ, Nat.add_comm]

/-- What a number is, bit by bit: the sum over its bits of a place's value. -/
def over (f : Nat → W) (p : W) : Nat → W
  | 0 => 0#32
  | n + 1 => over f p n ^^^ (if p.getLsbD n then f n else 0#32)
theorem over_xor (f : Nat → W) (p q : W) (n : Nat) : over f (p ^^^ q) n = over f p n ^^^ over f q n := by
  induction n with
  | zero => simp [over]
  | succ n ih =>
    simp only [over, ih, BitVec.getLsbD_xor]
    cases p.getLsbD n <;> cases q.getLsbD n <;> simp
    · ac_rfl
    · ac_rfl
    · exact (xor_cancel _ _ _).symm
theorem over_lin (f : Nat → W) (p : W) {T : W → W} (h : Lin T) (n : Nat) : T (over f p n) = over (fun i => T (f i)) p n := by
  induction n with
  | zero => exact h.zero
  | succ n ih =>
    simp only [over, h.xor, ih]
    split <;> simp [h.zero]
theorem over_id (p : W) (n : Nat) (hn : n ≤ 32) : ∀ i, (over (fun i => BitVec.twoPow 32 i) p n).getLsbD i = (decide (i < n) && p.getLsbD i) := by
  induction n with
  | zero => intro i; simp [over]
  | succ n ih =>
    intro i
    simp only [over, BitVec.getLsbD_xor, ih (by omega)]
    by_cases h : i = n
    · subst h
      cases hp : p.getLsbD i <;> simp [BitVec.getLsbD_twoPow]
      omega
    · cases hp : p.getLsbD n
      · simp
        by_cases h1 : i < n
        · simp [h1, show i < n + 1 by omega]
        · simp [h1, show ¬ i < n + 1 by omega]
      · simp [BitVec.getLsbD_twoPow, Ne.symm h]
        by_cases h1 : i < n
        · simp [h1, show i < n + 1 by omega]
        · simp [h1, show ¬ i < n + 1 by omega]
theorem over_self (p : W) : over (fun i => BitVec.twoPow 32 i) p 32 = p := by
  apply BitVec.eq_of_getLsbD_eq
  intro i hi
  rw [over_id p 32 (Nat.le_refl _)]
  simp [hi]
/-- A linear map, by what it does to each bit. -/
theorem Lin.over {T : W → W} (h : Lin T) (p : W) : T p = over (fun i => T (BitVec.twoPow 32 i)) p 32 := by
  conv => lhs; rw [← over_self p]
  exact over_lin _ _ h _

/-- The number 1 of the ring. -/
def one : W := 0x80000000#32
theorem pow_fin : ∀ i : Fin 32, it D i.val one = BitVec.twoPow 32 (31 - i.val) := by decide +kernel
theorem pow (i : Nat) (h : i < 32) : it D (31 - i) one = BitVec.twoPow 32 i := by
  have := pow_fin ⟨31 - i, by omega⟩
  simp only at this
  rw [this, show 31 - (31 - i) = i by omega]
/-- The product of the reference: over p's bits from the top. -/
def prod (p q : W) : W := over (fun i => it D (31 - i) q) p 32
theorem over_congr (f g : Nat → W) (p : W) (n : Nat) (h : ∀ i, i < n → f i = g i) : over f p n = over g p n := by
  induction n with
  | zero => rfl
  | succ n ih => simp only [over, ih (fun i hi => h i (by omega)), h n (by omega)]
/-- A linear map that goes with D is a product. -/
theorem Lin.prod {T : W → W} (h : Lin T) (hc : ∀ x, T (Go.Proofs.Ytlaglidgjnpncaa.Crc.D x) = Go.Proofs.Ytlaglidgjnpncaa.Crc.D (T x)) (q : W) : T q = prod q (T one) := by
  rw [h.over q]
  refine over_congr _ _ _ _ fun i hi => ?_
  rw [← pow i hi]
  have : ∀ n x, T (Go.Proofs.Ytlaglidgjnpncaa.Crc.it Go.Proofs.Ytlaglidgjnpncaa.Crc.D n x) = Go.Proofs.Ytlaglidgjnpncaa.Crc.it Go.Proofs.Ytlaglidgjnpncaa.Crc.D n (T x) := by
    intro n
    induction n with
    | zero => intro x; rfl
    | succ n ih => intro x; show T (Go.Proofs.Ytlaglidgjnpncaa.Crc.it Go.Proofs.Ytlaglidgjnpncaa.Crc.D n (Go.Proofs.Ytlaglidgjnpncaa.Crc.D x)) = _; rw [ih, hc]; rfl
  exact this _ _
theorem prod_it (n : Nat) (q : W) : prod q (it D n one) = it D n q := (Lin.D.it n).prod (fun x => it_comm D n x) q |>.symm

theorem Lin.ext {S T : W → W} (h : Lin S) (k : Lin T) (e : ∀ i : Fin 32, S (BitVec.twoPow 32 i.val) = T (BitVec.twoPow 32 i.val)) (x : W) : S x = T x := by
  rw [h.over x, k.over x]
  exact over_congr _ _ _ _ fun i hi => e ⟨i, hi⟩
theorem Lin.shr (n : Nat) : Lin (fun x => x >>> n) := ⟨fun a b => BitVec.ushiftRight_xor_distrib a b n⟩
theorem Lin.shl (n : Nat) : Lin (fun x => x <<< n) := ⟨fun a b => BitVec.shiftLeft_xor_distrib a b n⟩
theorem Lin.and (m : W) : Lin (fun x => x &&& m) := ⟨fun a b => by
  apply BitVec.eq_of_getLsbD_eq; intro i _; simp; cases a.getLsbD i <;> cases b.getLsbD i <;> simp⟩
theorem Lin.add {S T : W → W} (h : Lin S) (k : Lin T) : Lin (fun x => S x ^^^ T x) := ⟨fun a b => by rw [h.xor, k.xor]; ac_rfl⟩
/-- Four bits at once. -/
theorem nibble (x : W) : it D 4 x = (x >>> 4) ^^^ it D 4 (x &&& 15#32) :=
  (Lin.D.it 4).ext ((Lin.shr 4).add ((Lin.D.it 4).comp (Lin.and 15#32))) (by decide +kernel) x
theorem D_inj0 (x : W) (h : D x = 0#32) : x = 0#32 := by
  unfold D at h
  cases h0 : x.getLsbD 0
  · rw [if_neg (by rw [h0]; decide)] at h
    apply BitVec.eq_of_getLsbD_eq
    intro i hi
    cases i with
    | zero => rw [h0]; rfl
    | succ i =>
      have : (x >>> 1).getLsbD i = (0#32).getLsbD i := by rw [h]
      rw [BitVec.getLsbD_ushiftRight, Nat.add_comm] at this
      rw [this]; simp
  · rw [if_pos h0] at h
    have : (x >>> 1 ^^^ poly).getLsbD 31 = (0#32).getLsbD 31 := by rw [h]
    rw [BitVec.getLsbD_xor, BitVec.getLsbD_ushiftRight, BitVec.getLsbD_of_ge x _ (by omega)] at this
    exact absurd this (by decide)
theorem D_inj (x y : W) (h : D x = D y) : x = y := by
  have : D (x ^^^ y) = 0#32 := by rw [D_xor, h, BitVec.xor_self]
  have := D_inj0 _ this
  have h2 : x ^^^ y ^^^ y = y := by rw [this, BitVec.zero_xor]
  rwa [BitVec.xor_assoc, BitVec.xor_self, BitVec.xor_zero] at h2
theorem it_inj (n : Nat) (x y : W) (h : it D n x = it D n y) : x = y := by
  induction n generalizing x y with
  | zero => exact h
  | succ n ih => exact D_inj _ _ (ih _ _ h)

/-- A register run over bytes. -/
def run (r : W) (bs : List W) : W := bs.foldl (fun r x => it D 8 (r ^^^ x)) r
theorem run_nil (r : W) : run r [] = r := rfl
theorem run_cons (r x : W) (bs : List W) : run r (x :: bs) = run (it D 8 (r ^^^ x)) bs := rfl
theorem run_append (r : W) (a b : List W) : run r (a ++ b) = run (run r a) b := by unfold run; rw [List.foldl_append]
/-- Both registers, and both rows, laid over one another. -/
theorem run_xor (r s : W) (a b : List W) (h : a.length = b.length) : run (r ^^^ s) (List.zipWith (· ^^^ ·) a b) = run r a ^^^ run s b := by
  induction a generalizing r s b with
  | nil => cases b with
    | nil => rfl
    | cons _ _ => cases h
  | cons x a ih => cases b with
    | nil => cases h
    | cons y b =>
      simp only [List.zipWith_cons_cons, run_cons]
      rw [show r ^^^ s ^^^ (x ^^^ y) = (r ^^^ x) ^^^ (s ^^^ y) by ac_rfl, (Lin.D.it 8).xor, ih _ _ _ (by simpa using h)]
/-- The bytes do not matter for how a register's share goes on. -/
theorem run_reg (r s : W) (b : List W) : run (r ^^^ s) b = it D (8 * b.length) r ^^^ run s b := by
  induction b generalizing r s with
  | nil => rfl
  | cons y b ih =>
    simp only [run_cons, List.length_cons]
    rw [BitVec.xor_assoc, (Lin.D.it 8).xor, ih, ← it_add, show 8 + 8 * b.length = 8 * (b.length + 1) by omega]
/-- The sum behind a sum. -/
def more (s : W) (b : List W) : W := ~~~ (run (~~~ s) b)
theorem not_eq (x : W) : ~~~ x = x ^^^ BitVec.allOnes 32 := (BitVec.xor_allOnes).symm
theorem more_nil (s : W) : more s [] = s := by simp [more, run_nil]
theorem more_append (s : W) (a b : List W) : more s (a ++ b) = more (more s a) b := by
  unfold more; rw [run_append, BitVec.not_not]
/-- Joined. -/
theorem more_join (s : W) (b : List W) : more s b = it D (8 * b.length) s ^^^ more 0#32 b := by
  unfold more
  rw [not_eq, not_eq s, not_eq (0#32), not_eq, show s ^^^ BitVec.allOnes 32 = s ^^^ (0#32 ^^^ BitVec.allOnes 32) by simp, run_reg]
  ac_rfl
theorem more_over (a b c : List W) (h1 : a.length = b.length) (h2 : b.length = c.length) : more 0#32 (List.zipWith (· ^^^ ·) (List.zipWith (· ^^^ ·) a b) c) = more 0#32 a ^^^ more 0#32 b ^^^ more 0#32 c := by
  unfold more
  generalize hu : ~~~ (0#32) = u
  have e : u = (u ^^^ u) ^^^ u := by simp
  conv => lhs; rw [e]
  rw [run_xor _ _ _ _ (by simp; omega), run_xor _ _ _ _ (by omega)]
  simp only [not_eq]
  rw [show run u a ^^^ BitVec.allOnes 32 ^^^ (run u b ^^^ BitVec.allOnes 32) ^^^ (run u c ^^^ BitVec.allOnes 32) = (run u a ^^^ run u b ^^^ run u c ^^^ BitVec.allOnes 32) ^^^ (BitVec.allOnes 32 ^^^ BitVec.allOnes 32) by ac_rfl]
  simp

def bit (b : Bool) : W := if b then 1#32 else 0#32
theorem bit_xor (a b : Bool) : bit (a ^^ b) = bit a ^^^ bit b := by cases a <;> cases b <;> decide
/-- A register run over bits, the lowest of a byte first. -/
def runb (r : W) (l : List Bool) : W := l.foldl (fun r b => D (r ^^^ bit b)) r
theorem runb_cons (r : W) (b : Bool) (l : List Bool) : runb r (b :: l) = runb (D (r ^^^ bit b)) l := rfl
theorem runb_append (r : W) (a b : List Bool) : runb r (a ++ b) = runb (runb r a) b := by unfold runb; rw [List.foldl_append]
theorem runb_reg (r s : W) (l : List Bool) : runb (r ^^^ s) l = it D l.length r ^^^ runb s l := by
  induction l generalizing r s with
  | nil => rfl
  | cons b l ih =>
    simp only [runb_cons, List.length_cons]
    rw [BitVec.xor_assoc, D_xor, ih]; rfl
theorem runb_false (r : W) (n : Nat) : runb r (List.replicate n false) = it D n r := by
  induction n generalizing r with
  | zero => rfl
  | succ n ih => rw [List.replicate_succ, runb_cons, ih, show r ^^^ bit false = r from BitVec.xor_zero]; rfl
def word : List Bool → W
  | [] => 0#32
  | b :: l => bit b ^^^ (word l <<< 1)
theorem word_bit (l : List Bool) (i : Nat) (hi : i < 32) : (word l).getLsbD i = l.getD i false := by
  induction l generalizing i with
  | nil => simp [word]
  | cons b l ih =>
    simp only [word, BitVec.getLsbD_xor]
    cases i with
    | zero => cases b <;> simp [bit]
    | succ i =>
      rw [BitVec.getLsbD_shiftLeft]
      have h1 : (bit b).getLsbD (i + 1) = false := by cases b <;> simp [bit, BitVec.getLsbD_one]
      rw [h1]
      simp [hi, ih i (by omega)]
theorem D_shl (y : W) (h : y.getLsbD 31 = false) : D (y <<< 1) = y := by
  have h0 : (y <<< 1).getLsbD 0 = false := by simp
  unfold D
  rw [if_neg (by rw [h0]; decide)]
  apply BitVec.eq_of_getLsbD_eq
  intro i hi
  rw [BitVec.getLsbD_ushiftRight, BitVec.getLsbD_shiftLeft]
  by_cases h1 : i = 31
  · subst h1; rw [h]; simp
  · simp [show 1 + i < 32 by omega, show ¬ 1 + i < 1 by omega]
theorem runb_word (r : W) (l : List Bool) (h : l.length ≤ 32) : runb r l = it D l.length (r ^^^ word l) := by
  induction l generalizing r with
  | nil => simp [runb, word, it]
  | cons b l ih =>
    simp only [List.length_cons] at h
    rw [runb_cons, ih _ (by omega), List.length_cons]
    show _ = it D l.length (D (r ^^^ word (b :: l)))
    simp only [word]
    rw [← BitVec.xor_assoc, D_xor (r ^^^ bit b), D_shl]
    rw [word_bit _ _ (by omega)]
    simp [List.getElem?_eq_none (show l.length ≤ 31 by omega)]
/-- Bits turned within 32 beside one another make another number. -/
theorem burst (a z : Nat) (mid : List Bool) (h : mid.length ≤ 32) (hz : runb 0#32 (List.replicate a false ++ mid ++ List.replicate z false) = 0#32) : ∀ b ∈ mid, b = false := by
  rw [runb_append, runb_append, runb_false, runb_false, (Lin.D.it a).zero, runb_word _ _ h, BitVec.zero_xor] at hz
  have h1 := it_inj z _ 0#32 (by rw [hz, (Lin.D.it z).zero])
  have h2 := it_inj _ _ 0#32 (by rw [h1, (Lin.D.it _).zero])
  intro b hb
  obtain ⟨i, hi, rfl⟩ := List.getElem_of_mem hb
  have h3 := word_bit mid i (by omega)
  rw [h2] at h3
  simpa [List.getD_eq_getElem?_getD, hi] using h3.symm
def bits8 (x : BitVec 8) : List Bool := [x.getLsbD 0, x.getLsbD 1, x.getLsbD 2, x.getLsbD 3, x.getLsbD 4, x.getLsbD 5, x.getLsbD 6, x.getLsbD 7]
theorem byte_fin : ∀ i : Fin 256, runb 0#32 (bits8 (BitVec.ofFin i)) = it D 8 (BitVec.ofNat 32 i.val) := by decide +kernel
theorem byte (r : W) (x : BitVec 8) : runb r (bits8 x) = it D 8 (r ^^^ BitVec.ofNat 32 x.toNat) := by
  have := runb_reg r 0#32 (bits8 x)
  rw [BitVec.xor_zero] at this
  rw [this, (Lin.D.it 8).xor]
  have h2 := byte_fin x.toFin
  rw [show BitVec.ofFin x.toFin = x from rfl] at h2
  rw [h2]
  rfl
theorem run_bits (r : W) (l : List (BitVec 8)) : run r (l.map fun x => BitVec.ofNat 32 x.toNat) = runb r (l.flatMap bits8) := by
  induction l generalizing r with
  | nil => rfl
  | cons x l ih => rw [List.map_cons, run_cons, List.flatMap_cons, runb_append, byte, ih]
end Go.Proofs.Ytlaglidgjnpncaa.Crc
