/- Base64, the program's and the reference's, as one plain function on lists. -/
import Derived.Test.YtokgckhhhhigiaaBase
import Derived.Test.YtokgckhhhhigiaaG2
import Derived.Test.YtokgckhhhhigiaaG4
namespace Go.Proofs.Ytokgckhhhhigiaa.B64
set_option linter.unusedVariables false
set_option linter.unusedSimpArgs false
open Go.RowKit Go.Proofs.YtokgckhhhhigiaaW.PrintWords Go.Proofs.Ytokgckhhhhigiaa.B Go.Proofs.Ytokgckhhhhigiaa.G

theorem rd_nat (xs : List Int) (i : Nat) (h : i < xs.length) : rd xs (i : Int) = xs[i] := by
  unfold rd
  simp [List.getD_eq_getElem?_getD, h]
abbrev letT : ByteArray := ⟨#[65, 66, 67, 68, 69, 70, 71, 72, 73, 74, 75, 76, 77, 78, 79, 80, 81, 82, 83, 84, 85, 86, 87, 88, 89, 90, 97, 98, 99, 100, 101, 102, 103, 104, 105, 106, 107, 108, 109, 110, 111, 112, 113, 114, 115, 116, 117, 118, 119, 120, 121, 122, 48, 49, 50, 51, 52, 53, 54, 55, 56, 57, 43, 47]⟩
/-- The letter of a number below 64. -/
def let' (i : Int) : Int := bt letT i
theorem let_range : ∀ i : Fin 64, 43 ≤ let' (i.val : Int) ∧ let' (i.val : Int) ≤ 122 := by decide +kernel
theorem let_in (i : Int) (h : 0 ≤ i ∧ i < 64) : 43 ≤ let' i ∧ let' i ≤ 122 := by
  have := let_range ⟨i.toNat, by omega⟩
  simp only at this
  rwa [Int.toNat_of_nonneg h.1] at this
def b64 : List Int → List Int
  | a :: b :: c :: r => let' (a / 4) :: let' (a % 4 * 16 + b / 16) :: let' (b % 16 * 4 + c / 64) :: let' (c % 64) :: b64 r
  | [a, b] => [let' (a / 4), let' (a % 4 * 16 + b / 16), let' (b % 16 * 4), 61]
  | [a] => [let' (a / 4), let' (a % 4 * 16), 61, 61]
  | [] => []
theorem InB.tail {a : Int} {r : List Int} (h : InB (a :: r)) : (0 ≤ a ∧ a ≤ 255) ∧ InB r := ⟨h a List.mem_cons_self, fun x hx => h x (List.mem_cons_of_mem _ hx)⟩
theorem InB.cons {a : Int} {r : List Int} (ha : 0 ≤ a ∧ a ≤ 255) (h : InB r) : InB (a :: r) := fun x hx => by
  rcases List.mem_cons.1 hx with rfl | hx
  · exact ha
  · exact h x hx
theorem InB.nil : InB [] := fun x hx => by cases hx
theorem let_b (i : Int) (h : 0 ≤ i ∧ i < 64) : 0 ≤ let' i ∧ let' i ≤ 255 := by have := let_in i h; omega
theorem b64_in : ∀ (xs : List Int), InB xs → InB (b64 xs)
  | [], _ => InB.nil
  | [a], h => by
    have h1 := (InB.tail h).1
    exact InB.cons (let_b _ (by omega)) (InB.cons (let_b _ (by omega)) (InB.cons (by omega) (InB.cons (by omega) InB.nil)))
  | [a, b], h => by
    obtain ⟨h1, h⟩ := InB.tail h
    have h2 := (InB.tail h).1
    exact InB.cons (let_b _ (by omega)) (InB.cons (let_b _ (by omega)) (InB.cons (let_b _ (by omega)) (InB.cons (by omega) InB.nil)))
  | a :: b :: c :: r, h => by
    obtain ⟨h1, h⟩ := InB.tail h
    obtain ⟨h2, h⟩ := InB.tail h
    obtain ⟨h3, h⟩ := InB.tail h
    exact InB.cons (let_b _ (by omega)) (InB.cons (let_b _ (by omega)) (InB.cons (let_b _ (by omega)) (InB.cons (let_b _ (by omega)) (b64_in r h))))
theorem b64_len : ∀ (xs : List Int), (b64 xs).length = 4 * ((xs.length + 2) / 3)
  | [] => rfl
  | [a] => by simp [b64]
  | [a, b] => by simp [b64]
  | a :: b :: c :: r => by
    have := b64_len r
    simp only [b64, List.length_cons, this]
    omega

theorem and3 : ∀ x : Fin 256, Go.bits .and .u8 (x.val : Int) 3 = (x.val : Int) % 4 := by decide +kernel
theorem and15 : ∀ x : Fin 256, Go.bits .and .u8 (x.val : Int) 15 = (x.val : Int) % 16 := by decide +kernel
theorem and63 : ∀ x : Fin 256, Go.bits .and .u8 (x.val : Int) 63 = (x.val : Int) % 64 := by decide +kernel
theorem or16 : ∀ (a : Fin 4) (b : Fin 16), Go.bits .or .u8 ((a.val : Int) * 16) (b.val : Int) = (a.val : Int) * 16 + (b.val : Int) := by decide +kernel
theorem or4 : ∀ (a : Fin 16) (b : Fin 4), Go.bits .or .u8 ((a.val : Int) * 4) (b.val : Int) = (a.val : Int) * 4 + (b.val : Int) := by decide +kernel
theorem of_fin {n : Nat} {p : Int → Prop} (h : ∀ x : Fin n, p (x.val : Int)) (x : Int) (hx : 0 ≤ x ∧ x < n) : p x := by
  have := h ⟨x.toNat, by omega⟩
  simp only at this
  rwa [Int.toNat_of_nonneg hx.1] at this
theorem and3_of (x : Int) (h : 0 ≤ x ∧ x ≤ 255) : Go.bits .and .u8 x 3 = x % 4 := of_fin (p := fun x => Go.bits .and .u8 x 3 = x % 4) and3 x (by omega)
theorem and15_of (x : Int) (h : 0 ≤ x ∧ x ≤ 255) : Go.bits .and .u8 x 15 = x % 16 := of_fin (p := fun x => Go.bits .and .u8 x 15 = x % 16) and15 x (by omega)
theorem and63_of (x : Int) (h : 0 ≤ x ∧ x ≤ 255) : Go.bits .and .u8 x 63 = x % 64 := of_fin (p := fun x => Go.bits .and .u8 x 63 = x % 64) and63 x (by omega)
theorem or16_of (a b : Int) (ha : 0 ≤ a ∧ a < 4) (hb : 0 ≤ b ∧ b < 16) : Go.bits .or .u8 (a * 16) b = a * 16 + b :=
  of_fin (n := 4) (p := fun a => Go.bits .or .u8 (a * 16) b = a * 16 + b) (fun x => of_fin (n := 16) (p := fun b => Go.bits .or .u8 ((x.val : Int) * 16) b = (x.val : Int) * 16 + b) (or16 x) b (by omega)) a (by omega)
theorem or4_of (a b : Int) (ha : 0 ≤ a ∧ a < 16) (hb : 0 ≤ b ∧ b < 4) : Go.bits .or .u8 (a * 4) b = a * 4 + b :=
  of_fin (n := 16) (p := fun a => Go.bits .or .u8 (a * 4) b = a * 4 + b) (fun x => of_fin (n := 4) (p := fun b => Go.bits .or .u8 ((x.val : Int) * 4) b = (x.val : Int) * 4 + b) (or4 x) b (by omega)) a (by omega)

theorem code_loop (d : Nat) : ∀ (xs acc : List Int), InB xs → xs.length ≤ 3 * d → acc.length + 4 * d ≤ 140737488355000 → Ev (fun k => code_Base64.l0 k xs acc) (strOfNums (acc ++ b64 xs)) := by
  induction d with
  | zero =>
    intro xs acc hx hl ha
    obtain rfl : xs = [] := List.eq_nil_of_length_eq_zero (by omega)
    refine Ev.last fun k => ?_
    simp only [code_Base64.l0]
    rw [if_neg (by decide), if_neg (by decide), if_neg (by decide)]
    simp [b64]
  | succ d ih =>
    intro xs acc hx hl ha
    match xs, hx, hl with
    | [], hx, hl =>
      refine Ev.last fun k => ?_
      simp only [code_Base64.l0]
      rw [if_neg (by decide), if_neg (by decide), if_neg (by decide)]
      simp [b64]
    | [a], hx, hl =>
      have h1 := (InB.tail hx).1
      refine Ev.last fun k => ?_
      simp only [code_Base64.l0]
      rw [show rd [a] 0 = a from rfl, and3_of _ h1, show a % 4 * 16 % 256 = a % 4 * 16 from by omega]
      rw [if_neg (by simp), if_pos (by simp), if_pos (by simp), if_pos (by omega), if_pos (by omega), if_pos (by omega), if_pos (by omega), bind_some', if_pos (by simp; omega)]
      rfl
    | [a, b], hx, hl =>
      obtain ⟨h1, hx⟩ := InB.tail hx
      have h2 := (InB.tail hx).1
      refine Ev.last fun k => ?_
      simp only [code_Base64.l0]
      rw [show rd [a, b] 0 = a from rfl, show rd [a, b] 1 = b from rfl, and3_of _ h1, and15_of _ h2, show a % 4 * 16 % 256 = a % 4 * 16 from by omega, show b % 16 * 4 % 256 = b % 16 * 4 from by omega, or16_of _ _ (by omega) (by omega)]
      rw [if_neg (by simp), if_neg (by simp), if_pos (by simp), if_pos (by simp), if_pos (by omega), if_pos (by omega), if_pos (by simp), if_pos (by omega), if_pos (by omega), if_pos (by omega), if_pos (by omega), bind_some', if_pos (by simp; omega)]
      rfl
    | a :: b :: c :: r, hx, hl =>
      obtain ⟨h1, hx⟩ := InB.tail hx
      obtain ⟨h2, hx⟩ := InB.tail hx
      obtain ⟨h3, hx⟩ := InB.tail hx
      have key := ih r (acc ++ [let' (a / 4), let' (a % 4 * 16 + b / 16), let' (b % 16 * 4 + c / 64), let' (c % 64)]) hx (by simp at hl; omega) (by simp; omega)
      rw [show (acc ++ [let' (a / 4), let' (a % 4 * 16 + b / 16), let' (b % 16 * 4 + c / 64), let' (c % 64)]) ++ b64 r = acc ++ b64 (a :: b :: c :: r) from by simp [b64]] at key
      refine Ev.round (f := fun k => code_Base64.l0 k r (acc ++ [let' (a / 4), let' (a % 4 * 16 + b / 16), let' (b % 16 * 4 + c / 64), let' (c % 64)])) (fun k => ?_) key
      have hlen : ((a :: b :: c :: r).length : Int) = (r.length : Int) + 3 := by simp; omega
      simp only [code_Base64.l0]
      rw [show rd (a :: b :: c :: r) 0 = a from rfl, show rd (a :: b :: c :: r) 1 = b from rfl, show rd (a :: b :: c :: r) 2 = c from rfl, and3_of _ h1, and15_of _ h2, and63_of _ h3, show a % 4 * 16 % 256 = a % 4 * 16 from by omega, show b % 16 * 4 % 256 = b % 16 * 4 from by omega, or16_of _ _ (by omega) (by omega), or4_of _ _ (by omega) (by omega), hlen]
      rw [if_pos (by omega), if_pos (by omega), if_pos (by omega), if_pos (by omega), if_pos (by omega), if_pos (by omega), if_pos (by omega), if_pos (by omega), if_pos (by omega), if_pos (by omega), if_pos (by omega), if_pos (by omega), bind_some', if_pos (by simp; omega), if_pos (by omega)]
      rfl

theorem Base64_ev (xs : List Int) (hx : InB xs) (hl : xs.length ≤ 70368744177664) : Ev (fun k => code_Base64.f k xs) (strOfNums (b64 xs)) := by
  have key := code_loop ((xs.length + 2) / 3) xs [] hx (by omega) (by simp; omega)
  rw [List.nil_append] at key
  refine Ev.congr (fun k => ?_) key
  unfold code_Base64.f
  rw [wrap_id ((xs.length : Int) + 2) (by omega) (by omega), Int.tdiv_eq_ediv_of_nonneg (by omega), wrap_id (((xs.length : Int) + 2) / 3) (by omega) (by omega), wrap_id _ (by omega) (by omega), if_pos (by omega), if_pos (by omega)]

/-! ### The reference's: the bits of three bytes -/
theorem ref_l1 (xs acc : List Int) (i : Nat) (hi : i < xs.length) (hl : xs.length ≤ 70368744177664) (hx : InB xs) (n : Nat) (hn : n < 3) (b : Int) (hb : 0 ≤ b ∧ b < 65536) (r : ByteArray)
    (h : Ev (fun k => posthornref04_Base64.l1 k xs acc (i : Int) (b * 256 + xs.getD (i + n) 0) ((n + 1 : Nat) : Int)) r) :
    Ev (fun k => posthornref04_Base64.l1 k xs acc (i : Int) b (n : Int)) r := by
  by_cases hin : i + n < xs.length
  · have hr := hx xs[i + n] (List.getElem_mem hin)
    refine Ev.round (f := fun k => posthornref04_Base64.l1 k xs acc (i : Int) (b * 256 + xs.getD (i + n) 0) ((n + 1 : Nat) : Int)) (fun k => ?_) h
    simp only [posthornref04_Base64.l1]
    rw [if_pos (by omega), wrap_id ((i : Int) + n) (by omega) (by omega), if_pos (by omega), if_pos (by omega), show ((i : Int) + (n : Int)) = ((i + n : Nat) : Int) from by omega, rd_nat _ _ hin, wrap_id xs[i + n] (by omega) (by omega), wrap_id (b * 256) (by omega) (by omega), wrap_id _ (by omega) (by omega), wrap_id _ (by omega) (by omega), List.getD_eq_getElem?_getD, List.getElem?_eq_getElem hin]
    rfl
  · refine Ev.round (f := fun k => posthornref04_Base64.l1 k xs acc (i : Int) (b * 256 + xs.getD (i + n) 0) ((n + 1 : Nat) : Int)) (fun k => ?_) h
    simp only [posthornref04_Base64.l1]
    rw [if_pos (by omega), wrap_id ((i : Int) + n) (by omega) (by omega), if_neg (by omega), wrap_id (b * 256) (by omega) (by omega), wrap_id _ (by omega) (by omega), List.getD_eq_getElem?_getD, List.getElem?_eq_none (by omega)]
    simp

theorem four (a b c : Int) (ha : 0 ≤ a ∧ a ≤ 255) (hb : 0 ≤ b ∧ b ≤ 255) (hc : 0 ≤ c ∧ c ≤ 255) (q : Int) (hq : q = (a * 256 + b) * 256 + c) :
    wrap64 (Int.tdiv q 262144) = a / 4 ∧ Int.tmod (wrap64 (Int.tdiv q 4096)) 64 = a % 4 * 16 + b / 16 ∧ Int.tmod (wrap64 (Int.tdiv q 64)) 64 = b % 16 * 4 + c / 64 ∧ Int.tmod q 64 = c % 64 := by
  have h0 : 0 ≤ q := by omega
  rw [Int.tdiv_eq_ediv_of_nonneg h0, Int.tdiv_eq_ediv_of_nonneg h0, Int.tdiv_eq_ediv_of_nonneg h0, Int.tmod_eq_emod_of_nonneg h0, wrap_id _ (by omega) (by omega), wrap_id _ (by omega) (by omega), wrap_id _ (by omega) (by omega), Int.tmod_eq_emod_of_nonneg (by omega), Int.tmod_eq_emod_of_nonneg (by omega)]
  omega

theorem wrap_add (i : Nat) (c : Int) (h : i ≤ 70368744177664) (hc : 0 ≤ c ∧ c ≤ 8) : wrap64 ((i : Int) + c) = (i : Int) + c := wrap_id _ (by omega) (by omega)
/-- The four letters, written: all of them, three and a sign, two and two signs. -/
theorem ref_put (xs acc : List Int) (i : Nat) (hl : xs.length ≤ 70368744177664) (hi : i < xs.length) (ha : acc.length + 4 ≤ 140737488355000) (q a b c d : Int) (h1 : wrap64 (Int.tdiv q 262144) = a) (h2 : Int.tmod (wrap64 (Int.tdiv q 4096)) 64 = b)
    (h3 : Int.tmod (wrap64 (Int.tdiv q 64)) 64 = c) (h4 : Int.tmod q 64 = d) (ra : 0 ≤ a ∧ a < 64) (rb : 0 ≤ b ∧ b < 64) (rc : 0 ≤ c ∧ c < 64) (rd : 0 ≤ d ∧ d < 64) (r : ByteArray) (out : List Int)
    (hout : out = if i + 1 < xs.length then (if i + 2 < xs.length then [let' a, let' b, let' c, let' d] else [let' a, let' b, let' c, 61]) else [let' a, let' b, 61, 61])
    (h : Ev (fun k => posthornref04_Base64.l0 k xs (acc ++ out) ((i + 3 : Nat) : Int)) r) : Ev (fun k => posthornref04_Base64.l1 k xs acc (i : Int) q 3) r := by
  refine Ev.round (f := fun k => posthornref04_Base64.l0 k xs (acc ++ out) ((i + 3 : Nat) : Int)) (fun k => ?_) h
  have hil : i ≤ 70368744177664 := Nat.le_trans (Nat.le_of_lt hi) hl
  have hw1 := wrap_add i 1 hil (by decide)
  have hw2 := wrap_add i 2 hil (by decide)
  have hw3 := wrap_add i 3 hil (by decide)
  simp only [posthornref04_Base64.l1]
  rw [h1, h2, h3, h4, hw1, hw2, hw3]
  clear h h1 h2 h3 h4 hw1 hw2 hw3
  rw [if_neg (by omega), if_pos ra.1, if_pos ra.2, if_pos rb.1, if_pos rb.2, if_pos rc.1, if_pos rc.2, if_pos rd.1, if_pos rd.2, bind_some']
  by_cases g1 : i + 1 < xs.length
  · rw [if_neg (by omega)]
    by_cases g2 : i + 2 < xs.length
    · rw [if_neg (by omega), if_pos (by simp; omega), hout, if_pos g1, if_pos g2]
      rfl
    · rw [if_pos (by omega), if_pos (by simp), bind_some', if_pos (by simp; omega), hout, if_pos g1, if_neg g2]
      rfl
  · rw [if_pos (by omega), if_pos (by simp), bind_some', if_pos (by omega), if_pos (by simp), bind_some', if_pos (by simp; omega), hout, if_neg g1]
    rfl

theorem ref_loop (xs : List Int) (hx : InB xs) (hl : xs.length ≤ 70368744177664) (d : Nat) : ∀ (i : Nat) (acc : List Int), xs.length - i ≤ 3 * d → acc.length + 4 * d ≤ 140737488355000 → Ev (fun k => posthornref04_Base64.l0 k xs acc (i : Int)) (strOfNums (acc ++ b64 (xs.drop i))) := by
  induction d with
  | zero =>
    intro i acc h ha
    refine Ev.last fun k => ?_
    simp only [posthornref04_Base64.l0]
    rw [if_neg (by omega), List.drop_eq_nil_of_le (by omega)]
    simp [b64]
  | succ d ih =>
    intro i acc h ha
    by_cases hi : i < xs.length
    · refine Ev.round (f := fun k => posthornref04_Base64.l1 k xs acc (i : Int) 0 0) (fun k => by simp only [posthornref04_Base64.l0]; rw [if_pos (by omega)]) ?_
      have hg : ∀ j, 0 ≤ xs.getD j 0 ∧ xs.getD j 0 ≤ 255 := fun j => by
        by_cases hj : j < xs.length
        · rw [List.getD_eq_getElem?_getD, List.getElem?_eq_getElem hj]; exact hx _ (List.getElem_mem hj)
        · rw [List.getD_eq_getElem?_getD, List.getElem?_eq_none (by omega)]; simp
      have g0 := hg (i + 0)
      have g1 := hg (i + 1)
      have g2 := hg (i + 2)
      refine ref_l1 xs acc i hi hl hx 0 (by omega) 0 (by omega) _ ?_
      refine ref_l1 xs acc i hi hl hx 1 (by omega) _ (by omega) _ ?_
      refine ref_l1 xs acc i hi hl hx 2 (by omega) _ (by omega) _ ?_
      obtain ⟨e1, e2, e3, e4⟩ := four (xs.getD (i + 0) 0) (xs.getD (i + 1) 0) (xs.getD (i + 2) 0) g0 g1 g2 (((0 * 256 + xs.getD (i + 0) 0) * 256 + xs.getD (i + 1) 0) * 256 + xs.getD (i + 2) 0) (by omega)
      refine ref_put xs acc i hl hi (by omega) _ _ _ _ _ e1 e2 e3 e4 (by omega) (by omega) (by omega) (by omega) _ _ rfl ?_
      clear e1 e2 e3 e4 g0 g1 g2 hg
      have ea : xs.getD (i + 0) 0 = xs[i] := by rw [Nat.add_zero, List.getD_eq_getElem?_getD, List.getElem?_eq_getElem hi]; rfl
      rw [ea]
      by_cases h1 : i + 1 < xs.length
      · have eb : xs.getD (i + 1) 0 = xs[i + 1] := by rw [List.getD_eq_getElem?_getD, List.getElem?_eq_getElem h1]; rfl
        rw [if_pos h1, eb]
        by_cases h2 : i + 2 < xs.length
        · have ec : xs.getD (i + 2) 0 = xs[i + 2] := by rw [List.getD_eq_getElem?_getD, List.getElem?_eq_getElem h2]; rfl
          rw [if_pos h2, ec]
          have key := ih (i + 3) (acc ++ [let' (xs[i] / 4), let' (xs[i] % 4 * 16 + xs[i + 1] / 16), let' (xs[i + 1] % 16 * 4 + xs[i + 2] / 64), let' (xs[i + 2] % 64)]) (by omega) (by rw [List.length_append]; simp only [List.length_cons, List.length_nil]; omega)
          rw [drop_cons _ i hi, drop_cons _ (i + 1) h1, drop_cons _ (i + 2) h2]
          simpa [b64] using key
        · have ec : xs.getD (i + 2) 0 = 0 := by rw [List.getD_eq_getElem?_getD, List.getElem?_eq_none (by omega)]; rfl
          rw [if_neg h2, ec]
          have key := ih (i + 3) (acc ++ [let' (xs[i] / 4), let' (xs[i] % 4 * 16 + xs[i + 1] / 16), let' (xs[i + 1] % 16 * 4), 61]) (by omega) (by rw [List.length_append]; simp only [List.length_cons, List.length_nil]; omega)
          rw [List.drop_eq_nil_of_le (show xs.length ≤ i + 3 by omega)] at key
          rw [drop_cons _ i hi, drop_cons _ (i + 1) h1, List.drop_eq_nil_of_le (show xs.length ≤ i + 1 + 1 by omega)]
          simpa [b64] using key
      · have eb : xs.getD (i + 1) 0 = 0 := by rw [List.getD_eq_getElem?_getD, List.getElem?_eq_none (by omega)]; rfl
        rw [if_neg h1, eb]
        have key := ih (i + 3) (acc ++ [let' (xs[i] / 4), let' (xs[i] % 4 * 16), 61, 61]) (by omega) (by rw [List.length_append]; simp only [List.length_cons, List.length_nil]; omega)
        rw [List.drop_eq_nil_of_le (show xs.length ≤ i + 3 by omega)] at key
        rw [drop_cons _ i hi, List.drop_eq_nil_of_le (show xs.length ≤ i + 1 by omega)]
        simpa [b64] using key
    · refine Ev.last fun k => ?_
      simp only [posthornref04_Base64.l0]
      rw [if_neg (by omega), List.drop_eq_nil_of_le (by omega)]
      simp [b64]

theorem refBase64_ev (xs : List Int) (hx : InB xs) (hl : xs.length ≤ 70368744177664) : Ev (fun k => posthornref04_Base64.f k xs) (strOfNums (b64 xs)) := by
  have key := ref_loop xs hx hl ((xs.length + 2) / 3) 0 [] (by omega) (by simp; omega)
  rw [List.nil_append, List.drop_zero] at key
  exact Ev.congr (fun k => rfl) key
end Go.Proofs.Ytokgckhhhhigiaa.B64
