/- The program's Bad: where the longest well-formed beginning ends. -/
import Derived.Test.YtabjfpjmiiiecaaChkr
import Derived.Test.YtabjfpjmiiiecaaD4
import Derived.Test.YtabjfpjmiiiecaaD5
namespace Go.Proofs.Ytabjfpjmiiiecaa.CK
set_option linter.unusedVariables false
set_option linter.unusedSimpArgs false
open Go.RowKit Go.Proofs.YtabjfpjmiiiecaaW.PrintWords Go.Proofs.Ytabjfpjmiiiecaa.B Go.Proofs.Ytabjfpjmiiiecaa.D
theorem take_ev (n l h x : Int) : Ev (fun k => runes_state_take.f k n l h x) (takeV n l h x) := ⟨2, fun k hk => by
  obtain ⟨q, rfl⟩ : ∃ q, k = q + 2 := ⟨k - 2, by omega⟩
  exact take_f q n l h x⟩
def autoV : List Int → Int → Int → Int → Nat → Nat → Nat
  | [], n, _, _, b, i => if n > 0 then b else i
  | x :: r, n, l, h, b, i => if (takeV n l h x).1 = true then autoV r (takeV n l h x).2.1 (takeV n l h x).2.2.1 (takeV n l h x).2.2.2 (if n = 0 then i else b) (i + 1) else (if n = 0 then i else b)
theorem auto_cons (x : Int) (r : List Int) (n l h : Int) (b i : Nat) : autoV (x :: r) n l h b i = if (takeV n l h x).1 = true then autoV r (takeV n l h x).2.1 (takeV n l h x).2.2.1 (takeV n l h x).2.2.2 (if n = 0 then i else b) (i + 1) else (if n = 0 then i else b) := rfl
theorem auto_nil (n l h : Int) (b i : Nat) : autoV [] n l h b i = if n > 0 then b else i := rfl
theorem bad_l0 (s : ByteArray) (hs : s.size ≤ 140737488351232) (c : Nat) : ∀ (i b : Nat) (n l h : Int), s.size - i = c → i ≤ s.size →
    Ev (fun k => runes_Bad_string.l0 k s (b : Int) (s.size : Int) (i : Int) n l h) ((autoV ((bytesOf s).drop i) n l h b i : Nat) : Int) := by
  induction c with
  | zero =>
    intro i b n l h hc hi
    refine Ev.last fun k => ?_
    rw [runes_Bad_string.l0, if_neg (by omega), List.drop_eq_nil_of_le (by rw [bytesOf_len]; omega)]
    rw [auto_nil]
    by_cases hn : n > 0
    · rw [if_pos hn, if_pos hn]
    · rw [if_neg hn, if_neg hn, show i = s.size from by omega]
  | succ c ih =>
    intro i b n l h hc hi
    have hlt : i < s.size := by omega
    have hl : i < (bytesOf s).length := by rw [bytesOf_len]; exact hlt
    rw [List.drop_eq_getElem_cons hl]
    obtain ⟨x, hx⟩ : ∃ x, bt s (i : Int) = x := ⟨_, rfl⟩
    have hx2 : (bytesOf s)[i] = x := (bt_bytes s i hl).symm.trans hx
    rw [hx2, auto_cons]
    have ht := take_ev n l h x
    obtain ⟨K, hK⟩ := ht
    have hrest := ih (i + 1) (if n = 0 then i else b) (takeV n l h x).2.1 (takeV n l h x).2.2.1 (takeV n l h x).2.2.2 (by omega) (by omega)
    obtain ⟨K2, hK2⟩ := hrest
    refine ⟨max K K2 + 1, fun k hk => ?_⟩
    obtain ⟨q, rfl⟩ : ∃ q, k = q + 1 := ⟨k - 1, by omega⟩
    have e1 := hK q (by omega)
    have e2 := hK2 q (by omega)
    dsimp only at e1 e2 ⊢
    rw [runes_Bad_string.l0, if_pos (by omega)]
    by_cases hn : n = 0
    · rw [if_pos hn, if_pos (by omega), if_pos (by omega), hx, e1, bind_some']
      rw [if_pos hn] at e2 ⊢
      by_cases h1 : (takeV n l h x).1 = true
      · rw [if_pos h1, if_pos h1, wrap_id _ (by omega) (by omega)]
        exact e2
      · rw [if_neg h1, if_neg h1]
    · rw [if_neg hn, if_pos (by omega), if_pos (by omega), hx, e1, bind_some']
      rw [if_neg hn] at e2 ⊢
      by_cases h1 : (takeV n l h x).1 = true
      · rw [if_pos h1, if_pos h1, wrap_id _ (by omega) (by omega)]
        exact e2
      · rw [if_neg h1, if_neg h1]
theorem bad_ev (s : ByteArray) (hs : s.size ≤ 140737488351232) : Ev (fun k => runes_Bad_string.f k s) ((autoV (bytesOf s) 0 0 0 0 0 : Nat) : Int) := by
  unfold runes_Bad_string.f
  have := bad_l0 s hs s.size 0 0 0 0 0 (by omega) (Nat.zero_le _)
  rw [List.drop_zero] at this
  exact this
theorem badB_l0 (s : List Int) (hs : s.length ≤ 140737488351232) (c : Nat) : ∀ (i b : Nat) (n l h : Int), s.length - i = c → i ≤ s.length →
    Ev (fun k => runes_Bad_byte.l0 k s (b : Int) (s.length : Int) (i : Int) n l h) ((autoV (s.drop i) n l h b i : Nat) : Int) := by
  induction c with
  | zero =>
    intro i b n l h hc hi
    refine Ev.last fun k => ?_
    rw [runes_Bad_byte.l0, if_neg (by omega), List.drop_eq_nil_of_le (by omega)]
    rw [auto_nil]
    by_cases hn : n > 0
    · rw [if_pos hn, if_pos hn]
    · rw [if_neg hn, if_neg hn, show i = s.length from by omega]
  | succ c ih =>
    intro i b n l h hc hi
    have hlt : i < s.length := by omega
    have hl : i < s.length := hlt
    rw [List.drop_eq_getElem_cons hl]
    obtain ⟨x, hx⟩ : ∃ x, rd s (i : Int) = x := ⟨_, rfl⟩
    have hx2 : s[i] = x := (rd_nat s i hl).symm.trans hx
    rw [hx2, auto_cons]
    have ht := take_ev n l h x
    obtain ⟨K, hK⟩ := ht
    have hrest := ih (i + 1) (if n = 0 then i else b) (takeV n l h x).2.1 (takeV n l h x).2.2.1 (takeV n l h x).2.2.2 (by omega) (by omega)
    obtain ⟨K2, hK2⟩ := hrest
    refine ⟨max K K2 + 1, fun k hk => ?_⟩
    obtain ⟨q, rfl⟩ : ∃ q, k = q + 1 := ⟨k - 1, by omega⟩
    have e1 := hK q (by omega)
    have e2 := hK2 q (by omega)
    dsimp only at e1 e2 ⊢
    rw [runes_Bad_byte.l0, if_pos (by omega)]
    by_cases hn : n = 0
    · rw [if_pos hn, if_pos (by omega), if_pos (by omega), hx, e1, bind_some']
      rw [if_pos hn] at e2 ⊢
      by_cases h1 : (takeV n l h x).1 = true
      · rw [if_pos h1, if_pos h1, wrap_id _ (by omega) (by omega)]
        exact e2
      · rw [if_neg h1, if_neg h1]
    · rw [if_neg hn, if_pos (by omega), if_pos (by omega), hx, e1, bind_some']
      rw [if_neg hn] at e2 ⊢
      by_cases h1 : (takeV n l h x).1 = true
      · rw [if_pos h1, if_pos h1, wrap_id _ (by omega) (by omega)]
        exact e2
      · rw [if_neg h1, if_neg h1]
theorem badB_ev (s : List Int) (hs : s.length ≤ 140737488351232) : Ev (fun k => runes_Bad_byte.f k s) ((autoV s 0 0 0 0 0 : Nat) : Int) := by
  unfold runes_Bad_byte.f
  have := badB_l0 s hs s.length 0 0 0 0 0 (by omega) (Nat.zero_le _)
  rw [List.drop_zero] at this
  exact this
def contV : Nat → Int → Int → List Int → Bool
  | 0, _, _, _ => true
  | _ + 1, _, _, [] => false
  | m + 1, lo, hi, y :: r => decide (lo ≤ y) && decide (y ≤ hi) && contV m 128 191 r
def ldN (x : Int) : Nat := if x < 224 then 1 else if x < 240 then 2 else 3
def ldL (x : Int) : Int := if x = 224 then 160 else if x = 240 then 144 else 128
def ldH (x : Int) : Int := if x = 237 then 159 else if x = 244 then 143 else 191
theorem cont_cons (m : Nat) (lo hi y : Int) (r : List Int) : contV (m + 1) lo hi (y :: r) = (decide (lo ≤ y) && decide (y ≤ hi) && contV m 128 191 r) := rfl
/-- How many bytes of a rune stand at the head; 0: none does. -/
def oneV : List Int → Nat
  | [] => 0
  | x :: r => if x < 128 then 1 else if x < 194 then 0 else if x > 244 then 0 else if contV (ldN x) (ldL x) (ldH x) r = true then ldN x + 1 else 0
def badV : Nat → List Int → Nat
  | 0, _ => 0
  | f + 1, l => if oneV l = 0 then 0 else oneV l + badV f (l.drop (oneV l))
theorem ldN_int (x : Int) : (if x < 224 then (1 : Int) else if x < 240 then 2 else 3) = ((ldN x : Nat) : Int) := by
  unfold ldN
  split
  · rfl
  · split <;> rfl
theorem ldN_le (x : Int) : 0 < ldN x ∧ ldN x ≤ 3 := by
  unfold ldN
  split
  · omega
  · split <;> omega
theorem bad_succ (f : Nat) (l : List Int) : badV (f + 1) l = if oneV l = 0 then 0 else oneV l + badV f (l.drop (oneV l)) := rfl
theorem one_cons (x : Int) (r : List Int) : oneV (x :: r) = if x < 128 then 1 else if x < 194 then 0 else if x > 244 then 0 else if contV (ldN x) (ldL x) (ldH x) r = true then ldN x + 1 else 0 := rfl
theorem auto_cont : ∀ (m : Nat) (lo hi : Int) (r : List Int) (b i : Nat), 0 < m → m ≤ 3 → autoV r (m : Int) lo hi b i = if contV m lo hi r = true then autoV (r.drop m) 0 128 191 b (i + m) else b
  | 0, _, _, _, _, _, h, _ => absurd h (by decide)
  | m + 1, lo, hi, [], b, i, _, _ => by
    rw [auto_nil, show contV (m + 1) lo hi [] = false from rfl, if_pos (by omega), if_neg (by decide)]
  | m + 1, lo, hi, y :: r, b, i, _, h3 => by
    have hn : ¬ ((m + 1 : Nat) : Int) = 0 := by omega
    rw [auto_cons, cont_cons, if_neg hn]
    unfold takeV
    rw [if_pos (show ((m + 1 : Nat) : Int) > 0 by omega)]
    by_cases h1 : y < lo
    · rw [if_pos h1, if_neg (by intro h; cases h), if_neg (by simp; omega)]
    rw [if_neg h1]
    by_cases h2 : y > hi
    · rw [if_pos h2, if_neg (by intro h; cases h), if_neg (by simp; omega)]
    rw [if_neg h2, if_pos rfl, decide_eq_true (show lo ≤ y by omega), decide_eq_true (show y ≤ hi by omega), Bool.true_and, Bool.true_and]
    dsimp only
    rw [show (((m + 1 : Nat) : Int) - 1) % 256 = (m : Int) from by omega, List.drop_succ_cons]
    cases m with
    | zero => rw [show contV 0 128 191 r = true from rfl, if_pos rfl, List.drop_zero]; rfl
    | succ m =>
      rw [auto_cont (m + 1) 128 191 r b (i + 1) (by omega) (by omega), show i + 1 + (m + 1) = i + (m + 1 + 1) from by omega]
theorem auto_zero (r : List Int) (l h : Int) (b i : Nat) : autoV r 0 l h b i = autoV r 0 0 0 0 i := by
  cases r with
  | nil => rfl
  | cons x r => rfl
theorem auto_bad : ∀ (f : Nat) (l : List Int) (i : Nat), l.length ≤ f → autoV l 0 0 0 0 i = i + badV f l
  | 0, l, i, hl => by
    obtain rfl := List.eq_nil_of_length_eq_zero (Nat.le_zero.1 hl)
    rfl
  | f + 1, [], i, _ => by
    rw [auto_nil, bad_succ, if_neg (by decide), if_pos (show oneV [] = 0 from rfl)]
    rfl
  | f + 1, x :: r, i, hl => by
    have hr : r.length ≤ f := by rw [List.length_cons] at hl; omega
    rw [auto_cons, bad_succ, one_cons, if_pos rfl]
    unfold takeV
    rw [if_neg (show ¬ (0 : Int) > 0 by decide)]
    by_cases h1 : x < 128
    · rw [if_pos h1, if_pos h1, if_pos rfl, if_neg (by decide), List.drop_succ_cons, List.drop_zero]
      dsimp only
      rw [auto_zero, auto_bad f r (i + 1) hr]
      omega
    rw [if_neg h1, if_neg h1]
    by_cases h2 : x < 194
    · rw [if_pos h2, if_pos h2, if_neg (by intro h; cases h), if_pos rfl]; rfl
    rw [if_neg h2, if_neg h2]
    by_cases h3 : x > 244
    · rw [if_pos h3, if_pos h3, if_neg (by intro h; cases h), if_pos rfl]; rfl
    rw [if_neg h3, if_neg h3, if_pos rfl]
    dsimp only
    have hN : (if x < 224 then (1 : Int) else if x < 240 then 2 else 3) = ((ldN x : Nat) : Int) := ldN_int x
    have hN2 : 0 < ldN x ∧ ldN x ≤ 3 := ldN_le x
    rw [hN]
    have := auto_cont (ldN x) (ldL x) (ldH x) r i (i + 1) hN2.1 hN2.2
    unfold ldL ldH at this
    rw [this]
    by_cases hc : contV (ldN x) (ldL x) (ldH x) r = true
    · have hc2 := hc
      unfold ldL ldH at hc2
      rw [if_pos hc2, if_pos hc, if_neg (by omega), List.drop_succ_cons, auto_zero, auto_bad f (r.drop (ldN x)) (i + 1 + ldN x) (by rw [List.length_drop]; omega)]
      omega
    · have hc2 := hc
      unfold ldL ldH at hc2
      rw [if_neg hc2, if_neg hc, if_pos rfl]; rfl
end Go.Proofs.Ytabjfpjmiiiecaa.CK
