/- runes.Unpuny, what it computes: the digits, the steps, the whole. -/
import Derived.Test.YtabjfpjmiiiecaaD4
import Derived.Test.YtabjfpjmiiiecaaD1
import Derived.Test.YtabjfpjmiiiecaaDecP
import Derived.Test.YtabjfpjmiiiecaaCopyIn
namespace Go.Proofs.Ytabjfpjmiiiecaa.UN
set_option linter.unusedVariables false
set_option linter.unusedSimpArgs false
open Go.RowKit Go.Proofs.YtabjfpjmiiiecaaW.PrintWords Go.Proofs.YtabjfpjmiiiecaaW.PrintLast Go.Proofs.YtabjfpjmiiiecaaW.PrintMore Go.Proofs.Ytabjfpjmiiiecaa.B Go.Proofs.Ytabjfpjmiiiecaa.D Go.Proofs.Ytabjfpjmiiiecaa.DE Go.Proofs.Ytabjfpjmiiiecaa.CI Go.Lib
/-- The place of the first letter that is not basic. -/
def basicV (L : List Int) : Nat → Nat → Option Nat
  | 0, _ => none
  | n + 1, i => if L.getD i 0 > 127 then some i else basicV L n (i + 1)
/-- What a letter says as a digit. -/
def valV (b : Int) : Int × Bool := if 97 ≤ b ∧ b ≤ 122 then (b - 97, true) else if 65 ≤ b ∧ b ≤ 90 then (b - 65, true) else if 48 ≤ b ∧ b ≤ 57 then (b - 48 + 26, true) else (0, false)
theorem valV_all : ∀ n : Nat, n < 256 → runes_value.f 3 (n : Int) = some (valV (n : Int)) := by decide +kernel
theorem valV_ev (b : Int) (h : 0 ≤ b ∧ b ≤ 255) : runes_value.f 3 b = some (valV b) := by
  have := valV_all b.toNat (by omega)
  rw [show ((b.toNat : Nat) : Int) = b from Int.toNat_of_nonneg h.1] at this
  exact this
theorem valV_in (b : Int) : 0 ≤ (valV b).1 ∧ (valV b).1 ≤ 35 := by
  unfold valV
  split
  · dsimp only; omega
  · split
    · dsimp only; omega
    · split
      · dsimp only; omega
      · dsimp only; omega
def bndV (k bias : Int) : Int := mn (mx (wrap64 (k - bias)) 1) 26
theorem bnd_in (k bias : Int) : 1 ≤ bndV k bias ∧ bndV k bias ≤ 26 := by
  unfold bndV mn mx
  constructor <;> (split <;> split <;> omega)
def isV (r : Int) : Bool := decide (0 ≤ r ∧ r ≤ 1114111 ∧ (r < 55296 ∨ r > 57343))
theorem isV_eq (r : Int) : runes_is.f r = some (isV r) := by
  unfold runes_is.f isV
  by_cases h0 : 0 ≤ r
  · by_cases h1 : r ≤ 1114111
    · by_cases h2 : r < 55296
      · rw [if_pos h0, if_pos h1, if_pos h2, decide_eq_true ⟨h0, h1, .inl h2⟩]
      · rw [if_pos h0, if_pos h1, if_neg h2]
        congr 1
        by_cases h3 : r > 57343
        · rw [decide_eq_true h3, decide_eq_true ⟨h0, h1, .inr h3⟩]
        · rw [decide_eq_false h3, decide_eq_false (by omega)]
    · rw [if_pos h0, if_neg h1, decide_eq_false (by omega)]
  · rw [if_neg h0, decide_eq_false (by omega)]
/-- A step's digits: the error, the step, the place behind. -/
def digP (s : ByteArray) (bias : Int) : Nat → Nat → Int → Int → Int → Int × Int × Nat
  | 0, p, _, _, _ => (51, 0, p)
  | f + 1, p, step, weight, k =>
    if p < s.size then
      if (valV (bt s (p : Int))).2 = true then
        if wrap64 (step + wrap64 ((valV (bt s (p : Int))).1 * weight)) > 2147483647 then (52, 0, p)
        else if (valV (bt s (p : Int))).1 < bndV k bias then (0, wrap64 (step + wrap64 ((valV (bt s (p : Int))).1 * weight)), p + 1)
        else digP s bias f (p + 1) (wrap64 (step + wrap64 ((valV (bt s (p : Int))).1 * weight))) (wrap64 (weight * wrap64 (36 - bndV k bias))) (wrap64 (k + 36))
      else (51, 0, p)
    else (51, 0, p)
theorem digP_in (s : ByteArray) (bias : Int) : ∀ (f p : Nat) (step weight k : Int), p ≤ s.size → 0 ≤ step → step ≤ 2147483647 → 1 ≤ weight → weight ≤ 75161927645 → (digP s bias f p step weight k).2.2 ≤ s.size ∧ ((digP s bias f p step weight k).1 = 0 → 0 ≤ (digP s bias f p step weight k).2.1 ∧ (digP s bias f p step weight k).2.1 ≤ 2147483647 ∧ p < (digP s bias f p step weight k).2.2)
  | 0, p, step, weight, k, hp, _, _, _, _ => ⟨hp, fun h => by simp [digP] at h⟩
  | f + 1, p, step, weight, k, hp, h0, h1, h2, h3 => by
    rw [digP]
    have hv := valV_in (bt s (p : Int))
    have hb := bnd_in k bias
    generalize valV (bt s (p : Int)) = v at *
    generalize bndV k bias = b at *
    obtain ⟨v1, v2⟩ := v
    dsimp only at hv ⊢
    by_cases c1 : p < s.size
    · rw [if_pos c1]
      by_cases c2 : v2 = true
      · rw [if_pos c2]
        have hm : 0 ≤ v1 * weight ∧ v1 * weight ≤ 35 * 75161927645 := ⟨Int.mul_nonneg hv.1 (by omega), Int.mul_le_mul hv.2 h3 (by omega) (by omega)⟩
        rw [wrap_id (v1 * weight) (by omega) (by omega), wrap_id (step + v1 * weight) (by omega) (by omega)]
        by_cases c3 : step + v1 * weight > 2147483647
        · rw [if_pos c3]
          exact ⟨hp, fun h => by simp at h⟩
        · rw [if_neg c3]
          by_cases c4 : v1 < b
          · rw [if_pos c4]
            dsimp only
            exact ⟨by omega, fun _ => ⟨by omega, by omega, Nat.lt_succ_self p⟩⟩
          · rw [if_neg c4]
            have hw : weight ≤ v1 * weight := by
              have := Int.mul_le_mul_of_nonneg_right (show (1 : Int) ≤ v1 by omega) (show 0 ≤ weight by omega)
              omega
            have hm2 : weight * (36 - b) ≤ 2147483647 * 35 := Int.mul_le_mul (by omega) (by omega) (by omega) (by omega)
            have hm3 : weight ≤ weight * (36 - b) := by
              have := Int.mul_le_mul_of_nonneg_left (show (1 : Int) ≤ 36 - b by omega) (show 0 ≤ weight by omega)
              omega
            have ih := digP_in s bias f (p + 1) (step + v1 * weight) (weight * (36 - b)) (wrap64 (k + 36)) (by omega) (by omega) (by omega) (by omega) (by omega)
            rw [wrap_id (36 - b) (by omega) (by omega), wrap_id (weight * (36 - b)) (by omega) (by omega)]
            exact ⟨ih.1, fun h => ⟨(ih.2 h).1, (ih.2 h).2.1, by have := (ih.2 h).2.2; omega⟩⟩
      · rw [if_neg c2]
        exact ⟨hp, fun h => by simp at h⟩
    · rw [if_neg c1]
      exact ⟨hp, fun h => by simp at h⟩
/-- The bias behind a step. -/
def adaptV (st count : Int) (first : Bool) : Int := (runes_adapt.f 12 st count first).getD 0
theorem adapt_l0 : ∀ (f : Nat) (x y : Int), 0 ≤ x → x ≤ 455 * 35 ^ f → x ≤ 4294967296 → ∃ r, runes_adapt.l0 (f + 1) x y = some r
  | 0, x, y, h0, h, _ => by
    rw [runes_adapt.l0, if_neg (by omega), if_neg (by rw [wrap_id _ (by omega) (by omega)]; omega)]
    exact ⟨_, rfl⟩
  | f + 1, x, y, h0, h, h2 => by
    rw [runes_adapt.l0]
    by_cases c : x > 455
    · rw [if_pos c]
      have e : Int.tdiv x 35 = x / 35 := Int.tdiv_eq_ediv_of_nonneg h0
      rw [e, wrap_id _ (by omega) (by omega)]
      refine adapt_l0 f (x / 35) _ (by omega) ?_ (by omega)
      rw [Int.pow_succ] at h
      generalize (35 : Int) ^ f = q at *
      omega
    · rw [if_neg c, if_neg (by rw [wrap_id _ (by omega) (by omega)]; omega)]
      exact ⟨_, rfl⟩
theorem adapt_some (st count : Int) (first : Bool) (h0 : 0 ≤ st) (h1 : st ≤ 2147483647) (hc : 1 ≤ count) : runes_adapt.f 12 st count first = some (adaptV st count first) := by
  have key : ∀ d, 0 ≤ d → d ≤ 2147483647 → ∃ r, runes_adapt.j0 12 count d = some r := by
    intro d hd0 hd1
    rw [runes_adapt.j0, if_neg (by omega)]
    have e : Int.tdiv d count = d / count := Int.tdiv_eq_ediv_of_nonneg hd0
    have l1 : 0 ≤ d / count := Int.ediv_nonneg hd0 (by omega)
    have l2 : d / count ≤ d := Int.ediv_le_self _ hd0
    rw [e, wrap_id (d / count) (by omega) (by omega), wrap_id (d + d / count) (by omega) (by omega)]
    exact adapt_l0 10 _ 0 (by omega) (Int.le_trans (show d + d / count ≤ 4294967296 by omega) (by decide)) (by omega)
  unfold adaptV
  have : ∃ r, runes_adapt.f 12 st count first = some r := by
    unfold runes_adapt.f
    cases first with
    | true =>
      rw [if_pos rfl]
      have e : Int.tdiv st 700 = st / 700 := Int.tdiv_eq_ediv_of_nonneg h0
      rw [e, wrap_id _ (by omega) (by omega)]
      exact key _ (by omega) (by omega)
    | false =>
      rw [if_neg (by decide)]
      have e : Int.tdiv st 2 = st / 2 := Int.tdiv_eq_ediv_of_nonneg h0
      rw [e, wrap_id _ (by omega) (by omega)]
      exact key _ (by omega) (by omega)
  obtain ⟨r, hr⟩ := this
  rw [hr]
  rfl
def cntV (out : List Int) : Int := ((out.length + 1 : Nat) : Int)
def nV (out : List Int) (n place st : Int) : Int := wrap64 (n + wrap64 (Int.tdiv (wrap64 (place + st)) (cntV out)))
def plV (out : List Int) (place st : Int) : Int := Int.tmod (wrap64 (place + st)) (cntV out)
def insL (out : List Int) (p : Nat) (x : Int) : List Int := out.take p ++ x :: out.drop p
theorem ins_len (out : List Int) (p : Nat) (x : Int) : (insL out p x).length = out.length + 1 := by
  unfold insL
  rw [List.length_append, List.length_cons, List.length_take, List.length_drop]
  omega
/-- The steps, to the end of the text. -/
def outP (s : ByteArray) : Nat → List Int → Nat → Int → Int → Int → Bool → List Int × Int × Int
  | 0, out, _, _, _, _, _ => (out, 0, 0)
  | f + 1, out, p, n, place, bias, first =>
    if p < s.size then
      if (digP s bias s.size p 0 1 36).1 = 0 then
        if isV (nV out n place (digP s bias s.size p 0 1 36).2.1) = true then
          outP s f (insL out (plV out place (digP s bias s.size p 0 1 36).2.1).toNat (nV out n place (digP s bias s.size p 0 1 36).2.1)) (digP s bias s.size p 0 1 36).2.2 (nV out n place (digP s bias s.size p 0 1 36).2.1) (plV out place (digP s bias s.size p 0 1 36).2.1 + 1) (adaptV (digP s bias s.size p 0 1 36).2.1 (cntV out) first) false
        else ([], 50, ((digP s bias s.size p 0 1 36).2.2 : Int) - 1)
      else ([], (digP s bias s.size p 0 1 36).1, ((digP s bias s.size p 0 1 36).2.2 : Int))
    else (out, 0, 0)
theorem plV_in (out : List Int) (place st : Int) (h0 : 0 ≤ place) (h1 : place ≤ 35184372088832) (h2 : 0 ≤ st) (h3 : st ≤ 2147483647) : 0 ≤ plV out place st ∧ plV out place st ≤ (out.length : Int) := by
  unfold plV cntV
  rw [wrap_id _ (by omega) (by omega), Int.tmod_eq_emod_of_nonneg (by omega)]
  have := Int.emod_lt_of_pos (place + st) (show (0 : Int) < ((out.length + 1 : Nat) : Int) by omega)
  exact ⟨Int.emod_nonneg _ (by omega), by omega⟩
/-- One place more, what stood there moved, the number set: the number is in the list. -/
theorem shift_ins (out : List Int) (p : Nat) (x : Int) (hp : p ≤ out.length) : (shiftL (out ++ [0]) p).set p x = insL out p x := by
  unfold shiftL insL
  refine List.ext_getElem? fun i => ?_
  rw [List.getElem?_set]
  by_cases h1 : p = i
  · subst h1
    rw [if_pos rfl]
    have hl : p < ((out ++ [0]).take (p + 1) ++ ((out ++ [0]).drop p).take ((out ++ [0]).length - (p + 1))).length := by
      rw [List.length_append, List.length_take, List.length_append]
      simp
      omega
    rw [if_pos hl, List.getElem?_append_right (by rw [List.length_take]; omega), List.length_take, Nat.min_eq_left hp, Nat.sub_self]
    rfl
  · rw [if_neg h1]
    by_cases h2 : i < p
    · rw [List.getElem?_append_left (by rw [List.length_take, List.length_append]; simp; omega), List.getElem?_take, if_pos (by omega), List.getElem?_append_left (by omega), List.getElem?_append_left (by rw [List.length_take]; omega), List.getElem?_take, if_pos h2]
    · obtain ⟨j, rfl⟩ : ∃ j, i = p + 1 + j := ⟨i - (p + 1), by omega⟩
      rw [List.getElem?_append_right (by rw [List.length_take]; omega), List.length_take, List.length_append]
      rw [show p + 1 + j - min (p + 1) (out.length + ([0] : List Int).length) = j from by simp; omega]
      rw [List.getElem?_append_right (by rw [List.length_take]; omega), List.length_take, Nat.min_eq_left hp, show p + 1 + j - p = j + 1 from by omega, List.getElem?_cons_succ, List.getElem?_drop, List.getElem?_take, List.getElem?_drop]
      by_cases h3 : p + j < out.length
      · rw [if_pos (by simp; omega), List.getElem?_append_left h3]
      · rw [List.getElem?_eq_none (show out.length ≤ p + j by omega)]
        by_cases h4 : j < out.length + ([0] : List Int).length - (p + 1)
        · simp at h4; omega
        · simp; omega
/-- What Unpuny tells, with the last bar at pz (below 0: none). -/
def unpV (s : ByteArray) (pz : Int) : List Int × Int × Int :=
  if 0 < pz then
    match basicV (bytesOf s) pz.toNat 0 with
    | some j => ([], 51, (j : Int))
    | none => outP s s.size ((bytesOf s).take pz.toNat) (pz.toNat + 1) 128 0 72 true
  else outP s s.size [] 0 128 0 72 true
/-- One step's numbers. -/
theorem round_facts (s : ByteArray) (hS : s.size ≤ 35184372088831) (r : List Int × Int × Int) (out : List Int) (p q k9 : Nat) (n place bias st : Int) (first : Bool) (hlt : p < s.size) (hq : q < s.size) (hd : (0, st, q + 1) = digP s bias s.size p 0 1 36)
    (hr : r = outP s (k9 + 1) out p n place bias first ∧ out.length ≤ p ∧ p ≤ s.size ∧ s.size - p ≤ k9 + 1 ∧ 0 ≤ place ∧ place ≤ (out.length : Int)) :
    ∃ (cn ps tq n2 : Int) (pl : Nat), wrap64 ((out.length : Int) + 1) = cn ∧ wrap64 (place + st) = ps ∧ wrap64 (Int.tdiv ps cn) = tq ∧ wrap64 (n + tq) = n2 ∧ Int.tmod ps cn = (pl : Int) ∧ (cn == 0) = false ∧ (cn != 0) = true ∧ ((cn = 0) = False) ∧ cn = ((out.length + 1 : Nat) : Int) ∧
      (0 ≤ st ∧ st ≤ 2147483647 ∧ p < q + 1 ∧ pl ≤ out.length ∧ out.length ≤ p ∧ s.size - p ≤ k9 + 1 ∧ 1 ≤ cn) ∧ (isV n2 = false → r = ([], 50, (q : Int))) ∧ (isV n2 = true → r = outP s k9 (insL out pl n2) (q + 1) n2 ((pl : Int) + 1) (adaptV st cn first) false) := by
  obtain ⟨hr1, hr2, hr3, hr4, hr5, hr6⟩ := hr
  have hin := digP_in s bias s.size p 0 1 36 hr3 (by omega) (by omega) (by omega) (by omega)
  rw [outP, if_pos hlt] at hr1
  rw [← hd] at hin hr1
  have hst3 := hin.2 rfl
  dsimp only at hst3 hr1
  rw [if_pos rfl] at hr1
  have hpl := plV_in out place st hr5 (by omega) hst3.1 hst3.2.1
  have hpn := (Int.toNat_of_nonneg hpl.1).symm
  have hcw : wrap64 ((out.length : Int) + 1) = cntV out := by unfold cntV; rw [wrap_id _ (by omega) (by omega)]; rfl
  have hc1 : 1 ≤ cntV out := by unfold cntV; omega
  refine ⟨cntV out, _, _, nV out n place st, (plV out place st).toNat, hcw, rfl, rfl, rfl, ?_, ?_, ?_, ?_, rfl, ⟨hst3.1, hst3.2.1, hst3.2.2, ?_, hr2, hr4, hc1⟩, ?_, ?_⟩
  · rw [← hpn]; rfl
  · exact beq_eq_false_iff_ne.mpr (by omega)
  · exact bne_iff_ne.mpr (by omega)
  · exact eq_false (by omega)
  · have := hpl.2; omega
  · intro h
    rw [hr1, if_neg (by rw [h]; decide)]
    exact congrArg (fun z => (([] : List Int), (50 : Int), z)) (show ((q + 1 : Nat) : Int) - 1 = (q : Int) by omega)
  · intro h
    rw [hr1, if_pos h, ← hpn]
end Go.Proofs.Ytabjfpjmiiiecaa.UN
