/- Puny, in closed form: the digits, the order of the wide runes. -/
import Derived.Test.YtabjfpjmiiiecaaD9
import Derived.Test.YtabjfpjmiiiecaaD2
import Derived.Test.YtabjfpjmiiiecaaUnpE
import Derived.Test.YtabjfpjmiiiecaaOrd
namespace Go.Proofs.Ytabjfpjmiiiecaa.PU
set_option linter.unusedVariables false
set_option linter.unusedSimpArgs false
open Go.RowKit Go.Proofs.YtabjfpjmiiiecaaW.PrintWords Go.Proofs.YtabjfpjmiiiecaaW.PrintLast Go.Proofs.YtabjfpjmiiiecaaW.PrintMore Go.Proofs.Ytabjfpjmiiiecaa.B Go.Proofs.Ytabjfpjmiiiecaa.D Go.Proofs.Ytabjfpjmiiiecaa.UN Go.Proofs.Ytabjfpjmiiiecaa.OR
theorem strOfNums_app (a b : List Int) : strOfNums (a ++ b) = strOfNums a ++ strOfNums b := by
  refine ByteArray.ext ?_
  rw [ByteArray.data_append]
  unfold strOfNums
  simp
def digC (v : Int) : Int := if v < 26 then 97 + v else 22 + v
theorem digC_in (v : Int) (h : 0 ≤ v ∧ v < 36) : 0 ≤ digC v ∧ digC v ≤ 255 := by unfold digC; split <;> omega
theorem digit_all : ∀ n : Nat, n < 36 → runes_digit.f (n : Int) = some (digC (n : Int)) := by decide +kernel
theorem digit_f (v : Int) (h : 0 ≤ v ∧ v < 36) : runes_digit.f v = some (digC v) := by
  have := digit_all v.toNat (by omega)
  rwa [show ((v.toNat : Nat) : Int) = v from Int.toNat_of_nonneg h.1] at this
abbrev tabL : ByteArray := ⟨#[97, 98, 99, 100, 101, 102, 103, 104, 105, 106, 107, 108, 109, 110, 111, 112, 113, 114, 115, 116, 117, 118, 119, 120, 121, 122, 48, 49, 50, 51, 52, 53, 54, 55, 56, 57]⟩
theorem ext_all : ∀ n : Nat, n < 36 → tabL.extract n (n + 1) = strOfNums [digC (n : Int)] := by decide +kernel
theorem ext_f (v : Int) (h : 0 ≤ v ∧ v < 36) : tabL.extract v.toNat (wrap64 (v + 1)).toNat = strOfNums [digC v] := by
  have := ext_all v.toNat (by omega)
  rw [show ((v.toNat : Nat) : Int) = v from Int.toNat_of_nonneg h.1] at this
  rw [wrap_id _ (by omega) (by omega), show (v + 1).toNat = v.toNat + 1 from by omega]
  exact this
/-- The digits of a number. -/
def digL : Nat → Int → Int → Int → List Int
  | 0, _, _, _ => []
  | f + 1, q, k, bias => if q < bndV k bias then [digC q] else digC (bndV k bias + (q - bndV k bias) % (36 - bndV k bias)) :: digL f ((q - bndV k bias) / (36 - bndV k bias)) (k + 36) bias
theorem digL_len : ∀ (f : Nat) (q k bias : Int), (digL f q k bias).length ≤ f
  | 0, _, _, _ => Nat.le_refl _
  | f + 1, q, k, bias => by
    rw [digL]
    split
    · simp
    · rw [List.length_cons]
      have := digL_len f ((q - bndV k bias) / (36 - bndV k bias)) (k + 36) bias
      omega
theorem div_le (q t : Int) (h0 : t ≤ q) (ht : 1 ≤ t ∧ t ≤ 26) (m : Nat) (hq : q < 2 * (m : Int)) : 0 ≤ (q - t) / (36 - t) ∧ (q - t) / (36 - t) < (m : Int) := by
  refine ⟨Int.ediv_nonneg (by omega) (by omega), ?_⟩
  refine Int.ediv_lt_of_lt_mul (by omega) ?_
  have : (m : Int) * 10 ≤ (m : Int) * (36 - t) := Int.mul_le_mul_of_nonneg_left (by omega) (by omega)
  omega
theorem digL_in : ∀ (f : Nat) (q k bias : Int), 0 ≤ q → InB (digL f q k bias)
  | 0, _, _, _, _ => fun x hx => by cases hx
  | f + 1, q, k, bias, hq => fun x hx => by
    have hb := bnd_in k bias
    rw [digL] at hx
    split at hx
    · rename_i h1
      simp at hx
      subst hx
      exact digC_in q ⟨hq, by omega⟩
    · rename_i h1
      have hm := Int.emod_nonneg (q - bndV k bias) (show 36 - bndV k bias ≠ 0 by omega)
      have hm2 := Int.emod_lt_of_pos (q - bndV k bias) (show 0 < 36 - bndV k bias by omega)
      rcases List.mem_cons.1 hx with rfl | hx
      · exact digC_in _ ⟨by omega, by omega⟩
      · exact digL_in f _ _ _ (Int.ediv_nonneg (by omega) (by omega)) x hx
theorem letters_ev (bias : Int) : ∀ (f : Nat) (q : Int) (i : Nat), 0 ≤ q → q < ((2 ^ f : Nat) : Int) → q ≤ 4294967296 → i + f ≤ 1000 → Ev (fun k => posthornref05_letters.f k q (i : Int) bias) (strOfNums (digL (f + 1) q (36 * ((i : Int) + 1)) bias))
  | f, q, i, h0, hq, hq2, hi => by
    have hb := bnd_in (36 * ((i : Int) + 1)) bias
    have hbe := bound_eq i (by omega) bias
    rw [digL]
    generalize bndV (36 * ((i : Int) + 1)) bias = t at *
    by_cases c : q < t
    · rw [if_pos c]
      refine Ev.last fun k => ?_
      rw [posthornref05_letters.f, hbe, bind_some', if_pos c, if_pos h0, if_pos (by rw [wrap_id _ (by omega) (by omega)]; omega), if_pos (by rw [wrap_id _ (by omega) (by omega)]; omega)]
      exact congrArg some (ext_f q ⟨h0, by omega⟩)
    · rw [if_neg c]
      cases f with
      | zero => omega
      | succ f =>
      have hd := div_le q t (by omega) hb (2 ^ f) (by rw [Nat.pow_succ] at hq; omega)
      have hm := Int.emod_nonneg (q - t) (show 36 - t ≠ 0 by omega)
      have hm2 := Int.emod_lt_of_pos (q - t) (show 0 < 36 - t by omega)
      have hdle : (q - t) / (36 - t) ≤ q - t := Int.ediv_le_self _ (by omega)
      have hx := ext_f (t + (q - t) % (36 - t)) ⟨by omega, by omega⟩
      have e8 : 36 * ((i : Int) + 1) + 36 = 36 * (((i + 1 : Nat) : Int) + 1) := by omega
      have ih := letters_ev bias f ((q - t) / (36 - t)) (i + 1) hd.1 hd.2 (by omega) (by omega)
      have hlen := digL_len (f + 1) ((q - t) / (36 - t)) (36 * (((i + 1 : Nat) : Int) + 1)) bias
      have hi3 : f ≤ 1000 := by omega
      rw [e8]
      generalize digL (f + 1) ((q - t) / (36 - t)) (36 * (((i + 1 : Nat) : Int) + 1)) bias = D at *
      have HS := Aside0.mk (show 1 + D.length ≤ 9223372036854775807 by omega)
      have t1 : (0 : Int) ≤ t + (q - t) % (36 - t) := by omega
      have t4 : ¬ (36 - t = 0) := by omega
      have T8 := Aside0.mk (show wrap64 (t + (q - t) % (36 - t) + 1) = t + (q - t) % (36 - t) + 1 from wrap_id _ (by omega) (by omega))
      have t2 : t + (q - t) % (36 - t) ≤ wrap64 (t + (q - t) % (36 - t) + 1) := by rw [T8.out]; omega
      have t3 : wrap64 (t + (q - t) % (36 - t) + 1) ≤ 36 := by rw [T8.out]; omega
      have E7 := Aside0.mk (show wrap64 ((i : Int) + 1) = ((i + 1 : Nat) : Int) by rw [wrap_id _ (by omega) (by omega)]; rfl)
      have E6 := Aside0.mk (show wrap64 ((q - t) / (36 - t)) = (q - t) / (36 - t) from wrap_id _ (by omega) (by omega))
      have E5 := Aside0.mk (show wrap64 (t + (q - t) % (36 - t)) = t + (q - t) % (36 - t) from wrap_id _ (by omega) (by omega))
      have E4 := Aside0.mk (show Int.tdiv (q - t) (36 - t) = (q - t) / (36 - t) from Int.tdiv_eq_ediv_of_nonneg (by omega))
      have E3 := Aside0.mk (show Int.tmod (q - t) (36 - t) = (q - t) % (36 - t) from Int.tmod_eq_emod_of_nonneg (by omega))
      have E2 := Aside0.mk (show wrap64 (36 - t) = 36 - t from wrap_id _ (by omega) (by omega))
      have E1 := Aside0.mk (show wrap64 (q - t) = q - t from wrap_id _ (by omega) (by omega))
      refine Ev.round (fun k => by rw [posthornref05_letters.f, hbe, bind_some', if_neg c, E1.out, E2.out, if_neg t4, E3.out, E5.out, if_pos t1, if_pos t2, if_pos t3, E4.out, E6.out, E7.out]) ?_
      refine Ev.bind ih ?_
      refine Ev.val fun k => ?_
      rw [hx, strOfNums_len, strOfNums_len, if_pos (show [digC (t + (q - t) % (36 - t))].length + D.length ≤ 9223372036854775807 from HS.out)]
      exact congrArg some (strOfNums_app [digC (t + (q - t) % (36 - t))] D).symm
/-- How many at or below n stand ahead of a place. -/
def cLe (l : List Int) (n : Int) (k : Nat) : Nat := (l.take k).countP (fun x => decide (x ≤ n))
theorem cLe_zero (l : List Int) (n : Int) : cLe l n 0 = 0 := by unfold cLe; rw [List.take_zero]; rfl
theorem cLe_succ (l : List Int) (n : Int) (k : Nat) (hk : k < l.length) : cLe l n (k + 1) = cLe l n k + if l.getD k 0 ≤ n then 1 else 0 := by
  unfold cLe
  rw [List.take_succ_eq_append_getElem hk, List.countP_append, List.countP_singleton]
  have e : l.getD k 0 = l[k] := by rw [List.getD_eq_getElem?_getD, List.getElem?_eq_getElem hk]; rfl
  rw [e]
  simp
theorem cLe_le (l : List Int) (n : Int) (k : Nat) : cLe l n k ≤ k := by
  unfold cLe
  exact Nat.le_trans List.countP_le_length (by rw [List.length_take]; omega)
/-- The steps over the places that are left. -/
def refP (l : List Int) : List Int → Int → Int → Int → Int → Bool → List Int → ByteArray × Int
  | [], _, _, _, _, _, out => (strOfNums out, 0)
  | a :: t, n, i, cnt, bias, first, out =>
    if (l.getD a.toNat 0 - n) * (cnt + 1) + (cLe l (l.getD a.toNat 0) a.toNat : Int) - i > 2147483647 then ((⟨#[]⟩ : ByteArray), 52)
    else refP l t (l.getD a.toNat 0) ((cLe l (l.getD a.toNat 0) a.toNat : Int) + 1) (cnt + 1) (adaptV ((l.getD a.toNat 0 - n) * (cnt + 1) + (cLe l (l.getD a.toNat 0) a.toNat : Int) - i) (cnt + 1) first) false
      (out ++ digL 33 ((l.getD a.toNat 0 - n) * (cnt + 1) + (cLe l (l.getD a.toNat 0) a.toNat : Int) - i) 36 bias)
/-- One place goes ahead of another. -/
def Lt (l : List Int) (a b : Int) : Prop := l.getD a.toNat 0 < l.getD b.toNat 0 ∨ (l.getD a.toNat 0 = l.getD b.toNat 0 ∧ a < b)
/-- What is left from a level and a place on. -/
structure Rem (l : List Int) (n : Int) (k : Nat) (E : List Int) : Prop where
  srt : E.Pairwise (Lt l)
  mem : ∀ a, a ∈ E ↔ 0 ≤ a ∧ a < (l.length : Int) ∧ (n < l.getD a.toNat 0 ∨ (l.getD a.toNat 0 = n ∧ (k : Int) ≤ a))
theorem posV_spec (l out : List Int) (r : Int) : ∀ p, p ≤ out.length → (∀ j, posV l out r p ≤ j → j < p → rd l (out.getD j 0) > r) ∧ (0 < posV l out r p → rd l (out.getD (posV l out r p - 1) 0) ≤ r)
  | 0, _ => ⟨fun j h1 h2 => by omega, fun h => by rw [posV] at h; omega⟩
  | p + 1, hp => by
    have ih := posV_spec l out r p (by omega)
    rw [posV]
    by_cases c : rd l (out.getD p 0) > r
    · rw [if_pos c]
      refine ⟨fun j h1 h2 => ?_, ih.2⟩
      by_cases e : j = p
      · subst e; exact c
      · exact ih.1 j h1 (by omega)
    · rw [if_neg c]
      refine ⟨fun j h1 h2 => by omega, fun _ => ?_⟩
      rw [Nat.add_sub_cancel]
      omega
theorem rd_getD (l : List Int) (a : Int) : rd l a = l.getD a.toNat 0 := rfl
theorem ord_srt (l : List Int) : ∀ i, i ≤ l.length → (ordN l i).Pairwise (Lt l)
  | 0, _ => List.Pairwise.nil
  | i + 1, hi => by
    have ih := ord_srt l i (by omega)
    have hin := ordN_in l i
    rw [ordN]
    split
    · exact ih
    · generalize ordN l i = out at *
      generalize hr : l.getD i 0 = r at *
      have hs := posV_spec l out r out.length (Nat.le_refl _)
      have hle := posV_le l out r out.length
      generalize posV l out r out.length = p at *
      have hLtIdx : ∀ a b (ha : a < out.length) (hb : b < out.length), a < b → Lt l out[a] out[b] := fun a b ha hb hab => List.pairwise_iff_getElem.1 ih a b ha hb hab
      have hlow : ∀ x ∈ out.take p, l.getD x.toNat 0 ≤ r := by
        intro x hx
        obtain ⟨j, hj, rfl⟩ := List.getElem_of_mem hx
        rw [List.length_take] at hj
        rw [List.getElem_take]
        have h1 := hs.2 (by omega)
        rw [List.getD_eq_getElem?_getD, List.getElem?_eq_getElem (show p - 1 < out.length by omega), Option.getD_some, rd_getD] at h1
        by_cases e : j = p - 1
        · subst e; exact h1
        · have := hLtIdx j (p - 1) (by omega) (by omega) (by omega)
          unfold Lt at this
          omega
      have hhigh : ∀ x ∈ out.drop p, r < l.getD x.toNat 0 := by
        intro x hx
        obtain ⟨j, hj, rfl⟩ := List.getElem_of_mem hx
        rw [List.length_drop] at hj
        rw [List.getElem_drop]
        have h1 := hs.1 (p + j) (by omega) (by omega)
        rw [List.getD_eq_getElem?_getD, List.getElem?_eq_getElem (show p + j < out.length by omega), Option.getD_some, rd_getD] at h1
        exact h1
      have hir : l.getD ((i : Int)).toNat 0 = r := by rw [Int.toNat_natCast]; exact hr
      unfold insA
      rw [List.pairwise_append]
      refine ⟨List.Pairwise.sublist (List.take_sublist _ _) ih, ?_, ?_⟩
      · rw [List.singleton_append, List.pairwise_cons]
        refine ⟨fun b hb => ?_, List.Pairwise.sublist (List.drop_sublist _ _) ih⟩
        have := hhigh b hb
        unfold Lt
        omega
      · intro a ha b hb
        have h1 := hlow a ha
        have ha2 := hin a (List.mem_of_mem_take ha)
        rcases List.mem_append.1 hb with hb | hb
        · simp at hb
          subst hb
          unfold Lt
          omega
        · have h2 := hhigh b hb
          unfold Lt
          omega
theorem ord_mem (l : List Int) : ∀ i, i ≤ l.length → ∀ a, a ∈ ordN l i ↔ 0 ≤ a ∧ a < (i : Int) ∧ 128 ≤ l.getD a.toNat 0
  | 0, _ => fun a => by
    rw [ordN]
    constructor
    · intro h; cases h
    · rintro ⟨h1, h2, _⟩; omega
  | i + 1, hi => fun a => by
    have ih := ord_mem l i (by omega) a
    rw [ordN]
    by_cases c : l.getD i 0 < 128
    · rw [if_pos c, ih]
      constructor
      · rintro ⟨h1, h2, h3⟩; exact ⟨h1, by omega, h3⟩
      · rintro ⟨h1, h2, h3⟩
        refine ⟨h1, ?_, h3⟩
        by_cases e : a = (i : Int)
        · subst e; rw [Int.toNat_natCast] at h3; omega
        · omega
    · rw [if_neg c]
      have hp : a ∈ insA (ordN l i) (posV l (ordN l i) (l.getD i 0) (ordN l i).length) (i : Int) ↔ a ∈ ordN l i ∨ a = (i : Int) := by
        unfold insA
        rw [List.mem_append, List.mem_append, List.mem_singleton]
        have := List.take_append_drop (posV l (ordN l i) (l.getD i 0) (ordN l i).length) (ordN l i)
        have h2 : a ∈ ordN l i ↔ a ∈ (ordN l i).take (posV l (ordN l i) (l.getD i 0) (ordN l i).length) ∨ a ∈ (ordN l i).drop (posV l (ordN l i) (l.getD i 0) (ordN l i).length) := by
          rw [← List.mem_append, this]
        rw [h2]
        constructor
        · rintro (h | h | h)
          · exact .inl (.inl h)
          · exact .inr h
          · exact .inl (.inr h)
        · rintro ((h | h) | h)
          · exact .inl h
          · exact .inr (.inr h)
          · exact .inr (.inl h)
      rw [hp, ih]
      constructor
      · rintro (⟨h1, h2, h3⟩ | rfl)
        · exact ⟨h1, by omega, h3⟩
        · exact ⟨by omega, by omega, by rw [Int.toNat_natCast]; omega⟩
      · rintro ⟨h1, h2, h3⟩
        by_cases e : a = (i : Int)
        · exact .inr e
        · exact .inl ⟨h1, by omega, h3⟩
theorem ord_len (l : List Int) : ∀ i, i ≤ l.length → (ordN l i).length + (l.take i).countP (fun x => decide (x < 128)) = i
  | 0, _ => rfl
  | i + 1, hi => by
    have ih := ord_len l i (by omega)
    have e : l.getD i 0 = l[i] := by rw [List.getD_eq_getElem?_getD, List.getElem?_eq_getElem (show i < l.length by omega)]; rfl
    rw [ordN, List.take_succ_eq_append_getElem (show i < l.length by omega), List.countP_append, List.countP_singleton, e]
    by_cases c : l[i] < 128
    · rw [if_pos c]
      simp [c]
      omega
    · rw [if_neg c, insA_len]
      simp [c]
      omega
theorem ord_rem (l : List Int) : Rem l 128 0 (ordN l l.length) :=
  ⟨ord_srt l l.length (Nat.le_refl _), fun a => by
    rw [ord_mem l l.length (Nat.le_refl _)]
    constructor
    · rintro ⟨h1, h2, h3⟩; exact ⟨h1, h2, by omega⟩
    · rintro ⟨h1, h2, h3⟩; exact ⟨h1, h2, by omega⟩⟩
/-- The basic letters, and the bar behind them. -/
def basL (l : List Int) : List Int := l.filter (fun x => decide (x < 128))
def punyV (l : List Int) : ByteArray × Int :=
  if (l.all isV) = true then refP l (ordN l l.length) 128 0 ((basL l).length : Int) 72 true (basL l ++ if 0 < (basL l).length then [45] else []) else ((⟨#[]⟩ : ByteArray), 50)
end Go.Proofs.Ytabjfpjmiiiecaa.PU
