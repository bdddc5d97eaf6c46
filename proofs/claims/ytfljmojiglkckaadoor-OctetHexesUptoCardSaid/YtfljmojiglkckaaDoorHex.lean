/- HexOf and Unhex, the program's and the reference's, as plain functions on lists. -/
import Derived.Test.YtfljmojiglkckaaDoorSpan
import Derived.Test.YtfljmojiglkckaaDoorUpRef
import Derived.Test.YtfljmojiglkckaaDoorG6
import Derived.Test.YtfljmojiglkckaaDoorG8
import Derived.Test.YtfljmojiglkckaaDoorG7
namespace Go.Proofs.YtfljmojiglkckaaDoor.H
set_option linter.unusedVariables false
set_option linter.unusedSimpArgs false
open Go.RowKit Go.Proofs.YtfljmojiglkckaaDoorW.PrintWords Go.Proofs.YtfljmojiglkckaaDoor.B Go.Proofs.YtfljmojiglkckaaDoor.Glob Go.Proofs.YtfljmojiglkckaaDoor.I Go.Proofs.YtfljmojiglkckaaDoor.U Go.Proofs.YtfljmojiglkckaaDoor.G

abbrev sixT : ByteArray := ⟨#[48, 49, 50, 51, 52, 53, 54, 55, 56, 57, 65, 66, 67, 68, 69, 70]⟩
/-- The digit of a number below 16. -/
def hd (i : Int) : Int := if i < 10 then 48 + i else 55 + i
theorem six_at : ∀ i : Fin 16, bt sixT (i.val : Int) = hd (i.val : Int) := by decide
theorem six_bt (i : Int) (h : 0 ≤ i ∧ i < 16) : bt sixT i = hd i := by
  have := six_at ⟨i.toNat, by omega⟩
  simp only at this
  rwa [Int.toNat_of_nonneg h.1] at this
def hexL (xs : List Int) : List Int := xs.flatMap fun x => [hd (x / 16), hd (x % 16)]
theorem hexL_cons (x : Int) (xs : List Int) : hexL (x :: xs) = hd (x / 16) :: hd (x % 16) :: hexL xs := by simp [hexL]
theorem hexL_len (xs : List Int) : (hexL xs).length = 2 * xs.length := by
  induction xs with
  | nil => rfl
  | cons x xs ih => rw [hexL_cons, List.length_cons, List.length_cons, ih, List.length_cons]; omega
theorem hd_range (i : Int) (h : 0 ≤ i ∧ i < 16) : 48 ≤ hd i ∧ hd i ≤ 70 := by unfold hd; split <;> omega
theorem hexL_in (xs : List Int) (h : InB xs) : InB (hexL xs) := by
  intro y hy
  obtain ⟨x, hx, hy⟩ := List.mem_flatMap.1 hy
  have := h x hx
  simp only [List.mem_cons, List.not_mem_nil, or_false] at hy
  have r1 := hd_range (x / 16) (by omega)
  have r2 := hd_range (x % 16) (by omega)
  rcases hy with rfl | rfl <;> omega

theorem and15 : ∀ x : Fin 256, Go.bits .and .u8 (x.val : Int) 15 = (x.val : Int) % 16 := by decide +kernel
theorem and15_of (x : Int) (h : 0 ≤ x ∧ x ≤ 255) : Go.bits .and .u8 x 15 = x % 16 := by
  have := and15 ⟨x.toNat, by omega⟩
  simp only at this
  rwa [Int.toNat_of_nonneg h.1] at this

theorem HexOf_loop (l : List Int) (hl : InB l) (hs : l.length ≤ 70368744177663) (d : Nat) : ∀ (i : Nat) (acc : List Int), i ≤ l.length → l.length - i = d → acc.length = 2 * i →
    Ev (fun k => octet_HexOf.l0 k acc l (l.length : Int) (i : Int)) (strOfNums (acc ++ hexL (l.drop i))) := by
  induction d with
  | zero =>
    intro i acc h1 hd ha
    obtain rfl : i = l.length := by omega
    refine Ev.last fun k => ?_
    simp only [octet_HexOf.l0]
    rw [if_neg (by omega), List.drop_eq_nil_of_le (Nat.le_refl _)]
    simp [hexL]
  | succ d ih =>
    intro i acc h1 hd ha
    have hb : i < l.length := by omega
    have hr := hl l[i] (List.getElem_mem hb)
    rw [drop_cons _ i hb, hexL_cons, show acc ++ H.hd (l[i] / 16) :: H.hd (l[i] % 16) :: hexL (l.drop (i + 1)) = (acc ++ [H.hd (l[i] / 16), H.hd (l[i] % 16)]) ++ hexL (l.drop (i + 1)) from by simp]
    have key := ih (i + 1) (acc ++ [H.hd (l[i] / 16), H.hd (l[i] % 16)]) (by omega) (by omega) (by rw [List.length_append, ha]; simp; omega)
    refine Ev.round (f := fun k => octet_HexOf.l0 k (acc ++ [H.hd (l[i] / 16), H.hd (l[i] % 16)]) l (l.length : Int) ((i + 1 : Nat) : Int)) (fun k => ?_) key
    simp only [octet_HexOf.l0, Option.bind_some]
    rw [rd_nat l i hb, and15_of _ hr, six_bt _ (by omega), six_bt _ (by omega)]
    rw [if_pos (by omega), if_pos (by omega), if_pos (by omega), if_pos (by omega), if_pos (by omega), if_pos (by omega), if_pos (by omega), if_pos (by simp; omega), wrap_id _ (by omega) (by omega)]
    rfl

theorem HexOf_ev (l : List Int) (hl : InB l) (hs : l.length ≤ 70368744177663) : Ev (fun k => octet_HexOf.f k l) (strOfNums (hexL l)) := by
  have key := HexOf_loop l hl hs l.length 0 [] (by omega) (by omega) rfl
  rw [List.drop_zero, List.nil_append] at key
  refine Ev.congr (fun k => ?_) key
  unfold octet_HexOf.f
  rw [wrap_id _ (by omega) (by omega), if_pos (by omega), if_pos (by omega)]
  rfl

/-! ### Unhex -/
def val (c : Int) : Int := if up c ≥ 65 then up c - 55 else up c - 48
theorem hex_facts : ∀ c : Fin 256, isB 4 (c.val : Int) = true → 0 ≤ val (c.val : Int) ∧ val (c.val : Int) < 16 ∧ hd (val (c.val : Int)) = up (c.val : Int) := by decide +kernel
theorem hex_of (c : Int) (hc : 0 ≤ c ∧ c ≤ 255) (h : isB 4 c = true) : 0 ≤ val c ∧ val c < 16 ∧ hd (val c) = up c := by
  have := hex_facts ⟨c.toNat, by omega⟩
  simp only at this
  rw [Int.toNat_of_nonneg hc.1] at this
  exact this h
theorem hd_facts : ∀ i : Fin 16, isB 4 (hd (i.val : Int)) = true ∧ val (hd (i.val : Int)) = (i.val : Int) ∧ up (hd (i.val : Int)) = hd (i.val : Int) := by decide +kernel
theorem hd_of (i : Int) (h : 0 ≤ i ∧ i < 16) : isB 4 (hd i) = true ∧ val (hd i) = i ∧ up (hd i) = hd i := by
  have := hd_facts ⟨i.toNat, by omega⟩
  simp only at this
  rwa [Int.toNat_of_nonneg h.1] at this
theorem or_digits : ∀ a b : Fin 16, Go.bits .or .u8 ((a.val : Int) * 16 % 256) (b.val : Int) = 16 * (a.val : Int) + (b.val : Int) := by decide +kernel
theorem or_of (a b : Int) (ha : 0 ≤ a ∧ a < 16) (hb : 0 ≤ b ∧ b < 16) : Go.bits .or .u8 (a * 16 % 256) b = 16 * a + b := by
  have := or_digits ⟨a.toNat, by omega⟩ ⟨b.toNat, by omega⟩
  simp only at this
  rwa [Int.toNat_of_nonneg ha.1, Int.toNat_of_nonneg hb.1] at this

theorem value_f (c : Int) (hc : 0 ≤ c ∧ c ≤ 255) (h : isB 4 c = true) : octet_value.f c = some (val c) := by
  obtain ⟨h1, h2, _⟩ := hex_of c hc h
  unfold octet_value.f val at *
  rw [upper_f c hc]
  simp only [Option.bind_some]
  by_cases hu : up c ≥ 65
  · rw [if_pos hu] at h1 h2 ⊢
    rw [if_pos hu]
    congr 1; omega
  · rw [if_neg hu] at h1 h2 ⊢
    rw [if_neg hu]
    congr 1; omega

def unhexL : List Int → List Int
  | a :: b :: r => (16 * val a + val b) :: unhexL r
  | _ => []

/-- What Unhex tells. -/
def unhexR (s : ByteArray) : List Int × Int × Int :=
  if run 4 (bytesOf s) < s.size ∨ s.size % 2 = 1 then ([], 10, (run 4 (bytesOf s) : Int)) else (unhexL (bytesOf s), 0, 0)

theorem run_all {c : Int} : ∀ {xs : List Int}, run c xs = xs.length → ∀ x ∈ xs, isB c x = true
  | [], _, x, hx => by cases hx
  | y :: ys, h, x, hx => by
    rw [run_cons] at h
    by_cases hy : isB c y = true
    · rw [if_pos hy] at h
      rcases List.mem_cons.1 hx with rfl | hx
      · exact hy
      · exact run_all (by simpa using h) x hx
    · rw [if_neg hy] at h
      simp at h
theorem run_of_all {c : Int} : ∀ {xs : List Int}, (∀ x ∈ xs, isB c x = true) → run c xs = xs.length
  | [], _ => rfl
  | y :: ys, h => by
    rw [run_cons, if_pos (h y List.mem_cons_self), run_of_all (fun x hx => h x (List.mem_cons_of_mem _ hx)), List.length_cons]

theorem Unhex_loop (s : ByteArray) (hs : s.size ≤ 140737488351232) (hh : ∀ x ∈ bytesOf s, isB 4 x = true) (d : Nat) : ∀ (i : Nat) (acc : List Int), i ≤ s.size → s.size - i = 2 * d → acc.length ≤ i →
    Ev (fun k => octet_Unhex.l0 k s acc (i : Int)) (acc ++ unhexL ((bytesOf s).drop i), 0, 0) := by
  induction d with
  | zero =>
    intro i acc h1 hd ha
    obtain rfl : i = s.size := by omega
    refine Ev.last fun k => ?_
    simp only [octet_Unhex.l0]
    rw [if_neg (by omega), List.drop_eq_nil_of_le (by rw [bytesOf_len]; exact Nat.le_refl _), unhexL, List.append_nil]
    intro a b r h; cases h
  | succ d ih =>
    intro i acc h1 hd ha
    have hb : i < (bytesOf s).length := by rw [bytesOf_len]; omega
    have hb2 : i + 1 < (bytesOf s).length := by rw [bytesOf_len]; omega
    have e1 := hh _ (List.getElem_mem hb)
    have e2 := hh _ (List.getElem_mem hb2)
    rw [drop_cons _ i hb, drop_cons _ (i + 1) hb2, unhexL]
    rw [← bt_bytes s i hb] at e1 ⊢
    rw [← bt_bytes s (i + 1) hb2] at e2 ⊢
    have v1 := hex_of _ (bt_range s _) e1
    have v2 := hex_of _ (bt_range s _) e2
    have key := ih (i + 2) (acc ++ [16 * val (bt s (i : Int)) + val (bt s ((i + 1 : Nat) : Int))]) (by omega) (by omega) (by simp; omega)
    rw [List.append_assoc, List.singleton_append] at key
    refine Ev.round (f := fun k => octet_Unhex.l0 k s (acc ++ [16 * val (bt s (i : Int)) + val (bt s ((i + 1 : Nat) : Int))]) ((i + 2 : Nat) : Int)) (fun k => ?_) key
    simp only [octet_Unhex.l0]
    rw [if_pos (by omega), if_pos (by omega), value_f _ (bt_range s _) e1, bind_some', wrap_id ((i : Int) + 1) (by omega) (by omega), if_pos (by omega), if_pos (by omega), show ((i : Int) + 1) = ((i + 1 : Nat) : Int) from by omega, value_f _ (bt_range s _) e2, bind_some', if_pos (by omega), or_of _ _ ⟨v1.1, v1.2.1⟩ ⟨v2.1, v2.2.1⟩, wrap_id _ (by omega) (by omega), show ((i : Int) + 2) = ((i + 2 : Nat) : Int) from by omega]

theorem Unhex_ev (s : ByteArray) (hs : s.size ≤ 140737488351232) : Ev (fun k => octet_Unhex.f k s) (unhexR s) := by
  unfold octet_Unhex.f
  refine Ev.bind (Bad_str_ev 4 s (by omega)) ?_
  have hr := run_le 4 (bytesOf s)
  rw [bytesOf_len] at hr
  unfold unhexR
  by_cases h : run 4 (bytesOf s) < s.size
  · rw [if_pos (Or.inl h)]
    refine Ev.congr (f := fun k => octet_Unhex.j0 k s (run 4 (bytesOf s) : Int) true) (fun k => by rw [if_pos (by omega)]) (Ev.last fun k => ?_)
    simp only [octet_Unhex.j0]
    rfl
  · have he : run 4 (bytesOf s) = s.size := by omega
    by_cases h2 : s.size % 2 = 1
    · rw [if_pos (Or.inr h2)]
      refine Ev.congr (f := fun k => octet_Unhex.j0 k s (run 4 (bytesOf s) : Int) true) (fun k => ?_) (Ev.last fun k => by simp only [octet_Unhex.j0]; rfl)
      rw [if_neg (by omega), he, Int.tmod_eq_emod_of_nonneg (by omega), show ((s.size : Int) % 2 != 0) = true from bne_iff_ne.2 (by omega)]
    · rw [if_neg (by omega)]
      have hall := run_all (by rw [bytesOf_len]; exact he)
      have key := Unhex_loop s hs hall (s.size / 2) 0 [] (by omega) (by omega) (by simp)
      rw [List.drop_zero, List.nil_append] at key
      refine Ev.congr (f := fun k => octet_Unhex.j0 k s (run 4 (bytesOf s) : Int) false) (fun k => ?_) (Ev.round (fun k => ?_) key)
      · rw [if_neg (by omega), he, Int.tmod_eq_emod_of_nonneg (by omega), show ((s.size : Int) % 2 != 0) = false from bne_eq_false_iff_eq.2 (by omega)]
      · simp only [octet_Unhex.j0]
        rw [if_neg (by decide), wrap_id _ (by omega) (by omega), if_pos (by omega), if_pos (by omega)]
        rfl

/-! ### The reference's -/
theorem six_cut : ∀ i : Fin 16, sixT.extract i.val (i.val + 1) = strOfNums [hd (i.val : Int)] := by decide
theorem Digit_loop (c : Int) (hc : 0 ≤ c ∧ c ≤ 255) (h : isB 4 c = true) (d : Nat) : ∀ i : Nat, (i : Int) ≤ val c → (val c).toNat - i = d →
    Ev (fun k => posthornref01_Digit.l0 k c (i : Int)) (val c) := by
  obtain ⟨v0, v1, v2⟩ := hex_of c hc h
  have hsz : (strOfNums [c]).size ≤ 140737488351232 := by rw [strOfNums_len]; simp
  have hcut (i : Nat) (hi : i < 16) : sixT.extract i (i + 1) = strOfNums [H.hd (i : Int)] := six_cut ⟨i, hi⟩
  have hsame (i : Nat) (hi : i < 16) : sameB (sixT.extract i (i + 1)) (strOfNums [c]) = decide (H.hd (i : Int) = up c) := by
    have r := hd_range (i : Int) (by omega)
    unfold sameB
    rw [hcut i hi, bytesOf_strOfNums _ (by intro x hx; simp at hx; omega), bytesOf_strOfNums _ (by intro x hx; simp at hx; omega)]
    simp only [upL, List.map_cons, List.map_nil, List.cons.injEq, and_true]
    rw [(hd_of (i : Int) (by omega)).2.2]
  have step (i : Nat) (hi : (i : Int) ≤ val c) (k : Nat) : posthornref01_Digit.l0 (k + 1) c (i : Int) = (posthornref01_Same.f k (sixT.extract i (i + 1)) (strOfNums [c])).bind fun t => if t = true then some (i : Int) else posthornref01_Digit.l0 k c ((i + 1 : Nat) : Int) := by
    simp only [posthornref01_Digit.l0]
    rw [wrap_id _ (by omega) (by omega), if_pos (by omega), if_pos (by omega), if_pos (by omega), if_pos (by omega), Int.toNat_natCast]
    rfl
  induction d with
  | zero =>
    intro i hi hd
    have e : val c = i := by omega
    refine Ev.round (step i hi) (Ev.bind (refSame_ev _ _ (by rw [hcut i (by omega), strOfNums_len]; simp) hsz) (Ev.val fun k => ?_))
    rw [hsame i (by omega), decide_eq_true (by rw [← e]; exact v2), if_pos rfl, e]
  | succ d ih =>
    intro i hi hd
    have key := ih (i + 1) (by omega) (by omega)
    refine Ev.round (step i hi) (Ev.bind (refSame_ev _ _ (by rw [hcut i (by omega), strOfNums_len]; simp) hsz) (Ev.congr (fun k => ?_) key))
    rw [hsame i (by omega), decide_eq_false, if_neg (by decide)]
    intro e
    rw [← v2] at e
    have a1 := (hd_of (i : Int) (by omega)).2.1
    have a2 := (hd_of (val c) (by omega)).2.1
    rw [e] at a1
    omega
theorem Digit_ev (c : Int) (hc : 0 ≤ c ∧ c ≤ 255) (h : isB 4 c = true) : Ev (fun k => posthornref01_Digit.f k c) (val c) :=
  Digit_loop c hc h (val c).toNat 0 (hex_of c hc h).1 (by omega)

theorem refUnhex_loop (s : ByteArray) (hs : s.size ≤ 140737488351232) (hh : ∀ x ∈ bytesOf s, isB 4 x = true) (d : Nat) : ∀ (i : Nat) (acc : List Int), i ≤ s.size → s.size - i = 2 * d → acc.length ≤ i →
    Ev (fun k => posthornref01_Unhex.l0 k s (s.size : Int) acc (i : Int)) (acc ++ unhexL ((bytesOf s).drop i), 0, 0) := by
  induction d with
  | zero =>
    intro i acc h1 hd ha
    obtain rfl : i = s.size := by omega
    refine Ev.last fun k => ?_
    simp only [posthornref01_Unhex.l0]
    rw [if_neg (by omega), List.drop_eq_nil_of_le (by rw [bytesOf_len]; exact Nat.le_refl _), unhexL, List.append_nil]
    intro a b r h; cases h
  | succ d ih =>
    intro i acc h1 hd ha
    have hb : i < (bytesOf s).length := by rw [bytesOf_len]; omega
    have hb2 : i + 1 < (bytesOf s).length := by rw [bytesOf_len]; omega
    have e1 := hh _ (List.getElem_mem hb)
    have e2 := hh _ (List.getElem_mem hb2)
    rw [drop_cons _ i hb, drop_cons _ (i + 1) hb2, unhexL]
    rw [← bt_bytes s i hb] at e1 ⊢
    rw [← bt_bytes s (i + 1) hb2] at e2 ⊢
    have v1 := hex_of _ (bt_range s _) e1
    have v2 := hex_of _ (bt_range s _) e2
    have key := ih (i + 2) (acc ++ [16 * val (bt s (i : Int)) + val (bt s ((i + 1 : Nat) : Int))]) (by omega) (by omega) (by simp; omega)
    rw [List.append_assoc, List.singleton_append] at key
    refine Ev.round (f := fun k => (posthornref01_Digit.f k (bt s (i : Int))).bind fun t => (posthornref01_Digit.f k (bt s ((i + 1 : Nat) : Int))).bind fun t' => if acc.length < 140737488355328 then posthornref01_Unhex.l0 k s (s.size : Int) (acc ++ [(wrap64 (wrap64 (16 * t) + t')) % 256]) ((i + 2 : Nat) : Int) else none) (fun k => ?_) (Ev.bind (Digit_ev _ (bt_range s _) e1) (Ev.bind (Digit_ev _ (bt_range s _) e2) (Ev.congr (fun k => ?_) key)))
    · simp only [posthornref01_Unhex.l0]
      rw [if_pos (by omega), if_pos (by omega), if_pos (by omega), wrap_id ((i : Int) + 1) (by omega) (by omega), wrap_id ((i : Int) + 2) (by omega) (by omega)]
      have e1 : (0 : Int) ≤ (i : Int) + 1 := by omega
      have e2 : (i : Int) + 1 < (s.size : Int) := by omega
      simp only [if_pos e1, if_pos e2]
      rfl
    · rw [if_pos (by omega), wrap_id (16 * val (bt s (i : Int))) (by omega) (by omega), wrap_id _ (by omega) (by omega), Int.emod_eq_of_lt (by omega) (by omega)]

theorem refUnhex_ev (s : ByteArray) (hs : s.size ≤ 140737488351232) : Ev (fun k => posthornref01_Unhex.f k s) (unhexR s) := by
  unfold posthornref01_Unhex.f
  refine Ev.bind (refBad_ev 4 s (by omega)) ?_
  have hr := run_le 4 (bytesOf s)
  rw [bytesOf_len] at hr
  unfold unhexR
  by_cases h : run 4 (bytesOf s) < s.size
  · rw [if_pos (Or.inl h)]
    refine Ev.congr (f := fun k => posthornref01_Unhex.j0 k s (run 4 (bytesOf s) : Int) true) (fun k => by rw [if_pos (by omega)]) (Ev.last fun k => ?_)
    simp only [posthornref01_Unhex.j0]
    rfl
  · have he : run 4 (bytesOf s) = s.size := by omega
    by_cases h2 : s.size % 2 = 1
    · rw [if_pos (Or.inr h2)]
      refine Ev.congr (f := fun k => posthornref01_Unhex.j0 k s (run 4 (bytesOf s) : Int) true) (fun k => ?_) (Ev.last fun k => by simp only [posthornref01_Unhex.j0]; rfl)
      rw [if_neg (by omega), he, Int.tmod_eq_emod_of_nonneg (by omega), show ((s.size : Int) % 2 == 1) = true from beq_iff_eq.2 (by omega)]
    · rw [if_neg (by omega)]
      have hall := run_all (by rw [bytesOf_len]; exact he)
      have key := refUnhex_loop s hs hall (s.size / 2) 0 [] (by omega) (by omega) (by simp)
      rw [List.drop_zero, List.nil_append] at key
      refine Ev.congr (f := fun k => posthornref01_Unhex.j0 k s (s.size : Int) false) (fun k => ?_) (Ev.round (fun k => ?_) key)
      · rw [if_neg (by omega), he, Int.tmod_eq_emod_of_nonneg (by omega), show ((s.size : Int) % 2 == 1) = false from beq_eq_false_iff_ne.2 (by omega)]
      · simp only [posthornref01_Unhex.j0]
        rw [if_neg (by decide)]
        rfl

/-! ### There and back -/
theorem hex_unhex : ∀ (n : Nat) (xs : List Int), xs.length = 2 * n → InB xs → (∀ x ∈ xs, isB 4 x = true) → hexL (unhexL xs) = upL xs ∧ InB (unhexL xs) ∧ (unhexL xs).length = n
  | 0, xs, hn, _, _ => by
    obtain rfl : xs = [] := List.eq_nil_of_length_eq_zero (by omega)
    exact ⟨rfl, by intro x hx; simp [unhexL] at hx, rfl⟩
  | n + 1, [], hn, _, _ => by simp at hn
  | n + 1, [a], hn, _, _ => by simp at hn; omega
  | n + 1, a :: b :: r, hn, hi, hh => by
    obtain ⟨h1, h2, h3⟩ := hex_unhex n r (by simp at hn; omega) (fun x hx => hi x (by simp [hx])) (fun x hx => hh x (by simp [hx]))
    have va := hex_of a (hi a (by simp)) (hh a (by simp))
    have vb := hex_of b (hi b (by simp)) (hh b (by simp))
    rw [unhexL]
    refine ⟨?_, ?_, by rw [List.length_cons, h3]⟩
    · rw [hexL_cons, h1, show (16 * val a + val b) / 16 = val a from by omega, show (16 * val a + val b) % 16 = val b from by omega, va.2.2, vb.2.2]
      rfl
    · intro x hx
      rcases List.mem_cons.1 hx with rfl | hx
      · omega
      · exact h2 x hx
theorem unhex_hex : ∀ (xs : List Int), InB xs → unhexL (hexL xs) = xs ∧ (∀ x ∈ hexL xs, isB 4 x = true) ∧ upL (hexL xs) = hexL xs
  | [], _ => ⟨rfl, by intro x hx; simp [hexL] at hx, rfl⟩
  | y :: ys, h => by
    obtain ⟨h1, h2, h3⟩ := unhex_hex ys (fun x hx => h x (by simp [hx]))
    have hy := h y (by simp)
    have a := hd_of (y / 16) (by omega)
    have b := hd_of (y % 16) (by omega)
    rw [hexL_cons]
    refine ⟨?_, ?_, ?_⟩
    · rw [unhexL, h1, a.2.1, b.2.1, show 16 * (y / 16) + y % 16 = y from by omega]
    · intro x hx
      rcases List.mem_cons.1 hx with rfl | hx
      · exact a.1
      · rcases List.mem_cons.1 hx with rfl | hx
        · exact b.1
        · exact h2 x hx
    · unfold upL at *
      rw [List.map_cons, List.map_cons, a.2.2, b.2.2, h3]
end Go.Proofs.YtfljmojiglkckaaDoor.H
