/- Rows, the program's and the reference's, as one plain function on lists. -/
import Derived.Test.YtokgckhhhhigiaaB64
import Derived.Test.YtokgckhhhhigiaaG3
import Derived.Test.YtokgckhhhhigiaaG5
namespace Go.Proofs.Ytokgckhhhhigiaa.B64
set_option linter.unusedVariables false
set_option linter.unusedSimpArgs false
open Go.RowKit Go.Proofs.YtokgckhhhhigiaaW.PrintWords Go.Proofs.YtokgckhhhhigiaaW.PrintMore Go.Proofs.Ytokgckhhhhigiaa.B Go.Proofs.Ytokgckhhhhigiaa.G

theorem extract_bytes (s : ByteArray) (a b : Nat) : bytesOf (s.extract a b) = ((bytesOf s).drop a).take (b - a) := by
  unfold bytesOf
  rw [Lib.extract_data, List.map_take, List.map_drop]
theorem extract_front (l : List Int) (hl : InB l) (n : Nat) : (strOfNums l).extract 0 n = strOfNums (l.take n) := by
  refine bytesOf_inj ?_
  rw [extract_bytes, bytesOf_strOfNums _ hl, bytesOf_strOfNums _ fun x hx => hl x (List.mem_of_mem_take hx)]
  simp
theorem extract_back (l : List Int) (hl : InB l) (n : Nat) : (strOfNums l).extract n (strOfNums l).size = strOfNums (l.drop n) := by
  refine bytesOf_inj ?_
  rw [extract_bytes, bytesOf_strOfNums _ hl, bytesOf_strOfNums _ fun x hx => hl x (List.mem_of_mem_drop hx), strOfNums_len]
  exact List.take_of_length_le (by simp)

/-- Rows of at most m. -/
def rowsL (m : Nat) : Nat → List Int → List Int
  | 0, _ => []
  | d + 1, l => if l = [] then [] else l.take m ++ [13, 10] ++ rowsL m d (l.drop m)
theorem rowsL_more (m : Nat) (hm : 0 < m) : ∀ (d e : Nat) (l : List Int), l.length ≤ d → l.length ≤ e → rowsL m d l = rowsL m e l
  | 0, 0, l, _, _ => rfl
  | 0, e + 1, l, h, _ => by
    obtain rfl := List.eq_nil_of_length_eq_zero (show l.length = 0 by omega)
    simp [rowsL]
  | d + 1, 0, l, _, h => by
    obtain rfl := List.eq_nil_of_length_eq_zero (show l.length = 0 by omega)
    simp [rowsL]
  | d + 1, e + 1, l, h1, h2 => by
    simp only [rowsL]
    by_cases h : l = []
    · rw [if_pos h, if_pos h]
    · rw [if_neg h, if_neg h, rowsL_more m hm d e (l.drop m) (by rw [List.length_drop]; omega) (by rw [List.length_drop]; omega)]
def rows (m : Nat) (l : List Int) : List Int := rowsL m l.length l
theorem rows_nil (m : Nat) : rows m [] = [] := rfl
theorem rows_step (m : Nat) (hm : 0 < m) (l : List Int) (h : l ≠ []) : rows m l = l.take m ++ [13, 10] ++ rows m (l.drop m) := by
  unfold rows
  have hp : 0 < l.length := List.length_pos_iff.mpr h
  obtain ⟨d, hd⟩ : ∃ d, l.length = d + 1 := ⟨l.length - 1, by omega⟩
  rw [hd, rowsL, if_neg h, rowsL_more m hm d (l.drop m).length (l.drop m) (by rw [List.length_drop]; omega) (Nat.le_refl _)]

theorem mn_eq (m n : Nat) : mn (m : Int) (n : Int) = ((min m n : Nat) : Int) := by
  unfold mn
  split
  · rw [Nat.min_eq_right (by omega)]
  · rw [Nat.min_eq_left (by omega)]

theorem front_len (l : List Int) (m : Nat) (hm : 0 < m) (hp : 0 < l.length) : (l.take m).length + 2 + 3 * (l.length - m) ≤ 3 * l.length := by
  have h := List.length_take (i := m) (l := l)
  rcases Nat.le_total m l.length with h' | h'
  · rw [Nat.min_eq_left h'] at h
    omega
  · rw [Nat.min_eq_right h'] at h
    omega
theorem codeRows_loop (m : Nat) (hm : 0 < m) (d : Nat) : ∀ (l acc : List Int), InB l → l.length ≤ d → acc.length + 3 * l.length ≤ 140737488355000 → Ev (fun k => code_Rows.l0 k (m : Int) (strOfNums l) acc) (strOfNums (acc ++ rows m l), 0) := by
  induction d with
  | zero =>
    intro l acc hl h ha
    obtain rfl := List.eq_nil_of_length_eq_zero (show l.length = 0 by omega)
    refine Ev.last fun k => ?_
    simp only [code_Rows.l0]
    rw [strOfNums_len, if_neg (by simp), rows_nil, List.append_nil]
  | succ d ih =>
    intro l acc hl h ha
    by_cases he : l = []
    · subst he
      refine Ev.last fun k => ?_
      simp only [code_Rows.l0]
      rw [strOfNums_len, if_neg (by simp), rows_nil, List.append_nil]
    · have hp : 0 < l.length := List.length_pos_iff.mpr he
      have htl : (l.take (min m l.length)).length = min m l.length := by rw [List.length_take]; omega
      have key := ih (l.drop m) (acc ++ l.take m ++ [13, 10]) (fun x hx => hl x (List.mem_of_mem_drop hx)) (by rw [List.length_drop]; omega) (by simp only [List.length_append, List.length_drop, List.length_cons, List.length_nil]; have h5 := front_len l m hm hp; omega)
      rw [show acc ++ l.take m ++ [13, 10] ++ rows m (l.drop m) = acc ++ rows m l from by rw [rows_step m hm l he]; simp] at key
      have ht : l.take (min m l.length) = l.take m := by
        rcases Nat.le_total m l.length with h' | h'
        · rw [Nat.min_eq_left h']
        · rw [Nat.min_eq_right h', List.take_of_length_le (Nat.le_refl _), List.take_of_length_le h']
      have hd : l.drop (min m l.length) = l.drop m := by
        rcases Nat.le_total m l.length with h' | h'
        · rw [Nat.min_eq_left h']
        · rw [Nat.min_eq_right h', List.drop_eq_nil_of_le (Nat.le_refl _), List.drop_eq_nil_of_le h']
      refine Ev.round (f := fun k => code_Rows.l0 k (m : Int) (strOfNums (l.drop m)) (acc ++ l.take m ++ [13, 10])) (fun k => ?_) key
      have hlen := strOfNums_len l
      simp only [code_Rows.l0]
      rw [extract_back l hl, extract_front l hl, hlen, mn_eq, Int.toNat_natCast, hd, ht, bytesOf_strOfNums _ fun x hx => hl x (List.mem_of_mem_take hx), strOfNums_len]
      have h2 : (l.take m).length ≤ l.length := by rw [List.length_take]; omega
      rw [if_pos (by omega), if_pos (by omega), if_pos (by omega), if_pos (by omega), bind_some', bind_some', if_pos (by simp only [List.length_append, List.length_cons, List.length_nil]; omega)]

theorem mod_succ (i m : Nat) (hm : 0 < m) : (i + 1) % m = if i % m + 1 = m then 0 else i % m + 1 := by
  have h := Nat.div_add_mod i m
  have hr := Nat.mod_lt i hm
  split
  · rename_i e
    have : i + 1 = m * (i / m + 1) := by rw [Nat.mul_add, Nat.mul_one]; omega
    rw [this, Nat.mul_mod_right]
  · have : i + 1 = m * (i / m) + (i % m + 1) := by omega
    conv => lhs; rw [this]
    rw [Nat.mul_add_mod, Nat.mod_eq_of_lt (by omega)]
/-- What the reference writes from place i on. -/
theorem refRows_loop (m : Nat) (hm : 0 < m) (hm2 : m ≤ 76) (l : List Int) (hl : InB l) (hs : l.length ≤ 40000000000000) (d : Nat) : ∀ (i : Nat) (acc : List Int), i + d = l.length → acc.length ≤ 3 * i →
    Ev (fun k => posthornref04_Rows.l0 k (m : Int) acc (strOfNums l) (i : Int)) (strOfNums (acc ++ if l.drop i = [] then [] else (l.drop i).take (m - i % m) ++ [13, 10] ++ rows m ((l.drop i).drop (m - i % m))), 0) := by
  induction d with
  | zero =>
    intro i acc h ha
    refine Ev.last fun k => ?_
    simp only [posthornref04_Rows.l0]
    rw [strOfNums_len, if_neg (by omega), if_pos (List.drop_eq_nil_of_le (by omega)), List.append_nil]
  | succ d ih =>
    intro i acc h ha
    have hi : i < l.length := by omega
    have hr := Nat.mod_lt i hm
    have hb := bt_strOfNums l hl i hi
    have hw : wrap64 ((i : Int) + 1) = ((i + 1 : Nat) : Int) := wrap_id _ (by omega) (by omega)
    rw [drop_cons l i hi, if_neg (List.cons_ne_nil _ _)]
    have hmod : Int.tmod ((i + 1 : Nat) : Int) (m : Int) = (((i + 1) % m : Nat) : Int) := by rw [Int.tmod_eq_emod_of_nonneg (by omega)]; rfl
    by_cases h1 : (i + 1) % m = 0
    · have h1m : i % m = m - 1 := by
        rw [mod_succ i m hm] at h1
        split at h1 <;> omega
      have key := ih (i + 1) (acc ++ [l[i]] ++ [13, 10]) (by omega) (by simp only [List.length_append, List.length_cons, List.length_nil]; omega)
      have e1 : m - i % m = 1 := by omega
      rw [h1, Nat.sub_zero] at key
      rw [e1]
      have e2 : acc ++ (List.take 1 (l[i] :: l.drop (i + 1)) ++ [13, 10] ++ rows m (List.drop 1 (l[i] :: l.drop (i + 1)))) = acc ++ [l[i]] ++ [13, 10] ++ if l.drop (i + 1) = [] then [] else (l.drop (i + 1)).take m ++ [13, 10] ++ rows m ((l.drop (i + 1)).drop m) := by
        simp only [List.take_succ_cons, List.take_zero, List.drop_succ_cons, List.drop_zero]
        by_cases he : l.drop (i + 1) = []
        · rw [if_pos he, he, rows_nil]; simp
        · rw [if_neg he, rows_step m hm _ he]; simp
      rw [e2]
      refine Ev.round (f := fun k => posthornref04_Rows.l0 k (m : Int) (acc ++ [l[i]] ++ [13, 10]) (strOfNums l) ((i + 1 : Nat) : Int)) (fun k => ?_) key
      simp only [posthornref04_Rows.l0]
      rw [strOfNums_len, hb, hw, hmod, h1, if_pos (by omega), if_pos (by omega), if_pos (by omega), bind_some', if_neg (by omega), if_pos (by rfl), bind_some', if_pos (by simp only [List.length_append, List.length_cons, List.length_nil]; omega)]
    · have h1m : (i + 1) % m = i % m + 1 := by
        rw [mod_succ i m hm] at h1 ⊢
        split at h1
        · exact absurd rfl h1
        · rw [if_neg (by assumption)]
      by_cases h2 : i + 1 = l.length
      · have key := ih (i + 1) (acc ++ [l[i]] ++ [13, 10]) (by omega) (by simp only [List.length_append, List.length_cons, List.length_nil]; omega)
        have hn : l.drop (i + 1) = [] := List.drop_eq_nil_of_le (by omega)
        rw [hn, if_pos rfl, List.append_nil] at key
        rw [hn]
        obtain ⟨q, hq⟩ : ∃ q, m - i % m = q + 1 := ⟨m - i % m - 1, by omega⟩
        rw [hq]
        simp only [List.take_succ_cons, List.take_nil, List.drop_succ_cons, List.drop_nil, rows_nil, List.append_nil]
        rw [← List.append_assoc]
        refine Ev.round (f := fun k => posthornref04_Rows.l0 k (m : Int) (acc ++ [l[i]] ++ [13, 10]) (strOfNums l) ((i + 1 : Nat) : Int)) (fun k => ?_) key
        simp only [posthornref04_Rows.l0]
        rw [strOfNums_len, hb, hw, hmod, if_pos (by omega), if_pos (by omega), if_pos (by omega), bind_some', if_neg (by omega), if_neg (by omega), if_pos (by omega), bind_some', if_pos (by simp only [List.length_append, List.length_cons, List.length_nil]; omega)]
      · have key := ih (i + 1) (acc ++ [l[i]]) (by omega) (by simp only [List.length_append, List.length_cons, List.length_nil]; omega)
        have hn : l.drop (i + 1) ≠ [] := by
          intro he
          have := congrArg List.length he
          rw [List.length_drop] at this
          simp at this
          omega
        rw [if_neg hn] at key
        obtain ⟨q, hq⟩ : ∃ q, m - i % m = q + 1 := ⟨m - i % m - 1, by omega⟩
        rw [show m - (i + 1) % m = q from by omega] at key
        rw [hq]
        simp only [List.take_succ_cons, List.drop_succ_cons]
        rw [show acc ++ (l[i] :: (l.drop (i + 1)).take q ++ [13, 10] ++ rows m ((l.drop (i + 1)).drop q)) = acc ++ [l[i]] ++ ((l.drop (i + 1)).take q ++ [13, 10] ++ rows m ((l.drop (i + 1)).drop q)) from by simp]
        refine Ev.round (f := fun k => posthornref04_Rows.l0 k (m : Int) (acc ++ [l[i]]) (strOfNums l) ((i + 1 : Nat) : Int)) (fun k => ?_) key
        simp only [posthornref04_Rows.l0]
        rw [strOfNums_len, hb, hw, hmod, if_pos (by omega), if_pos (by omega), if_pos (by omega), bind_some', if_neg (by omega), if_neg (by omega), if_neg (by omega)]

/-- What Rows tells. -/
def rowsR (xs : List Int) (m : Int) : ByteArray × Int := if m < 4 ∨ 76 < m ∨ m % 4 ≠ 0 then (⟨#[]⟩, 2) else (strOfNums (rows m.toNat (b64 xs)), 0)

theorem Rows_ev (xs : List Int) (m : Int) (hx : InB xs) (hl : xs.length ≤ 10000000000000) : Ev (fun k => code_Rows.f k xs m) (rowsR xs m) := by
  unfold code_Rows.f rowsR
  by_cases h1 : m < 4
  · simp only [if_pos h1, if_pos (Or.inl h1 : m < 4 ∨ 76 < m ∨ m % 4 ≠ 0)]
    exact Ev.last fun k => by simp only [code_Rows.j0]; rfl
  by_cases h2 : m > 76
  · simp only [if_neg h1, if_pos h2, if_pos (Or.inr (Or.inl h2) : m < 4 ∨ 76 < m ∨ m % 4 ≠ 0)]
    exact Ev.last fun k => by simp only [code_Rows.j0]; rfl
  have e : Int.tmod m 4 = m % 4 := Int.tmod_eq_emod_of_nonneg (by omega)
  simp only [if_neg h1, if_neg h2, e]
  by_cases h3 : m % 4 = 0
  · rw [if_neg (by omega)]
    obtain ⟨n, rfl⟩ := Int.eq_ofNat_of_zero_le (show 0 ≤ m by omega)
    have hb := b64_len xs
    have hin := b64_in xs hx
    refine Ev.round (f := fun k => (code_Base64.f k xs).bind fun t => (if (n : Int) = 0 then (none) else (if 0 ≤ (wrap64 ((t.size : Int) + (wrap64 (2 * (wrap64 ((wrap64 ((t.size : Int) / n)) + 1)))))) then (if (wrap64 ((t.size : Int) + (wrap64 (2 * (wrap64 ((wrap64 ((t.size : Int) / n)) + 1))))) : Int).toNat ≤ 281474976710656 then (code_Rows.l0 k n t (([] : List Int))) else (none)) else (none)))) (fun k => ?_) ?_
    · simp only [code_Rows.j0]
      rw [h3]
      rfl
    · refine Ev.bind (Base64_ev xs hx (by omega)) ?_
      have key := codeRows_loop n (by omega) (b64 xs).length (b64 xs) [] hin (Nat.le_refl _) (by simp; omega)
      rw [List.nil_append] at key
      refine Ev.congr (fun k => ?_) key
      have hq : 0 ≤ ((b64 xs).length : Int) / n ∧ ((b64 xs).length : Int) / n ≤ (b64 xs).length := ⟨Int.ediv_nonneg (by omega) (by omega), Int.ediv_le_self _ (by omega)⟩
      rw [strOfNums_len, wrap_id (((b64 xs).length : Int) / n) (by omega) (by omega), wrap_id (((b64 xs).length : Int) / n + 1) (by omega) (by omega), wrap_id (2 * _) (by omega) (by omega), wrap_id _ (by omega) (by omega), if_neg (by omega), if_pos (by omega), if_pos (by omega)]
  · rw [if_pos (Or.inr (Or.inr h3))]
    exact Ev.last fun k => by simp only [code_Rows.j0]; rw [if_pos (bne_iff_ne.2 h3)]

theorem refRows_ev (xs : List Int) (m : Int) (hx : InB xs) (hl : xs.length ≤ 10000000000000) : Ev (fun k => posthornref04_Rows.f k xs m) (rowsR xs m) := by
  unfold posthornref04_Rows.f rowsR
  by_cases h1 : m < 4
  · simp only [if_pos h1, if_pos (Or.inl h1 : m < 4 ∨ 76 < m ∨ m % 4 ≠ 0)]
    exact Ev.last fun k => by simp only [posthornref04_Rows.j0]; rfl
  by_cases h2 : m > 76
  · simp only [if_neg h1, if_pos h2, if_pos (Or.inr (Or.inl h2) : m < 4 ∨ 76 < m ∨ m % 4 ≠ 0)]
    exact Ev.last fun k => by simp only [posthornref04_Rows.j0]; rfl
  have e : Int.tmod m 4 = m % 4 := Int.tmod_eq_emod_of_nonneg (by omega)
  simp only [if_neg h1, if_neg h2, e]
  by_cases h3 : m % 4 = 0
  · rw [if_neg (by omega)]
    obtain ⟨n, rfl⟩ := Int.eq_ofNat_of_zero_le (show 0 ≤ m by omega)
    have hb := b64_len xs
    have hin := b64_in xs hx
    refine Ev.round (f := fun k => (posthornref04_Base64.f k xs).bind fun t => posthornref04_Rows.l0 k n ([] : List Int) t 0) (fun k => ?_) ?_
    · simp only [posthornref04_Rows.j0]
      rw [h3]
      rfl
    · refine Ev.bind (refBase64_ev xs hx (by omega)) ?_
      have key := refRows_loop n (by omega) (by omega) (b64 xs) hin (by omega) (b64 xs).length 0 [] (by omega) (by simp)
      rw [List.nil_append, List.drop_zero, Nat.zero_mod, Nat.sub_zero] at key
      refine Ev.congr (fun k => rfl) (cast ?_ key)
      congr 2
      rw [Int.toNat_natCast]
      by_cases he : b64 xs = []
      · rw [if_pos he, he, rows_nil]
      · rw [if_neg he, rows_step n (by omega) _ he]
  · rw [if_pos (Or.inr (Or.inr h3))]
    exact Ev.last fun k => by simp only [posthornref04_Rows.j0]; rw [if_pos (bne_iff_ne.2 h3)]
end Go.Proofs.Ytokgckhhhhigiaa.B64
