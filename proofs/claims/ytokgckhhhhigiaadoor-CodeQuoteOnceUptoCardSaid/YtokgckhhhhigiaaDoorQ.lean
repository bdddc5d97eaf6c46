/- Quote and Unquote, plainly; what is quoted is read again. -/
import Derived.Test.YtokgckhhhhigiaaDoorBase
import Derived.Test.YtokgckhhhhigiaaDoorGlob
namespace Go.Proofs.YtokgckhhhhigiaaDoor.Q
set_option linter.unusedVariables false
set_option linter.unusedSimpArgs false
open Go.RowKit Go.Proofs.YtokgckhhhhigiaaDoor.B Go.Proofs.YtokgckhhhhigiaaDoor.Glob

/-- A digit to the base sixteen. -/
def hx (i : Int) : Int := if i < 10 then 48 + i else 55 + i
def hval (c : Int) : Int := if 97 ≤ c ∧ c ≤ 122 then c - 87 else if c ≥ 65 then c - 55 else c - 48
def endsB : List Int → Bool
  | a :: b :: _ => a == 13 && b == 10
  | _ => false
def blankB (c : Int) : Bool := c == 32 || c == 9
def sgnB (c : Int) (last : Bool) : Bool := !isB 12 c || c == 61 || (last && blankB c)
def sgn (c : Int) (last : Bool) : List Int := if sgnB c last = true then [61, hx (c / 16), hx (c % 16)] else [c]
def lastB (r : List Int) : Bool := r.isEmpty || endsB r
def mostN (last : Bool) : Nat := if last = true then 76 else 75
def qL : Nat → List Int → Nat → List Int
  | 0, _, _ => []
  | _ + 1, [], _ => []
  | n + 1, c :: r, row =>
    if endsB (c :: r) = true then 13 :: 10 :: qL n (r.drop 1) 0
    else if row + (sgn c (lastB r)).length > mostN (lastB r) then 61 :: 13 :: 10 :: (sgn c (lastB r) ++ qL n r (sgn c (lastB r)).length)
    else sgn c (lastB r) ++ qL n r (row + (sgn c (lastB r)).length)
def quo (xs : List Int) : List Int := qL xs.length xs 0

/-- Unquote: fuel, what is left, the row's letters so far, the place, whether a blank stands ahead in this row, what is read. -/
def uqL : Nat → List Int → Nat → Nat → Bool → List Int → List Int × Int × Int
  | 0, _, _, i, bl, out => if bl = true then ([], 42, (i : Int)) else (out, 0, 0)
  | _ + 1, [], _, i, bl, out => if bl = true then ([], 42, (i : Int)) else (out, 0, 0)
  | n + 1, c :: r, col, i, bl, out =>
    if c = 13 then
      if bl = true then ([], 42, (i : Int))
      else if r.headD 0 = 10 then uqL n (r.drop 1) 0 (i + 2) false (out ++ [13, 10]) else ([], 42, ((i + 1 : Nat) : Int))
    else if 76 ≤ col ∨ isB 12 c = false ∨ (blankB c = true ∧ col = 75) then ([], 42, (i : Int))
    else if c ≠ 61 then uqL n r (col + 1) (i + 1) (blankB c) (out ++ [c])
    else if r.headD 0 = 13 then
      if (r.drop 1).headD 0 = 10 then uqL n (r.drop 2) 0 (i + 3) false out else ([], 42, ((i + 2 : Nat) : Int))
    else if 73 < col ∨ isB 4 (r.headD 0) = false then ([], 42, ((i + 1 : Nat) : Int))
    else if isB 4 ((r.drop 1).headD 0) = true then uqL n (r.drop 2) (col + 3) (i + 3) false (out ++ [16 * hval (r.headD 0) + hval ((r.drop 1).headD 0)])
    else ([], 42, ((i + 2 : Nat) : Int))
def unq (xs : List Int) : List Int × Int × Int := uqL xs.length xs 0 0 false []

theorem qL_nil (n row : Nat) : qL n [] row = [] := by cases n <;> rfl
theorem qL_more : ∀ (n m : Nat) (xs : List Int) (row : Nat), xs.length ≤ n → xs.length ≤ m → qL n xs row = qL m xs row
  | 0, m, xs, row, hn, _ => by
    obtain rfl : xs = [] := List.length_eq_zero_iff.1 (by omega)
    rw [qL_nil, qL_nil]
  | n + 1, 0, xs, row, _, hm => by
    obtain rfl : xs = [] := List.length_eq_zero_iff.1 (by omega)
    rw [qL_nil, qL_nil]
  | n + 1, m + 1, [], row, _, _ => rfl
  | n + 1, m + 1, c :: r, row, hn, hm => by
    simp only [List.length_cons] at hn hm
    rw [qL, qL, qL_more n m (r.drop 1) 0 (by rw [List.length_drop]; omega) (by rw [List.length_drop]; omega), qL_more n m r _ (by omega) (by omega), qL_more n m r (row + _) (by omega) (by omega)]
theorem endsB_iff (l : List Int) : endsB l = true ↔ ∃ r, l = 13 :: 10 :: r := by
  match l with
  | [] => exact ⟨fun h => by simp [endsB] at h, fun ⟨r, h⟩ => by cases h⟩
  | [a] => exact ⟨fun h => by simp [endsB] at h, fun ⟨r, h⟩ => by cases h⟩
  | a :: b :: r =>
    simp only [endsB, Bool.and_eq_true, beq_iff_eq]
    exact ⟨fun ⟨h1, h2⟩ => ⟨r, by rw [h1, h2]⟩, fun ⟨r', h⟩ => by injection h with h1 h2; injection h2 with h2 _; exact ⟨h1, h2⟩⟩
theorem of_fin {n : Nat} {p : Int → Prop} (h : ∀ x : Fin n, p (x.val : Int)) (x : Int) (hx : 0 ≤ x ∧ x < n) : p x := by
  have := h ⟨x.toNat, by omega⟩
  simp only at this
  rwa [Int.toNat_of_nonneg hx.1] at this
theorem hx_fin : ∀ i : Fin 16, isB 4 (hx (i.val : Int)) = true ∧ hval (hx (i.val : Int)) = (i.val : Int) ∧ hx (i.val : Int) ≠ 13 ∧ 48 ≤ hx (i.val : Int) ∧ hx (i.val : Int) ≤ 70 := by decide +kernel
theorem hx_of (i : Int) (h : 0 ≤ i ∧ i < 16) : isB 4 (hx i) = true ∧ hval (hx i) = i ∧ hx i ≠ 13 ∧ 48 ≤ hx i ∧ hx i ≤ 70 := of_fin (n := 16) (p := fun i => isB 4 (hx i) = true ∧ hval (hx i) = i ∧ hx i ≠ 13 ∧ 48 ≤ hx i ∧ hx i ≤ 70) hx_fin i (by omega)
theorem plain_fin : ∀ c : Fin 256, isB 12 (c.val : Int) = true → (c.val : Int) ≠ 13 ∧ (c.val : Int) ≠ 10 ∧ (c.val : Int) ≤ 126 ∧ ((c.val : Int) < 32 → (c.val : Int) = 9) := by decide +kernel
theorem plain_of (c : Int) (h : 0 ≤ c ∧ c ≤ 255) (hb : isB 12 c = true) : c ≠ 13 ∧ c ≠ 10 ∧ c ≤ 126 ∧ (c < 32 → c = 9) := of_fin (n := 256) (p := fun c => isB 12 c = true → c ≠ 13 ∧ c ≠ 10 ∧ c ≤ 126 ∧ (c < 32 → c = 9)) plain_fin c (by omega) hb
theorem eq_shown : isB 12 61 = true := by decide +kernel
theorem sgn_cases (c : Int) (last : Bool) : (sgn c last = [61, hx (c / 16), hx (c % 16)]) ∨ (sgn c last = [c] ∧ isB 12 c = true ∧ c ≠ 61 ∧ (last = true → blankB c = false)) := by
  unfold sgn
  by_cases h : sgnB c last = true
  · exact .inl (if_pos h)
  · refine .inr ⟨if_neg h, ?_⟩
    unfold sgnB at h
    cases h1 : isB 12 c <;> cases h2 : (c == 61) <;> cases h3 : last <;> cases h4 : blankB c <;> simp_all

/-! steps of Unquote -/
theorem uq_crlf (m : Nat) (r : List Int) (col i : Nat) (out : List Int) : uqL (m + 1) (13 :: 10 :: r) col i false out = uqL m r 0 (i + 2) false (out ++ [13, 10]) := by simp [uqL]
theorem uq_soft (m : Nat) (r : List Int) (col i : Nat) (bl : Bool) (out : List Int) (hc : col ≤ 75) : uqL (m + 1) (61 :: 13 :: 10 :: r) col i bl out = uqL m r 0 (i + 3) false out := by
  have h : ¬ (76 ≤ col ∨ isB 12 61 = false ∨ (blankB 61 = true ∧ col = 75)) := by
    rintro (h | h | ⟨h, _⟩)
    · omega
    · rw [eq_shown] at h; cases h
    · exact absurd h (by decide)
  rw [uqL, if_neg (by decide), if_neg h, if_neg (by decide)]
  exact (if_pos rfl).trans (if_pos rfl)
theorem uq_char (m : Nat) (c : Int) (r : List Int) (col i : Nat) (bl : Bool) (out : List Int) (hc : col < 76) (h13 : c ≠ 13) (hs : isB 12 c = true) (hb : ¬ (blankB c = true ∧ col = 75)) (h61 : c ≠ 61) :
    uqL (m + 1) (c :: r) col i bl out = uqL m r (col + 1) (i + 1) (blankB c) (out ++ [c]) := by
  have h : ¬ (76 ≤ col ∨ isB 12 c = false ∨ (blankB c = true ∧ col = 75)) := by
    rintro (h | h | h)
    · omega
    · rw [hs] at h; cases h
    · exact hb h
  rw [uqL, if_neg h13, if_neg h, if_pos h61]
theorem uq_hex (m : Nat) (a b : Int) (r : List Int) (col i : Nat) (bl : Bool) (out : List Int) (hc : col ≤ 73) (h13 : a ≠ 13) (ha : isB 4 a = true) (hb : isB 4 b = true) :
    uqL (m + 1) (61 :: a :: b :: r) col i bl out = uqL m r (col + 3) (i + 3) false (out ++ [16 * hval a + hval b]) := by
  have h : ¬ (76 ≤ col ∨ isB 12 61 = false ∨ (blankB 61 = true ∧ col = 75)) := by
    rintro (h | h | ⟨h, _⟩)
    · omega
    · rw [eq_shown] at h; cases h
    · exact absurd h (by decide)
  have h2 : ¬ (73 < col ∨ isB 4 a = false) := by
    rintro (h | h)
    · omega
    · rw [ha] at h; cases h
  rw [uqL, if_neg (by decide), if_neg h, if_neg (by decide)]
  exact (if_neg h13).trans ((if_neg h2).trans (if_pos hb))

theorem len_pos_of {m : Nat} {c : Int} {l : List Int} (h : (c :: l).length ≤ m) : ∃ p, m = p + 1 := ⟨m - 1, by simp at h; omega⟩
/-- A sign that is not the row's break is read as its byte. -/
theorem uq_sgn (m : Nat) (c : Int) (hc : 0 ≤ c ∧ c ≤ 255) (last : Bool) (r : List Int) (col i : Nat) (bl : Bool) (out : List Int) (hm : (sgn c last ++ r).length ≤ m) (hcol : col + (sgn c last).length ≤ mostN last) :
    ∃ m' i', r.length ≤ m' ∧ uqL m (sgn c last ++ r) col i bl out = uqL m' r (col + (sgn c last).length) i' (decide (sgn c last = [c]) && blankB c) (out ++ [c]) := by
  have hmo : mostN last ≤ 76 := by unfold mostN; split <;> omega
  rcases sgn_cases c last with h | ⟨h, h1, h2, h3⟩
  · rw [h] at hm hcol ⊢
    simp only [List.cons_append, List.nil_append] at hm ⊢
    obtain ⟨p, rfl⟩ := len_pos_of hm
    obtain ⟨a1, a2, a3, _⟩ := hx_of (c / 16) (by omega)
    obtain ⟨b1, b2, _, _⟩ := hx_of (c % 16) (by omega)
    refine ⟨p, i + 3, by simp at hm; omega, ?_⟩
    rw [uq_hex p _ _ r col i bl out (by simp at hcol; omega) a3 a1 b1, a2, b2]
    have hd : decide ([61, hx (c / 16), hx (c % 16)] = [c]) = false := decide_eq_false (by simp)
    rw [hd, show 16 * (c / 16) + c % 16 = c by omega]
    rfl
  · rw [h] at hm hcol ⊢
    simp only [List.cons_append, List.nil_append] at hm ⊢
    obtain ⟨p, rfl⟩ := len_pos_of hm
    refine ⟨p, i + 1, by simp at hm; omega, ?_⟩
    simp only [decide_true, Bool.true_and]
    refine uq_char p c r col i bl out (by simp at hcol; omega) (plain_of c hc h1).1 h1 ?_ h2
    rintro ⟨hb, h75⟩
    have : last = false := by
      cases hl : last
      · rfl
      · rw [h3 hl] at hb; cases hb
    rw [this] at hcol
    simp [mostN] at hcol
    omega

theorem sgn_len (c : Int) (last : Bool) : 1 ≤ (sgn c last).length ∧ (sgn c last).length ≤ 3 := by
  rcases sgn_cases c last with h | ⟨h, _⟩ <;> rw [h] <;> simp
theorem mostN_range (b : Bool) : 75 ≤ mostN b ∧ mostN b ≤ 76 := by unfold mostN; split <;> omega
theorem sgn_blank {c : Int} {last : Bool} (h : (decide (sgn c last = [c]) && blankB c) = true) : last = false := by
  cases last
  · rfl
  · simp only [Bool.and_eq_true, decide_eq_true_eq] at h
    rcases sgn_cases c true with h1 | ⟨_, _, _, h3⟩
    · rw [h1] at h
      simp at h
    · rw [h3 rfl] at h
      cases h.2

theorem unq_quo : ∀ (n : Nat) (xs : List Int) (row i : Nat) (bl : Bool) (out : List Int) (m : Nat), xs.length ≤ n → InB xs → row ≤ 76 → (lastB xs = false → row ≤ 75) → (bl = true → lastB xs = false) → (qL n xs row).length ≤ m →
    uqL m (qL n xs row) row i bl out = (out ++ xs, 0, 0) := by
  intro n
  induction n with
  | zero =>
    intro xs row i bl out m hn hin hr hl hb hm
    obtain rfl : xs = [] := List.length_eq_zero_iff.1 (by omega)
    have : bl = false := by cases bl; rfl; exact absurd (hb rfl) (by decide)
    subst this
    cases m <;> simp [qL, uqL]
  | succ n ih =>
    intro xs row i bl out m hn hin hr hl hb hm
    match xs, hn, hin, hl, hb, hm with
    | [], _, _, _, hb, _ =>
      have : bl = false := by cases bl; rfl; exact absurd (hb rfl) (by decide)
      subst this
      cases m <;> simp [qL, uqL]
    | c :: r, hn, hin, hl, hb, hm =>
      have hc : 0 ≤ c ∧ c ≤ 255 := hin c List.mem_cons_self
      have hir : InB r := fun x hx => hin x (List.mem_cons_of_mem _ hx)
      simp only [List.length_cons] at hn
      rw [qL] at hm ⊢
      by_cases he : endsB (c :: r) = true
      · rw [if_pos he] at hm ⊢
        have hbl : bl = false := by
          cases bl
          · rfl
          · have := hb rfl
            unfold lastB at this
            rw [he] at this
            cases this
        subst hbl
        obtain ⟨r', hr'⟩ := (endsB_iff _).1 he
        injection hr' with h1 h2
        subst h1 h2
        simp only [List.drop_succ_cons, List.drop_zero] at hm ⊢
        obtain ⟨p, rfl⟩ := len_pos_of hm
        rw [uq_crlf, ih r' 0 (i + 2) false _ p (by simp at hn; omega) (fun x hx => hir x (List.mem_cons_of_mem _ hx)) (by omega) (fun _ => by omega) (fun h => by cases h) (by simp at hm; omega)]
        simp
      · rw [if_neg he] at hm ⊢
        have hlast : lastB (c :: r) = false := by
          unfold lastB
          simp only [List.isEmpty_cons, Bool.false_or]
          exact Bool.eq_false_iff.2 he
        have hrow := hl hlast
        have hsl := sgn_len c (lastB r)
        have hmr := mostN_range (lastB r)
        have hnext : ∀ q, q ≤ mostN (lastB r) → (lastB r = false → q ≤ 75) := fun q hq hf => by rw [hf] at hq; simp [mostN] at hq; exact hq
        by_cases hg : row + (sgn c (lastB r)).length > mostN (lastB r)
        · rw [if_pos hg] at hm ⊢
          obtain ⟨p, rfl⟩ := len_pos_of hm
          rw [uq_soft p _ row i bl out hrow]
          obtain ⟨m', i', hm', e⟩ := uq_sgn p c hc (lastB r) (qL n r (sgn c (lastB r)).length) 0 (i + 3) false out (by simp only [List.length_cons] at hm; omega) (by omega)
          rw [e, Nat.zero_add]
          rw [ih r _ i' _ (out ++ [c]) m' (by omega) hir (by omega) (hnext _ (by omega)) sgn_blank hm']
          simp
        · rw [if_neg hg] at hm ⊢
          obtain ⟨m', i', hm', e⟩ := uq_sgn m c hc (lastB r) (qL n r (row + (sgn c (lastB r)).length)) row i bl out hm (by omega)
          rw [e]
          rw [ih r _ i' _ (out ++ [c]) m' (by omega) hir (by omega) (hnext _ (by omega)) sgn_blank hm']
          simp
theorem unq_of_quo (xs : List Int) (h : InB xs) : unq (quo xs) = (xs, 0, 0) := by
  unfold unq quo
  rw [unq_quo xs.length xs 0 0 false [] _ (Nat.le_refl _) h (by omega) (fun _ => by omega) (fun h => by cases h) (Nat.le_refl _), List.nil_append]
theorem qL_in : ∀ (n : Nat) (xs : List Int) (row : Nat), InB xs → InB (qL n xs row) := by
  have hcons : ∀ (c : Int) (l : List Int), (0 ≤ c ∧ c ≤ 255) → InB l → InB (c :: l) := fun c l hc hl x hx => by
    rcases List.mem_cons.1 hx with rfl | hx
    · exact hc
    · exact hl x hx
  have hsg : ∀ (c : Int) (b : Bool) (l : List Int), (0 ≤ c ∧ c ≤ 255) → InB l → InB (sgn c b ++ l) := fun c b l hc hl => by
    rcases sgn_cases c b with h | ⟨h, _⟩
    · rw [h]
      have h1 := hx_of (c / 16) (by omega)
      have h2 := hx_of (c % 16) (by omega)
      exact hcons _ _ (by omega) (hcons _ _ (by omega) (hcons _ _ (by omega) hl))
    · rw [h]
      exact hcons _ _ hc hl
  intro n
  induction n with
  | zero => intro xs row _ x hx; simp [qL] at hx
  | succ n ih =>
    intro xs row hin
    match xs, hin with
    | [], _ => intro x hx; simp [qL] at hx
    | c :: r, hin =>
      have hc : 0 ≤ c ∧ c ≤ 255 := hin c List.mem_cons_self
      have hir : InB r := fun x hx => hin x (List.mem_cons_of_mem _ hx)
      rw [qL]
      split
      · exact hcons _ _ (by omega) (hcons _ _ (by omega) (ih _ _ (fun x hx => hir x (List.mem_of_mem_drop hx))))
      · split
        · exact hcons _ _ (by omega) (hcons _ _ (by omega) (hcons _ _ (by omega) (hsg _ _ _ hc (ih _ _ hir))))
        · exact hsg _ _ _ hc (ih _ _ hir)
theorem qL_len_ge : ∀ (n : Nat) (xs : List Int) (row : Nat), xs.length ≤ n → xs.length ≤ (qL n xs row).length := by
  intro n
  induction n with
  | zero => intro xs row h; omega
  | succ n ih =>
    intro xs row h
    match xs, h with
    | [], _ => simp
    | c :: r, h =>
      simp only [List.length_cons] at h
      have hs := sgn_len c (lastB r)
      rw [qL]
      split
      · have := ih (r.drop 1) 0 (by rw [List.length_drop]; omega)
        simp only [List.length_cons, List.length_drop] at this ⊢
        omega
      · split
        · have := ih r (sgn c (lastB r)).length (by omega)
          simp only [List.length_cons, List.length_append]
          omega
        · have := ih r (row + (sgn c (lastB r)).length) (by omega)
          simp only [List.length_cons, List.length_append]
          omega
theorem qL_len_le : ∀ (n : Nat) (xs : List Int) (row : Nat), (qL n xs row).length ≤ 6 * xs.length := by
  intro n
  induction n with
  | zero => intro xs row; simp [qL]
  | succ n ih =>
    intro xs row
    match xs with
    | [] => simp [qL]
    | c :: r =>
      have hs := sgn_len c (lastB r)
      rw [qL]
      split
      · have := ih (r.drop 1) 0
        simp only [List.length_cons, List.length_drop] at this ⊢
        omega
      · split
        · have := ih r (sgn c (lastB r)).length
          simp only [List.length_cons, List.length_append]
          omega
        · have := ih r (row + (sgn c (lastB r)).length)
          simp only [List.length_cons, List.length_append]
          omega
end Go.Proofs.YtokgckhhhhigiaaDoor.Q
