/- Unquote as an automaton, letter by letter; the reference's rows, told by it. -/
import Derived.Test.YtokgckhhhhigiaaDoorQ
namespace Go.Proofs.YtokgckhhhhigiaaDoor.UR
set_option linter.unusedVariables false
set_option linter.unusedSimpArgs false
open Go.RowKit Go.Proofs.YtokgckhhhhigiaaDoor.B Go.Proofs.YtokgckhhhhigiaaDoor.Glob Go.Proofs.YtokgckhhhhigiaaDoor.Q

/-- Where a reader stands in a row: behind whole letters (how many; is the last a blank), behind =, behind = and a digit, behind CR, behind = and CR. -/
inductive S where
  | p (col : Nat) (bl : Bool) (out : List Int)
  | e (col : Nat) (out : List Int)
  | x (col : Nat) (a : Int) (out : List Int)
  | c (out : List Int)
  | ec (out : List Int)
def step : S → Int → Option S
  | .p col bl out, c => if c = 13 then (if bl = true then none else some (.c out)) else if 76 ≤ col ∨ isB 12 c = false ∨ (blankB c = true ∧ col = 75) then none else if c ≠ 61 then some (.p (col + 1) (blankB c) (out ++ [c])) else some (.e col out)
  | .e col out, c => if c = 13 then some (.ec out) else if 73 < col ∨ isB 4 c = false then none else some (.x col c out)
  | .x col a out, c => if isB 4 c = true then some (.p (col + 3) false (out ++ [16 * hval a + hval c])) else none
  | .c out, c => if c = 10 then some (.p 0 false (out ++ [13, 10])) else none
  | .ec out, c => if c = 10 then some (.p 0 false out) else none
theorem step_p (col : Nat) (bl : Bool) (out : List Int) (c : Int) : step (.p col bl out) c = if c = 13 then (if bl = true then none else some (.c out)) else if 76 ≤ col ∨ isB 12 c = false ∨ (blankB c = true ∧ col = 75) then none else if c ≠ 61 then some (.p (col + 1) (blankB c) (out ++ [c])) else some (.e col out) := rfl
theorem step_e (col : Nat) (out : List Int) (c : Int) : step (.e col out) c = if c = 13 then some (.ec out) else if 73 < col ∨ isB 4 c = false then none else some (.x col c out) := rfl
theorem step_x (col : Nat) (a : Int) (out : List Int) (c : Int) : step (.x col a out) c = if isB 4 c = true then some (.p (col + 3) false (out ++ [16 * hval a + hval c])) else none := rfl
theorem step_c (out : List Int) (c : Int) : step (.c out) c = if c = 10 then some (.p 0 false (out ++ [13, 10])) else none := rfl
theorem step_ec (out : List Int) (c : Int) : step (.ec out) c = if c = 10 then some (.p 0 false out) else none := rfl
def fin : S → Nat → List Int × Int × Int
  | .p _ false out, _ => (out, 0, 0)
  | _, i => ([], 42, (i : Int))
def run : List Int → S → Nat → List Int × Int × Int
  | [], s, i => fin s i
  | c :: r, s, i => match step s c with | none => ([], 42, (i : Int)) | some s' => run r s' (i + 1)
theorem run_none {c : Int} {r : List Int} {s : S} {i : Nat} (h : step s c = none) : run (c :: r) s i = ([], 42, (i : Int)) := by rw [run, h]
theorem run_some {c : Int} {r : List Int} {s s' : S} {i : Nat} (h : step s c = some s') : run (c :: r) s i = run r s' (i + 1) := by rw [run, h]
theorem run_uq : ∀ (m : Nat) (l : List Int) (col i : Nat) (bl : Bool) (out : List Int), l.length ≤ m → uqL m l col i bl out = run l (.p col bl out) i
  | 0, l, col, i, bl, out, h => by
    obtain rfl : l = [] := List.length_eq_zero_iff.1 (by omega)
    cases bl <;> rfl
  | m + 1, [], col, i, bl, out, _ => by cases bl <;> rfl
  | m + 1, c :: r, col, i, bl, out, h => by
    simp only [List.length_cons] at h
    rw [uqL]
    by_cases h13 : c = 13
    · rw [if_pos h13]
      cases bl
      · have hs : step (.p col false out) c = some (.c out) := by rw [step_p, if_pos h13, if_neg (by decide)]
        rw [if_neg (by decide), run_some hs]
        cases r with
        | nil => rfl
        | cons d r' =>
          simp only [List.headD_cons, List.drop_succ_cons, List.drop_zero]
          by_cases h10 : d = 10
          · have hs2 : step (.c out) d = some (.p 0 false (out ++ [13, 10])) := if_pos h10
            rw [if_pos h10, run_some hs2, run_uq m r' 0 (i + 2) false _ (by simp at h; omega)]
          · have hs2 : step (.c out) d = none := if_neg h10
            rw [if_neg h10, run_none hs2]
      · have hs : step (.p col true out) c = none := by rw [step_p, if_pos h13, if_pos rfl]
        rw [if_pos rfl, run_none hs]
    · rw [if_neg h13]
      by_cases hb : 76 ≤ col ∨ isB 12 c = false ∨ (blankB c = true ∧ col = 75)
      · have hs : step (.p col bl out) c = none := by rw [step_p, if_neg h13, if_pos hb]
        rw [if_pos hb, run_none hs]
      · rw [if_neg hb]
        by_cases h61 : c ≠ 61
        · have hs : step (.p col bl out) c = some (.p (col + 1) (blankB c) (out ++ [c])) := by rw [step_p, if_neg h13, if_neg hb, if_pos h61]
          rw [if_pos h61, run_some hs, run_uq m r _ _ _ _ (by omega)]
        · have hs : step (.p col bl out) c = some (.e col out) := by rw [step_p, if_neg h13, if_neg hb, if_neg h61]
          rw [if_neg h61, run_some hs]
          cases r with
          | nil =>
            simp only [List.headD_nil, List.drop_nil]
            rw [if_neg (by decide), if_pos (.inr (by decide +kernel))]
            rfl
          | cons a r1 =>
            simp only [List.headD_cons, List.drop_succ_cons, List.drop_zero]
            by_cases ha : a = 13
            · have hs2 : step (.e col out) a = some (.ec out) := by rw [step_e, if_pos ha]
              rw [if_pos ha, run_some hs2]
              cases r1 with
              | nil => rfl
              | cons b r2 =>
                simp only [List.headD_cons, List.drop_succ_cons, List.drop_zero]
                by_cases hb10 : b = 10
                · have hs3 : step (.ec out) b = some (.p 0 false out) := if_pos hb10
                  rw [if_pos hb10, run_some hs3, run_uq m r2 0 (i + 3) false out (by simp at h; omega)]
                · have hs3 : step (.ec out) b = none := if_neg hb10
                  rw [if_neg hb10, run_none hs3]
            · rw [if_neg ha]
              by_cases h73 : 73 < col ∨ isB 4 a = false
              · have hs2 : step (.e col out) a = none := by rw [step_e, if_neg ha, if_pos h73]
                rw [if_pos h73, run_none hs2]
              · have hs2 : step (.e col out) a = some (.x col a out) := by rw [step_e, if_neg ha, if_neg h73]
                rw [if_neg h73, run_some hs2]
                cases r1 with
                | nil =>
                  rw [if_neg (show ¬ isB 4 (([] : List Int).headD 0) = true by decide +kernel)]
                  rfl
                | cons b r2 =>
                  simp only [List.headD_cons, List.drop_succ_cons, List.drop_zero]
                  by_cases hbh : isB 4 b = true
                  · have hs3 : step (.x col a out) b = some (.p (col + 3) false (out ++ [16 * hval a + hval b])) := if_pos hbh
                    rw [if_pos hbh, run_some hs3, run_uq m r2 _ _ _ _ (by simp at h; omega)]
                  · have hs3 : step (.x col a out) b = none := if_neg hbh
                    rw [if_neg hbh, run_none hs3]
theorem unq_run (l : List Int) : unq l = run l (.p 0 false []) 0 := run_uq l.length l 0 0 false [] (Nat.le_refl _)

def bulk : S → Nat
  | .p _ _ out => out.length
  | .e _ out => out.length + 1
  | .x _ _ out => out.length + 2
  | .c out => out.length + 1
  | .ec out => out.length + 2
theorem step_bulk {s s' : S} {c : Int} (h : step s c = some s') : bulk s' ≤ bulk s + 1 := by
  cases s with
  | p col bl out =>
    rw [step_p] at h
    repeat' split at h
    all_goals first | (cases h; done) | (obtain rfl := Option.some.inj h; simp only [bulk, List.length_append, List.length_cons, List.length_nil]; omega)
  | e col out =>
    rw [step_e] at h
    repeat' split at h
    all_goals first | (cases h; done) | (obtain rfl := Option.some.inj h; simp only [bulk, List.length_append, List.length_cons, List.length_nil]; omega)
  | x col a out =>
    rw [step_x] at h
    repeat' split at h
    all_goals first | (cases h; done) | (obtain rfl := Option.some.inj h; simp only [bulk, List.length_append, List.length_cons, List.length_nil]; omega)
  | c out =>
    rw [step_c] at h
    repeat' split at h
    all_goals first | (cases h; done) | (obtain rfl := Option.some.inj h; simp only [bulk, List.length_append, List.length_cons, List.length_nil]; omega)
  | ec out =>
    rw [step_ec] at h
    repeat' split at h
    all_goals first | (cases h; done) | (obtain rfl := Option.some.inj h; simp only [bulk, List.length_append, List.length_cons, List.length_nil]; omega)
theorem run_len : ∀ (l : List Int) (s : S) (i : Nat), (run l s i).1.length ≤ bulk s + l.length
  | [], s, i => by
    cases s with
    | p col bl out => cases bl <;> simp [run, fin, bulk]
    | _ => simp [run, fin]
  | c :: r, s, i => by
    rw [run]
    cases h : step s c with
    | none => simp
    | some s' =>
      have h1 := run_len r s' (i + 1)
      have h2 := step_bulk h
      simp only [List.length_cons]
      omega
theorem unq_len (l : List Int) : (unq l).1.length ≤ l.length := by
  rw [unq_run]
  have := run_len l (.p 0 false []) 0
  simpa [bulk] using this
/-- Several letters. -/
def walk : List Int → S → Option S
  | [], s => some s
  | c :: r, s => (step s c).bind (walk r)
theorem walk_append : ∀ (a b : List Int) (s : S), walk (a ++ b) s = (walk a s).bind (walk b)
  | [], b, s => rfl
  | c :: r, b, s => by
    rw [List.cons_append, walk, walk]
    cases step s c with
    | none => rfl
    | some s' => exact walk_append r b s'
theorem run_walk : ∀ (a b : List Int) (s : S) (i : Nat) (s' : S), walk a s = some s' → run (a ++ b) s i = run b s' (i + a.length)
  | [], b, s, i, s', h => by injection h with h; rw [h]; rfl
  | c :: r, b, s, i, s', h => by
    rw [walk] at h
    cases hs : step s c with
    | none => rw [hs] at h; cases h
    | some s1 =>
      rw [hs] at h
      rw [List.cons_append, run_some hs, run_walk r b s1 (i + 1) s' h, List.length_cons]
      congr 1
      omega

/-! rows of the reference -/
def rowG : Nat → List Int → List Int → List Int × Bool × Bool
  | 0, _, out => (out, false, true)
  | _ + 1, [], out => (out, false, true)
  | n + 1, c :: r, out =>
    if c = 61 then (if r = [] then (out, true, true) else if isB 4 (r.headD 0) = true ∧ isB 4 ((r.drop 1).headD 0) = true then rowG n (r.drop 2) (out ++ [16 * hval (r.headD 0) + hval ((r.drop 1).headD 0)]) else ([], false, false))
    else if isB 12 c = true ∧ (blankB c = true → r ≠ []) then rowG n r (out ++ [c]) else ([], false, false)
def rowR (t : List Int) : List Int × Bool × Bool := if t.length > 76 then ([], false, false) else rowG t.length t []
/-- What a row tells, by where the reader stands behind it. -/
def view : Option S → List Int × Bool × Bool
  | some (.p _ false out) => (out, false, true)
  | some (.e _ out) => (out, true, true)
  | _ => ([], false, false)
def no13 (t : List Int) : Prop := ∀ x ∈ t, x ≠ 13
theorem no13_tail {c : Int} {r : List Int} (h : no13 (c :: r)) : c ≠ 13 ∧ no13 r := ⟨h c List.mem_cons_self, fun x hx => h x (List.mem_cons_of_mem _ hx)⟩
theorem rowG_view : ∀ (n : Nat) (t : List Int) (col : Nat) (bl : Bool) (out : List Int), t.length ≤ n → no13 t → col + t.length ≤ 76 → (t = [] → bl = false) → rowG n t out = view (walk t (.p col bl out))
  | 0, t, col, bl, out, hn, _, _, hb => by
    obtain rfl : t = [] := List.length_eq_zero_iff.1 (by omega)
    rw [hb rfl]; rfl
  | n + 1, [], col, bl, out, _, _, _, hb => by rw [hb rfl]; rfl
  | n + 1, c :: r, col, bl, out, hn, hno, hc, _ => by
    obtain ⟨h13, hnr⟩ := no13_tail hno
    simp only [List.length_cons] at hn hc
    rw [rowG, walk]
    by_cases h61 : c = 61
    · have hs : step (.p col bl out) c = some (.e col out) := by
        rw [step_p]
        rw [if_neg h13, if_neg (by
          rw [h61]
          rintro (h | h | ⟨h, _⟩)
          · omega
          · rw [eq_shown] at h; cases h
          · exact absurd h (by decide)), if_neg (fun h => h h61)]
      rw [if_pos h61, hs]
      cases r with
      | nil => rfl
      | cons a r1 =>
        obtain ⟨ha13, hn1⟩ := no13_tail hnr
        simp only [List.headD_cons, List.drop_succ_cons, List.drop_zero, Option.bind_some]
        rw [if_neg (by simp), walk]
        cases r1 with
        | nil =>
          rw [if_neg (by rintro ⟨_, h⟩; exact absurd h (by decide +kernel)), step_e, if_neg ha13]
          split <;> rfl
        | cons b r2 =>
          obtain ⟨_, hn2⟩ := no13_tail hn1
          simp only [List.headD_cons, List.drop_succ_cons, List.drop_zero, List.length_cons] at hn hc ⊢
          by_cases ha : isB 4 a = true
          · have hs2 : step (.e col out) a = some (.x col a out) := by
              rw [step_e]
              rw [if_neg ha13, if_neg (by rintro (h | h); omega; rw [ha] at h; cases h)]
            rw [hs2, Option.bind_some, walk]
            by_cases hb : isB 4 b = true
            · have hs3 : step (.x col a out) b = some (.p (col + 3) false (out ++ [16 * hval a + hval b])) := if_pos hb
              rw [if_pos ⟨ha, hb⟩, hs3, Option.bind_some, rowG_view n r2 (col + 3) false _ (by omega) hn2 (by omega) (fun _ => rfl)]
            · have hs3 : step (.x col a out) b = none := if_neg hb
              rw [if_neg (fun h => hb h.2), hs3]
              rfl
          · have hs2 : step (.e col out) a = none := by
              rw [step_e]
              rw [if_neg ha13, if_pos (.inr (Bool.eq_false_iff.2 ha))]
            rw [if_neg (fun h => ha h.1), hs2]
            rfl
    · rw [if_neg h61]
      by_cases hsh : isB 12 c = true
      · by_cases hbl : blankB c = true ∧ r = []
        · rw [if_neg (fun h => h.2 hbl.1 hbl.2)]
          have : view ((step (.p col bl out) c).bind (walk r)) = ([], false, false) := by
            rw [hbl.2, step_p, if_neg h13]
            by_cases hq : 76 ≤ col ∨ isB 12 c = false ∨ (blankB c = true ∧ col = 75)
            · rw [if_pos hq]; rfl
            · rw [if_neg hq, if_pos h61, hbl.1]; rfl
          rw [this]
        · have hs : step (.p col bl out) c = some (.p (col + 1) (blankB c) (out ++ [c])) := by
            rw [step_p]
            rw [if_neg h13, if_neg (by
              rintro (h | h | ⟨h, h75⟩)
              · omega
              · rw [hsh] at h; cases h
              · refine hbl ⟨h, ?_⟩
                cases r with
                | nil => rfl
                | cons _ _ => simp at hc; omega), if_pos h61]
          rw [if_pos ⟨hsh, fun h h' => hbl ⟨h, h'⟩⟩, hs, Option.bind_some, rowG_view n r (col + 1) (blankB c) _ (by omega) hnr (by omega) (fun h => by
            cases hq : blankB c
            · rfl
            · exact absurd ⟨hq, h⟩ hbl)]
      · rw [if_neg (fun h => hsh h.1)]
        have hs : step (.p col bl out) c = none := by
          rw [step_p]
          rw [if_neg h13, if_pos (.inr (.inl (Bool.eq_false_iff.2 hsh)))]
        rw [hs]
        rfl
/-- How long a row can be. -/
def okS : S → Nat → Prop
  | .p col _ _, n => col = n ∧ n ≤ 76
  | .e col _, n => col + 1 = n ∧ n ≤ 76
  | .x col _ _, n => col + 2 = n ∧ n ≤ 75
  | .c _, _ => False
  | .ec _, _ => False
theorem step_ok {s s' : S} {n : Nat} {c : Int} (h : okS s n) (hc : c ≠ 13) (hs : step s c = some s') : okS s' (n + 1) := by
  cases s with
  | p col bl out =>
    obtain ⟨rfl, hn⟩ := h
    rw [step_p] at hs
    rw [if_neg hc] at hs
    by_cases hb : 76 ≤ col ∨ isB 12 c = false ∨ (blankB c = true ∧ col = 75)
    · rw [if_pos hb] at hs; cases hs
    · rw [if_neg hb] at hs
      by_cases h61 : c ≠ 61
      · rw [if_pos h61] at hs
        obtain rfl := Option.some.inj hs
        exact ⟨rfl, by omega⟩
      · rw [if_neg h61] at hs
        obtain rfl := Option.some.inj hs
        exact ⟨rfl, by omega⟩
  | e col out =>
    obtain ⟨rfl, hn⟩ := h
    rw [step_e] at hs
    rw [if_neg hc] at hs
    by_cases hb : 73 < col ∨ isB 4 c = false
    · rw [if_pos hb] at hs; cases hs
    · rw [if_neg hb] at hs
      obtain rfl := Option.some.inj hs
      exact ⟨rfl, by omega⟩
  | x col a out =>
    obtain ⟨rfl, hn⟩ := h
    rw [step_x] at hs
    by_cases hb : isB 4 c = true
    · rw [if_pos hb] at hs
      obtain rfl := Option.some.inj hs
      exact ⟨rfl, by omega⟩
    · rw [if_neg hb] at hs; cases hs
  | c _ => exact h.elim
  | ec _ => exact h.elim
theorem walk_ok : ∀ (t : List Int) (s s' : S) (n : Nat), okS s n → no13 t → walk t s = some s' → okS s' (n + t.length)
  | [], s, s', n, h, _, hw => by injection hw with hw; subst hw; exact h
  | c :: r, s, s', n, h, hno, hw => by
    obtain ⟨h13, hnr⟩ := no13_tail hno
    rw [walk] at hw
    cases hs : step s c with
    | none => rw [hs] at hw; cases hw
    | some s1 =>
      rw [hs] at hw
      have := walk_ok r s1 s' (n + 1) (step_ok h h13 hs) hnr hw
      rw [List.length_cons, show n + (r.length + 1) = n + 1 + r.length by omega]
      exact this
theorem rowR_view (t : List Int) (hno : no13 t) : rowR t = view (walk t (.p 0 false [])) := by
  unfold rowR
  by_cases h : t.length > 76
  · rw [if_pos h]
    cases hw : walk t (.p 0 false []) with
    | none => rfl
    | some s =>
      have := walk_ok t _ s 0 (show okS (.p 0 false []) 0 from ⟨rfl, by omega⟩) hno hw
      cases s with
      | p _ _ _ => have := this.2; omega
      | e _ _ => have := this.2; omega
      | x _ _ _ => rfl
      | c _ => rfl
      | ec _ => rfl
  · rw [if_neg h]
    exact rowG_view _ t 0 false [] (Nat.le_refl _) hno (by omega) (fun _ => rfl)
/-- A row with a CR in it is none. -/
theorem rowG_13 : ∀ (n : Nat) (t : List Int) (out : List Int), t.length ≤ n → ¬ no13 t → (rowG n t out).2.2 = false
  | 0, t, out, hn, h => by
    obtain rfl : t = [] := List.length_eq_zero_iff.1 (by omega)
    exact absurd (fun x hx => by cases hx) h
  | n + 1, [], out, _, h => absurd (fun x hx => by cases hx) h
  | n + 1, c :: r, out, hn, h => by
    simp only [List.length_cons] at hn
    have hsplit : c = 13 ∨ ¬ no13 r := by
      by_cases hc : c = 13
      · exact .inl hc
      · refine .inr fun hr => h fun x hx => ?_
        rcases List.mem_cons.1 hx with rfl | hx
        · exact hc
        · exact hr x hx
    rw [rowG]
    by_cases h61 : c = 61
    · rw [if_pos h61]
      have hr : ¬ no13 r := by
        rcases hsplit with h' | h'
        · rw [h61] at h'; cases h'
        · exact h'
      cases r with
      | nil => exact absurd (fun x hx => by cases hx) hr
      | cons a r1 =>
        rw [if_neg (by simp)]
        split
        · rename_i hh
          cases r1 with
          | nil => exact absurd (show isB 4 0 = true from hh.2) (by decide +kernel)
          | cons b r2 =>
            simp only [List.headD_cons, List.drop_succ_cons, List.drop_zero] at hh ⊢
            refine rowG_13 n r2 _ (by simp at hn; omega) fun h2 => hr fun x hx => ?_
            have hx13 : isB 4 13 = false := by decide +kernel
            rcases List.mem_cons.1 hx with rfl | hx
            · intro e; rw [e, hx13] at hh; exact absurd hh.1 (by decide)
            · rcases List.mem_cons.1 hx with rfl | hx
              · intro e; rw [e, hx13] at hh; exact absurd hh.2 (by decide)
              · exact h2 x hx
        · rfl
    · rw [if_neg h61]
      split
      · rename_i hh
        refine rowG_13 n r _ (by omega) ?_
        rcases hsplit with h' | h'
        · rw [h'] at hh
          exact absurd hh.1 (by decide +kernel)
        · exact h'
      · rfl
theorem rowR_13 (t : List Int) (h : ¬ no13 t) : (rowR t).2.2 = false := by
  unfold rowR
  split
  · rfl
  · exact rowG_13 _ t [] (Nat.le_refl _) h

def goesB (t : List Int) : Bool := (rowR t).2.2 || ((rowR (t ++ [48])).2.2 || (decide (t ≠ []) && decide (t.getLastD 0 = 13) && (rowR t.dropLast).2.2))
def start (out : List Int) : S := .p 0 false out
/-- A letter goes on just where the reference lets it. -/
theorem goes_is (t : List Int) (c : Int) (s : S) (hno : no13 t) (hw : walk t (.p 0 false []) = some s) : goesB (t ++ [c]) = (step s c).isSome := by
  have hok := walk_ok t _ s 0 (show okS (.p 0 false []) 0 from ⟨rfl, by omega⟩) hno hw
  have hwc : walk (t ++ [c]) (.p 0 false []) = step s c := by
    rw [walk_append, hw, Option.bind_some, walk]
    cases step s c <;> rfl
  unfold goesB
  by_cases hc : c = 13
  · subst hc
    have h1 : ¬ no13 (t ++ [13]) := fun h => h 13 (by simp) rfl
    have h2 : ¬ no13 (t ++ [13] ++ [48]) := fun h => h 13 (by simp) rfl
    rw [rowR_13 _ h1, rowR_13 _ h2, List.dropLast_concat, rowR_view t hno, hw]
    have e1 : decide (t ++ [13] ≠ []) = true := decide_eq_true (by simp)
    have e2 : decide ((t ++ [(13 : Int)]).getLastD 0 = 13) = true := decide_eq_true (by simp)
    rw [e1, e2]
    cases s with
    | p col bl out => cases bl <;> rfl
    | e col out => rfl
    | x col a out =>
      have : step (.x col a out) 13 = none := by rw [step_x, if_neg (by decide +kernel)]
      rw [this]; rfl
    | c _ => exact hok.elim
    | ec _ => exact hok.elim
  · have h1 : no13 (t ++ [c]) := fun x hx => by
      rcases List.mem_append.1 hx with h | h
      · exact hno x h
      · obtain rfl := List.mem_singleton.1 h; exact hc
    have h2 : no13 (t ++ [c] ++ [48]) := fun x hx => by
      rcases List.mem_append.1 hx with h | h
      · exact h1 x h
      · obtain rfl := List.mem_singleton.1 h; decide
    have e2 : decide ((t ++ [c]).getLastD 0 = 13) = false := decide_eq_false (by simp [hc])
    rw [rowR_view _ h1, rowR_view _ h2, e2, hwc, walk_append, hwc]
    cases hs : step s c with
    | none =>
      have ed : decide (t ++ [c] ≠ []) = true := decide_eq_true (by simp)
      rw [ed]; rfl
    | some s' =>
      have hok' := step_ok hok hc hs
      cases s' with
      | p col bl out =>
        cases bl
        · rfl
        · -- a blank: it may not stand at the row's end
          have hcol : col ≤ 75 := by
            cases s with
            | p col0 bl0 out0 =>
              rw [step_p] at hs
              rw [if_neg hc] at hs
              by_cases hb : 76 ≤ col0 ∨ isB 12 c = false ∨ (blankB c = true ∧ col0 = 75)
              · rw [if_pos hb] at hs; cases hs
              · rw [if_neg hb] at hs
                by_cases h61 : c ≠ 61
                · rw [if_pos h61] at hs
                  injection hs with hs
                  injection hs with a1 a2 a3
                  have : ¬ col0 = 75 := fun h => hb (.inr (.inr ⟨a2, h⟩))
                  omega
                · rw [if_neg h61] at hs; injection hs with hs; cases hs
            | e col0 out0 =>
              rw [step_e] at hs
              rw [if_neg hc] at hs
              split at hs
              · cases hs
              · injection hs with hs; cases hs
            | x col0 a0 out0 =>
              rw [step_x] at hs
              split at hs
              · injection hs with hs; injection hs with _ a2 _; cases a2
              · cases hs
            | c _ => exact hok.elim
            | ec _ => exact hok.elim
          have h48 : step (.p col true out) 48 = some (.p (col + 1) false (out ++ [48])) := by
            rw [step_p]
            rw [if_neg (by decide), if_neg (by
              rintro (h | h | ⟨h, _⟩)
              · omega
              · exact absurd h (by decide +kernel)
              · exact absurd h (by decide)), if_pos (by decide)]
            rfl
          rw [Option.bind_some, walk, h48]
          rfl
      | e col out => rfl
      | x col a out =>
        have h48 : step (.x col a out) 48 = some (.p (col + 3) false (out ++ [16 * hval a + hval 48])) := by rw [step_x, if_pos (by decide +kernel)]
        rw [Option.bind_some, walk, h48]
        rfl
      | c _ => exact hok'.elim
      | ec _ => exact hok'.elim
/-- What is told ahead of the row is only carried along. -/
def pre (o : List Int) : S → S
  | .p col bl out => .p col bl (o ++ out)
  | .e col out => .e col (o ++ out)
  | .x col a out => .x col a (o ++ out)
  | .c out => .c (o ++ out)
  | .ec out => .ec (o ++ out)
theorem step_pre (o : List Int) (s : S) (c : Int) : step (pre o s) c = (step s c).map (pre o) := by
  cases s with
  | p col bl out =>
    show step (.p col bl (o ++ out)) c = _
    rw [step_p, step_p]
    repeat' split
    all_goals simp_all [pre]
  | e col out =>
    show step (.e col (o ++ out)) c = _
    rw [step_e, step_e]
    repeat' split
    all_goals simp_all [pre]
  | x col a out =>
    show step (.x col a (o ++ out)) c = _
    rw [step_x, step_x]
    repeat' split
    all_goals simp_all [pre]
  | c out =>
    show step (.c (o ++ out)) c = _
    rw [step_c, step_c]
    repeat' split
    all_goals simp_all [pre]
  | ec out =>
    show step (.ec (o ++ out)) c = _
    rw [step_ec, step_ec]
    repeat' split
    all_goals simp_all [pre]
theorem walk_pre (o : List Int) : ∀ (t : List Int) (s : S), walk t (pre o s) = (walk t s).map (pre o)
  | [], s => rfl
  | c :: r, s => by
    rw [walk, walk, step_pre]
    cases step s c with
    | none => rfl
    | some s' => exact walk_pre o r s'
end Go.Proofs.YtokgckhhhhigiaaDoor.UR
