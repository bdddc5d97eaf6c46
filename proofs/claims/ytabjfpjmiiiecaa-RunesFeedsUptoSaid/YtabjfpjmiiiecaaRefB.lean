/- The reference's made, One and Bad in closed form. -/
import Derived.Test.YtabjfpjmiiiecaaOneP
namespace Go.Proofs.Ytabjfpjmiiiecaa.CK
set_option linter.unusedVariables false
set_option linter.unusedSimpArgs false
open Go.RowKit Go.Proofs.YtabjfpjmiiiecaaW.PrintWords Go.Proofs.YtabjfpjmiiiecaaW.PrintLast Go.Proofs.Ytabjfpjmiiiecaa.B Go.Proofs.Ytabjfpjmiiiecaa.D
theorem str_eqb (u v : List Int) (hu : InB u) (hv : InB v) : ((strOfNums u).toList == (strOfNums v).toList) = decide (u = v) := by
  by_cases h : u = v
  · rw [decide_eq_true h, h, beq_self_eq_true]
  · rw [decide_eq_false h]
    refine beq_eq_false_iff_ne.2 fun hc => h ?_
    rw [toList_data, toList_data] at hc
    have e : bytesOf (strOfNums u) = bytesOf (strOfNums v) := by unfold bytesOf; rw [hc]
    rw [bytesOf_strOfNums u hu, bytesOf_strOfNums v hv] at e
    exact e
theorem wr_in (x : Int) (h0 : 0 ≤ x) (h1 : x ≤ 1114111) : InB (wrV x) := by
  unfold wrV
  intro y hy
  split at hy
  · simp only [List.mem_singleton] at hy; omega
  · split at hy
    · simp only [List.mem_cons, List.not_mem_nil, or_false] at hy; omega
    · split at hy
      · simp only [List.mem_cons, List.not_mem_nil, or_false] at hy; omega
      · simp only [List.mem_cons, List.not_mem_nil, or_false] at hy; omega
theorem wrap32_id (x : Int) (h0 : -2147483648 ≤ x) (h1 : x ≤ 2147483647) : wrap32 x = x := by
  rw [← i32_w]
  unfold IntKind.wrap
  simp only [show IntKind.i32.bits = 32 from rfl, show IntKind.i32.signed = true from rfl, Bool.true_and, decide_eq_true_eq, show (2 : Int) ^ 32 = 4294967296 from by decide, show (2 : Int) ^ (32 - 1) = 2147483648 from by decide]
  split <;> omega
theorem made_end (l : List Int) (hl : InB l) (x : Int) (h0 : -2147483648 ≤ x) (h1 : x ≤ 2147483647) (t : List Int) (k : Nat) :
    posthornref05_made.l0 (k + 1) l x t (t.length : Int) (t.length : Int) = some (x, isV x && decide (wrV x = l)) := by
  rw [posthornref05_made.l0, if_neg (by omega), is_f, bind_some', wrap32_id x h0 h1]
  cases hv : isV x with
  | false => rw [if_neg (by decide)]; rfl
  | true =>
    have hb := (isV_iff x).1 hv
    rw [if_pos rfl, write_f x hb.1 hb.2.1, bind_some', str_eqb _ _ (wr_in x hb.1 hb.2.1) hl]
    rfl
theorem made_step (l : List Int) (x : Int) (h0 : -1099511627776 ≤ x) (h1 : x ≤ 1099511627776) (t : List Int) (ht : InB t) (j : Nat) (hj : j < t.length) (hm : t.length ≤ 100) (k : Nat) :
    posthornref05_made.l0 (k + 1) l x t (t.length : Int) (j : Int) = posthornref05_made.l0 k l (64 * x + t[j] - 128) t (t.length : Int) ((j + 1 : Nat) : Int) := by
  have hb := ht t[j] (List.getElem_mem hj)
  rw [posthornref05_made.l0, if_pos (by omega), if_pos (by omega), if_pos (by omega), rd_nat t j hj]
  generalize t[j] = c at *
  rw [wrap_id (64 * x) (by omega) (by omega), wrap_id c (by omega) (by omega), wrap_id (64 * x + c) (by omega) (by omega), wrap_id _ (by omega) (by omega), wrap_id _ (by omega) (by omega)]
  rfl
theorem made_start (a : Int) (r : List Int) (ha : 0 ≤ a ∧ a ≤ 255) (v : Int) (hr : r.length ≤ 3) (hv : rd [0, 0, 192, 224, 240] ((r.length + 1 : Nat) : Int) = v) (hv0 : 0 ≤ v ∧ v ≤ 240) (k : Nat) :
    posthornref05_made.f k (a :: r) = posthornref05_made.l0 k (a :: r) (a - v) r (r.length : Int) 0 := by
  unfold posthornref05_made.f posthornref05_lead.f
  rw [List.length_cons, if_pos (by omega), bind_some', if_pos (by omega), if_pos (by simp; omega), bind_some', hv, if_pos (by omega)]
  rw [show rd (a :: r) 0 = a from rfl, wrap_id a (by omega) (by omega), wrap_id (a - v) (by omega) (by omega)]
  rfl
theorem made_ev (l : List Int) (hl : InB l) (h1 : 1 ≤ l.length) (h4 : l.length ≤ 4) : Ev (fun k => posthornref05_made.f k l) (numV l, madeB l) := by
  refine ⟨10, fun k hk => ?_⟩
  obtain ⟨q, rfl⟩ : ∃ q, k = q + 10 := ⟨k - 10, by omega⟩
  dsimp only
  match l, h1, h4 with
  | [a], _, _ =>
    have ha := hl a (by simp)
    have e := made_end [a] hl (a - 0) (by omega) (by omega) [] (q + 9)
    rw [made_start a [] ha 0 (by simp) rfl (by decide)]
    rw [Int.sub_zero] at e ⊢
    exact e
  | [a, b], _, _ =>
    have ha := hl a (by simp)
    have hb := hl b (by simp)
    have ht : InB [b] := fun x hx => hl x (by simp at hx ⊢; omega)
    rw [made_start a [b] ha 192 (by simp) rfl (by decide)]
    have s1 := made_step [a, b] (a - 192) (by omega) (by omega) [b] ht 0 (by simp) (by simp) (q + 9)
    have e := made_end [a, b] hl (64 * (a - 192) + b - 128) (by omega) (by omega) [b] (q + 8)
    exact s1.trans e
  | [a, b, c], _, _ =>
    have ha := hl a (by simp)
    have hb := hl b (by simp)
    have hc := hl c (by simp)
    have ht : InB [b, c] := fun x hx => hl x (by simp at hx ⊢; omega)
    rw [made_start a [b, c] ha 224 (by simp) rfl (by decide)]
    have s1 := made_step [a, b, c] (a - 224) (by omega) (by omega) [b, c] ht 0 (by simp) (by simp) (q + 9)
    have s2 := made_step [a, b, c] (64 * (a - 224) + b - 128) (by omega) (by omega) [b, c] ht 1 (by simp) (by simp) (q + 8)
    have e := made_end [a, b, c] hl (64 * (64 * (a - 224) + b - 128) + c - 128) (by omega) (by omega) [b, c] (q + 7)
    exact (s1.trans s2).trans e
  | [a, b, c, d], _, _ =>
    have ha := hl a (by simp)
    have hb := hl b (by simp)
    have hc := hl c (by simp)
    have hd := hl d (by simp)
    have ht : InB [b, c, d] := fun x hx => hl x (by simp at hx ⊢; omega)
    rw [made_start a [b, c, d] ha 240 (by simp) rfl (by decide)]
    have s1 := made_step [a, b, c, d] (a - 240) (by omega) (by omega) [b, c, d] ht 0 (by simp) (by simp) (q + 9)
    have s2 := made_step [a, b, c, d] (64 * (a - 240) + b - 128) (by omega) (by omega) [b, c, d] ht 1 (by simp) (by simp) (q + 8)
    have s3 := made_step [a, b, c, d] (64 * (64 * (a - 240) + b - 128) + c - 128) (by omega) (by omega) [b, c, d] ht 2 (by simp) (by simp) (q + 7)
    have e := made_end [a, b, c, d] hl (64 * (64 * (64 * (a - 240) + b - 128) + c - 128) + d - 128) (by omega) (by omega) [b, c, d] (q + 6)
    exact ((s1.trans s2).trans s3).trans e
end Go.Proofs.Ytabjfpjmiiiecaa.CK
