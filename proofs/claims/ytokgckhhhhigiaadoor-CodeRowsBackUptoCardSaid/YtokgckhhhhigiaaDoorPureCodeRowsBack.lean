/- CodeRowsBack, where what it reads is of bulk at most 1048576: rows are of just so many letters but the last, and a reader tells what they were made of. -/
import Derived.Test.YtokgckhhhhigiaaDoorCod
import Derived.Test.YtokgckhhhhigiaaDoorGR1
namespace Go.Proofs.YtokgckhhhhigiaaDoor.Pure
set_option linter.unusedVariables false
set_option linter.unusedSimpArgs false
open Go.RowKit Go.Proofs.YtokgckhhhhigiaaDoor.GR Go.Proofs.YtokgckhhhhigiaaDoorW.PrintWords Go.Proofs.YtokgckhhhhigiaaDoorW.PrintMore
open Go.Proofs.YtokgckhhhhigiaaDoor.B Go.Proofs.YtokgckhhhhigiaaDoor.B64 Go.Proofs.YtokgckhhhhigiaaDoor.UB Go.Proofs.YtokgckhhhhigiaaDoor.Rd Go.Proofs.YtokgckhhhhigiaaDoor.CM Go.Proofs.YtokgckhhhhigiaaDoor.Glob Go.Proofs.YtokgckhhhhigiaaDoor.Fd Go.Proofs.YtokgckhhhhigiaaDoor.FdW

theorem base64_f (xs : List Int) (hx : InB xs) (hl : xs.length ≤ 10000000000000) : code_Base64.f xs = some (strOfNums (b64 xs)) := if_pos ⟨allB_in.2 hx, hl⟩
theorem fed_f (l c : List Int) (hl : InB l) (h1 : l.length ≤ 10000000000000) (h2 : c.length ≤ 10000000000000) : posthornlaw04_fed.f l c = some (fedR l) := if_pos ⟨allB_in.2 hl, h1, h2⟩
theorem rows_f (xs : List Int) (m : Int) (hx : InB xs) (hl : xs.length ≤ 10000000000000) : code_Rows.f xs m = some (rowsR xs m) := if_pos ⟨allB_in.2 hx, hl⟩
def letL (l : List Int) : Prop := ∀ x ∈ l, 43 ≤ x ∧ x ≤ 122
theorem letL_cons {a : Int} {r : List Int} (ha : 43 ≤ a ∧ a ≤ 122) (h : letL r) : letL (a :: r) := fun x hx => by
  rcases List.mem_cons.1 hx with rfl | hx
  · exact ha
  · exact h x hx
theorem b64_let : ∀ (xs : List Int), InB xs → letL (b64 xs)
  | [], _ => fun x hx => by cases hx
  | [a], h => by
    have h1 := (InB.tail h).1
    exact letL_cons (let_in _ (by omega)) (letL_cons (let_in _ (by omega)) (letL_cons (by omega) (letL_cons (by omega) (fun x hx => by cases hx))))
  | [a, b], h => by
    obtain ⟨h1, h⟩ := InB.tail h
    have h2 := (InB.tail h).1
    exact letL_cons (let_in _ (by omega)) (letL_cons (let_in _ (by omega)) (letL_cons (let_in _ (by omega)) (letL_cons (by omega) (fun x hx => by cases hx))))
  | a :: b :: c :: r, h => by
    obtain ⟨h1, h⟩ := InB.tail h
    obtain ⟨h2, h⟩ := InB.tail h
    obtain ⟨h3, h⟩ := InB.tail h
    exact letL_cons (let_in _ (by omega)) (letL_cons (let_in _ (by omega)) (letL_cons (let_in _ (by omega)) (letL_cons (let_in _ (by omega)) (b64_let r h))))
theorem rows_facts (m : Nat) (hm : 0 < m) : ∀ (n : Nat) (l : List Int), l.length ≤ n → letL l → (rows m l).length ≤ 3 * l.length ∧ InB (rows m l) ∧ (rows m l).filter noEnd = l := by
  intro n
  induction n with
  | zero =>
    intro l h _
    obtain rfl : l = [] := List.length_eq_zero_iff.1 (by omega)
    rw [rows_nil]
    exact ⟨by simp, InB.nil, rfl⟩
  | succ n ih =>
    intro l h hl
    by_cases he : l = []
    · subst he
      rw [rows_nil]
      exact ⟨by simp, InB.nil, rfl⟩
    · have hp : 0 < l.length := List.length_pos_iff.2 he
      have hd : (l.drop m).length = l.length - m := List.length_drop
      obtain ⟨i1, i2, i3⟩ := ih (l.drop m) (by omega) (fun x hx => hl x (List.mem_of_mem_drop hx))
      rw [rows_step m hm l he]
      refine ⟨?_, ?_, ?_⟩
      · have := front_len l m hm hp
        simp only [List.length_append, List.length_cons, List.length_nil]
        omega
      · intro x hx
        rcases List.mem_append.1 hx with hx | hx
        · rcases List.mem_append.1 hx with hx | hx
          · have := hl x (List.mem_of_mem_take hx); omega
          · simp at hx; omega
        · exact i2 x hx
      · rw [List.filter_append, List.filter_append, i3]
        have h1 : (l.take m).filter noEnd = l.take m := List.filter_eq_self.2 (fun x hx => by
          have := hl x (List.mem_of_mem_take hx)
          unfold noEnd
          have a : (x == 13) = false := beq_eq_false_iff_ne.2 (by omega)
          have b : (x == 10) = false := beq_eq_false_iff_ne.2 (by omega)
          rw [a, b]; rfl)
        have h2 : ([13, 10] : List Int).filter noEnd = [] := by decide
        rw [h1, h2, List.append_nil, List.take_append_drop]
theorem fed_rows (xs : List Int) (hx : InB xs) (m : Nat) (hm : 0 < m) : fedR (rows m (b64 xs)) = (xs, 0, 0, true) := by
  obtain ⟨_, _, h3⟩ := rows_facts m hm _ (b64 xs) (Nat.le_refl _) (b64_let xs hx)
  have hu := unb_b64 xs hx St.new rfl rfl 0
  unfold fedR closeV
  rcases feed_unb (rows m (b64 xs)) St.new [] 0 (by decide) (by decide) (by decide) with ⟨h0, h⟩ | ⟨h0, p, h, _⟩
  · rw [h3, hu] at h
    by_cases hn : (feedL (rows m (b64 xs)) St.new []).2.1.n > 0
    · rw [if_pos hn] at h
      injection h with _ h
      injection h with h _
      cases h
    · rw [if_neg hn] at h
      injection h with h _
      rw [h0, ← h, if_neg (fun h => hn h.2)]
  · rw [h3, hu] at h
    injection h with _ h
    injection h with h _
    exact absurd h.symm h0

section
variable (xs : List Int) (hx : InB xs) (hs : xs.length ≤ 1048576) (m : Nat) (hm : 4 ≤ m) (hm2 : m ≤ 76) (c : List Int)
include hx hs hm hm2
theorem back_end (hc : c.length ≤ 1048576) : Ev (fun k => posthornlaw04_CodeRowsBack.l0 k xs (m : Int) c (strOfNums (rows m (b64 xs))) 0 ((rows m (b64 xs)).length : Int) (strOfNums (b64 xs))) true := by
  obtain ⟨h1, h2, h3⟩ := rows_facts m (by omega) _ (b64 xs) (Nat.le_refl _) (b64_let xs hx)
  have hbl := b64_len xs
  have hz : (strOfNums (rows m (b64 xs))).size = (rows m (b64 xs)).length := strOfNums_len _
  refine Ev.last (fun k => ?_)
  simp only [posthornlaw04_CodeRowsBack.l0]
  rw [hz, if_neg (by omega), if_pos (by omega), bytesOf_strOfNums _ h2, fed_f _ c h2 (by omega) (by omega), fed_rows xs hx m (by omega), Option.bind_some, if_pos trivial, base64_f xs hx (by omega), Option.bind_some]
  simp
set_option maxHeartbeats 8000000 in
theorem back_row (p q r : Nat) (hr : r = min m ((b64 xs).length - q)) (hr1 : 0 < r) (hq : q ≤ (b64 xs).length) (hp : (rows m (b64 xs)).drop p = rows m ((b64 xs).drop q)) (hpl : p ≤ (rows m (b64 xs)).length)
    (next : Ev (fun k => posthornlaw04_CodeRowsBack.l0 k xs (m : Int) c (strOfNums (rows m (b64 xs))) 0 ((p + r + 2 : Nat) : Int) (strOfNums ((b64 xs).take (q + r)))) true) (d : Nat) :
    ∀ n, n + d = r → Ev (fun k => posthornlaw04_CodeRowsBack.l1 k xs (m : Int) c (strOfNums (rows m (b64 xs))) 0 (p : Int) (strOfNums ((b64 xs).take q)) (n : Int)) true := by
  obtain ⟨h1, h2, h3⟩ := rows_facts m (by omega) _ (b64 xs) (Nat.le_refl _) (b64_let xs hx)
  have hbl := b64_len xs
  have hz : (strOfNums (rows m (b64 xs))).size = (rows m (b64 xs)).length := strOfNums_len _
  have hne : (b64 xs).drop q ≠ [] := fun h => by have := congrArg List.length h; rw [List.length_drop] at this; simp at this; omega
  have hstep := rows_step m (by omega) ((b64 xs).drop q) hne
  rw [hstep] at hp
  have htl : (((b64 xs).drop q).take m).length = r := by rw [List.length_take, List.length_drop]; omega
  have hrl : p + r + 2 + (rows m (((b64 xs).drop q).drop m)).length = (rows m (b64 xs)).length := by
    have := congrArg List.length hp
    simp only [List.length_drop, List.length_append, htl, List.length_cons, List.length_nil] at this
    omega
  -- what stands at p + j
  have hat : ∀ j, j < r + 2 → bt (strOfNums (rows m (b64 xs))) ((p + j : Nat) : Int) = (((b64 xs).drop q).take m ++ [13, 10]).getD j 0 := by
    intro j hj
    have hlt : p + j < (rows m (b64 xs)).length := by omega
    rw [bt_strOfNums _ h2 _ hlt]
    have e1 : (rows m (b64 xs))[p + j] = ((rows m (b64 xs)).drop p)[j]'(by rw [List.length_drop]; omega) := by rw [List.getElem_drop]
    rw [e1]
    have e2 : ((rows m (b64 xs)).drop p)[j]? = ((((b64 xs).drop q).take m ++ [13, 10]) ++ rows m (((b64 xs).drop q).drop m))[j]? := by rw [hp]
    rw [List.getElem?_eq_getElem (by rw [List.length_drop]; omega), List.getElem?_append_left (by simp only [List.length_append, htl, List.length_cons, List.length_nil]; omega)] at e2
    rw [List.getD_eq_getElem?_getD, ← e2]
    rfl
  have hlet : ∀ j, j < r → bt (strOfNums (rows m (b64 xs))) ((p + j : Nat) : Int) ≠ 13 := by
    intro j hj
    rw [hat j (by omega), List.getD_eq_getElem?_getD, List.getElem?_append_left (by omega), List.getElem?_eq_getElem (by omega)]
    have hmem : (((b64 xs).drop q).take m)[j]'(by omega) ∈ b64 xs := List.mem_of_mem_drop (List.mem_of_mem_take (List.getElem_mem _))
    have := b64_let xs hx _ hmem
    simp only [Option.getD_some]
    omega
  have h13 : bt (strOfNums (rows m (b64 xs))) ((p + r : Nat) : Int) = 13 := by
    rw [hat r (by omega), List.getD_eq_getElem?_getD, List.getElem?_append_right (by omega), htl, Nat.sub_self]
    rfl
  have h10 : bt (strOfNums (rows m (b64 xs))) ((p + r + 1 : Nat) : Int) = 10 := by
    rw [show p + r + 1 = p + (r + 1) by omega, hat (r + 1) (by omega), List.getD_eq_getElem?_getD, List.getElem?_append_right (by omega), htl, show r + 1 - r = 1 by omega]
    rfl
  have hext : (strOfNums (rows m (b64 xs))).extract p (p + r) = strOfNums (((b64 xs).drop q).take m) := by
    refine bytesOf_inj ?_
    rw [extract_bytes, bytesOf_strOfNums _ h2, bytesOf_strOfNums _ (fun x h => by have := b64_let xs hx x (List.mem_of_mem_drop (List.mem_of_mem_take h)); omega), hp, show p + r - p = r by omega, List.append_assoc, List.take_append_of_le_length (by omega), List.take_of_length_le (by omega)]
  have hjoin : strOfNums ((b64 xs).take q) ++ strOfNums (((b64 xs).drop q).take m) = strOfNums ((b64 xs).take (q + r)) := by
    refine bytesOf_inj ?_
    have hi : ∀ l : List Int, (∀ x ∈ l, x ∈ b64 xs) → InB l := fun l h x hx' => by have := b64_let xs hx x (h x hx'); omega
    have e : bytesOf (strOfNums ((b64 xs).take q) ++ strOfNums (((b64 xs).drop q).take m)) = bytesOf (strOfNums ((b64 xs).take q)) ++ bytesOf (strOfNums (((b64 xs).drop q).take m)) := by
      unfold bytesOf
      simp [ByteArray.toList_eq]
    rw [e, bytesOf_strOfNums _ (hi _ fun x h => List.mem_of_mem_take h), bytesOf_strOfNums _ (hi _ fun x h => List.mem_of_mem_drop (List.mem_of_mem_take h)), bytesOf_strOfNums _ (hi _ fun x h => List.mem_of_mem_take h), List.take_add]
    congr 1
    have : ((b64 xs).drop q).take r = ((b64 xs).drop q).take m := by
      by_cases h : m ≤ (b64 xs).length - q
      · rw [show r = m by omega]
      · rw [List.take_of_length_le (by rw [List.length_drop]; omega), List.take_of_length_le (by rw [List.length_drop]; omega)]
    rw [this]
  have hw0 : Aside0 (∀ n : Nat, n ≤ r → wrap64 ((p : Int) + (n : Int)) = ((p + n : Nat) : Int)) := ⟨fun n hn => by rw [wrap_id _ (by omega) (by omega)]; omega⟩
  have hw1 : Aside0 (wrap64 (((p + r : Nat) : Int) + 1) = ((p + r + 1 : Nat) : Int)) := ⟨by rw [wrap_id _ (by omega) (by omega)]; omega⟩
  have hw2 : Aside0 (wrap64 (((p + r : Nat) : Int) + 2) = ((p + r + 2 : Nat) : Int)) := ⟨by rw [wrap_id _ (by omega) (by omega)]; omega⟩
  induction d with
  | zero =>
    intro n hn
    obtain rfl : n = r := by omega
    refine Ev.round (fun k => ?_) next
    simp only [posthornlaw04_CodeRowsBack.l1]
    rw [hw0.out n (Nat.le_refl _), hz, hw1.out, hw2.out, if_pos (by omega), if_pos (by omega), if_pos h13, if_neg (by omega), if_neg (by omega), if_neg (by omega), if_pos (by omega), if_pos (by omega), if_pos h10]
    rw [Int.toNat_natCast, Int.toNat_natCast, hext, strOfNums_len, strOfNums_len, hjoin]
    have hsz : ((b64 xs).take q).length + (((b64 xs).drop q).take m).length ≤ 9223372036854775807 := by rw [htl, List.length_take]; omega
    by_cases hlm : (n : Int) < (m : Int)
    · have hlast : n = (b64 xs).length - q := by omega
      have hnil : ((b64 xs).drop q).drop m = [] := List.drop_eq_nil_of_le (by rw [List.length_drop]; omega)
      rw [hnil, rows_nil] at hrl
      simp only [List.length_nil] at hrl
      rw [if_pos hlm, if_pos (by omega), if_pos (by omega), if_pos (by omega), if_pos (by omega), if_pos hsz]
    · rw [if_neg hlm, if_pos (by omega), if_pos (by omega), if_pos (by omega), if_pos hsz]
  | succ d ih =>
    intro n hn
    have hw : Aside0 (wrap64 ((n : Int) + 1) = ((n + 1 : Nat) : Int)) := ⟨by rw [wrap_id _ (by omega) (by omega)]; omega⟩
    refine Ev.round (fun k => ?_) (ih (n + 1) (by omega))
    simp only [posthornlaw04_CodeRowsBack.l1]
    rw [hw0.out n (by omega), hz, if_pos (by omega), if_pos (by omega), if_neg (hlet n (by omega)), hw.out]
theorem back_loop (hc : c.length ≤ 1048576) (d : Nat) : ∀ (p q : Nat), (b64 xs).length - q ≤ d → q ≤ (b64 xs).length → (rows m (b64 xs)).drop p = rows m ((b64 xs).drop q) → p ≤ (rows m (b64 xs)).length →
    Ev (fun k => posthornlaw04_CodeRowsBack.l0 k xs (m : Int) c (strOfNums (rows m (b64 xs))) 0 (p : Int) (strOfNums ((b64 xs).take q))) true := by
  have hend : ∀ (p q : Nat), q = (b64 xs).length → (rows m (b64 xs)).drop p = rows m ((b64 xs).drop q) → p ≤ (rows m (b64 xs)).length → Ev (fun k => posthornlaw04_CodeRowsBack.l0 k xs (m : Int) c (strOfNums (rows m (b64 xs))) 0 (p : Int) (strOfNums ((b64 xs).take q))) true := by
    intro p q hq hp hpl
    subst hq
    rw [List.drop_eq_nil_of_le (Nat.le_refl _), rows_nil] at hp
    have := congrArg List.length hp
    rw [List.length_drop] at this
    simp at this
    obtain rfl : p = (rows m (b64 xs)).length := by omega
    rw [List.take_length]
    exact back_end xs hx hs m hm hm2 c hc
  induction d with
  | zero => intro p q hd hq hp hpl; exact hend p q (by omega) hp hpl
  | succ d ih =>
    intro p q hd hq hp hpl
    by_cases he : q = (b64 xs).length
    · exact hend p q he hp hpl
    · have hne : (b64 xs).drop q ≠ [] := fun h => by have := congrArg List.length h; rw [List.length_drop] at this; simp at this; omega
      have hstep := rows_step m (by omega) ((b64 xs).drop q) hne
      have htl : (((b64 xs).drop q).take m).length = min m ((b64 xs).length - q) := by rw [List.length_take, List.length_drop]
      have hp2 := hp
      rw [hstep] at hp2
      have hrl : p + min m ((b64 xs).length - q) + 2 + (rows m (((b64 xs).drop q).drop m)).length = (rows m (b64 xs)).length := by
        have := congrArg List.length hp2
        simp only [List.length_drop, List.length_append, htl, List.length_cons, List.length_nil] at this
        omega
      obtain ⟨h1, _, _⟩ := rows_facts m (by omega) _ (b64 xs) (Nat.le_refl _) (b64_let xs hx)
      have hbl := b64_len xs
      have hnext := ih (p + min m ((b64 xs).length - q) + 2) (q + min m ((b64 xs).length - q)) (by omega) (by omega) (by
        have e : (rows m (b64 xs)).drop (p + min m ((b64 xs).length - q) + 2) = ((rows m (b64 xs)).drop p).drop (min m ((b64 xs).length - q) + 2) := by rw [List.drop_drop, Nat.add_assoc]
        rw [e, hp2, List.drop_append_of_le_length (by simp only [List.length_append, htl, List.length_cons, List.length_nil]; omega), List.drop_eq_nil_of_le (by simp only [List.length_append, htl, List.length_cons, List.length_nil]; omega), List.nil_append, List.drop_drop]
        by_cases h : m ≤ (b64 xs).length - q
        · rw [show min m ((b64 xs).length - q) = m by omega]
        · have z1 : (b64 xs).drop (q + m) = [] := List.drop_eq_nil_of_le (by omega)
          have z2 : (b64 xs).drop (q + min m ((b64 xs).length - q)) = [] := List.drop_eq_nil_of_le (by omega)
          rw [z1, z2]) (by omega)
      have hrow := back_row xs hx hs m hm hm2 c p q _ rfl (by omega) hq hp hpl hnext _ 0 (Nat.zero_add _)
      refine Ev.round (fun k => ?_) hrow
      simp only [posthornlaw04_CodeRowsBack.l0]
      rw [strOfNums_len, if_pos (by omega)]
      rfl
end
theorem rows_back (xs c : List Int) (m : Int) (hx : InB xs) (hs : xs.length ≤ 1048576) (hc : c.length ≤ 1048576) : ∃ k, posthornlaw04_CodeRowsBack.f k xs m c = some true := by
  apply Ev.rounds
  by_cases hbad : m < 4 ∨ 76 < m ∨ m % 4 ≠ 0
  · have hr : rowsR xs m = (⟨#[]⟩, 2) := if_pos hbad
    have hj : Ev (fun k => posthornlaw04_CodeRowsBack.j0 k xs m c ⟨#[]⟩ 2 true) true := Ev.last fun k => by
      simp only [posthornlaw04_CodeRowsBack.j0]
      rw [if_pos trivial, if_pos trivial, toList_data]
      rfl
    refine Ev.congr (fun k => ?_) hj
    unfold posthornlaw04_CodeRowsBack.f
    rw [show posthornlaw04_wakes.f = some true from rfl, Option.bind_some, if_pos rfl, rows_f xs m hx (by omega), hr, Option.bind_some]
    by_cases h1 : m < 4
    · rw [if_pos h1]
    · rw [if_neg h1]
      by_cases h2 : m > 76
      · rw [if_pos h2]
      · rw [if_neg h2, Int.tmod_eq_emod_of_nonneg (by omega)]
        have : (m % 4 != 0) = true := bne_iff_ne.2 (by omega)
        rw [this]
  · obtain ⟨n, rfl⟩ := Int.eq_ofNat_of_zero_le (show 0 ≤ m by omega)
    have hr : rowsR xs (n : Int) = (strOfNums (rows n (b64 xs)), 0) := by
      unfold rowsR
      rw [if_neg hbad, Int.toNat_natCast]
    have hl := back_loop xs hx hs n (by omega) (by omega) c hc (b64 xs).length 0 0 (by omega) (by omega) rfl (by omega)
    have hj : Ev (fun k => posthornlaw04_CodeRowsBack.j0 k xs (n : Int) c (strOfNums (rows n (b64 xs))) 0 false) true := by
      refine Ev.round (fun k => ?_) hl
      simp only [posthornlaw04_CodeRowsBack.j0]
      rw [if_neg (by decide)]
      rfl
    refine Ev.congr (fun k => ?_) hj
    unfold posthornlaw04_CodeRowsBack.f
    rw [show posthornlaw04_wakes.f = some true from rfl, Option.bind_some, if_pos rfl, rows_f xs (n : Int) hx (by omega), hr, Option.bind_some, if_neg (by omega), if_neg (by omega), Int.tmod_eq_emod_of_nonneg (by omega)]
    have : ((n : Int) % 4 != 0) = false := bne_eq_false_iff_eq.2 (by omega)
    rw [this]

theorem CodeRowsBack (a0 : Option Addr) (len0 cap0 : Nat) (z0 : List Int) (a1 : Int) (a2 : Option Addr) (len2 cap2 : Nat) (z2 : List Int) (w : World) (w0 : (a0 = none ∧ len0 = 0 ∧ cap0 = 0 ∧ z0 = []) ∨ ∃ x, a0 = some x ∧ len0 ≤ cap0 ∧ cap0 ≤ maxLen ∧ z0.length = cap0 ∧ (∀ i, i < z0.length → w.cell? (x.add i) = some (.int .u8 (z0.getD i 0))) ∧ ∀ n ∈ z0, (Lit.int .u8 n).wf = true) (_y0 : len0 * 1 ≤ 140737488351232) (w1 : (Lit.int .i64 a1).wf = true) (w2 : (a2 = none ∧ len2 = 0 ∧ cap2 = 0 ∧ z2 = []) ∨ ∃ x, a2 = some x ∧ len2 ≤ cap2 ∧ cap2 ≤ maxLen ∧ z2.length = cap2 ∧ (∀ i, i < z2.length → w.cell? (x.add i) = some (.int .i64 (z2.getD i 0))) ∧ ∀ n ∈ z2, (Lit.int .i64 n).wf = true) (_y2 : len2 * 8 ≤ 140737488351232) (b0 : len0 ≤ 1048576) (b2 : len2 ≤ 1048576) (HG : GOk w) :
    Calls Tryd.prog 10 #[.slice a0 len0 cap0, .int .i64 a1, .slice a2 len2 cap2] w fun e w' => e = .returned (.bool true) ∧ Below w.heap.size w w' := by
  obtain ⟨l0, rfl, hr0, hm0, hw0, hc0⟩ := ReadsInt.ofRowC w0
  obtain ⟨l2, rfl, hr2, hm2, hw2, hc2⟩ := ReadsInt.ofRowC w2
  obtain ⟨k, h⟩ := rows_back l0 l2 a1 (fun x hx => wf_u8 (hw0 x hx)) b0 b2
  refine (posthornlaw04_CodeRowsBack.calls k _ _ l0 a1 _ _ l2 true w (Kd.C_of_reads (d := (0 : Int)) (h1 := fun _ => rfl) hr0) hc0 (Kd.C_of_reads (d := (0 : Int)) (h1 := fun _ => rfl) hr2) hc2 HG h).mono ?_
  rintro e w' ⟨rfl, hd⟩
  exact ⟨rfl, hd⟩
end Go.Proofs.YtokgckhhhhigiaaDoor.Pure
