/- The reference's Parse, part by part, is date.Parse: proved on lists. The reference's Parse, part by part, is date.Parse: the whole. The reference's Parse, part by part, is date.Parse: the day, the time, the whole. The reference's Parse as printed answers as its parts do on lists. DateParses: any text: date.Parse answers as the document's Parse. -/
import Derived.Test.YtnmhkmkaklhapaaDoorRA
import Derived.Test.YtnmhkmkaklhapaaDoorME
import Derived.Test.YtnmhkmkaklhapaaDoorS4
import Derived.Test.YtnmhkmkaklhapaaDoorS5
namespace Go.Proofs.YtnmhkmkaklhapaaDoor.RR
set_option linter.unusedVariables false
set_option linter.unusedSimpArgs false
open Go.RowKit Go.Proofs.YtnmhkmkaklhapaaDoorW.PrintWords Go.Proofs.YtnmhkmkaklhapaaDoor.B Go.Proofs.YtnmhkmkaklhapaaDoor.M Go.Proofs.YtnmhkmkaklhapaaDoor.Glob Go.Proofs.YtnmhkmkaklhapaaDoor.T Go.Proofs.YtnmhkmkaklhapaaDoor.U Go.Proofs.YtnmhkmkaklhapaaDoor.Chk
theorem isB1_lt : ∀ c : Fin 256, isB 1 (c.val : Int) = LT.contains (c.val : Int) := by decide +kernel
theorem isB2_dg : ∀ c : Fin 256, isB 2 (c.val : Int) = DG.contains (c.val : Int) := by decide +kernel
theorem isBl_bl : ∀ c : Fin 256, isBl (c.val : Int) = BL.contains (c.val : Int) := by decide +kernel
theorem rn_run (p : Int → Bool) (A : List Int) (h : ∀ c : Fin 256, p (c.val : Int) = A.contains (c.val : Int)) : ∀ l : List Int, InB l → rn A l = (l.takeWhile p).length
  | [], _ => rfl
  | c :: r, hin => by
    have hc := hin c (by simp)
    obtain ⟨k, rfl⟩ := Int.eq_ofNat_of_zero_le hc.1
    have hk := h ⟨k, by omega⟩
    have ih := rn_run p A h r fun x hx => hin x (by simp [hx])
    unfold rn
    rw [List.takeWhile_cons]
    simp only at hk
    rw [hk]
    split
    · rw [List.length_cons, ih]
    · rfl
theorem lt_run {l : List Int} (h : InB l) : rn LT l = run 1 l := rn_run (isB 1) LT isB1_lt l h
theorem dg_run {l : List Int} (h : InB l) : rn DG l = digN l := rn_run (isB 2) DG isB2_dg l h
theorem bl_run {l : List Int} (h : InB l) : rn BL l = blN l := rn_run isBl BL isBl_bl l h
theorem hd_rn (A l : List Int) : hd A l = decide (0 < rn A l) := by
  cases l with
  | nil => rfl
  | cons c r =>
    show A.contains c = decide (0 < rn A (c :: r))
    unfold rn
    by_cases hc : A.contains c = true
    · rw [if_pos hc, hc]; exact (decide_eq_true (by omega)).symm
    · rw [if_neg hc, (Bool.not_eq_true _).mp hc]; rfl
theorem inb_drop {l : List Int} (h : InB l) (n : Nat) : InB (l.drop n) := fun x hx => h x (List.mem_of_mem_drop hx)
theorem begB_hd (l : List Int) (b : Int) : begB l b = hd [b] l := by
  cases l with
  | nil => rfl
  | cons c r =>
    show (c == b) = [b].contains c
    rw [List.contains_cons, List.contains_nil, Bool.or_false]
theorem at_drop (L : List Int) (i : Nat) (h : i ≤ L.length) : atI L.length (L.drop i) = (i : Int) := by
  unfold atI
  rw [List.length_drop]
  omega
theorem blN_le (l : List Int) : blN l ≤ l.length := by
  unfold blN
  exact (List.takeWhile_sublist _).length_le
theorem fl0 (err pos : Int) (sp : Int) : fl 0 sp err pos = (err, pos) := if_pos rfl
-- good and bad steps
theorem gap_free (L : List Int) (hL : InB L) (i : Nat) (e sp : Int) : gapR L true ⟨i, e, sp⟩ = ⟨i + blN (L.drop i), e, sp⟩ := by
  unfold gapR gapF
  dsimp only
  rw [if_neg (fun h => Bool.noConfusion h.2), bl_run (inb_drop hL i)]
theorem gap_ok (L : List Int) (hL : InB L) (i : Nat) (e sp : Int) (h : 0 < blN (L.drop i)) : gapR L false ⟨i, e, sp⟩ = ⟨i + blN (L.drop i), e, sp⟩ := by
  unfold gapR gapF
  dsimp only
  rw [bl_run (inb_drop hL i), if_neg (fun h2 => by omega)]
theorem gap_no (L : List Int) (hL : InB L) (i : Nat) (sp : Int) (h : ¬ 0 < blN (L.drop i)) : gapR L false ⟨i, 0, sp⟩ = ⟨i, 60, i⟩ := by
  unfold gapR gapF
  dsimp only
  rw [bl_run (inb_drop hL i), if_pos ⟨by omega, rfl⟩, fl0, show i + blN (L.drop i) = i from by omega]
theorem num_ok (L : List Int) (hL : InB L) (i : Nat) (a b e sp : Int) (h : digOk (L.drop i) a b = true) : numR L a b ⟨i, e, sp⟩ = (num ((L.drop i).take (digN (L.drop i))), (digN (L.drop i) : Int), ⟨i + digN (L.drop i), e, sp⟩) := by
  have hq := Bool.and_eq_true_iff.1 h
  have h1 := of_decide_eq_true hq.1
  have h2 := of_decide_eq_true hq.2
  unfold numR numF
  dsimp only
  rw [dg_run (inb_drop hL i), if_neg (fun h => by omega)]
  rfl
theorem num_no (L : List Int) (hL : InB L) (i : Nat) (a b sp : Int) (h : digOk (L.drop i) a b = false) : (numR L a b ⟨i, 0, sp⟩).2.2.e = 60 ∧ (numR L a b ⟨i, 0, sp⟩).2.2.sp = i := by
  have hq : ¬ (a ≤ (digN (L.drop i) : Int) ∧ (digN (L.drop i) : Int) ≤ b) := fun hc => by
    unfold digOk at h
    rw [decide_eq_true hc.1, decide_eq_true hc.2] at h
    cases h
  unfold numR numF
  dsimp only
  rw [dg_run (inb_drop hL i), if_pos (by omega), fl0]
  exact ⟨rfl, rfl⟩
theorem mark_ok (L : List Int) (i : Nat) (c e sp : Int) (h : begB (L.drop i) c = true) : markR L c ⟨i, e, sp⟩ = ⟨i + 1, e, sp⟩ := by
  rw [begB_hd] at h
  unfold markR
  dsimp only
  rw [if_pos h]
theorem mark_no (L : List Int) (i : Nat) (c sp : Int) (h : begB (L.drop i) c = false) : markR L c ⟨i, 0, sp⟩ = ⟨i, 60, i⟩ := by
  rw [begB_hd] at h
  unfold markR
  dsimp only
  rw [if_neg (by rw [h]; decide), fl0]
theorem nmF_up (A t : List Int) : ∀ (n k : Nat), nmF (upL A) (upL t) k n = fwd A t k n
  | 0, _ => rfl
  | n + 1, k => by
    unfold nmF fwd
    rw [show ((upL A).drop (3 * k)).take 3 = upL ((A.drop (3 * k)).take 3) from by unfold upL; rw [List.map_take, List.map_drop], nmF_up A t n (k + 1)]
theorem nmF_len (A t : List Int) (m : Nat) (hA : A.length = 3 * m) (ht : t.length ≠ 3) : ∀ (n k : Nat), k + n = m → nmF A t k n = none
  | 0, _, _ => rfl
  | n + 1, k, hk => by
    unfold nmF
    rw [if_neg (fun h => ht (by rw [← h, List.length_take, List.length_drop]; omega)), nmF_len A t m hA ht n (k + 1) (by omega)]
theorem name_word (L : List Int) (hL : InB L) (A : List Int) (m : Nat) (hA : A.length = 3 * m) (i : Nat) (e sp : Int) : nameO L (upL A) m ⟨i, e, sp⟩ = wordF A (L.drop i) := by
  unfold nameO wordF
  dsimp only
  rw [lt_run (inb_drop hL i)]
  have hle : run 1 (L.drop i) ≤ (L.drop i).length := run_le 1 _
  split
  · rename_i h3
    rw [h3, nmF_up, show A.length / 3 = m from by omega]
  · rename_i h3
    exact nmF_len _ _ m (by unfold upL; rw [List.length_map]; exact hA) (by unfold upL; rw [List.length_map, List.length_take]; omega) _ _ (by omega)
theorem name_ok (L : List Int) (hL : InB L) (A : List Int) (m : Nat) (hA : A.length = 3 * m) (i : Nat) (e sp : Int) (k : Nat) (h : wordF A (L.drop i) = some k) : nameR L (upL A) m ⟨i, e, sp⟩ = ((k : Int), ⟨i + 3, e, sp⟩) := by
  unfold nameR
  rw [name_word L hL A m hA, h]
  have h3 : run 1 (L.drop i) = 3 := by
    unfold wordF at h
    split at h
    · assumption
    · cases h
  dsimp only
  rw [lt_run (inb_drop hL i), h3]
  rfl
theorem name_no (L : List Int) (hL : InB L) (A : List Int) (m : Nat) (hA : A.length = 3 * m) (i : Nat) (sp : Int) (h : wordF A (L.drop i) = none) : (nameR L (upL A) m ⟨i, 0, sp⟩).2.e = 60 ∧ (nameR L (upL A) m ⟨i, 0, sp⟩).2.sp = i := by
  unfold nameR
  rw [name_word L hL A m hA, h]
  dsimp only
  unfold nmE
  rw [fl0]
  exact ⟨rfl, rfl⟩
theorem wku : WKU = upL WKD := by decide
theorem mou : MOU = upL MON := by decide
theorem tx_stop (c : Int) (r : List Int) (h : c < 32 ∨ c > 126 ∨ c = 40 ∨ c = 41 ∨ c = 92) : tx (c :: r) = 0 := by
  unfold tx
  rw [if_neg]
  rintro ⟨a, b, d⟩
  simp only [List.contains_cons, List.contains_nil, Bool.or_false, Bool.or_eq_false_iff, beq_eq_false_iff_ne] at d
  omega
theorem tx_go (c : Int) (r : List Int) (h : ¬ (c < 32 ∨ c > 126 ∨ c = 40 ∨ c = 41 ∨ c = 92)) : tx (c :: r) = tx r + 1 := by
  have e : tx (c :: r) = if 32 ≤ c ∧ c ≤ 126 ∧ ([40, 41, 92] : List Int).contains c = false then tx r + 1 else 0 := by conv => lhs; unfold tx
  rw [e, if_pos]
  refine ⟨by omega, by omega, ?_⟩
  simp only [List.contains_cons, List.contains_nil, Bool.or_false, Bool.or_eq_false_iff, beq_eq_false_iff_ne]
  omega
theorem hd_one (c b : Int) (r : List Int) : hd [b] (c :: r) = (c == b) := by
  show [b].contains c = (c == b)
  rw [List.contains_cons, List.contains_nil, Bool.or_false]
theorem rem_tx : ∀ r : List Int, remN r = if hd [41] (r.drop (tx r)) = true then some (tx r) else none
  | [] => rfl
  | c :: r => by
    unfold remN
    by_cases h41 : c = 41
    · rw [if_pos h41, tx_stop c r (by omega), List.drop_zero, hd_one, if_pos (beq_iff_eq.2 h41)]
    · rw [if_neg h41]
      by_cases hb : c < 32 ∨ c > 126 ∨ c = 40 ∨ c = 92
      · rw [if_pos hb, tx_stop c r (by omega), List.drop_zero, hd_one, if_neg (fun h => h41 (beq_iff_eq.1 h))]
      · rw [if_neg hb, tx_go c r (by omega), rem_tx r, List.drop_succ_cons]
        split <;> rfl
end Go.Proofs.YtnmhkmkaklhapaaDoor.RR
namespace Go.Proofs.YtnmhkmkaklhapaaDoor.RR
set_option linter.unusedVariables false
set_option linter.unusedSimpArgs false
open Go.RowKit Go.Proofs.YtnmhkmkaklhapaaDoorW.PrintWords Go.Proofs.YtnmhkmkaklhapaaDoor.B Go.Proofs.YtnmhkmkaklhapaaDoor.M Go.Proofs.YtnmhkmkaklhapaaDoor.Glob Go.Proofs.YtnmhkmkaklhapaaDoor.T Go.Proofs.YtnmhkmkaklhapaaDoor.U Go.Proofs.YtnmhkmkaklhapaaDoor.Chk
theorem F9_end (L : List Int) (nm a za : Int) (d : Dte) (z : Int) (k : Nat) (sp : Int) : F9 L nm a za d z ⟨k, 0, sp⟩ = if L.drop k = [] then finP nm a za d z else fault 60 (atI L.length (L.drop k)) := by
  unfold F9 endR
  dsimp only
  by_cases h : k < L.length
  · rw [if_pos h, fl0, if_pos (show (60 : Int) ≠ 0 by decide), if_neg (fun hc => by have := List.drop_eq_nil_iff.1 hc; omega), at_drop L k (by omega)]
  · rw [if_neg h, if_neg (show ¬ (0 : Int) ≠ 0 by decide), if_pos (List.drop_eq_nil_of_le (by omega))]
theorem restB_no (l : List Int) (h : hd [40] (l.drop (blN l)) = false) : restB l = (decide ((l.drop (blN l)).drop (blN (l.drop (blN l))) = []), (l.drop (blN l)).drop (blN (l.drop (blN l)))) := by
  unfold restB
  dsimp only
  split
  · rename_i r he
    rw [he, hd_one] at h
    exact absurd h (by decide)
  · rfl
theorem restB_yes (l r : List Int) (h : l.drop (blN l) = 40 :: r) : restB l = match remN r with
    | none => (false, 40 :: r)
    | some n => (decide (((40 :: r).drop (n + 2)).drop (blN ((40 :: r).drop (n + 2))) = []), ((40 :: r).drop (n + 2)).drop (blN ((40 :: r).drop (n + 2)))) := by
  unfold restB
  dsimp only
  rw [h]
  rfl
theorem fault_of {X : PR} {q : Q3} {e a : Int} (h : q.e ≠ 0 → X = fault q.e q.sp) (h1 : q.e = e) (h2 : q.sp = a) (h0 : e ≠ 0) : X = fault e a := by rw [h (by rw [h1]; exact h0), h1, h2]
theorem step_le {L : List Int} {i n : Nat} (hi : i ≤ L.length) (hn : n ≤ (L.drop i).length) : i + n ≤ L.length := by rw [List.length_drop] at hn; omega
theorem rest_eq (L : List Int) (hL : InB L) (i : Nat) (hi : i ≤ L.length) (nm a za : Int) (d : Dte) (z sp : Int) : F6 L nm a za d z ⟨i, 0, sp⟩ = match restB (L.drop i) with
    | (false, r) => fault 60 (atI L.length r)
    | (true, _) => finP nm a za d z := by
  unfold F6
  rw [gap_free L hL]
  have hj : i + blN (L.drop i) ≤ L.length := step_le hi (blN_le _)
  have hm : (L.drop i).drop (blN (L.drop i)) = L.drop (i + blN (L.drop i)) := by rw [List.drop_drop]
  generalize hji : i + blN (L.drop i) = j at *
  have last : ∀ k : Nat, F8 L nm a za d z ⟨k, 0, sp⟩ = match ((decide ((L.drop k).drop (blN (L.drop k)) = []), (L.drop k).drop (blN (L.drop k))) : Bool × List Int) with
    | (false, r) => fault 60 (atI L.length r)
    | (true, _) => finP nm a za d z := by
    intro k
    unfold F8
    rw [gap_free L hL, F9_end, List.drop_drop]
    by_cases h : L.drop (k + blN (L.drop k)) = []
    · rw [if_pos h, decide_eq_true h]
    · rw [if_neg h, decide_eq_false h]
  unfold F7 remR remF
  dsimp only
  cases h40 : hd [40] (L.drop j) with
  | false =>
    rw [if_pos rfl, restB_no _ (by rw [hm]; exact h40), hm]
    exact last j
  | true =>
    rw [if_neg (by decide)]
    obtain ⟨r, hr⟩ : ∃ r, L.drop j = 40 :: r := by
      cases hx : L.drop j with
      | nil => rw [hx] at h40; cases h40
      | cons c r => rw [hx, hd_one] at h40; exact ⟨r, by rw [beq_iff_eq.1 h40]⟩
    rw [restB_yes _ r (by rw [hm, hr]), hr, show (40 :: r).drop 1 = r from rfl, show (40 :: r).drop (1 + tx r) = r.drop (tx r) from by rw [Nat.add_comm, List.drop_succ_cons], rem_tx r]
    by_cases h41 : hd [41] (r.drop (tx r)) = true
    · rw [if_pos h41, if_pos h41]
      dsimp only
      have hk : (40 :: r).drop (tx r + 2) = L.drop (j + 1 + tx r + 1) := by rw [← hr, List.drop_drop]; congr 1; omega
      rw [hk]
      exact last _
    · rw [if_neg h41, if_neg h41, fl0]
      dsimp only
      rw [← hr, at_drop L j hj]
      exact F8_f (show (60 : Int) ≠ 0 by decide)
theorem zoneP_word (l : List Int) (h : hd [43, 45] l = false) : zoneP l = ((zoneN (upL (l.take (run 1 l)))).1, (zoneN (upL (l.take (run 1 l)))).2, l.drop (run 1 l)) := by
  unfold zoneP
  cases l with
  | nil => rfl
  | cons c r =>
    dsimp only
    rw [if_neg]
    intro hc
    have h2 : ([43, 45] : List Int).contains c = false := h
    rcases hc with rfl | rfl <;> revert h2 <;> decide
theorem zoneP_sign (c : Int) (r : List Int) (h : hd [43, 45] (c :: r) = true) : zoneP (c :: r) = zoneS c r ∧ (c = 43 ∨ c = 45) := by
  have h2 : ([43, 45] : List Int).contains c = true := h
  have hc : c = 43 ∨ c = 45 := by
    rw [List.contains_cons, List.contains_cons, List.contains_nil, Bool.or_false, Bool.or_eq_true, beq_iff_eq, beq_iff_eq] at h2
    exact h2
  unfold zoneP
  dsimp only
  exact ⟨if_pos hc, hc⟩
theorem four_num (w : List Int) (hw : ∀ x ∈ w, 48 ≤ x ∧ x ≤ 57) (h4 : w.length = 4) : (num w % 100 > 59 ↔ ¬ w.getD 2 0 ≤ 53) ∧ num w / 100 * 60 + num w % 100 = fourV w := by
  obtain ⟨a, b, c, d, rfl⟩ : ∃ a b c d, w = [a, b, c, d] := by
    match w, h4 with
    | [a, b, c, d], _ => exact ⟨a, b, c, d, rfl⟩
  have ha := hw a (by simp)
  have hb := hw b (by simp)
  have hc := hw c (by simp)
  have hd := hw d (by simp)
  unfold fourV num
  simp only [List.foldl_cons, List.foldl_nil, List.getD_cons_zero, List.getD_cons_succ]
  omega
theorem zone_yes (L : List Int) (hL : InB L) (i : Nat) (hi : i ≤ L.length) (e sp z : Int) (r : List Int) (h : zoneP (L.drop i) = (z, true, r)) : ∃ j, j ≤ L.length ∧ zoneR L ⟨i, e, sp⟩ = (z, ⟨j, e, sp⟩) ∧ r = L.drop j := by
  unfold zoneR
  dsimp only
  cases hs : hd [43, 45] (L.drop i) with
  | false =>
    rw [zoneP_word _ hs] at h
    simp only [Prod.mk.injEq] at h
    obtain ⟨h1, h2, h3⟩ := h
    rw [if_neg (by decide)]
    unfold wordW
    dsimp only
    rw [lt_run (inb_drop hL i), h2]
    refine ⟨i + run 1 (L.drop i), step_le hi (run_le 1 _), ?_, by rw [← h3, List.drop_drop]⟩
    unfold znE
    rw [if_pos rfl, h1]
  | true =>
    rw [if_pos rfl]
    have hlt : i < L.length := by
      rcases Nat.lt_or_ge i L.length with k | k
      · exact k
      · rw [List.drop_eq_nil_of_le k] at hs; cases hs
    have hcons := List.drop_eq_getElem_cons hlt
    rw [hcons] at h hs ⊢
    obtain ⟨h1, hc⟩ := zoneP_sign _ _ hs
    rw [h1] at h
    unfold signW
    dsimp only
    rw [dg_run (inb_drop hL (i + 1))]
    have hr := dg_range (L.drop (i + 1))
    rw [dg_run (inb_drop hL (i + 1))] at hr
    have hle : digN (L.drop (i + 1)) ≤ (L.drop (i + 1)).length := run_le 2 _
    unfold zoneS at h
    split at h
    · rename_i hd4
      have h4 := dig_two hd4 4 rfl rfl
      rw [h4] at hr hle ⊢
      have hl4 : ((L.drop (i + 1)).take 4).length = 4 := by rw [List.length_take]; omega
      obtain ⟨q1, q2⟩ := four_num _ hr hl4
      split at h
      · simp only [Prod.mk.injEq] at h
        exact absurd h.2.1 (by decide)
      · rename_i h59
        have h53 : ((L.drop (i + 1)).take 4).getD 2 0 ≤ 53 := Classical.byContradiction fun hc => h59 (q1.2 hc)
        simp only [Prod.mk.injEq] at h
        obtain ⟨rfl, -, rfl⟩ := h
        refine ⟨i + 1 + 4, by rw [List.length_drop] at hle; omega, ?_, by rw [List.drop_drop]⟩
        rw [if_pos ⟨hl4, h53⟩]
        unfold znE znB
        rw [decide_eq_true (⟨hl4, h53⟩ : _ ∧ _), if_pos rfl]
        unfold signV
        rw [q2, hd_one]
        by_cases h45 : L[i] = 45
        · rw [if_pos h45, if_pos (beq_iff_eq.2 h45)]
        · rw [if_neg h45, if_neg (fun hc => h45 (beq_iff_eq.1 hc))]
    · simp only [Prod.mk.injEq] at h
      exact absurd h.2.1 (by decide)
theorem zone_no (L : List Int) (hL : InB L) (i : Nat) (sp z : Int) (r : List Int) (h : zoneP (L.drop i) = (z, false, r)) : (zoneR L ⟨i, 0, sp⟩).2.e = 61 ∧ (zoneR L ⟨i, 0, sp⟩).2.sp = i := by
  unfold zoneR
  dsimp only
  cases hs : hd [43, 45] (L.drop i) with
  | false =>
    rw [zoneP_word _ hs] at h
    simp only [Prod.mk.injEq] at h
    obtain ⟨h1, h2, h3⟩ := h
    rw [if_neg (by decide)]
    unfold wordW
    dsimp only
    rw [lt_run (inb_drop hL i), h2]
    unfold znE
    rw [if_neg (by decide), fl0]
    exact ⟨rfl, rfl⟩
  | true =>
    rw [if_pos rfl]
    have hlt : i < L.length := by
      rcases Nat.lt_or_ge i L.length with k | k
      · exact k
      · rw [List.drop_eq_nil_of_le k] at hs; cases hs
    have hcons := List.drop_eq_getElem_cons hlt
    rw [hcons] at h hs
    obtain ⟨h1, hc⟩ := zoneP_sign _ _ hs
    rw [h1] at h
    unfold signW
    dsimp only
    rw [dg_run (inb_drop hL (i + 1))]
    have hr := dg_range (L.drop (i + 1))
    rw [dg_run (inb_drop hL (i + 1))] at hr
    have hle : digN (L.drop (i + 1)) ≤ (L.drop (i + 1)).length := run_le 2 _
    have bad : ¬ (((L.drop (i + 1)).take (digN (L.drop (i + 1)))).length = 4 ∧ ((L.drop (i + 1)).take (digN (L.drop (i + 1)))).getD 2 0 ≤ 53) := by
      rintro ⟨b1, b2⟩
      have hn : digN (L.drop (i + 1)) = 4 := by rw [List.length_take] at b1; omega
      have hd4 : digOk (L.drop (i + 1)) 4 4 = true := by unfold digOk; rw [hn]; decide
      unfold zoneS at h
      rw [if_pos hd4] at h
      rw [hn] at hr b1 b2
      obtain ⟨q1, q2⟩ := four_num _ hr b1
      rw [if_neg (fun hc => (q1.1 hc) b2)] at h
      simp only [Prod.mk.injEq] at h
      exact absurd h.2.1 (by decide)
    unfold znE znB
    rw [decide_eq_false bad, if_neg (by decide), fl0]
    exact ⟨rfl, rfl⟩
theorem tail_eq (L : List Int) (hL : InB L) (i : Nat) (hi : i ≤ L.length) (nm a : Int) (d : Dte) (sp : Int) : F5 L nm a d ⟨i, 0, sp⟩ = tailP L.length nm a d (L.drop i) := by
  unfold F5 tailP
  obtain ⟨z, b, r, hz⟩ : ∃ z b r, zoneP (L.drop i) = (z, b, r) := ⟨_, _, _, rfl⟩
  rw [hz]
  cases b with
  | false =>
    obtain ⟨h1, h2⟩ := zone_no L hL i sp z r hz
    dsimp only
    rw [at_drop L i hi]
    exact fault_of F6_f h1 h2 (by decide)
  | true =>
    obtain ⟨j, hj, h1, h2⟩ := zone_yes L hL i hi 0 sp z r hz
    dsimp only
    rw [h1, h2, at_drop L i hi]
    exact rest_eq L hL j hj nm a i d z sp
end Go.Proofs.YtnmhkmkaklhapaaDoor.RR
namespace Go.Proofs.YtnmhkmkaklhapaaDoor.RR
set_option linter.unusedVariables false
set_option linter.unusedSimpArgs false
open Go.RowKit Go.Proofs.YtnmhkmkaklhapaaDoorW.PrintWords Go.Proofs.YtnmhkmkaklhapaaDoor.B Go.Proofs.YtnmhkmkaklhapaaDoor.M Go.Proofs.YtnmhkmkaklhapaaDoor.Glob Go.Proofs.YtnmhkmkaklhapaaDoor.T Go.Proofs.YtnmhkmkaklhapaaDoor.U Go.Proofs.YtnmhkmkaklhapaaDoor.Chk
theorem dig_le (l : List Int) : digN l ≤ l.length := run_le 2 l
def gapTail (N : Nat) (nm a : Int) (d : Dte) (l : List Int) : PR := if decide (0 < blN l) = false then fault 60 (atI N l) else tailP N nm a d (l.drop (blN l))
theorem F4_eq (L : List Int) (hL : InB L) (i : Nat) (hi : i ≤ L.length) (nm a y mo d h m s sp : Int) : F4 L nm a y mo d h m s ⟨i, 0, sp⟩ = gapTail L.length nm a ⟨y, mo, d, h, m, s⟩ (L.drop i) := by
  unfold F4 gapTail
  by_cases hb : 0 < blN (L.drop i)
  · rw [gap_ok L hL i 0 sp hb, if_neg (by rw [decide_eq_true hb]; decide), List.drop_drop]
    exact tail_eq L hL _ (step_le hi (blN_le _)) nm a _ sp
  · rw [gap_no L hL i sp hb, if_pos (decide_eq_false hb), at_drop L i hi]
    exact F5_f (show (60 : Int) ≠ 0 by decide)
def clkTail (N : Nat) (nm a y mo d : Int) (c : Clk) : PR := match c with
  | ⟨false, l7, _, _, _⟩ => fault 60 (atI N l7)
  | ⟨true, l7, h, m, s⟩ => gapTail N nm a ⟨y, mo, d, h, m, s⟩ l7
theorem digits2 {l : List Int} (h : digOk l 2 2 = true) : digN l = 2 := dig_two h 2 rfl rfl
theorem mark_le {L : List Int} {i : Nat} {c : Int} (h : begB (L.drop i) c = true) : i + 1 ≤ L.length := by
  rcases Nat.lt_or_ge i L.length with k | k
  · omega
  · rw [List.drop_eq_nil_of_le k] at h; cases h
theorem clock_eq (L : List Int) (hL : InB L) (i : Nat) (hi : i ≤ L.length) (nm a y mo d sp : Int) : E6 L nm a y mo d ⟨i, 0, sp⟩ = clkTail L.length nm a y mo d (clockP (L.drop i) 0 0 0) := by
  unfold E6 clockP
  dsimp only
  cases h1 : digOk (L.drop i) 2 2 with
  | false =>
    obtain ⟨b1, b2⟩ := num_no L hL i 2 2 sp h1
    rw [if_pos rfl, clkTail, at_drop L i hi]
    exact fault_of F1_f b1 b2 (by decide)
  | true =>
  rw [if_neg (by decide), num_ok L hL i 2 2 0 sp h1, List.drop_drop]
  have l1 := digits2 h1
  rw [l1]
  have hi2 : i + 2 ≤ L.length := by have := step_le hi (dig_le (L.drop i)); omega
  dsimp only
  unfold F1
  cases h2 : begB (L.drop (i + 2)) 58 with
  | false =>
    rw [if_pos rfl, clkTail, at_drop L _ hi2, mark_no L _ _ sp h2]
    exact F2_f (show (60 : Int) ≠ 0 by decide)
  | true =>
  rw [if_neg (by decide), mark_ok L _ _ 0 sp h2, List.drop_drop]
  have hi3 := mark_le h2
  unfold F2
  cases h3 : digOk (L.drop (i + 2 + 1)) 2 2 with
  | false =>
    obtain ⟨b1, b2⟩ := num_no L hL _ 2 2 sp h3
    rw [if_pos rfl, clkTail, at_drop L _ hi3]
    exact fault_of F3_f b1 b2 (by decide)
  | true =>
  rw [if_neg (by decide), num_ok L hL _ 2 2 0 sp h3, List.drop_drop]
  have l3 := digits2 h3
  rw [l3]
  have hi4 : i + 2 + 1 + 2 ≤ L.length := by have := step_le hi3 (dig_le (L.drop (i + 2 + 1))); omega
  dsimp only
  unfold F3 secR
  dsimp only
  cases h4 : begB (L.drop (i + 2 + 1 + 2)) 58 with
  | false =>
    rw [if_pos rfl, clkTail, if_neg (by rw [← begB_hd, h4]; decide)]
    exact F4_eq L hL _ hi4 nm a y mo d _ _ 0 sp
  | true =>
  rw [if_neg (show ¬ true = false by decide), if_pos (show hd [58] (L.drop (i + 2 + 1 + 2)) = true by rw [← begB_hd, h4]), List.drop_drop]
  have hi5 := mark_le h4
  cases h5 : digOk (L.drop (i + 2 + 1 + 2 + 1)) 2 2 with
  | false =>
    obtain ⟨b1, b2⟩ := num_no L hL _ 2 2 sp h5
    rw [if_pos rfl, clkTail, at_drop L _ hi5]
    exact fault_of F4_f b1 b2 (by decide)
  | true =>
  rw [if_neg (by decide), num_ok L hL _ 2 2 0 sp h5, List.drop_drop]
  have l5 := digits2 h5
  rw [l5, clkTail]
  have hi6 : i + 2 + 1 + 2 + 1 + 2 ≤ L.length := by have := step_le hi5 (dig_le (L.drop (i + 2 + 1 + 2 + 1))); omega
  exact F4_eq L hL _ hi6 nm a y mo d _ _ _ sp
theorem year_eq (k : Nat) (y : Int) : yearR (k : Int) y = yearV k y := by
  unfold yearR yearV
  by_cases h : k = 2 ∧ y < 50
  · rw [if_pos h, if_pos ⟨by omega, h.2⟩]
  · rw [if_neg h, if_neg (fun hc => h ⟨by omega, hc.2⟩)]
    by_cases h4 : k < 4
    · rw [if_pos h4, if_pos (by omega)]
    · rw [if_neg h4, if_neg (by omega)]
theorem body_eq (L : List Int) (hL : InB L) (i : Nat) (hi : i ≤ L.length) (nm sp : Int) : E0 L nm ⟨i, 0, sp⟩ = bodyP L.length nm (L.drop i) := by
  unfold E0 bodyP dateP
  dsimp only
  cases h1 : digOk (L.drop i) 1 2 with
  | false =>
    obtain ⟨b1, b2⟩ := num_no L hL i 1 2 sp h1
    rw [if_pos rfl]
    dsimp only
    rw [at_drop L i hi]
    exact fault_of E1_f b1 b2 (by decide)
  | true =>
  rw [if_neg (by decide), num_ok L hL i 1 2 0 sp h1, List.drop_drop, at_drop L i hi]
  have hi2 := step_le hi (dig_le (L.drop i))
  generalize hx1 : num ((L.drop i).take (digN (L.drop i))) = x1
  generalize he2 : i + digN (L.drop i) = i2 at *
  dsimp only
  unfold E1
  by_cases h2 : 0 < blN (L.drop i2)
  case neg =>
    rw [if_pos (decide_eq_false h2), gap_no L hL _ sp h2]
    dsimp only
    rw [at_drop L _ hi2]
    exact E2_f (show (60 : Int) ≠ 0 by decide)
  rw [if_neg (by rw [decide_eq_true h2]; decide), gap_ok L hL _ 0 sp h2, List.drop_drop]
  have hi3 := step_le hi2 (blN_le (L.drop i2))
  generalize he3 : i2 + blN (L.drop i2) = i3 at *
  unfold E2
  rw [mou]
  cases h3 : wordF MON (L.drop i3) with
  | none =>
    obtain ⟨b1, b2⟩ := name_no L hL MON 12 (by decide) i3 sp h3
    dsimp only
    rw [at_drop L _ hi3]
    exact fault_of E3_f b1 b2 (by decide)
  | some mo =>
  rw [name_ok L hL MON 12 (by decide) i3 0 sp mo h3]
  have hi4 : i3 + 3 ≤ L.length := by
    have hr : run 1 (L.drop i3) = 3 := by
      unfold wordF at h3
      split at h3
      · assumption
      · cases h3
    have := step_le hi3 (run_le 1 (L.drop i3))
    omega
  dsimp only
  rw [List.drop_drop]
  unfold E3
  generalize he4 : i3 + 3 = i4 at *
  by_cases h4 : 0 < blN (L.drop i4)
  case neg =>
    rw [if_pos (decide_eq_false h4), gap_no L hL _ sp h4]
    dsimp only
    rw [at_drop L _ hi4]
    exact E4_f (show (60 : Int) ≠ 0 by decide)
  rw [if_neg (by rw [decide_eq_true h4]; decide), gap_ok L hL _ 0 sp h4, List.drop_drop]
  have hi5 := step_le hi4 (blN_le (L.drop i4))
  generalize he5 : i4 + blN (L.drop i4) = i5 at *
  unfold E4
  cases h5 : digOk (L.drop i5) 2 4 with
  | false =>
    obtain ⟨b1, b2⟩ := num_no L hL i5 2 4 sp h5
    rw [if_pos rfl]
    dsimp only
    rw [at_drop L _ hi5]
    exact fault_of E5_f b1 b2 (by decide)
  | true =>
  rw [if_neg (by decide), num_ok L hL i5 2 4 0 sp h5, List.drop_drop]
  dsimp only
  rw [year_eq]
  have hi6 := step_le hi5 (dig_le (L.drop i5))
  generalize hy : yearV (digN (L.drop i5)) (num ((L.drop i5).take (digN (L.drop i5)))) = y
  generalize he6 : i5 + digN (L.drop i5) = i6 at *
  unfold E5
  by_cases h6 : 0 < blN (L.drop i6)
  case neg =>
    rw [if_pos (decide_eq_false h6), gap_no L hL _ sp h6]
    dsimp only
    rw [at_drop L _ hi6]
    exact E6_f (show (60 : Int) ≠ 0 by decide)
  rw [if_neg (by rw [decide_eq_true h6]; decide), gap_ok L hL _ 0 sp h6, List.drop_drop]
  have hi7 := step_le hi6 (blN_le (L.drop i6))
  generalize he7 : i6 + blN (L.drop i6) = i7 at *
  rw [clock_eq L hL i7 hi7]
  obtain ⟨ok, l7, h, m, s⟩ := clockP (L.drop i7) 0 0 0
  cases ok with
  | false => rfl
  | true =>
    unfold clkTail gapTail
    dsimp only
    by_cases h8 : 0 < blN l7
    · rw [if_neg (by rw [decide_eq_true h8]; decide), if_neg (by rw [decide_eq_true h8]; decide)]
    · rw [if_pos (decide_eq_false h8), if_pos (decide_eq_false h8)]
theorem refV_eq (L : List Int) (hL : InB L) : refV L = parseP L := by
  unfold refV parseP
  rw [gap_free L hL, Nat.zero_add, List.drop_zero]
  have hi : blN L ≤ L.length := blN_le L
  generalize blN L = i at *
  unfold headP headR
  dsimp only
  by_cases h0 : run 1 (L.drop i) = 0
  · rw [if_pos h0, if_neg (by rw [hd_rn, lt_run (inb_drop hL i), h0]; decide)]
    exact body_eq L hL i hi _ 0
  rw [if_neg h0, if_pos (by rw [hd_rn, lt_run (inb_drop hL i)]; exact decide_eq_true (by omega)), wku]
  cases h1 : wordF WKD (L.drop i) with
  | none =>
    obtain ⟨b1, b2⟩ := name_no L hL WKD 7 (by decide) i 0 h1
    dsimp only
    rw [at_drop L _ hi]
    have m1 := mark_kp L 44 (nameR L (upL WKD) 7 ⟨i, 0, 0⟩).2
    have m2 := gap_kp L true (markR L 44 (nameR L (upL WKD) 7 ⟨i, 0, 0⟩).2)
    have b0 : (nameR L (upL WKD) 7 ⟨i, 0, 0⟩).2.e ≠ 0 := by rw [b1]; decide
    exact fault_of (fun h => m1.go h fun h => m2.go h E0_f) b1 b2 (by decide)
  | some k =>
  rw [name_ok L hL WKD 7 (by decide) i 0 0 k h1]
  have hi3 : i + 3 ≤ L.length := by
    have hr : run 1 (L.drop i) = 3 := by
      unfold wordF at h1
      split at h1
      · assumption
      · cases h1
    have := step_le hi (run_le 1 (L.drop i))
    omega
  dsimp only
  rw [List.drop_drop]
  cases h2 : begB (L.drop (i + 3)) 44 with
  | false =>
    rw [if_pos rfl, mark_no L _ _ 0 h2, gap_free L hL]
    dsimp only
    rw [at_drop L _ hi3]
    exact E0_f (show (60 : Int) ≠ 0 by decide)
  | true =>
    rw [if_neg (by decide), mark_ok L _ _ 0 0 h2, gap_free L hL, show (L.drop (i + 3)).drop 1 = L.drop (i + 3 + 1) from by rw [List.drop_drop], List.drop_drop]
    exact body_eq L hL _ (step_le (mark_le h2) (blN_le _)) _ 0
end Go.Proofs.YtnmhkmkaklhapaaDoor.RR
namespace Go.Proofs.YtnmhkmkaklhapaaDoor.PV
set_option linter.unusedVariables false
set_option linter.unusedSimpArgs false
open Go.RowKit Go.Proofs.YtnmhkmkaklhapaaDoorW.PrintWords Go.Proofs.YtnmhkmkaklhapaaDoor.B Go.Proofs.YtnmhkmkaklhapaaDoor.M Go.Proofs.YtnmhkmkaklhapaaDoor.Glob Go.Proofs.YtnmhkmkaklhapaaDoor.T Go.Proofs.YtnmhkmkaklhapaaDoor.U Go.Proofs.YtnmhkmkaklhapaaDoor.Chk Go.Proofs.YtnmhkmkaklhapaaDoor.Cal Go.Proofs.YtnmhkmkaklhapaaDoor.RR Go.Proofs.YtnmhkmkaklhapaaDoor.S Go.Proofs.YtnmhkmkaklhapaaDoor.MR
variable {s : ByteArray}
def Big (s : ByteArray) : Prop := s.size ≤ 140737488351232
theorem okI_q (hS : Big s) (q : Q3) (h : q.i ≤ s.size) : okI s (q.i : Int) := ⟨hS, by omega, by omega⟩
theorem gap_f (hS : Big s) (q : Q3) (h : q.i ≤ s.size) (free : Bool) : MR.posthornref06_reader_gap.f s (q.i : Int) q.e q.sp free = some (s, ((gapR (bytesOf s) free q).i : Int), (gapR (bytesOf s) free q).e, (gapR (bytesOf s) free q).sp) := by
  unfold MR.posthornref06_reader_gap.f
  rw [if_pos (okI_q hS q h), Int.toNat_natCast]
  rfl
theorem num_f (hS : Big s) (q : Q3) (h : q.i ≤ s.size) (a b : Int) (hb : b ≤ 4) : MR.posthornref06_reader_number.f s (q.i : Int) q.e q.sp a b = some ((numR (bytesOf s) a b q).1, (numR (bytesOf s) a b q).2.1, s, ((numR (bytesOf s) a b q).2.2.i : Int), (numR (bytesOf s) a b q).2.2.e, (numR (bytesOf s) a b q).2.2.sp) := by
  unfold MR.posthornref06_reader_number.f
  rw [if_pos ⟨okI_q hS q h, hb⟩, Int.toNat_natCast]
theorem mark_f (hS : Big s) (q : Q3) (h : q.i ≤ s.size) (all : ByteArray) (c : Int) (ha : bytesOf all = [c]) : MR.posthornref06_reader_mark.f s (q.i : Int) q.e q.sp all = some (s, ((markR (bytesOf s) c q).i : Int), (markR (bytesOf s) c q).e, (markR (bytesOf s) c q).sp) := by
  unfold MR.posthornref06_reader_mark.f
  have hc : (bytesOf all).getD 0 0 = c := by rw [ha]; rfl
  rw [hc, if_pos ⟨okI_q hS q h, ha⟩, Int.toNat_natCast]
  rfl
theorem name_f (hS : Big s) (q : Q3) (h : q.i ≤ s.size) (all : ByteArray) (A : List Int) (m : Nat) (ha : bytesOf all = A) (hm : A.length = 3 * m) (h2 : m ≤ 100) : MR.posthornref06_reader_name.f s (q.i : Int) q.e q.sp all = some ((nameR (bytesOf s) A m q).1, s, ((nameR (bytesOf s) A m q).2.i : Int), (nameR (bytesOf s) A m q).2.e, (nameR (bytesOf s) A m q).2.sp) := by
  unfold MR.posthornref06_reader_name.f
  have hz : all.size = 3 * m := by rw [← bytesOf_len, ha, hm]
  have hd : all.size / 3 = m := by omega
  rw [hd, if_pos ⟨okI_q hS q h, hz, by omega⟩, Int.toNat_natCast, ha]
theorem zone_f (hS : Big s) (q : Q3) (h : q.i ≤ s.size) : MR.posthornref06_reader_zone.f s (q.i : Int) q.e q.sp = some ((zoneR (bytesOf s) q).1, s, ((zoneR (bytesOf s) q).2.i : Int), (zoneR (bytesOf s) q).2.e, (zoneR (bytesOf s) q).2.sp) := by
  unfold MR.posthornref06_reader_zone.f
  rw [if_pos (okI_q hS q h), Int.toNat_natCast]
theorem is_f (hS : Big s) (q : Q3) (h : q.i ≤ s.size) (all : ByteArray) (A : List Int) (ha : bytesOf all = A) (hz : A.length ≤ 1000) : MR.posthornref06_reader_is.f s (q.i : Int) q.e q.sp all = some (hd A ((bytesOf s).drop q.i), s, (q.i : Int), q.e, q.sp) := by
  unfold MR.posthornref06_reader_is.f
  rw [if_pos ⟨okI_q hS q h, by rw [← bytesOf_len, ha]; exact hz⟩, Int.toNat_natCast, ha]
theorem rem_f (hS : Big s) (q : Q3) (h : q.i ≤ s.size) : MN.posthornref06_reader_remark.f s (q.i : Int) q.e q.sp = some (s, ((remR (bytesOf s) q).i : Int), (remR (bytesOf s) q).e, (remR (bytesOf s) q).sp) := by
  unfold MN.posthornref06_reader_remark.f
  rw [if_pos ⟨hS, by omega, by omega⟩, Int.toNat_natCast]
  rfl
theorem fail_f' (q : Q3) (err pos : Int) : MR.posthornref06_reader_fail.f s (q.i : Int) q.e q.sp err pos = some (s, (q.i : Int), (fl q.e q.sp err pos).1, (fl q.e q.sp err pos).2) := rfl
theorem len_s : (bytesOf s).length = s.size := bytesOf_len s
theorem step_s {i n : Nat} (h : i ≤ s.size) (hn : n ≤ ((bytesOf s).drop i).length) : i + n ≤ s.size := by rw [List.length_drop, len_s] at hn; omega
theorem gap_le (q : Q3) (h : q.i ≤ s.size) (f : Bool) : (gapR (bytesOf s) f q).i ≤ s.size := step_s h (rn_le _ _)
theorem num_le (q : Q3) (h : q.i ≤ s.size) (a b : Int) : (numR (bytesOf s) a b q).2.2.i ≤ s.size := step_s h (rn_le _ _)
theorem name_le (q : Q3) (h : q.i ≤ s.size) (A : List Int) (m : Nat) : (nameR (bytesOf s) A m q).2.i ≤ s.size := step_s h (rn_le _ _)
theorem hd_lt' {A : List Int} {i : Nat} (h : hd A ((bytesOf s).drop i) = true) : i + 1 ≤ s.size := by
  rcases Nat.lt_or_ge i s.size with k | k
  · omega
  · rw [List.drop_eq_nil_of_le (by rw [len_s]; omega)] at h; cases h
theorem mark_le' (q : Q3) (h : q.i ≤ s.size) (c : Int) : (markR (bytesOf s) c q).i ≤ s.size := by
  unfold markR
  split
  · rename_i hh; exact hd_lt' hh
  · exact h
theorem zone_le (q : Q3) (h : q.i ≤ s.size) : (zoneR (bytesOf s) q).2.i ≤ s.size := by
  unfold zoneR
  split
  · rename_i hh; exact step_s (hd_lt' hh) (rn_le _ _)
  · exact step_s h (rn_le _ _)
theorem tx_le : ∀ l : List Int, tx l ≤ l.length
  | [] => Nat.le_refl _
  | c :: r => by
    unfold tx
    have := tx_le r
    split
    · rw [List.length_cons]; omega
    · omega
theorem rem_le (q : Q3) (h : q.i ≤ s.size) : (remR (bytesOf s) q).i ≤ s.size := by
  unfold remR remF
  dsimp only
  split
  · exact h
  · rename_i hh
    have hlt := hd_lt' (Bool.of_not_eq_false hh)
    have ht := tx_le (((bytesOf s).drop q.i).drop 1)
    rw [List.length_drop, List.length_drop, len_s] at ht
    split
    · rename_i h2
      rw [List.drop_drop] at h2
      have := hd_lt' h2
      omega
    · show q.i + 1 + tx (((bytesOf s).drop q.i).drop 1) ≤ s.size
      omega
theorem num_lt (q : Q3) (a b : Int) (n : Nat) (hb : b ≤ n) : 0 ≤ (numR (bytesOf s) a b q).1 ∧ (numR (bytesOf s) a b q).1 < 10 ^ n := by
  unfold numR numF
  dsimp only
  have hr := dg_range ((bytesOf s).drop q.i)
  split
  · exact ⟨Int.le_refl _, Int.pow_pos (by decide)⟩
  · rename_i hh
    have := num_range _ hr
    have hl : ((bytesOf s).drop q.i |>.take (rn DG ((bytesOf s).drop q.i))).length ≤ n := by rw [List.length_take]; omega
    have hp : (10 : Int) ^ ((bytesOf s).drop q.i |>.take (rn DG ((bytesOf s).drop q.i))).length ≤ 10 ^ n := by have := Nat.pow_le_pow_right (n := 10) (by decide) hl; exact_mod_cast this
    exact ⟨this.1, Int.lt_of_lt_of_le this.2 hp⟩
theorem nmF_lt (A t : List Int) (m : Nat) : ∀ (n k j : Nat), k + n = m → nmF A t k n = some j → j < m
  | 0, _, _, _, h => by cases h
  | n + 1, k, j, hk, h => by
    unfold nmF at h
    split at h
    · cases h; omega
    · exact nmF_lt A t m n (k + 1) j (by omega) h
theorem name_lt (q : Q3) (A : List Int) (m : Nat) : -1 ≤ (nameR (bytesOf s) A m q).1 ∧ (nameR (bytesOf s) A m q).1 < (m : Int) + 1 ∧ ((nameR (bytesOf s) A m q).1 = -1 ∨ (nameR (bytesOf s) A m q).1 < m) := by
  unfold nameR
  dsimp only
  cases h : nameO (bytesOf s) A m q with
  | none => exact ⟨by decide, by show (-1 : Int) < (m : Int) + 1; omega, .inl rfl⟩
  | some j =>
    have := nmF_lt _ _ m _ _ j (by omega) h
    unfold nmV
    dsimp only
    omega
theorem zoneN_lt (n : List Int) : -6100 ≤ (zoneN n).1 ∧ (zoneN n).1 ≤ 6100 := by
  unfold zoneN
  repeat' split
  all_goals first | exact ⟨by decide, by decide⟩ | exact ⟨(by decide : (-6100 : Int) ≤ 0), (by decide : (0 : Int) ≤ 6100)⟩
theorem zone_lt (q : Q3) : -6100 ≤ (zoneR (bytesOf s) q).1 ∧ (zoneR (bytesOf s) q).1 ≤ 6100 := by
  unfold zoneR
  split
  · dsimp only
    have hr := dg_range ((bytesOf s).drop (q.i + 1))
    split
    · rename_i hh
      have hr2 : ∀ x ∈ signW (bytesOf s) q, 48 ≤ x ∧ x ≤ 57 := hr
      obtain ⟨a, b, c, d, e⟩ : ∃ a b c d, signW (bytesOf s) q = [a, b, c, d] := by
        match signW (bytesOf s) q, hh.1 with
        | [a, b, c, d], _ => exact ⟨a, b, c, d, rfl⟩
      rw [e] at hr2 ⊢
      have ha := hr2 a (by simp)
      have hb := hr2 b (by simp)
      have hc := hr2 c (by simp)
      have hd := hr2 d (by simp)
      unfold fourV
      simp only [List.getD_cons_zero, List.getD_cons_succ]
      split <;> omega
    · exact ⟨by decide, by decide⟩
  · exact zoneN_lt _
def lastR (nm a za : Int) (d : Dte) (z e sp : Int) : PR := if e ≠ 0 then fault e sp else finP nm a za d z
def I8' (n : Int) : Prop := -128 ≤ n ∧ n ≤ 127
def InD (d : Dte) : Prop := (-32768 ≤ d.y ∧ d.y ≤ 32767) ∧ I8' d.mo ∧ I8' d.d ∧ I8' d.h ∧ I8' d.m ∧ I8' d.s
theorem j4_eq (k : Nat) (nm a za : Int) (y mo d h m sc z : Int) (hI : InD ⟨y, mo + 1, d, h, m, sc⟩) (hz : -32768 ≤ z ∧ z ≤ 32767) (i e sp : Int) :
    S.posthornref06_Parse.j4 (k + 2) nm a d mo y h m sc za z s i e sp = some (lastR nm a za ⟨y, mo + 1, d, h, m, sc⟩ z e sp).tup := by
  obtain ⟨⟨y1, y2⟩, ⟨o1, o2⟩, ⟨d1, d2⟩, ⟨h1, h2⟩, ⟨m1, m2⟩, s1, s2⟩ := hI
  dsimp only at *
  rw [S.posthornref06_Parse.j4]
  unfold lastR
  by_cases he : e = 0
  · rw [if_pos he, if_neg (show ¬ e ≠ 0 from fun hc => hc he), wrap_id (mo + 1) (by omega) (by omega), wrap16 y (by omega) (by omega), wrapi8 (mo + 1) (by omega) (by omega), wrapi8 d (by omega) (by omega), wrapi8 h (by omega) (by omega), wrapi8 m (by omega) (by omega), wrapi8 sc (by omega) (by omega), wrap16 z (by omega) (by omega)]
    have hA : MN.allI y (mo + 1) d h m sc z := ⟨⟨y1, y2⟩, ⟨o1, o2⟩, ⟨d1, d2⟩, ⟨h1, h2⟩, ⟨m1, m2⟩, ⟨s1, s2⟩, hz⟩
    unfold MR.posthornref06_Check.f finP
    rw [if_pos hA, bind_some']
    dsimp only
    by_cases h60 : chkV y (mo + 1) d h m sc z = 60
    · rw [if_pos h60, if_pos h60, h60]
      rfl
    · rw [if_neg h60, if_neg h60]
      unfold MR.posthornref06_Days.f
      rw [if_pos ⟨⟨y1, y2⟩, ⟨o1, o2⟩, d1, d2⟩, bind_some']
      have fin : ∀ b : Bool, S.posthornref06_Parse.j5 (k + 1) a za (chkV y (mo + 1) d h m sc z) b y (mo + 1) d h m sc z = some (if b = true then fault 60 a else if chkV y (mo + 1) d h m sc z ≠ 0 then fault (chkV y (mo + 1) d h m sc z) za else ⟨0, 0, y, mo + 1, d, h, m, sc, z⟩ : PR).tup := by
        intro b
        rw [S.posthornref06_Parse.j5]
        cases b with
        | true => rw [if_pos rfl, if_pos rfl]; rfl
        | false =>
          rw [if_neg (show ¬ false = true by decide), if_neg (show ¬ false = true by decide)]
          by_cases h0 : chkV y (mo + 1) d h m sc z = 0
          · rw [if_pos h0, if_neg (show ¬ chkV y (mo + 1) d h m sc z ≠ 0 from fun hc => hc h0)]; rfl
          · rw [if_neg h0, if_pos h0]; rfl
      by_cases hn : nm ≥ 0
      · rw [if_pos hn]
        unfold MR.posthornref06_Weekday.f
        have hw := wk_range (daysV y (mo + 1) d).1
        rw [bind_some', wrap_id _ (by omega) (by omega), fin]
        congr 2
        by_cases hd : wkV (daysV y (mo + 1) d).1 = nm
        · rw [if_neg (show ¬ (nm != wkV (daysV y (mo + 1) d).1) = true by rw [hd]; simp), if_neg (show ¬ (0 ≤ nm ∧ wkV (daysV y (mo + 1) d).1 ≠ nm) from fun hc => hc.2 hd)]
        · rw [if_pos (show (nm != wkV (daysV y (mo + 1) d).1) = true by rw [bne_iff_ne]; exact fun hc => hd hc.symm), if_pos (show 0 ≤ nm ∧ wkV (daysV y (mo + 1) d).1 ≠ nm from ⟨hn, hd⟩)]
      · rw [if_neg hn, fin, if_neg (show ¬ false = true by decide), if_neg (show ¬ (0 ≤ nm ∧ wkV (daysV y (mo + 1) d).1 ≠ nm) from fun hc => hn hc.1)]
  · rw [if_neg he, if_pos he]
    rfl
theorem j3_eq (hS : Big s) (k : Nat) (nm a : Int) (y mo d h m sc : Int) (hI : InD ⟨y, mo + 1, d, h, m, sc⟩) (q : Q3) (hq : q.i ≤ s.size) :
    S.posthornref06_Parse.j3 (k + 3) s nm a d mo y h m sc s (q.i : Int) q.e q.sp = some (F4 (bytesOf s) nm a y (mo + 1) d h m sc q).tup := by
  rw [S.posthornref06_Parse.j3, gap_f hS q hq, bind_some']
  dsimp only
  have g1 := gap_le q hq false
  rw [zone_f hS _ g1, bind_some']
  dsimp only
  have g2 := zone_le _ g1
  rw [gap_f hS _ g2, bind_some']
  dsimp only
  have g3 := gap_le _ g2 true
  rw [rem_f hS _ g3, bind_some']
  dsimp only
  have g4 := rem_le _ g3
  rw [gap_f hS _ g4, bind_some']
  dsimp only
  have g5 := gap_le _ g4 true
  have hz := zone_lt (s := s) (gapR (bytesOf s) false q)
  unfold F4 F5 F6 F7 F8 F9 endR
  rw [bytesOf_len]
  generalize gapR (bytesOf s) true (remR (bytesOf s) (gapR (bytesOf s) true (zoneR (bytesOf s) (gapR (bytesOf s) false q)).2)) = p at *
  by_cases hlt : p.i < s.size
  · rw [if_pos (by omega), fail_f', bind_some', if_pos hlt]
    dsimp only
    exact j4_eq k nm a _ y mo d h m sc _ hI (by omega) _ _ _
  · rw [if_neg (by omega), if_neg hlt]
    exact j4_eq k nm a _ y mo d h m sc _ hI (by omega) _ _ _
theorem j2_eq (hS : Big s) (k : Nat) (nm a : Int) (y mo d : Int) (hy : -32768 ≤ y ∧ y ≤ 32767) (hmo : I8' (mo + 1)) (hd8 : I8' d) (q : Q3) (hq : q.i ≤ s.size) :
    S.posthornref06_Parse.j2 (k + 4) s nm a d mo y s (q.i : Int) q.e q.sp = some (E5 (bytesOf s) nm a y (mo + 1) d q).tup := by
  rw [S.posthornref06_Parse.j2, gap_f hS q hq, bind_some']
  dsimp only
  have g1 := gap_le q hq false
  rw [num_f hS _ g1 2 2 (by decide), bind_some']
  dsimp only
  have g2 := num_le _ g1 2 2
  have b2 := num_lt (s := s) (gapR (bytesOf s) false q) 2 2 2 (by decide)
  rw [mark_f hS _ g2 _ 58 (by kernel_rfl), bind_some']
  dsimp only
  have g3 := mark_le' _ g2 58
  rw [num_f hS _ g3 2 2 (by decide), bind_some']
  dsimp only
  unfold E5 E6 F1 F2 F3
  generalize gapR (bytesOf s) false q = p1 at *
  generalize numR (bytesOf s) 2 2 p1 = r2 at *
  generalize markR (bytesOf s) 58 r2.2.2 = p3 at *
  have g4 := num_le _ g3 2 2
  have b4 := num_lt (s := s) p3 2 2 2 (by decide)
  generalize numR (bytesOf s) 2 2 p3 = r4 at *
  rw [is_f hS _ g4 _ [58] (by kernel_rfl) (by decide), bind_some']
  dsimp only
  unfold secR
  have p100 : (10 : Int) ^ 2 = 100 := by decide
  rw [p100] at b2 b4
  cases h5 : hd [58] ((bytesOf s).drop r4.2.2.i) with
  | true =>
    have g5 := hd_lt' h5
    rw [if_pos rfl, if_pos rfl, wrap_id _ (by unfold Big at hS; omega) (by unfold Big at hS; omega)]
    have hn := num_f hS ⟨r4.2.2.i + 1, r4.2.2.e, r4.2.2.sp⟩ g5 2 2 (by decide)
    dsimp only at hn
    rw [Int.natCast_succ] at hn
    rw [hn, bind_some']
    have b5 := num_lt (s := s) ⟨r4.2.2.i + 1, r4.2.2.e, r4.2.2.sp⟩ 2 2 2 (by decide)
    rw [p100] at b5
    exact j3_eq hS k nm a y mo d _ _ _ ⟨hy, hmo, hd8, ⟨by dsimp only; omega, by dsimp only; omega⟩, ⟨by dsimp only; omega, by dsimp only; omega⟩, ⟨by dsimp only; omega, by dsimp only; omega⟩⟩ _ (num_le _ g5 2 2)
  | false =>
    rw [if_neg (by decide), if_neg (by decide)]
    exact j3_eq hS k nm a y mo d _ _ _ ⟨hy, hmo, hd8, ⟨by dsimp only; omega, by dsimp only; omega⟩, ⟨by dsimp only; omega, by dsimp only; omega⟩, ⟨by dsimp only; omega, by dsimp only; omega⟩⟩ _ g4
theorem j1_eq (hS : Big s) (k : Nat) (nm a : Int) (y n mo d : Int) (hy : 0 ≤ y ∧ y < 10000) (hmo : I8' (mo + 1)) (hd8 : I8' d) (q : Q3) (hq : q.i ≤ s.size) (b : Bool) (hb : b = (decide (n = 2) && decide (y < 50))) :
    S.posthornref06_Parse.j1 (k + 5) s nm a d mo y n b s (q.i : Int) q.e q.sp = some (E5 (bytesOf s) nm a (yearR n y) (mo + 1) d q).tup := by
  rw [S.posthornref06_Parse.j1]
  unfold yearR
  cases b with
  | true =>
    have h2 := Bool.and_eq_true_iff.1 hb.symm
    rw [if_pos rfl, if_pos (show n = 2 ∧ y < 50 from ⟨of_decide_eq_true h2.1, of_decide_eq_true h2.2⟩), wrap_id _ (by omega) (by omega)]
    exact j2_eq hS k nm a _ mo d (by omega) hmo hd8 q hq
  | false =>
    rw [if_neg (show ¬ false = true by decide), if_neg (show ¬ (n = 2 ∧ y < 50) from fun hc => by rw [decide_eq_true hc.1, decide_eq_true hc.2] at hb; cases hb)]
    by_cases h4 : n < 4
    · rw [if_pos h4, if_pos h4, wrap_id _ (by omega) (by omega)]
      exact j2_eq hS k nm a _ mo d (by omega) hmo hd8 q hq
    · rw [if_neg h4, if_neg h4]
      exact j2_eq hS k nm a _ mo d (by omega) hmo hd8 q hq
theorem j0_eq (hS : Big s) (k : Nat) (nm : Int) (q : Q3) (hq : q.i ≤ s.size) :
    S.posthornref06_Parse.j0 (k + 6) s nm s (q.i : Int) q.e q.sp = some (E0 (bytesOf s) nm q).tup := by
  rw [S.posthornref06_Parse.j0, num_f hS q hq 1 2 (by decide), bind_some']
  dsimp only
  have g1 := num_le q hq 1 2
  have b1 := num_lt (s := s) q 1 2 2 (by decide)
  rw [gap_f hS _ g1, bind_some']
  dsimp only
  have g2 := gap_le _ g1 false
  rw [name_f hS _ g2 _ MOU 12 (by kernel_rfl) (by decide) (by decide), bind_some']
  dsimp only
  have g3 := name_le _ g2 MOU 12
  have b3 := name_lt (s := s) (gapR (bytesOf s) false (numR (bytesOf s) 1 2 q).2.2) MOU 12
  rw [gap_f hS _ g3, bind_some']
  dsimp only
  have g4 := gap_le _ g3 false
  rw [num_f hS _ g4 2 4 (by decide), bind_some']
  dsimp only
  unfold E0 E1 E2 E3 E4
  generalize numR (bytesOf s) 1 2 q = r1 at *
  generalize gapR (bytesOf s) false r1.2.2 = p2 at *
  generalize nameR (bytesOf s) MOU 12 p2 = r3 at *
  generalize gapR (bytesOf s) false r3.2 = p4 at *
  have g5 := num_le _ g4 2 4
  have b5 := num_lt (s := s) p4 2 4 4 (by decide)
  generalize numR (bytesOf s) 2 4 p4 = r5 at *
  rw [show (10 : Int) ^ 2 = 100 by decide] at b1
  rw [show (10 : Int) ^ 4 = 10000 by decide] at b5
  by_cases h2 : r5.2.1 = 2
  · rw [if_pos h2]
    exact j1_eq hS k nm _ _ _ _ _ b5 ⟨by omega, by omega⟩ ⟨by omega, by omega⟩ _ g5 _ (by rw [decide_eq_true h2, Bool.true_and])
  · rw [if_neg h2]
    exact j1_eq hS k nm _ _ _ _ _ b5 ⟨by omega, by omega⟩ ⟨by omega, by omega⟩ _ g5 _ (by rw [decide_eq_false h2, Bool.false_and])
theorem parse_f (hS : Big s) (k : Nat) : S.posthornref06_Parse.f (k + 6) s = some (parseP (bytesOf s)).tup := by
  rw [← refV_eq _ (bytesOf_in s)]
  unfold S.posthornref06_Parse.f refV
  have h0 := gap_f hS ⟨0, 0, 0⟩ (Nat.zero_le _) true
  dsimp only at h0
  rw [Int.natCast_zero] at h0
  rw [h0, bind_some']
  dsimp only
  have g0 := gap_le (s := s) ⟨0, 0, 0⟩ (Nat.zero_le _) true
  generalize gapR (bytesOf s) true ⟨0, 0, 0⟩ = q at *
  rw [is_f hS q g0 _ LT (by kernel_rfl) (by decide), bind_some']
  dsimp only
  unfold headR
  cases h1 : hd LT ((bytesOf s).drop q.i) with
  | false =>
    rw [if_neg (by decide), if_neg (by decide)]
    exact j0_eq hS k _ q g0
  | true =>
    rw [if_pos rfl, if_pos rfl, name_f hS q g0 _ WKU 7 (by kernel_rfl) (by decide) (by decide), bind_some']
    dsimp only
    have g2 := name_le q g0 WKU 7
    rw [mark_f hS _ g2 _ 44 (by kernel_rfl), bind_some']
    dsimp only
    have g3 := mark_le' _ g2 44
    rw [gap_f hS _ g3, bind_some']
    exact j0_eq hS k _ _ (gap_le _ g3 true)
end Go.Proofs.YtnmhkmkaklhapaaDoor.PV
namespace Go.Proofs.YtnmhkmkaklhapaaDoor.Pure
set_option linter.unusedVariables false
set_option linter.unusedSimpArgs false
open Go.RowKit Go.Proofs.YtnmhkmkaklhapaaDoorW.PrintWords Go.Proofs.YtnmhkmkaklhapaaDoor.B Go.Proofs.YtnmhkmkaklhapaaDoor.M Go.Proofs.YtnmhkmkaklhapaaDoor.Glob Go.Proofs.YtnmhkmkaklhapaaDoor.T Go.Proofs.YtnmhkmkaklhapaaDoor.MN
theorem DateParses : S.posthornlaw06_DateParses.Pure := by
  intro a0 ha
  refine ⟨6, ?_⟩
  unfold S.posthornlaw06_DateParses.f
  rw [PV.parse_f (s := a0) ha 0, bind_some']
  unfold date_Parse.f
  rw [if_pos ha, bind_some']
  generalize (parseP (bytesOf a0)).tup = t
  unfold posthornlaw06_head.f
  simp only [beq_self_eq_true, Bool.and_self, if_true, bind_some']
end Go.Proofs.YtnmhkmkaklhapaaDoor.Pure
