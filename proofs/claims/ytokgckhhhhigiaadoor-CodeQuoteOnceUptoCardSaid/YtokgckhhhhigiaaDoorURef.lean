/- The reference's Unquote is Unquote. -/
import Derived.Test.YtokgckhhhhigiaaDoorUR
import Derived.Test.YtokgckhhhhigiaaDoorF5
import Derived.Test.YtokgckhhhhigiaaDoorF4
import Derived.Test.YtokgckhhhhigiaaDoorF3
import Derived.Test.YtokgckhhhhigiaaDoorF2
import Derived.Test.YtokgckhhhhigiaaDoorF1
namespace Go.Proofs.YtokgckhhhhigiaaDoor.UF
set_option linter.unusedVariables false
set_option linter.unusedSimpArgs false
open Go.RowKit Go.Proofs.YtokgckhhhhigiaaDoorW.PrintWords Go.Proofs.YtokgckhhhhigiaaDoorW.PrintMore Go.Proofs.YtokgckhhhhigiaaDoor.B Go.Proofs.YtokgckhhhhigiaaDoor.Glob Go.Proofs.YtokgckhhhhigiaaDoor.F Go.Proofs.YtokgckhhhhigiaaDoor.Q Go.Proofs.YtokgckhhhhigiaaDoor.UR

theorem str_append (xs ys : List Int) : strOfNums (xs ++ ys) = strOfNums xs ++ strOfNums ys := by
  unfold strOfNums
  ext1
  simp
theorem bytes_cut (s : ByteArray) (a b : Nat) : bytesOf (s.extract a b) = ((bytesOf s).drop a).take (b - a) := by
  unfold bytesOf
  rw [Lib.extract_data, List.map_take, List.map_drop]
theorem is4_fin : ∀ c : Fin 256, posthornref01_Is.f 30 4 (c.val : Int) = some (isB 4 (c.val : Int)) := by decide +kernel
theorem is4_ev (c : Int) (hc : 0 ≤ c ∧ c ≤ 255) : Ev (fun k => posthornref01_Is.f k 4 c) (isB 4 c) := Ev.of (posthornref01_Is.mono _ _) (k := 30) (Q.of_fin (n := 256) (p := fun c => posthornref01_Is.f 30 4 c = some (isB 4 c)) is4_fin c (by omega))
def dg (i : Nat) : Int := [48, 49, 50, 51, 52, 53, 54, 55, 56, 57, 65, 66, 67, 68, 69, 70, 97, 98, 99, 100, 101, 102].getD i 0
theorem dig_fin : ∀ i : Fin 22, posthornref01_Digit.f 60 (dg i.val) = some (hval (dg i.val)) ∧ 0 ≤ hval (dg i.val) ∧ hval (dg i.val) ≤ 15 := by decide +kernel
theorem dg_fin : ∀ c : Fin 256, isB 4 (c.val : Int) = true → ∃ i : Fin 22, dg i.val = (c.val : Int) := by decide +kernel
theorem dig_ev (c : Int) (hc : 0 ≤ c ∧ c ≤ 255) (h : isB 4 c = true) : Ev (fun k => posthornref01_Digit.f k c) (hval c) ∧ 0 ≤ hval c ∧ hval c ≤ 15 := by
  obtain ⟨i, rfl⟩ := Q.of_fin (n := 256) (p := fun c => isB 4 c = true → ∃ i : Fin 22, dg i.val = c) dg_fin c (by omega) h
  exact ⟨Ev.of (posthornref01_Digit.mono _) (k := 60) (dig_fin i).1, (dig_fin i).2⟩
theorem shown_fin : ∀ c : Fin 256, isB 12 (c.val : Int) = ((decide (33 ≤ (c.val : Int)) && decide ((c.val : Int) ≤ 126)) || blankB (c.val : Int)) := by decide +kernel
theorem shown_is (c : Int) (hc : 0 ≤ c ∧ c ≤ 255) : isB 12 c = ((decide (33 ≤ c) && decide (c ≤ 126)) || blankB c) := Q.of_fin (n := 256) (p := fun c => isB 12 c = ((decide (33 ≤ c) && decide (c ≤ 126)) || blankB c)) shown_fin c (by omega)
theorem bad_loop (u : List Int) (hu : InB u) (hs : u.length ≤ 1000) (d : Nat) : ∀ i, i + d = u.length → ∃ n : Nat, Ev (fun k => posthornref01_Bad.l0 k 4 (strOfNums u) (i : Int)) (n : Int) ∧ n ≤ u.length ∧ (n = u.length → ∀ j, i ≤ j → j < u.length → isB 4 (u.getD j 0) = true) ∧ (n < u.length → isB 4 (u.getD n 0) = false) := by
  have hz : (strOfNums u).size = u.length := strOfNums_len _
  induction d with
  | zero =>
    intro i h
    refine ⟨u.length, Ev.last fun k => ?_, Nat.le_refl _, fun _ j h1 h2 => by omega, fun h => by omega⟩
    simp only [posthornref01_Bad.l0]
    rw [hz, if_neg (by omega)]
  | succ d ih =>
    intro i h
    have hi : i < u.length := by omega
    have hc := hu _ (List.getElem_mem hi)
    have hbt : bt (strOfNums u) (i : Int) = u[i] := bt_strOfNums u hu i hi
    have hg : u.getD i 0 = u[i] := by simp [List.getD_eq_getElem?_getD, hi]
    have hw : Aside0 (wrap64 ((i : Int) + 1) = ((i + 1 : Nat) : Int)) := ⟨by rw [wrap_id _ (by omega) (by omega)]; omega⟩
    have hround : ∀ r : Int, Ev (fun k => if isB 4 u[i] = true then posthornref01_Bad.l0 k 4 (strOfNums u) ((i + 1 : Nat) : Int) else some (i : Int)) r → Ev (fun k => posthornref01_Bad.l0 k 4 (strOfNums u) (i : Int)) r := fun r he => by
      refine Ev.round (f := fun k => (posthornref01_Is.f k 4 u[i]).bind fun t => if t = true then posthornref01_Bad.l0 k 4 (strOfNums u) ((i + 1 : Nat) : Int) else some (i : Int)) (fun k => ?_) (Ev.bind (is4_ev _ hc) he)
      simp only [posthornref01_Bad.l0]
      rw [hz, if_pos (by omega), if_pos (by omega), hbt, hw.out]
    cases h4 : isB 4 u[i]
    · refine ⟨i, hround _ ?_, by omega, fun h => by omega, fun _ => by rw [hg, h4]⟩
      rw [h4]
      exact Ev.val fun k => if_neg (by decide)
    · obtain ⟨n, h1, h2, h3, h5⟩ := ih (i + 1) (by omega)
      refine ⟨n, hround _ ?_, h2, fun hn j hj1 hj2 => ?_, h5⟩
      · rw [h4]
        exact Ev.congr (fun k => if_pos rfl) h1
      · by_cases hji : j = i
        · rw [hji, hg, h4]
        · exact h3 hn j (by omega) hj2
theorem unhex_bad (u : List Int) (hu : InB u) (hl : u.length = 1 ∨ u.length = 2) (h : ¬ (u.length = 2 ∧ isB 4 (u.getD 0 0) = true ∧ isB 4 (u.getD 1 0) = true)) : ∃ p : Int, Ev (fun k => posthornref01_Unhex.f k (strOfNums u)) ([], 10, p) := by
  have hz : (strOfNums u).size = u.length := strOfNums_len _
  obtain ⟨n, h1, h2, h3, _⟩ := bad_loop u hu (by omega) u.length 0 (by omega)
  have hb : Ev (fun k => posthornref01_Bad.f k 4 (strOfNums u)) (n : Int) := h1
  refine ⟨(n : Int), ?_⟩
  unfold posthornref01_Unhex.f
  refine Ev.bind hb (Ev.last fun k => ?_)
  rw [hz]
  by_cases hn : n = u.length
  · have hall := h3 hn
    have h1' : u.length = 1 := by
      rcases hl with hl | hl
      · exact hl
      · exact absurd ⟨hl, hall 0 (by omega) (by omega), hall 1 (by omega) (by omega)⟩ h
    have hn1 : n = 1 := by omega
    subst hn1
    rw [if_neg (by omega)]
    have e : ((Int.tmod ((1 : Nat) : Int) 2) == 1) = true := by decide
    rw [e]
    simp only [posthornref01_Unhex.j0]
    rw [if_pos trivial]
  · rw [if_pos (by omega)]
    simp only [posthornref01_Unhex.j0]
    rw [if_pos trivial]
theorem unhex_good (a b : Int) (ha : 0 ≤ a ∧ a ≤ 255) (hb : 0 ≤ b ∧ b ≤ 255) (h4 : isB 4 a = true) (h5 : isB 4 b = true) : Ev (fun k => posthornref01_Unhex.f k (strOfNums [a, b])) ([16 * hval a + hval b], 0, 0) := by
  have hin : InB [a, b] := fun x hx => by
    rcases List.mem_cons.1 hx with rfl | hx
    · exact ha
    · obtain rfl := List.mem_singleton.1 hx; exact hb
  have hz : (strOfNums [a, b]).size = 2 := strOfNums_len _
  obtain ⟨n, h1, h2, h3, h6⟩ := bad_loop [a, b] hin (by simp) 2 0 rfl
  have hn : n = 2 := by
    refine Decidable.by_contra fun hne => ?_
    have hlt : n < 2 := by have : n ≤ 2 := h2; omega
    have := h6 hlt
    match n, hlt with
    | 0, _ => rw [show ([a, b] : List Int).getD 0 0 = a from rfl, h4] at this; cases this
    | 1, _ => rw [show ([a, b] : List Int).getD 1 0 = b from rfl, h5] at this; cases this
  subst hn
  have hbad : Ev (fun k => posthornref01_Bad.f k 4 (strOfNums [a, b])) 2 := h1
  obtain ⟨d1, r1, r2⟩ := dig_ev a ha h4
  obtain ⟨d2, r3, r4⟩ := dig_ev b hb h5
  have hb0 : bt (strOfNums [a, b]) 0 = a := bt_strOfNums _ hin 0 (by simp)
  have hb1 : bt (strOfNums [a, b]) 1 = b := bt_strOfNums _ hin 1 (by simp)
  have hv : wrap64 (wrap64 (16 * hval a) + hval b) % 256 = 16 * hval a + hval b := by rw [wrap_id (16 * hval a) (by omega) (by omega), wrap_id _ (by omega) (by omega)]; omega
  unfold posthornref01_Unhex.f
  have hl : Ev (fun k => posthornref01_Unhex.l0 k (strOfNums [a, b]) 2 [] 0) ([16 * hval a + hval b], 0, 0) := by
    have hend : Ev (fun k => posthornref01_Unhex.l0 k (strOfNums [a, b]) 2 [16 * hval a + hval b] 2) ([16 * hval a + hval b], 0, 0) := Ev.last fun k => by
      simp only [posthornref01_Unhex.l0]
      rw [if_neg (by decide)]
    refine Ev.round (f := fun k => (posthornref01_Digit.f k a).bind fun t => (posthornref01_Digit.f k b).bind fun t' => posthornref01_Unhex.l0 k (strOfNums [a, b]) 2 ([] ++ [(wrap64 (wrap64 (16 * t) + t')) % 256]) 2) (fun k => ?_) (Ev.bind d1 (Ev.bind d2 ?_))
    · simp only [posthornref01_Unhex.l0]
      rw [hz, hb0, if_pos (by decide), if_pos (by decide), if_pos (by decide)]
      refine congrArg _ (funext fun t => ?_)
      rw [show wrap64 ((0 : Int) + 1) = 1 by rw [wrap_id _ (by decide) (by decide)]; rfl, show wrap64 ((0 : Int) + 2) = 2 by rw [wrap_id _ (by decide) (by decide)]; rfl, if_pos (by decide), if_pos (by decide), hb1]
      refine congrArg _ (funext fun t' => ?_)
      rw [if_pos (by decide)]
    · rw [hv]
      exact hend
  have hj : Ev (fun k => posthornref01_Unhex.j0 k (strOfNums [a, b]) 2 false) ([16 * hval a + hval b], 0, 0) := by
    refine Ev.round (fun k => ?_) hl
    simp only [posthornref01_Unhex.j0]
    rw [if_neg (by decide)]
  refine Ev.bind hbad (Ev.congr (fun k => ?_) hj)
  rw [hz, if_neg (by decide), show ((Int.tmod (2 : Int) 2) == 1) = false by decide]

section
variable (t : List Int) (ht : InB t) (hs : t.length ≤ 76)
include ht hs
theorem row_loop : ∀ (n i : Nat) (out : List Int), (t.drop i).length ≤ n → i ≤ t.length → out.length ≤ i → Ev (fun k => posthornref04_row.l0 k (strOfNums t) out (i : Int)) (rowG n (t.drop i) out) := by
  have hz : (strOfNums t).size = t.length := strOfNums_len _
  have hend : ∀ (n i : Nat) (out : List Int), i = t.length → Ev (fun k => posthornref04_row.l0 k (strOfNums t) out (i : Int)) (rowG n (t.drop i) out) := by
    intro n i out h
    rw [List.drop_eq_nil_of_le (by omega)]
    refine Ev.last fun k => ?_
    simp only [posthornref04_row.l0]
    rw [hz, if_neg (by omega)]
    cases n <;> rfl
  intro n
  induction n with
  | zero => intro i out hn hi _; rw [List.length_drop] at hn; exact hend 0 i out (by omega)
  | succ n ih =>
    intro i out hn hi ho
    by_cases hie : i = t.length
    · exact hend _ i out hie
    · have hi' : i < t.length := by omega
      rw [List.length_drop] at hn
      have hd : t.drop i = t[i] :: t.drop (i + 1) := List.drop_eq_getElem_cons hi'
      obtain ⟨c, hcc⟩ : ∃ c, c = t[i] := ⟨_, rfl⟩
      have hc : 0 ≤ c ∧ c ≤ 255 := by rw [hcc]; exact ht _ (List.getElem_mem hi')
      have hbt : bt (strOfNums t) (i : Int) = c := by rw [hcc]; exact bt_strOfNums t ht i hi'
      rw [hd, ← hcc, rowG]
      have hw1 : Aside0 (wrap64 ((i : Int) + 1) = ((i + 1 : Nat) : Int)) := ⟨by rw [wrap_id _ (by omega) (by omega)]; omega⟩
      have hwl : Aside0 (wrap64 ((t.length : Int) - 1) = (t.length : Int) - 1) := ⟨wrap_id _ (by omega) (by omega)⟩
      have hlast : ((i : Int) == (t.length : Int) - 1) = decide (t.drop (i + 1) = []) := by
        by_cases h1 : i + 1 = t.length
        · rw [beq_iff_eq.2 (by omega), decide_eq_true (List.drop_eq_nil_of_le (by omega))]
        · rw [beq_eq_false_iff_ne.2 (by omega), decide_eq_false (fun h => by have := congrArg List.length h; rw [List.length_drop] at this; simp at this; omega)]
      have hl0 : ∀ r, Ev (fun k => posthornref04_row.j1 k (strOfNums t) out (i : Int) c (decide (t.drop (i + 1) = [])) (if c = 61 then decide (t.drop (i + 1) = []) else false)) r → Ev (fun k => posthornref04_row.l0 k (strOfNums t) out (i : Int)) r := fun r he => by
        refine Ev.round (fun k => ?_) he
        simp only [posthornref04_row.l0]
        rw [hz, if_pos (by omega), if_pos (by omega), hbt, hwl.out, hlast]
        split <;> rfl
      refine hl0 _ ?_
      by_cases h61 : c = 61
      · rw [if_pos h61, if_pos h61]
        by_cases hr : t.drop (i + 1) = []
        · rw [if_pos hr, decide_eq_true hr]
          refine Ev.last fun k => ?_
          simp only [posthornref04_row.j1]
          rw [if_pos trivial]
        · rw [if_neg hr, decide_eq_false hr]
          have hi1 : i + 1 < t.length := by
            refine Decidable.by_contra fun h => hr (List.drop_eq_nil_of_le (by omega))
          have hmn : Aside0 (mn (wrap64 ((i : Int) + 3)) (t.length : Int) = ((min (i + 3) t.length : Nat) : Int)) := ⟨by
            rw [wrap_id _ (by omega) (by omega)]
            unfold mn
            split <;> omega⟩
          have hex : (strOfNums t).extract (i + 1) (min (i + 3) t.length) = strOfNums ((t.drop (i + 1)).take 2) := by
            refine bytesOf_inj ?_
            rw [bytes_cut, bytesOf_strOfNums _ ht, bytesOf_strOfNums _ (fun x hx => ht x (List.mem_of_mem_drop (List.mem_of_mem_take hx)))]
            by_cases h3 : i + 3 ≤ t.length
            · rw [show min (i + 3) t.length - (i + 1) = 2 by omega]
            · rw [List.take_of_length_le (by rw [List.length_drop]; omega), List.take_of_length_le (by rw [List.length_drop]; omega)]
          have hui : InB ((t.drop (i + 1)).take 2) := fun x hx => ht x (List.mem_of_mem_drop (List.mem_of_mem_take hx))
          have hul : ((t.drop (i + 1)).take 2).length = min 2 (t.length - (i + 1)) := by rw [List.length_take, List.length_drop]
          have hj1 : ∀ r, Ev (fun k => (posthornref01_Unhex.f k (strOfNums ((t.drop (i + 1)).take 2))).bind fun b => if b.2.1 = 0 then posthornref04_row.j2 k (strOfNums t) out (i : Int) b.1 ((b.1.length : Int) != 1) else posthornref04_row.j2 k (strOfNums t) out (i : Int) b.1 true) r → Ev (fun k => posthornref04_row.j1 k (strOfNums t) out (i : Int) c false false) r := fun r he => by
            refine Ev.round (fun k => ?_) he
            simp only [posthornref04_row.j1]
            rw [if_neg (by decide), if_pos h61, hw1.out, hz, hmn.out, if_pos (by omega), if_pos (by omega), if_pos (by omega), Int.toNat_natCast, Int.toNat_natCast, hex]
          refine hj1 _ ?_
          by_cases hgood : isB 4 ((t.drop (i + 1)).headD 0) = true ∧ isB 4 (((t.drop (i + 1)).drop 1).headD 0) = true
          · rw [if_pos hgood]
            have hi2 : i + 2 < t.length := by
              refine Decidable.by_contra fun h => ?_
              have z : (t.drop (i + 1)).drop 1 = [] := by rw [List.drop_drop]; exact List.drop_eq_nil_of_le (by omega)
              rw [z] at hgood
              exact absurd hgood.2 (show ¬ isB 4 (([] : List Int).headD 0) = true by decide +kernel)
            have hd1 : t.drop (i + 1) = t[i + 1] :: t[i + 2] :: t.drop (i + 3) := by rw [List.drop_eq_getElem_cons hi1, List.drop_eq_getElem_cons hi2]
            rw [hd1] at hgood ⊢
            simp only [List.headD_cons, List.drop_succ_cons, List.drop_zero, List.take_succ_cons, List.take_zero] at hgood ⊢
            have nx := ih (i + 3) (out ++ [16 * hval t[i + 1] + hval t[i + 2]]) (by rw [List.length_drop]; omega) (by omega) (by rw [List.length_append]; simp; omega)
            have hj2 : Ev (fun k => posthornref04_row.j2 k (strOfNums t) out (i : Int) [16 * hval t[i + 1] + hval t[i + 2]] false) (rowG n (t.drop (i + 3)) (out ++ [16 * hval t[i + 1] + hval t[i + 2]])) := by
              refine Ev.round (fun k => ?_) nx
              simp only [posthornref04_row.j2]
              rw [if_neg (by decide), if_pos (by simp), if_pos (by omega)]
              have hw3 : wrap64 (wrap64 ((i : Int) + 2) + 1) = ((i + 3 : Nat) : Int) := by rw [wrap_id ((i : Int) + 2) (by omega) (by omega), wrap_id _ (by omega) (by omega)]; omega
              rw [hw3]
              rfl
            refine Ev.bind (unhex_good _ _ (ht _ (List.getElem_mem hi1)) (ht _ (List.getElem_mem hi2)) hgood.1 hgood.2) (Ev.congr (fun k => ?_) hj2)
            exact if_pos rfl
          · rw [if_neg hgood]
            obtain ⟨p, hp⟩ := unhex_bad _ hui (by omega) (fun hh => hgood (by
              have hi2 : i + 2 < t.length := by omega
              have hd1 : t.drop (i + 1) = t[i + 1] :: t[i + 2] :: t.drop (i + 3) := by rw [List.drop_eq_getElem_cons hi1, List.drop_eq_getElem_cons hi2]
              rw [hd1] at hh ⊢
              exact hh.2))
            have hj2 : Ev (fun k => posthornref04_row.j2 k (strOfNums t) out (i : Int) [] true) ([], false, false) := Ev.last fun k => by
              simp only [posthornref04_row.j2]
              rw [if_pos trivial]
            refine Ev.bind hp (Ev.congr (fun k => ?_) hj2)
            exact if_neg (show ¬ (10 : Int) = 0 by decide)
      · rw [if_neg h61, if_neg h61]
        have nx := ih (i + 1) (out ++ [c]) (by rw [List.length_drop]; omega) (by omega) (by rw [List.length_append]; simp; omega)
        have hsh := shown_is c hc
        by_cases hok : isB 12 c = true ∧ (blankB c = true → t.drop (i + 1) ≠ [])
        · rw [if_pos hok]
          refine Ev.round (fun k => ?_) nx
          simp only [posthornref04_row.j1]
          rw [if_neg (by decide), if_neg h61, hw1.out, if_pos (show out.length < 140737488355328 by omega)]
          by_cases h33 : c ≥ 33
          · rw [if_pos h33]
            by_cases h126 : c ≤ 126
            · rw [if_pos h126]
            · exfalso
              have hb : blankB c = false := by unfold blankB; rw [beq_eq_false_iff_ne.2 (by omega), beq_eq_false_iff_ne.2 (by omega)]; rfl
              rw [hsh, hb, decide_eq_false h126] at hok
              simp at hok
          · rw [if_neg h33]
            have hb : blankB c = true := by
              rw [hsh, decide_eq_false (show ¬ 33 ≤ c by omega)] at hok
              simpa using hok.1
            have hnil := hok.2 hb
            rw [decide_eq_false hnil]
            by_cases h32 : c = 32
            · rw [if_pos h32, if_neg (by decide)]
            · rw [if_neg h32]
              have h9 : c = 9 := by
                unfold blankB at hb
                rw [beq_eq_false_iff_ne.2 h32, Bool.false_or] at hb
                exact beq_iff_eq.1 hb
              rw [if_pos h9, if_neg (by decide)]
        · rw [if_neg hok]
          refine Ev.last fun k => ?_
          simp only [posthornref04_row.j1]
          rw [if_neg (by decide), if_neg h61]
          have hno33 : ¬ (33 ≤ c ∧ c ≤ 126) := fun h => hok ⟨by rw [hsh, decide_eq_true h.1, decide_eq_true h.2]; rfl, fun hb => by
            unfold blankB at hb
            rw [beq_eq_false_iff_ne.2 (by omega), beq_eq_false_iff_ne.2 (by omega)] at hb
            cases hb⟩
          have hblank : ∀ h : c = 32 ∨ c = 9, t.drop (i + 1) = [] := fun h => by
            refine Decidable.by_contra fun hne => hok ⟨?_, fun _ => hne⟩
            have hb : blankB c = true := by unfold blankB; rcases h with h | h <;> rw [h] <;> rfl
            rw [hsh, hb, Bool.or_true]
          by_cases h33 : c ≥ 33
          · rw [if_pos h33, if_neg (fun h => hno33 ⟨h33, h⟩), if_neg (by omega), if_neg (by omega)]
          · rw [if_neg h33]
            by_cases h32 : c = 32
            · rw [if_pos h32, decide_eq_true (hblank (.inl h32)), if_pos rfl]
            · rw [if_neg h32]
              by_cases h9 : c = 9
              · rw [if_pos h9, decide_eq_true (hblank (.inr h9)), if_pos rfl]
              · rw [if_neg h9]
end
theorem row_ev (t : List Int) (ht : InB t) (hs : t.length ≤ 10000000000000) : Ev (fun k => posthornref04_row.f k (strOfNums t)) (rowR t) := by
  have hz : (strOfNums t).size = t.length := strOfNums_len _
  unfold posthornref04_row.f rowR
  rw [hz]
  by_cases h : t.length > 76
  · rw [if_pos h]
    exact Ev.val fun k => if_pos (by omega)
  · rw [if_neg h]
    refine Ev.congr (fun k => if_neg (by omega)) ?_
    exact row_loop t ht (by omega) t.length 0 [] (by simp) (by omega) (by simp)
theorem goes_ev (t : List Int) (ht : InB t) (hs : t.length ≤ 1000000000000) : Ev (fun k => posthornref04_goes.f k (strOfNums t)) (goesB t) := by
  have hz : (strOfNums t).size = t.length := strOfNums_len _
  have h48 : (⟨#[48]⟩ : ByteArray) = strOfNums [48] := by decide +kernel
  have hi48 : InB (t ++ [48]) := fun x hx => by
    rcases List.mem_append.1 hx with h | h
    · exact ht x h
    · obtain rfl := List.mem_singleton.1 h; decide
  unfold posthornref04_goes.f
  refine Ev.bind (row_ev t ht (by omega)) ?_
  refine Ev.congr (fun k => if_pos (by rw [hz]; omega)) ?_
  rw [h48, ← str_append]
  refine Ev.bind (row_ev (t ++ [48]) hi48 (by rw [List.length_append]; simp; omega)) ?_
  unfold goesB
  by_cases hn : t = []
  · subst hn
    rw [decide_eq_false (fun h => h rfl), Bool.false_and, Bool.false_and, Bool.or_false]
    refine Ev.val fun k => ?_
    rw [hz, if_neg (by simp)]
    cases (rowR []).2.2 <;> cases (rowR ([] ++ [48])).2.2 <;> rfl
  · have hp : 0 < t.length := List.length_pos_iff.2 hn
    have hw : Aside0 (wrap64 ((t.length : Int) - 1) = ((t.length - 1 : Nat) : Int)) := ⟨by rw [wrap_id _ (by omega) (by omega)]; omega⟩
    have hbt : bt (strOfNums t) ((t.length - 1 : Nat) : Int) = t.getLastD 0 := by
      rw [bt_strOfNums t ht _ (by omega), List.getLastD_eq_getLast?, List.getLast?_eq_getElem?, List.getElem?_eq_getElem (by omega)]
      rfl
    rw [decide_eq_true hn, Bool.true_and]
    by_cases h13 : t.getLastD 0 = 13
    · have hex : (strOfNums t).extract 0 (t.length - 1) = strOfNums t.dropLast := by
        refine bytesOf_inj ?_
        rw [bytes_cut, bytesOf_strOfNums _ ht, bytesOf_strOfNums _ (fun x hx => ht x (List.dropLast_subset _ hx)), List.drop_zero, Nat.sub_zero, List.dropLast_eq_take]
      rw [decide_eq_true h13, Bool.true_and]
      refine Ev.congr (f := fun k => (posthornref04_row.f k (strOfNums t.dropLast)).bind fun b => if (rowR t).2.2 = true then some true else if (rowR (t ++ [48])).2.2 = true then some true else some b.2.2) (fun k => ?_) ?_
      · rw [hz, if_pos (by omega), hw.out, if_pos (by omega), if_pos (by omega), hbt, if_pos h13, if_pos (by omega), Int.toNat_natCast, hex]
      · refine Ev.bind (row_ev t.dropLast (fun x hx => ht x (List.dropLast_subset _ hx)) (by rw [List.length_dropLast]; omega)) (Ev.val fun k => ?_)
        cases (rowR t).2.2 <;> cases (rowR (t ++ [48])).2.2 <;> rfl
    · rw [decide_eq_false h13, Bool.false_and, Bool.or_false]
      refine Ev.val fun k => ?_
      rw [hz, if_pos (by omega), hw.out, if_pos (by omega), if_pos (by omega), hbt, if_neg h13]
      cases (rowR t).2.2 <;> cases (rowR (t ++ [48])).2.2 <;> rfl
theorem rowG_len : ∀ (n : Nat) (t out : List Int), (rowG n t out).1.length ≤ out.length + t.length
  | 0, t, out => by simp [rowG]
  | n + 1, [], out => by simp [rowG]
  | n + 1, c :: r, out => by
    rw [rowG, List.length_cons]
    split
    · split
      · simp
      · split
        · have := rowG_len n (r.drop 2) (out ++ [16 * hval (r.headD 0) + hval ((r.drop 1).headD 0)])
          rw [List.length_append, List.length_drop] at this
          simp only [List.length_cons, List.length_nil] at this
          omega
        · simp
    · split
      · have := rowG_len n r (out ++ [c])
        rw [List.length_append] at this
        simp only [List.length_cons, List.length_nil] at this
        omega
      · simp
theorem rowR_len (t : List Int) : (rowR t).1.length ≤ t.length := by
  unfold rowR
  split
  · simp
  · have := rowG_len t.length t []
    simpa using this

theorem rowG_soft : ∀ (n : Nat) (t out : List Int), (rowG n t out).2.2 = false → (rowG n t out).2.1 = false
  | 0, t, out, h => by simp [rowG] at h
  | n + 1, [], out, h => by simp [rowG] at h
  | n + 1, c :: r, out, h => by
    rw [rowG] at h ⊢
    by_cases h61 : c = 61
    · rw [if_pos h61] at h ⊢
      by_cases hr : r = []
      · rw [if_pos hr] at h; cases h
      · rw [if_neg hr] at h ⊢
        by_cases hg : isB 4 (r.headD 0) = true ∧ isB 4 ((r.drop 1).headD 0) = true
        · rw [if_pos hg] at h ⊢
          exact rowG_soft n _ _ h
        · rw [if_neg hg]
    · rw [if_neg h61] at h ⊢
      by_cases hg : isB 12 c = true ∧ (blankB c = true → r ≠ [])
      · rw [if_pos hg] at h ⊢
        exact rowG_soft n _ _ h
      · rw [if_neg hg]
theorem rowR_soft (t : List Int) (h : (rowR t).2.2 = false) : (rowR t).2.1 = false := by
  unfold rowR at h ⊢
  by_cases hl : t.length > 76
  · rw [if_pos hl]
  · rw [if_neg hl] at h ⊢
    exact rowG_soft _ _ _ h
theorem pre_start (o : List Int) : pre o (.p 0 false []) = .p 0 false o := by
  show S.p 0 false (o ++ []) = _
  rw [List.append_nil]

theorem cut_is (l : List Int) (hl : InB l) (a b : Nat) (hb : b ≤ l.length) : (strOfNums l).extract a b = strOfNums ((l.drop a).take (b - a)) := by
  refine bytesOf_inj ?_
  rw [bytes_cut, bytesOf_strOfNums _ hl, bytesOf_strOfNums _ (fun x hx => hl x (List.mem_of_mem_drop (List.mem_of_mem_take hx)))]
theorem take_one_more (l : List Int) (from_ i : Nat) (hi : i < l.length) (hf : from_ ≤ i) : (l.drop from_).take (i + 1 - from_) = (l.drop from_).take (i - from_) ++ [l[i]] := by
  have h1 : i - from_ < (l.drop from_).length := by rw [List.length_drop]; omega
  rw [show i + 1 - from_ = (i - from_) + 1 by omega, take_snoc _ _ h1, List.getElem_drop]
  simp only [show from_ + (i - from_) = i by omega]
section
variable (l : List Int) (hl : InB l) (hs : l.length ≤ 10000000000)
include hl hs
/-- The end: the last row. -/
theorem unq_end (from_ : Nat) (out : List Int) (st : S) (hf : from_ ≤ l.length) (ho : out.length ≤ 2 * from_) (hv : rowR (l.drop from_) = view (some st)) :
    Ev (fun k => posthornref04_Unquote.l0 k (strOfNums l) out (from_ : Int) (l.length : Int)) (UR.fin (pre out st) l.length) := by
  have hz : (strOfNums l).size = l.length := strOfNums_len _
  have hi : InB (l.drop from_) := fun x hx => hl x (List.mem_of_mem_drop hx)
  have hc := cut_is l hl from_ l.length (Nat.le_refl _)
  rw [List.take_of_length_le (by rw [List.length_drop]; omega)] at hc
  have hlen := rowR_len (l.drop from_)
  rw [List.length_drop] at hlen
  refine Ev.round (f := fun k => (posthornref04_row.f k (strOfNums (l.drop from_))).bind fun b => if b.2.1 = true then some (([] : List Int), (42 : Int), (l.length : Int)) else if b.2.2 = true then (if out.length + b.1.length < 140737488355328 then some (out ++ b.1, 0, 0) else none) else some ([], 42, (l.length : Int))) (fun k => ?_) (Ev.bind (row_ev _ hi (by rw [List.length_drop]; omega)) (Ev.val fun k => ?_))
  · simp only [posthornref04_Unquote.l0]
    rw [hz, if_neg (by omega), if_pos (by omega), if_pos (by omega), Int.toNat_natCast, hc]
  · rw [hv] at hlen ⊢
    cases st with
    | p col bl o =>
      cases bl
      · have hl2 : o.length ≤ l.length - from_ := hlen
        show (if false = true then _ else if true = true then (if out.length + o.length < 140737488355328 then some (out ++ o, (0 : Int), (0 : Int)) else none) else _) = some (out ++ o, 0, 0)
        rw [if_neg (by decide), if_pos rfl, if_pos (by omega)]
      · rfl
    | e col o => rfl
    | x col a o => rfl
    | c o => rfl
    | ec o => rfl
theorem goes_next (from_ i : Nat) (out : List Int) (b : Bool) (r : List Int × Int × Int) (hi : i < l.length) (hf : from_ ≤ i) (h13 : from_ < i → l.getD (i - 1) 0 ≠ 13) (hg : goesB ((l.drop from_).take (i + 1 - from_)) = b)
    (he : Ev (fun k => if b = true then posthornref04_Unquote.l0 k (strOfNums l) out (from_ : Int) ((i + 1 : Nat) : Int) else some ([], 42, (i : Int))) r) :
    Ev (fun k => posthornref04_Unquote.l0 k (strOfNums l) out (from_ : Int) (i : Int)) r := by
  have hz : (strOfNums l).size = l.length := strOfNums_len _
  have hw1 : Aside0 (wrap64 ((i : Int) + 1) = ((i + 1 : Nat) : Int)) := ⟨by rw [wrap_id _ (by omega) (by omega)]; omega⟩
  have hwm : Aside0 (0 < i → wrap64 ((i : Int) - 1) = ((i - 1 : Nat) : Int)) := ⟨fun h => by rw [wrap_id _ (by omega) (by omega)]; omega⟩
  have hti : InB ((l.drop from_).take (i + 1 - from_)) := fun x hx => hl x (List.mem_of_mem_drop (List.mem_of_mem_take hx))
  have htl : ((l.drop from_).take (i + 1 - from_)).length ≤ l.length := by rw [List.length_take, List.length_drop]; omega
  have hbm : 0 < i → bt (strOfNums l) ((i - 1 : Nat) : Int) = l.getD (i - 1) 0 := fun h => by
    rw [bt_strOfNums l hl _ (by omega)]
    simp [List.getD_eq_getElem?_getD, show i - 1 < l.length by omega]
  have hgo : Ev (fun k => (posthornref04_goes.f k (strOfNums ((l.drop from_).take (i + 1 - from_)))).bind fun t => if t = true then posthornref04_Unquote.l0 k (strOfNums l) out (from_ : Int) ((i + 1 : Nat) : Int) else some ([], 42, (i : Int))) r := by
    have := goes_ev _ hti (by omega)
    rw [hg] at this
    exact Ev.bind this he
  have hc := cut_is l hl from_ (i + 1) (by omega)
  have hj1 : Ev (fun k => posthornref04_Unquote.j1 k (strOfNums l) out (from_ : Int) (i : Int) false) r := by
    refine Ev.round (fun k => ?_) hgo
    simp only [posthornref04_Unquote.j1]
    rw [if_neg (by decide), hw1.out, hz]
    by_cases hfi : from_ < i
    · rw [if_pos (by omega), hwm.out (by omega), if_pos (by omega), if_pos (by omega), hbm (by omega), if_neg (h13 hfi), if_pos (by omega), if_pos (by omega), if_pos (by omega), Int.toNat_natCast, Int.toNat_natCast, hc]
    · rw [if_neg (by omega), if_pos (by omega), if_pos (by omega), if_pos (by omega), Int.toNat_natCast, Int.toNat_natCast, hc]
  refine Ev.round (fun k => ?_) hj1
  simp only [posthornref04_Unquote.l0]
  rw [hz, if_pos (by omega)]
  by_cases hfi : from_ < i
  · rw [if_pos (by omega), hwm.out (by omega), if_pos (by omega), if_pos (by omega), hbm (by omega), if_neg (h13 hfi)]
  · rw [if_neg (by omega)]
theorem unq_loop (d : Nat) : ∀ (i from_ : Nat) (out : List Int), i + d = l.length → from_ ≤ i → out.length ≤ 2 * from_ →
    (∀ st, no13 ((l.drop from_).take (i - from_)) → walk ((l.drop from_).take (i - from_)) (.p 0 false []) = some st → Ev (fun k => posthornref04_Unquote.l0 k (strOfNums l) out (from_ : Int) (i : Int)) (run (l.drop i) (pre out st) i)) ∧
    (∀ st s0, from_ < i → l.getD (i - 1) 0 = 13 → no13 ((l.drop from_).take (i - 1 - from_)) → walk ((l.drop from_).take (i - 1 - from_)) (.p 0 false []) = some s0 → UR.step s0 13 = some st → Ev (fun k => posthornref04_Unquote.l0 k (strOfNums l) out (from_ : Int) (i : Int)) (run (l.drop i) (pre out st) i)) := by
  have hz : (strOfNums l).size = l.length := strOfNums_len _
  induction d with
  | zero =>
    intro i from_ out h hf ho
    obtain rfl : i = l.length := by omega
    have hrun : ∀ st, run (l.drop l.length) (pre out st) l.length = UR.fin (pre out st) l.length := fun st => by rw [List.drop_eq_nil_of_le (Nat.le_refl _)]; rfl
    have htl : (l.drop from_).take (l.length - from_) = l.drop from_ := List.take_of_length_le (by rw [List.length_drop]; omega)
    refine ⟨fun st hno hw => ?_, fun st s0 hlt h13 hno hw hst => ?_⟩
    · rw [hrun]
      rw [htl] at hno hw
      exact unq_end l hl hs from_ out st hf ho (by rw [rowR_view _ hno, hw])
    · rw [hrun]
      have hsp : l.drop from_ = (l.drop from_).take (l.length - 1 - from_) ++ [13] := by
        have := take_one_more l from_ (l.length - 1) (by omega) (by omega)
        rw [show l.length - 1 + 1 - from_ = l.length - from_ by omega, htl] at this
        rw [this]
        congr 2
        rw [List.getD_eq_getElem?_getD, List.getElem?_eq_getElem (by omega)] at h13
        exact h13
      have hn : ¬ no13 (l.drop from_) := fun h => h 13 (by rw [hsp]; simp) rfl
      have h1 := rowR_13 _ hn
      have h2 := rowR_soft _ h1
      have hz2 : (strOfNums l).size = l.length := hz
      have hi : InB (l.drop from_) := fun x hx => hl x (List.mem_of_mem_drop hx)
      have hc := cut_is l hl from_ l.length (Nat.le_refl _)
      rw [htl] at hc
      have hfin : UR.fin (pre out st) l.length = ([], 42, (l.length : Int)) := by
        cases s0 with
        | p col bl o =>
          cases bl
          · have : UR.step (.p col false o) 13 = some (.c o) := rfl
            rw [this] at hst; obtain rfl := Option.some.inj hst; rfl
          · have : UR.step (.p col true o) 13 = none := rfl
            rw [this] at hst; cases hst
        | e col o =>
          have : UR.step (.e col o) 13 = some (.ec o) := rfl
          rw [this] at hst; obtain rfl := Option.some.inj hst; rfl
        | x col a o =>
          have : UR.step (.x col a o) 13 = none := by rw [step_x, if_neg (by decide +kernel)]
          rw [this] at hst; cases hst
        | c o =>
          have : UR.step (.c o) 13 = none := rfl
          rw [this] at hst; cases hst
        | ec o =>
          have : UR.step (.ec o) 13 = none := rfl
          rw [this] at hst; cases hst
      rw [hfin]
      refine Ev.round (f := fun k => (posthornref04_row.f k (strOfNums (l.drop from_))).bind fun b => if b.2.1 = true then some (([] : List Int), (42 : Int), (l.length : Int)) else if b.2.2 = true then (if out.length + b.1.length < 140737488355328 then some (out ++ b.1, 0, 0) else none) else some ([], 42, (l.length : Int))) (fun k => ?_) (Ev.bind (row_ev _ hi (by rw [List.length_drop]; omega)) (Ev.val fun k => ?_))
      · simp only [posthornref04_Unquote.l0]
        rw [hz, if_neg (by omega), if_pos (by omega), if_pos (by omega), Int.toNat_natCast, hc]
      · rw [h2, h1, if_neg (by decide), if_neg (by decide)]
  | succ d ih =>
    intro i from_ out h hf ho
    have hi : i < l.length := by omega
    have hd : l.drop i = l[i] :: l.drop (i + 1) := List.drop_eq_getElem_cons hi
    have ht1 := take_one_more l from_ i hi hf
    obtain ⟨c, hcc⟩ : ∃ c, c = l[i] := ⟨_, rfl⟩
    rw [← hcc] at hd ht1
    have hgi : l.getD (i + 1 - 1) 0 = c := by rw [Nat.add_sub_cancel, hcc]; simp [List.getD_eq_getElem?_getD, hi]
    obtain ⟨ih1, ih2⟩ := ih (i + 1) from_ out (by omega) (by omega) ho
    refine ⟨fun st hno hw => ?_, fun st s0 hlt h13 hno hw hst => ?_⟩
    · have h13 : from_ < i → l.getD (i - 1) 0 ≠ 13 := fun hlt => by
        refine hno _ ?_
        rw [List.getD_eq_getElem?_getD, List.getElem?_eq_getElem (by omega)]
        have := take_one_more l from_ (i - 1) (by omega) (by omega)
        rw [show i - 1 + 1 - from_ = i - from_ by omega] at this
        rw [this]
        simp
      have hgoes := goes_is _ c st hno hw
      rw [← ht1] at hgoes
      rw [hd]
      cases hs' : UR.step st c with
      | none =>
        have hsp : UR.step (pre out st) c = none := by rw [step_pre, hs']; rfl
        rw [run_none hsp]
        rw [hs'] at hgoes
        refine goes_next l hl hs from_ i out false _ hi hf h13 hgoes (Ev.val fun k => ?_)
        rw [if_neg (by decide)]
      | some st' =>
        have hsp : UR.step (pre out st) c = some (pre out st') := by rw [step_pre, hs']; rfl
        rw [run_some hsp]
        rw [hs'] at hgoes
        refine goes_next l hl hs from_ i out true _ hi hf h13 hgoes (Ev.congr (fun k => if_pos rfl) ?_)
        by_cases hc : c = 13
        · exact ih2 st' st (by omega) (by rw [hgi, hc]) (by rw [show i + 1 - 1 - from_ = i - from_ by omega]; exact hno) (by rw [show i + 1 - 1 - from_ = i - from_ by omega]; exact hw) (by rw [← hc]; exact hs')
        · refine ih1 st' (by
            rw [ht1]
            intro x hx
            rcases List.mem_append.1 hx with h | h
            · exact hno x h
            · obtain rfl := List.mem_singleton.1 h; exact hc) ?_
          rw [ht1, walk_append, hw, Option.bind_some, walk, hs']
          rfl
    · -- behind CR
      have hbm : bt (strOfNums l) ((i - 1 : Nat) : Int) = 13 := by
        rw [bt_strOfNums l hl _ (by omega)]
        rw [List.getD_eq_getElem?_getD, List.getElem?_eq_getElem (by omega)] at h13
        exact h13
      have hbi : bt (strOfNums l) (i : Int) = c := by rw [bt_strOfNums l hl _ hi, hcc]
      have hwm : Aside0 (wrap64 ((i : Int) - 1) = ((i - 1 : Nat) : Int)) := ⟨by rw [wrap_id _ (by omega) (by omega)]; omega⟩
      have hw1 : Aside0 (wrap64 ((i : Int) + 1) = ((i + 1 : Nat) : Int)) := ⟨by rw [wrap_id _ (by omega) (by omega)]; omega⟩
      have hl0 : ∀ r, Ev (fun k => posthornref04_Unquote.j1 k (strOfNums l) out (from_ : Int) (i : Int) (c == 10)) r → Ev (fun k => posthornref04_Unquote.l0 k (strOfNums l) out (from_ : Int) (i : Int)) r := fun r he => by
        refine Ev.round (fun k => ?_) he
        simp only [posthornref04_Unquote.l0]
        rw [hz, if_pos (by omega), if_pos (by omega), hwm.out, if_pos (by omega), if_pos (by omega), hbm, if_pos rfl, if_pos (by omega), hbi]
      refine hl0 _ ?_
      have hti : InB ((l.drop from_).take (i - 1 - from_)) := fun x hx => hl x (List.mem_of_mem_drop (List.mem_of_mem_take hx))
      have htl : ((l.drop from_).take (i - 1 - from_)).length = i - 1 - from_ := by rw [List.length_take, List.length_drop]; omega
      have hc1 := cut_is l hl from_ (i - 1) (by omega)
      have hrv := rowR_view _ hno
      rw [hw] at hrv
      have hlen := rowR_len ((l.drop from_).take (i - 1 - from_))
      rw [htl] at hlen
      rw [hd]
      by_cases h10 : c = 10
      · have hb10 : (c == 10) = true := beq_iff_eq.2 h10
        rw [hb10]
        -- the row is told, and the next one begins
        have hnext : ∀ o', o'.length ≤ 2 * (i + 1) → Ev (fun k => posthornref04_Unquote.l0 k (strOfNums l) o' ((i + 1 : Nat) : Int) ((i + 1 : Nat) : Int)) (run (l.drop (i + 1)) (.p 0 false o') (i + 1)) := fun o' ho' => by
          have := (ih (i + 1) (i + 1) o' (by omega) (Nat.le_refl _) ho').1 (.p 0 false []) (by rw [Nat.sub_self]; intro x hx; simp at hx) (by rw [Nat.sub_self]; rfl)
          rw [pre_start] at this
          exact this
        have hj : ∀ r, Ev (fun k => (posthornref04_row.f k (strOfNums ((l.drop from_).take (i - 1 - from_)))).bind fun b => if out.length + b.1.length < 140737488355328 then (if b.2.1 = true then posthornref04_Unquote.l0 k (strOfNums l) (out ++ b.1) ((i + 1 : Nat) : Int) ((i + 1 : Nat) : Int) else if (out ++ b.1).length + 2 < 140737488355328 then posthornref04_Unquote.l0 k (strOfNums l) (out ++ b.1 ++ [13, 10]) ((i + 1 : Nat) : Int) ((i + 1 : Nat) : Int) else none) else none) r → Ev (fun k => posthornref04_Unquote.j1 k (strOfNums l) out (from_ : Int) (i : Int) true) r := fun r he => by
          refine Ev.round (fun k => ?_) he
          simp only [posthornref04_Unquote.j1]
          rw [if_pos trivial, if_pos (by omega), hwm.out, hw1.out, hz, if_pos (by omega), if_pos (by omega), Int.toNat_natCast, Int.toNat_natCast, hc1]
          rfl
        refine hj _ ?_
        have hrow := row_ev _ hti (by omega)
        cases s0 with
        | p col bl o =>
          cases bl
          · have e1 : UR.step (.p col false o) 13 = some (.c o) := rfl
            rw [e1] at hst
            obtain rfl := Option.some.inj hst
            have hv : rowR ((l.drop from_).take (i - 1 - from_)) = (o, false, true) := hrv
            rw [hv] at hrow hlen
            have hol : o.length ≤ i - 1 - from_ := hlen
            have hsp : UR.step (pre out (.c o)) c = some (.p 0 false (out ++ o ++ [13, 10])) := if_pos h10
            rw [run_some hsp]
            refine Ev.bind hrow (Ev.congr (fun k => ?_) (hnext (out ++ o ++ [13, 10]) (by simp only [List.length_append, List.length_cons, List.length_nil]; omega)))
            show (if out.length + o.length < 140737488355328 then _ else _) = _
            rw [if_pos (by omega)]
            exact (if_neg (show ¬ (false = true) by decide)).trans (if_pos (by rw [List.length_append]; omega))
          · have e1 : UR.step (.p col true o) 13 = none := rfl
            rw [e1] at hst; cases hst
        | e col o =>
          have e1 : UR.step (.e col o) 13 = some (.ec o) := rfl
          rw [e1] at hst
          obtain rfl := Option.some.inj hst
          have hv : rowR ((l.drop from_).take (i - 1 - from_)) = (o, true, true) := hrv
          rw [hv] at hrow hlen
          have hol : o.length ≤ i - 1 - from_ := hlen
          have hsp : UR.step (pre out (.ec o)) c = some (.p 0 false (out ++ o)) := if_pos h10
          rw [run_some hsp]
          refine Ev.bind hrow (Ev.congr (fun k => ?_) (hnext (out ++ o) (by simp only [List.length_append]; omega)))
          show (if out.length + o.length < 140737488355328 then _ else _) = _
          rw [if_pos (by omega)]
          exact if_pos rfl
        | x col a o =>
          have e1 : UR.step (.x col a o) 13 = none := by rw [step_x, if_neg (by decide +kernel)]
          rw [e1] at hst; cases hst
        | c o =>
          have e1 : UR.step (.c o) 13 = none := rfl
          rw [e1] at hst; cases hst
        | ec o =>
          have e1 : UR.step (.ec o) 13 = none := rfl
          rw [e1] at hst; cases hst
      · have hb10 : (c == 10) = false := beq_eq_false_iff_ne.2 h10
        rw [hb10]
        have hsp : UR.step (pre out st) c = none := by
          cases s0 with
          | p col bl o =>
            cases bl
            · have e1 : UR.step (.p col false o) 13 = some (.c o) := rfl
              rw [e1] at hst
              obtain rfl := Option.some.inj hst
              exact if_neg h10
            · have e1 : UR.step (.p col true o) 13 = none := rfl
              rw [e1] at hst; cases hst
          | e col o =>
            have e1 : UR.step (.e col o) 13 = some (.ec o) := rfl
            rw [e1] at hst
            obtain rfl := Option.some.inj hst
            exact if_neg h10
          | x col a o =>
            have e1 : UR.step (.x col a o) 13 = none := by rw [step_x, if_neg (by decide +kernel)]
            rw [e1] at hst; cases hst
          | c o =>
            have e1 : UR.step (.c o) 13 = none := rfl
            rw [e1] at hst; cases hst
          | ec o =>
            have e1 : UR.step (.ec o) 13 = none := rfl
            rw [e1] at hst; cases hst
        rw [run_none hsp]
        refine Ev.last fun k => ?_
        simp only [posthornref04_Unquote.j1]
        rw [if_neg (by decide), if_pos (by omega), hwm.out, hz, if_pos (by omega), if_pos (by omega), hbm, if_pos rfl]
theorem refUnq_ev : Ev (fun k => posthornref04_Unquote.f k (strOfNums l)) (unq l) := by
  have := (unq_loop l hl hs l.length 0 0 [] (by omega) (by omega) (by simp)).1 (.p 0 false []) (fun x hx => by simp at hx) rfl
  rw [unq_run]
  exact this
end
end Go.Proofs.YtokgckhhhhigiaaDoor.UF
