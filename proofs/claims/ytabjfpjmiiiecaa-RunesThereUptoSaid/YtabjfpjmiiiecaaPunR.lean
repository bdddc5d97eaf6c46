/- The reference's Puny tells punyV. -/
import Derived.Test.YtabjfpjmiiiecaaT2
import Derived.Test.YtabjfpjmiiiecaaPunP
namespace Go.Proofs.Ytabjfpjmiiiecaa.PU
set_option linter.unusedVariables false
set_option linter.unusedSimpArgs false
open Go.RowKit Go.Proofs.YtabjfpjmiiiecaaW.PrintWords Go.Proofs.YtabjfpjmiiiecaaW.PrintLast Go.Proofs.YtabjfpjmiiiecaaW.PrintMore Go.Proofs.Ytabjfpjmiiiecaa.B Go.Proofs.Ytabjfpjmiiiecaa.T Go.Proofs.Ytabjfpjmiiiecaa.UN Go.Proofs.Ytabjfpjmiiiecaa.OR Go.Proofs.Ytabjfpjmiiiecaa.D
/-- How the reference stands ahead of the places E that are left. -/
structure RI (l E : List Int) (inn : List Bool) (cnt n i : Int) (out : List Int) : Prop where
  len : inn.length = l.length
  isin : ∀ k, k < l.length → inn.getD k false = decide (¬ (k : Int) ∈ E)
  srt : E.Pairwise (Lt l)
  rng : ∀ a ∈ E, 0 ≤ a ∧ a < (l.length : Int)
  low : ∀ k, k < l.length → ¬ (k : Int) ∈ E → ∀ a ∈ E, l.getD k 0 ≤ l.getD a.toNat 0
  ct : cnt = (inn.countP (fun b => b) : Int)
  nxt : ∀ a t, E = a :: t → n < l.getD a.toNat 0 ∨ (n = l.getD a.toNat 0 ∧ i ≤ (cLe l n a.toNat : Int))
  ic : i ≤ cnt + 1
  i0 : 0 ≤ i
  n0 : 0 ≤ n
  acc : (out.length : Int) ≤ 1048577 + 33 * cnt
theorem count_set (inn : List Bool) (k : Nat) (hk : k < inn.length) (h : inn.getD k false = false) : (inn.set k true).countP (fun b => b) = inn.countP (fun b => b) + 1 := by
  have e : inn[k] = false := by rw [← h, List.getD_eq_getElem?_getD, List.getElem?_eq_getElem hk]; rfl
  rw [List.countP_set hk, e]
  simp
theorem cLe_mono (l : List Int) (n : Int) (a b : Nat) (h : a ≤ b) : cLe l n a ≤ cLe l n b := by
  unfold cLe
  exact List.Sublist.countP_le (List.take_sublist_take_left h)
theorem in_count (l : List Int) (inn : List Bool) (r : Int) (hl : inn.length = l.length) : ∀ (k : Nat), k ≤ l.length → (∀ j, j < k → inn.getD j false = decide (l.getD j 0 ≤ r)) → (inn.take k).countP (fun b => b) = cLe l r k
  | 0, _, _ => by rw [List.take_zero, cLe_zero]; rfl
  | k + 1, hk, h => by
    have ih := in_count l inn r hl k (by omega) (fun j hj => h j (by omega))
    have h1 := h k (by omega)
    have e : inn.getD k false = inn[k] := by rw [List.getD_eq_getElem?_getD, List.getElem?_eq_getElem (show k < inn.length by omega)]; rfl
    rw [e] at h1
    rw [List.take_succ_eq_append_getElem (show k < inn.length by omega), List.countP_append, ih, cLe_succ l r k (by omega), List.countP_singleton, h1]
    by_cases c : l.getD k 0 ≤ r
    · rw [decide_eq_true c, if_pos c]; rfl
    · rw [decide_eq_false c, if_neg c]; rfl
theorem rl2_ev (l : List Int) (hl : l.length ≤ 1048576) (out : ByteArray) (inn : List Bool) (hil : inn.length = l.length) (cnt n i bias : Int) (first : Bool) (at' : Nat) (hat : at' < l.length) (r : Int) (hin : ∀ j, j < at' → inn.getD j false = decide (l.getD j 0 ≤ r)) (O : List Int) (ol jj : Int) (R : ByteArray × Int)
    (H : Ev (fun k => posthornref05_Puny.l2 k l out inn cnt n i bias first (at' : Int) (cLe l r at' : Int) O ol jj (at' : Int) (at' : Int)) R) :
    ∀ (d j : Nat), j + d = at' → Ev (fun k => posthornref05_Puny.l2 k l out inn cnt n i bias first (at' : Int) (cLe l r j : Int) O ol jj (at' : Int) (j : Int)) R
  | 0, j, hj => by
    obtain rfl : j = at' := by omega
    exact H
  | d + 1, j, hj => by
    have ih := rl2_ev l hl out inn hil cnt n i bias first at' hat r hin O ol jj R H d (j + 1) (by omega)
    have hh := hin j (by omega)
    have hrd : rdOf false inn (j : Int) = inn.getD j false := rfl
    have hc := cLe_succ l r j (by omega)
    have hle := cLe_le l r j
    have E7 := Aside0.mk (show wrap64 ((j : Int) + 1) = ((j + 1 : Nat) : Int) by rw [wrap_id _ (by omega) (by omega)]; rfl)
    have E6 := Aside0.mk (show wrap64 ((cLe l r j : Int) + 1) = (cLe l r j : Int) + 1 from wrap_id _ (by omega) (by omega))
    by_cases c : l.getD j 0 ≤ r
    · rw [if_pos c] at hc
      rw [decide_eq_true c] at hh
      rw [hc] at ih
      exact Ev.round (fun k => by rw [posthornref05_Puny.l2, if_pos (by omega), if_pos (by omega), if_pos (by omega), hrd, hh, if_pos rfl, E7.out, E6.out]; rfl) ih
    · rw [if_neg c] at hc
      rw [decide_eq_false c] at hh
      rw [hc] at ih
      exact Ev.round (fun k => by rw [posthornref05_Puny.l2, if_pos (by omega), if_pos (by omega), if_pos (by omega), hrd, hh, if_neg (by decide), E7.out]; rfl) ih
theorem rl1_ev (l : List Int) (hl : l.length ≤ 1048576) (hv : ∀ x ∈ l, 0 ≤ x ∧ x ≤ 1114111) (O : List Int) (hO : O.length ≤ 1048576) : ∀ (d j : Nat) (inn : List Bool) (cnt n i bias : Int) (first : Bool) (out : List Int), j + d = O.length → RI l (O.drop j) inn cnt n i out →
    Ev (fun k => posthornref05_Puny.l1 k l (strOfNums out) inn cnt n i bias first O (O.length : Int) (j : Int)) (refP l (O.drop j) n i cnt bias first out)
  | 0, j, inn, cnt, n, i, bias, first, out, hj, hI => by
    rw [List.drop_of_length_le (by omega)]
    exact Ev.last fun k => by rw [posthornref05_Puny.l1, if_neg (by omega)]; rfl
  | d + 1, j, inn, cnt, n, i, bias, first, out, hj, hI => by
    have hlt : j < O.length := by omega
    rw [List.drop_eq_getElem_cons hlt] at hI ⊢
    have hrd : rd O (j : Int) = O[j] := by unfold rd; simp [List.getD_eq_getElem?_getD, hlt]
    generalize O[j] = a at *
    have ha := hI.rng a (by simp)
    obtain ⟨p, rfl⟩ : ∃ p : Nat, a = (p : Int) := ⟨a.toNat, by omega⟩
    have hp : p < l.length := by omega
    have hil := hI.len
    have egd : l.getD p 0 = l[p] := by rw [List.getD_eq_getElem?_getD, List.getElem?_eq_getElem hp]; rfl
    have hr := hv l[p] (List.getElem_mem hp)
    rw [← egd] at hr
    have hrdp : rd l (p : Int) = l.getD p 0 := rfl
    have hsp := List.pairwise_cons.1 hI.srt
    have hnot : ¬ (p : Int) ∈ O.drop (j + 1) := fun h => by
      have := hsp.1 _ h
      unfold Lt at this
      omega
    have hin : ∀ q, q < p → inn.getD q false = decide (l.getD q 0 ≤ l.getD p 0) := by
      intro q hq
      rw [hI.isin q (by omega)]
      by_cases c : (q : Int) ∈ (p : Int) :: O.drop (j + 1)
      · rw [decide_eq_false (fun h => h c)]
        rcases List.mem_cons.1 c with e | e
        · omega
        · have := hsp.1 _ e
          unfold Lt at this
          rw [Int.toNat_natCast, Int.toNat_natCast] at this
          exact (decide_eq_false (by omega)).symm
      · rw [decide_eq_true c]
        have := hI.low q (by omega) c (p : Int) (by simp)
        rw [Int.toNat_natCast] at this
        exact (decide_eq_true this).symm
    have hic := in_count l inn (l.getD p 0) hil p (by omega) hin
    have hple : (inn.take p).countP (fun b => b) ≤ inn.countP (fun b => b) := List.Sublist.countP_le (List.take_sublist _ _)
    have hcl : inn.countP (fun b => b) ≤ l.length := by rw [← hil]; exact List.countP_le_length
    have hcn := hI.ct
    have hii := hI.ic
    have hi0 := hI.i0
    have hn0 := hI.n0
    have hacc := hI.acc
    have hnx := hI.nxt _ _ rfl
    rw [Int.toNat_natCast] at hnx
    have hcp := cLe_le l (l.getD p 0) p
    rw [refP, Int.toNat_natCast]
    generalize hC : cLe l (l.getD p 0) p = C at *
    -- the step's number
    have hmul : 0 ≤ (l.getD p 0 - n) * (cnt + 1) := Int.mul_nonneg (by omega) (by omega)
    have hmulB : (l.getD p 0 - n) * (cnt + 1) ≤ 1114112 * 1048577 := Int.mul_le_mul (by omega) (by omega) (by omega) (by omega)
    have hs0 : 0 ≤ (l.getD p 0 - n) * (cnt + 1) + (C : Int) - i := by
      rcases hnx with h | ⟨h1, h2⟩
      · have : (1 : Int) * (cnt + 1) ≤ (l.getD p 0 - n) * (cnt + 1) := Int.mul_le_mul_of_nonneg_right (by omega) (by omega)
        omega
      · rw [h1, hC] at h2
        omega
    obtain ⟨s, hs⟩ : ∃ s, (l.getD p 0 - n) * (cnt + 1) + (C : Int) - i = s := ⟨_, rfl⟩
    have ES := Aside0.mk (show wrap64 (wrap64 (wrap64 (wrap64 (wrap64 (l.getD p 0) - n) * wrap64 (cnt + 1)) + (C : Int)) - i) = s by
      rw [wrap_id (l.getD p 0) (by omega) (by omega), wrap_id (l.getD p 0 - n) (by omega) (by omega), wrap_id (cnt + 1) (by omega) (by omega), wrap_id ((l.getD p 0 - n) * (cnt + 1)) (by omega) (by omega), wrap_id ((l.getD p 0 - n) * (cnt + 1) + (C : Int)) (by omega) (by omega), wrap_id _ (by omega) (by omega)]
      exact hs)
    rw [hs] at hs0 ⊢
    have hwl : wrap64 (l.getD p 0) = l.getD p 0 := wrap_id _ (by omega) (by omega)
    have EW := Aside0.mk hwl
    have E1 := Aside0.mk (show wrap64 (cnt + 1) = cnt + 1 from wrap_id _ (by omega) (by omega))
    have E2 := Aside0.mk (show wrap64 ((C : Int) + 1) = (C : Int) + 1 from wrap_id _ (by omega) (by omega))
    have E3 := Aside0.mk (show wrap64 ((j : Int) + 1) = ((j + 1 : Nat) : Int) by rw [wrap_id _ (by omega) (by omega)]; rfl)
    clear hwl hmul hmulB
    refine Ev.round (fun k => by rw [posthornref05_Puny.l1, if_pos (by omega), if_pos (by omega), if_pos (by omega), hrd]) ?_
    have hgo : ∀ R, Ev (fun k => posthornref05_Puny.l2 k l (strOfNums out) inn cnt n i bias first (p : Int) (C : Int) O (O.length : Int) (j : Int) (p : Int) (p : Int)) R → Ev (fun k => posthornref05_Puny.l2 k l (strOfNums out) inn cnt n i bias first (p : Int) 0 O (O.length : Int) (j : Int) (p : Int) 0) R := by
      intro R H
      have h := rl2_ev l hl (strOfNums out) inn hil cnt n i bias first p hp (l.getD p 0) hin O (O.length : Int) (j : Int) R (by rw [hC]; exact H) p 0 (by omega)
      rw [cLe_zero] at h
      exact h
    refine hgo _ ?_
    by_cases c : s > 2147483647
    · rw [if_pos c]
      exact Ev.last fun k => by rw [posthornref05_Puny.l2, if_neg (by omega), if_pos (by omega), if_pos (by omega), hrdp, ES.out, if_pos c]
    · rw [if_neg c]
      have hdl := digL_len 33 s 36 bias
      have hlet := letters_ev bias 32 s 0 hs0 (by show s < 4294967296; omega) (by omega) (by omega)
      rw [show 36 * (((0 : Nat) : Int) + 1) = 36 from by omega] at hlet
      have hsz : (strOfNums out).size + (strOfNums (digL 33 s 36 bias)).size ≤ 9223372036854775807 := by rw [strOfNums_len, strOfNums_len]; omega
      have hpi : (p : Int) < (inn.length : Int) := by omega
      have ih := rl1_ev l hl hv O hO d (j + 1) (inn.set p true) (cnt + 1) (l.getD p 0) ((C : Int) + 1) (adaptV s (cnt + 1) first) false (out ++ digL 33 s 36 bias) (by omega) (by
        have hf : inn.getD p false = false := by rw [hI.isin p hp]; exact decide_eq_false (by simp)
        refine ⟨by rw [List.length_set]; exact hil, ?_, hsp.2, fun b hb => hI.rng b (by simp [hb]), ?_, ?_, ?_, by omega, by omega, by omega, ?_⟩
        · intro q hq
          by_cases e : q = p
          · subst e
            rw [getD_set_self inn q true false (by omega)]
            exact (decide_eq_true hnot).symm
          · rw [List.getD_eq_getElem?_getD, List.getElem?_set_ne (fun h => e h.symm), ← List.getD_eq_getElem?_getD, hI.isin q hq]
            congr 1
            have : ¬ ((q : Int) = (p : Int)) := by omega
            simp [this]
        · intro q hq hqn b hb
          by_cases e : q = p
          · subst e
            have := hsp.1 b hb
            unfold Lt at this
            rw [Int.toNat_natCast] at this
            omega
          · exact hI.low q hq (by
              intro h
              rcases List.mem_cons.1 h with h | h
              · omega
              · exact hqn h) b (by simp [hb])
        · rw [count_set inn p (by omega) hf]
          omega
        · intro b t hbt
          have hb : b ∈ O.drop (j + 1) := by rw [hbt]; simp
          have h1 := hsp.1 b hb
          have hbr := hI.rng b (by simp [hb])
          unfold Lt at h1
          rw [Int.toNat_natCast] at h1
          rcases h1 with h1 | ⟨h1, h2⟩
          · exact .inl h1
          · refine .inr ⟨h1, ?_⟩
            have hm := cLe_mono l (l.getD p 0) (p + 1) b.toNat (by omega)
            have hs1 := cLe_succ l (l.getD p 0) p hp
            rw [if_pos (Int.le_refl _), hC] at hs1
            omega
        · rw [List.length_append]
          omega)
      obtain ⟨K1, h1⟩ := hlet
      obtain ⟨K2, h2⟩ := bias_ev s (cnt + 1) first hs0 (by omega) (by omega)
      obtain ⟨K3, h3⟩ := ih
      refine ⟨max K1 (max K2 K3) + 1, fun k hk => ?_⟩
      obtain ⟨q, rfl⟩ : ∃ q, k = q + 1 := ⟨k - 1, by omega⟩
      have a1 := h1 q (by omega)
      have a2 := h2 q (by omega)
      have a3 := h3 q (by omega)
      dsimp only at a1 a2 a3 ⊢
      rw [posthornref05_Puny.l2, if_neg (by omega), if_pos (by omega), if_pos (by omega), hrdp, ES.out, if_neg c]
      refine (congrArg (fun z => Option.bind z _) a1).trans ?_
      rw [bind_some', if_pos hsz, if_pos hpi, E1.out, a2, bind_some', EW.out, E2.out, E3.out, Int.toNat_natCast, ← strOfNums_app]
      exact a3
theorem str_nil : (⟨#[]⟩ : ByteArray) = strOfNums [] := rfl
theorem str_bar : (⟨#[45]⟩ : ByteArray) = strOfNums [45] := rfl
theorem ri_start (l : List Int) (hl : l.length ≤ 1048576) (inn : List Bool) (hil : inn.length = l.length) (hin : ∀ k, k < l.length → inn.getD k false = decide (k < l.length ∧ l.getD k 0 < 128)) (hc : inn.countP (fun b => b) = (basL l).length) :
    RI l (ordN l l.length) inn ((basL l).length : Int) 128 0 (basL l ++ if 0 < (basL l).length then [45] else []) := by
  have hm := ord_mem l l.length (Nat.le_refl _)
  have h1 : (basL l).length ≤ l.length := List.length_filter_le _ _
  refine ⟨hil, fun k hk => ?_, ord_srt l l.length (Nat.le_refl _), fun a ha => ?_, fun k hk hn a ha => ?_, by rw [hc], fun a t hat => ?_, by omega, Int.le_refl _, by omega, ?_⟩
  · rw [hin k hk]
    by_cases c : l.getD k 0 < 128
    · rw [decide_eq_true ⟨hk, c⟩]
      have hne : ¬ (k : Int) ∈ ordN l l.length := fun h => by
        have := ((hm _).1 h).2.2
        rw [Int.toNat_natCast] at this
        omega
      exact (decide_eq_true hne).symm
    · rw [decide_eq_false (fun h => c h.2)]
      have hin2 : (k : Int) ∈ ordN l l.length := (hm _).2 ⟨by omega, by omega, by rw [Int.toNat_natCast]; omega⟩
      have hnn : ¬ ¬ (k : Int) ∈ ordN l l.length := fun h => h hin2
      exact (decide_eq_false hnn).symm
  · have := (hm a).1 ha
    exact ⟨this.1, this.2.1⟩
  · have h2 := (hm a).1 ha
    have h3 : l.getD k 0 < 128 := by
      by_cases c : l.getD k 0 < 128
      · exact c
      · exact absurd ((hm _).2 ⟨by omega, by omega, by rw [Int.toNat_natCast]; omega⟩) hn
    omega
  · have h2 := (hm a).1 (by rw [hat]; simp)
    omega
  · rw [List.length_append]
    split
    · simp; omega
    · simp; omega
theorem rl0_ev (l : List Int) (hl : l.length ≤ 1048576) (hr : ∀ x ∈ l, -2147483648 ≤ x ∧ x ≤ 2147483647) : ∀ (d i : Nat) (inn : List Bool), i + d = l.length → (∀ x ∈ l.take i, isV x = true) → inn.length = l.length →
    (∀ k, k < l.length → inn.getD k false = decide (k < i ∧ l.getD k 0 < 128)) → inn.countP (fun b => b) = (basL (l.take i)).length →
    Ev (fun k => posthornref05_Puny.l0 k l (strOfNums (basL (l.take i))) inn ((basL (l.take i)).length : Int) l (l.length : Int) (i : Int)) (punyV l)
  | 0, i, inn, hi, hv, hil, hin, hc => by
    obtain rfl : i = l.length := by omega
    rw [List.take_length] at hv hc ⊢
    have hall : (l.all isV) = true := List.all_eq_true.2 hv
    have h1 : (basL l).length ≤ l.length := List.length_filter_le _ _
    have h2 := ordN_len l l.length
    have h := rl1_ev l hl (fun x hx => isV_rng x (hv x hx)) (ordN l l.length) (by omega) (ordN l l.length).length 0 inn ((basL l).length : Int) 128 0 72 true _ (by omega) (by rw [List.drop_zero]; exact ri_start l hl inn hil hin hc)
    rw [List.drop_zero] at h
    have eo : posthornref05_order.f l = some (ordN l l.length) := if_pos (by omega)
    unfold punyV
    rw [if_pos hall]
    by_cases c : 0 < (basL l).length
    · rw [if_pos c] at h ⊢
      refine Ev.round (fun k => by rw [posthornref05_Puny.l0, if_neg (by omega), if_pos (by omega), if_pos (by rw [strOfNums_len]; omega), str_bar, ← strOfNums_app]) ?_
      exact Ev.round (fun k => by rw [posthornref05_Puny.j1, eo, bind_some']; rfl) h
    · rw [if_neg c, List.append_nil] at h ⊢
      refine Ev.round (fun k => by rw [posthornref05_Puny.l0, if_neg (by omega), if_neg (by omega)]) ?_
      exact Ev.round (fun k => by rw [posthornref05_Puny.j1, eo, bind_some']; rfl) h
  | d + 1, i, inn, hi, hv, hil, hin, hc => by
    have hlt : i < l.length := by omega
    have hrd : rd l (i : Int) = l[i] := by unfold rd; simp [List.getD_eq_getElem?_getD, hlt]
    have egd : l.getD i 0 = l[i] := by rw [List.getD_eq_getElem?_getD, List.getElem?_eq_getElem hlt]; rfl
    have hm := List.getElem_mem hlt
    have hx := hr l[i] hm
    have htk := take_snoc l i hlt
    have hbl : (basL (l.take i)).length ≤ i := Nat.le_trans (List.length_filter_le _ _) (by rw [List.length_take]; omega)
    generalize hxe : l[i] = x at *
    refine Ev.round (fun k => by rw [posthornref05_Puny.l0, if_pos (by omega), if_pos (by omega), if_pos (by omega), hrd, wrap_id x (by omega) (by omega), refIs_eq, bind_some']) ?_
    by_cases c : isV x = true
    · have hx2 := isV_rng x c
      have hv2 : ∀ y ∈ l.take (i + 1), isV y = true := by
        rw [htk]
        intro y hy
        rcases List.mem_append.1 hy with hy | hy
        · exact hv y hy
        · simp at hy; subst hy; exact c
      have E7 := Aside0.mk (show wrap64 ((i : Int) + 1) = ((i + 1 : Nat) : Int) by rw [wrap_id _ (by omega) (by omega)]; rfl)
      have E6 := Aside0.mk (show wrap64 (((basL (l.take i)).length : Int) + 1) = (((basL (l.take i)).length + 1 : Nat) : Int) by rw [wrap_id _ (by omega) (by omega)]; rfl)
      by_cases c2 : x < 128
      · have hbs : basL (l.take (i + 1)) = basL (l.take i) ++ [x] := by
          rw [htk]
          unfold basL
          rw [List.filter_append, show [x].filter (fun x => decide (x < 128)) = [x] from by simp [c2]]
        have hf : inn.getD i false = false := by rw [hin i hlt]; exact decide_eq_false (by omega)
        have ih := rl0_ev l hl hr d (i + 1) (inn.set i true) (by omega) hv2 (by rw [List.length_set]; exact hil) (by
          intro k hk
          by_cases e : k = i
          · subst e
            rw [getD_set_self inn k true false (by omega), egd]
            exact (decide_eq_true ⟨by omega, c2⟩).symm
          · rw [List.getD_eq_getElem?_getD, List.getElem?_set_ne (fun h => e h.symm), ← List.getD_eq_getElem?_getD, hin k hk]
            congr 1
            exact propext ⟨fun h => ⟨by omega, h.2⟩, fun h => ⟨by omega, h.2⟩⟩) (by rw [count_set inn i (by omega) hf, hc, hbs, List.length_append]; rfl)
        rw [hbs, List.length_append, strOfNums_app] at ih
        refine Ev.congr (fun k => ?_) ih
        rw [if_pos c, if_pos c2, bind_some', show x % 256 = x from by omega, if_pos (by rw [strOfNums_len, strOfNums_len]; simp only [List.length_singleton]; omega), if_pos (by omega), Int.toNat_natCast, E6.out, E7.out]
        rfl
      · have hbs : basL (l.take (i + 1)) = basL (l.take i) := by
          rw [htk]
          unfold basL
          rw [List.filter_append, show [x].filter (fun x => decide (x < 128)) = [] from by simp [c2], List.append_nil]
        have ih := rl0_ev l hl hr d (i + 1) inn (by omega) hv2 hil (by
          intro k hk
          rw [hin k hk]
          by_cases e : k = i
          · subst e
            rw [egd]
            exact (decide_eq_false (by omega)).trans (decide_eq_false (by omega)).symm
          · congr 1
            exact propext ⟨fun h => ⟨by omega, h.2⟩, fun h => ⟨by omega, h.2⟩⟩) (by rw [hc, hbs])
        rw [hbs] at ih
        exact Ev.congr (fun k => by rw [if_pos c, if_neg c2, E7.out]) ih
    · have hall : ¬ ((l.all isV) = true) := fun h => c (List.all_eq_true.1 h x hm)
      unfold punyV
      rw [if_neg hall]
      exact Ev.val fun k => by rw [if_neg c]
theorem refPuny_ev (l : List Int) (hl : l.length ≤ 1048576) (hr : ∀ x ∈ l, -2147483648 ≤ x ∧ x ≤ 2147483647) : Ev (fun k => posthornref05_Puny.f k l) (punyV l) := by
  have h := rl0_ev l hl hr l.length 0 (List.replicate l.length false) (by omega) (fun x hx => by cases hx) List.length_replicate (by
    intro k hk
    rw [List.getD_eq_getElem?_getD, List.getElem?_replicate, if_pos hk]
    exact (decide_eq_false (by omega)).symm) (by rw [List.countP_replicate]; rfl)
  unfold posthornref05_Puny.f
  refine Ev.congr (fun k => ?_) h
  rw [if_pos (by omega), if_pos (by omega), Int.toNat_natCast]
  rfl
end Go.Proofs.Ytabjfpjmiiiecaa.PU
