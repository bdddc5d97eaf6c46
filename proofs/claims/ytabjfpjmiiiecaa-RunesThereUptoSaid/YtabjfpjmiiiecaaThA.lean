/- What Puny writes Unpuny reads. -/
import Derived.Test.YtabjfpjmiiiecaaPunR
namespace Go.Proofs.Ytabjfpjmiiiecaa.PU
set_option linter.unusedVariables false
set_option linter.unusedSimpArgs false
open Go.RowKit Go.Proofs.YtabjfpjmiiiecaaW.PrintWords Go.Proofs.YtabjfpjmiiiecaaW.PrintLast Go.Proofs.YtabjfpjmiiiecaaW.PrintMore Go.Proofs.Ytabjfpjmiiiecaa.B Go.Proofs.Ytabjfpjmiiiecaa.T Go.Proofs.Ytabjfpjmiiiecaa.UN Go.Proofs.Ytabjfpjmiiiecaa.OR Go.Proofs.Ytabjfpjmiiiecaa.D
def stp (l : List Int) (a n i cnt : Int) : Int := (l.getD a.toNat 0 - n) * (cnt + 1) + (cLe l (l.getD a.toNat 0) a.toNat : Int) - i
/-- The digits of the places that are left. -/
def encT (l : List Int) : List Int → Int → Int → Int → Int → Bool → Option (List Int)
  | [], _, _, _, _, _ => some []
  | a :: t, n, i, cnt, bias, first =>
    if stp l a n i cnt > 2147483647 then none
    else (encT l t (l.getD a.toNat 0) ((cLe l (l.getD a.toNat 0) a.toNat : Int) + 1) (cnt + 1) (adaptV (stp l a n i cnt) (cnt + 1) first) false).map (digL 33 (stp l a n i cnt) 36 bias ++ ·)
theorem refP_enc (l : List Int) : ∀ (E : List Int) (n i cnt bias : Int) (first : Bool) (out : List Int), refP l E n i cnt bias first out = match encT l E n i cnt bias first with | some T => (strOfNums (out ++ T), 0) | none => ((⟨#[]⟩ : ByteArray), 52)
  | [], n, i, cnt, bias, first, out => by
    rw [refP, encT]
    show _ = (strOfNums (out ++ []), 0)
    rw [List.append_nil]
  | a :: t, n, i, cnt, bias, first, out => by
    rw [refP, encT]
    show (if stp l a n i cnt > 2147483647 then _ else _) = _
    by_cases c : stp l a n i cnt > 2147483647
    · rw [if_pos c, if_pos c]
    · rw [if_neg c, if_neg c]
      refine (refP_enc l t _ _ _ _ _ _).trans ?_
      show (match encT l t (l.getD a.toNat 0) ((cLe l (l.getD a.toNat 0) a.toNat : Int) + 1) (cnt + 1) (adaptV (stp l a n i cnt) (cnt + 1) first) false with | some T => (strOfNums (out ++ digL 33 (stp l a n i cnt) 36 bias ++ T), (0 : Int)) | none => ((⟨#[]⟩ : ByteArray), (52 : Int))) = _
      cases encT l t (l.getD a.toNat 0) ((cLe l (l.getD a.toNat 0) a.toNat : Int) + 1) (cnt + 1) (adaptV (stp l a n i cnt) (cnt + 1) first) false with
      | none => rfl
      | some T =>
        show (strOfNums (out ++ digL 33 (stp l a n i cnt) 36 bias ++ T), (0 : Int)) = (strOfNums (out ++ (digL 33 (stp l a n i cnt) 36 bias ++ T)), (0 : Int))
        rw [List.append_assoc]
theorem val_all : ∀ n : Nat, n < 36 → valV (digC (n : Int)) = ((n : Int), true) := by decide +kernel
theorem val_dig (v : Int) (h : 0 ≤ v ∧ v < 36) : valV (digC v) = (v, true) := by
  have := val_all v.toNat (by omega)
  rwa [show ((v.toNat : Nat) : Int) = v from Int.toNat_of_nonneg h.1] at this
theorem head_at (s : ByteArray) (p : Nat) (x : Int) (r : List Int) (h : (bytesOf s).drop p = x :: r) : p < s.size ∧ bt s (p : Int) = x ∧ (bytesOf s).drop (p + 1) = r := by
  have hl : ((bytesOf s).drop p).length = s.size - p := by rw [List.length_drop, bytesOf_len]
  rw [h, List.length_cons] at hl
  have hp : p < (bytesOf s).length := by rw [bytesOf_len]; omega
  rw [List.drop_eq_getElem_cons hp] at h
  injection h with h1 h2
  exact ⟨by omega, (bt_bytes s p hp).trans h1, h2⟩
theorem dig_read (s : ByteArray) (bias : Int) : ∀ (f : Nat) (q k st wt : Int) (p fuel : Nat) (rest : List Int), 0 ≤ q → q < ((2 ^ f : Nat) : Int) → 0 ≤ st → 1 ≤ wt → wt ≤ 75161927645 → st + q * wt ≤ 2147483647 → 0 ≤ k → k + 36 * (f : Int) ≤ 1000000 →
    (bytesOf s).drop p = digL (f + 1) q k bias ++ rest → (digL (f + 1) q k bias).length ≤ fuel → digP s bias fuel p st wt k = (0, st + q * wt, p + (digL (f + 1) q k bias).length) ∧ (bytesOf s).drop (p + (digL (f + 1) q k bias).length) = rest
  | f, q, k, st, wt, p, fuel, rest, h0, hq, hs0, hw0, hw1, hsum, hk0, hk1, hd, hfu => by
    have hb := bnd_in k bias
    rw [digL] at hd hfu ⊢
    generalize ht : bndV k bias = t at *
    by_cases c : q < t
    · rw [if_pos c] at hd hfu ⊢
      rw [List.singleton_append] at hd
      obtain ⟨g1, g2, g3⟩ := head_at s p _ _ hd
      cases fuel with
      | zero => simp at hfu
      | succ fuel =>
      have hqw : 0 ≤ q * wt := Int.mul_nonneg h0 (by omega)
      refine ⟨?_, by rw [List.length_singleton]; exact g3⟩
      rw [digP, if_pos g1, g2, val_dig q ⟨h0, by omega⟩, ht]
      dsimp only
      rw [if_pos rfl, wrap_id (q * wt) (by omega) (by omega), wrap_id (st + q * wt) (by omega) (by omega), if_neg (by omega), if_pos c]
      rfl
    · rw [if_neg c] at hd hfu ⊢
      rw [List.cons_append] at hd
      obtain ⟨g1, g2, g3⟩ := head_at s p _ _ hd
      cases f with
      | zero => omega
      | succ f =>
      cases fuel with
      | zero => simp at hfu
      | succ fuel =>
      have hd2 := div_le q t (by omega) hb (2 ^ f) (by rw [Nat.pow_succ] at hq; omega)
      have hm := Int.emod_nonneg (q - t) (show 36 - t ≠ 0 by omega)
      have hm2 := Int.emod_lt_of_pos (q - t) (show 0 < 36 - t by omega)
      have hdm := Int.mul_ediv_add_emod (q - t) (36 - t)
      generalize (q - t) / (36 - t) = q' at *
      generalize (q - t) % (36 - t) = m at *
      have hqe : q = (t + m) + (36 - t) * q' := by omega
      have hsp : (t + m) * wt + q' * (wt * (36 - t)) = q * wt := by
        have e := Int.add_mul (t + m) ((36 - t) * q') wt
        rw [← hqe] at e
        rw [e]
        congr 1
        ac_rfl
      have hv0 : 0 ≤ (t + m) * wt := Int.mul_nonneg (by omega) (by omega)
      have hvw : 1 * wt ≤ (t + m) * wt := Int.mul_le_mul_of_nonneg_right (by omega) (by omega)
      have hw' : 1 ≤ wt * (36 - t) := by
        have : 1 * 1 ≤ wt * (36 - t) := Int.mul_le_mul (by omega) (by omega) (by omega) (by omega)
        omega
      have hq0 : 0 ≤ q' * (wt * (36 - t)) := Int.mul_nonneg hd2.1 (by omega)
      have hwB : wt * (36 - t) ≤ 2147483647 * 35 := Int.mul_le_mul (by omega) (by omega) (by omega) (by omega)
      rw [List.length_cons] at hfu
      have ih := dig_read s bias f q' (k + 36) (st + (t + m) * wt) (wt * (36 - t)) (p + 1) fuel rest hd2.1 hd2.2 (by omega) hw' (by omega) (by omega) (by omega) (by omega) g3 (by omega)
      have hst : st + (t + m) * wt + q' * (wt * (36 - t)) = st + q * wt := by omega
      rw [hst] at ih
      rw [List.length_cons, show p + ((digL (f + 1) q' (k + 36) bias).length + 1) = p + 1 + (digL (f + 1) q' (k + 36) bias).length from by omega]
      refine ⟨?_, ih.2⟩
      rw [digP, if_pos g1, g2, val_dig (t + m) ⟨by omega, by omega⟩, ht]
      dsimp only
      rw [if_pos rfl, wrap_id ((t + m) * wt) (by omega) (by omega), wrap_id (st + (t + m) * wt) (by omega) (by omega), if_neg (by omega), if_neg (by omega), wrap_id (36 - t) (by omega) (by omega), wrap_id (wt * (36 - t)) (by omega) (by omega), wrap_id (k + 36) (by omega) (by omega)]
      exact ih.1
/-- The elements that a mask tells. -/
def selB : List Int → List Bool → List Int
  | x :: r, b :: bs => if b = true then x :: selB r bs else selB r bs
  | _, _ => []
theorem selB_len : ∀ (l : List Int) (inn : List Bool), inn.length = l.length → (selB l inn).length = inn.countP (fun b => b)
  | [], [], _ => rfl
  | x :: r, b :: bs, h => by
    have ih := selB_len r bs (by simpa using h)
    rw [selB, List.countP_cons]
    cases b with
    | true => rw [if_pos rfl, List.length_cons, ih]; simp
    | false => rw [if_neg (by decide), ih]; simp
theorem selB_all : ∀ (l : List Int) (inn : List Bool), inn.length = l.length → (∀ k, k < l.length → inn.getD k false = true) → selB l inn = l
  | [], [], _, _ => rfl
  | x :: r, b :: bs, h, ha => by
    have hb := ha 0 (by simp)
    simp at hb
    subst hb
    rw [selB, if_pos rfl, selB_all r bs (by simpa using h) (fun k hk => by have := ha (k + 1) (by simpa using hk); simpa using this)]
theorem selB_set : ∀ (l : List Int) (inn : List Bool) (a : Nat), inn.length = l.length → a < l.length → inn.getD a false = false → selB l (inn.set a true) = insL (selB l inn) ((inn.take a).countP (fun b => b)) (l.getD a 0)
  | [], _, a, _, ha, _ => by simp at ha
  | x :: r, [], a, h, _, _ => by simp at h
  | x :: r, b :: bs, 0, h, _, hf => by
    simp at hf
    subst hf
    rw [List.set_cons_zero, selB, selB, if_pos rfl, if_neg (by decide)]
    rfl
  | x :: r, b :: bs, a + 1, h, ha, hf => by
    have ih := selB_set r bs a (by simpa using h) (by simpa using ha) (by simpa using hf)
    rw [List.set_cons_succ, selB, selB, ih, List.take_succ_cons, List.countP_cons, List.getD_cons_succ]
    cases b with
    | true =>
      rw [if_pos rfl, if_pos rfl]
      unfold insL
      simp
    | false =>
      rw [if_neg (by decide), if_neg (by decide)]
      simp
theorem selB_map : ∀ (l : List Int), selB l (l.map (fun x => decide (x < 128))) = basL l
  | [] => rfl
  | x :: r => by
    have ih := selB_map r
    unfold basL at ih ⊢
    rw [List.map_cons, selB, ih, List.filter_cons]
/-- One place further. -/
theorem ri_step (l : List Int) (hl : l.length ≤ 1048576) (hv : ∀ x ∈ l, 0 ≤ x ∧ x ≤ 1114111) (p : Nat) (t : List Int) (inn : List Bool) (cnt n i : Int) (out D : List Int) (hD : D.length ≤ 33) (hI : RI l ((p : Int) :: t) inn cnt n i out) :
    p < l.length ∧ 0 ≤ stp l (p : Int) n i cnt ∧ (inn.take p).countP (fun b => b) = cLe l (l.getD p 0) p ∧ (cLe l (l.getD p 0) p : Int) ≤ cnt ∧ 0 ≤ cnt ∧ cnt ≤ 1048576 ∧ n ≤ l.getD p 0 ∧ 0 ≤ l.getD p 0 ∧ l.getD p 0 ≤ 1114111 ∧ inn.getD p false = false ∧ inn.length = l.length ∧
      RI l t (inn.set p true) (cnt + 1) (l.getD p 0) ((cLe l (l.getD p 0) p : Int) + 1) (out ++ D) := by
  have ha := hI.rng (p : Int) (by simp)
  have hp : p < l.length := by omega
  have hil := hI.len
  have egd : l.getD p 0 = l[p] := by rw [List.getD_eq_getElem?_getD, List.getElem?_eq_getElem hp]; rfl
  have hr := hv l[p] (List.getElem_mem hp)
  rw [← egd] at hr
  have hsp := List.pairwise_cons.1 hI.srt
  have hnot : ¬ (p : Int) ∈ t := fun h => by
    have := hsp.1 _ h
    unfold Lt at this
    omega
  have hin : ∀ q, q < p → inn.getD q false = decide (l.getD q 0 ≤ l.getD p 0) := by
    intro q hq
    rw [hI.isin q (by omega)]
    by_cases c : (q : Int) ∈ (p : Int) :: t
    · rw [decide_eq_false (fun h => h c)]
      rcases List.mem_cons.1 c with e | e
      · omega
      · have := hsp.1 _ e
        unfold Lt at this
        rw [Int.toNat_natCast, Int.toNat_natCast] at this
        exact (decide_eq_false (by omega)).symm
    · rw [decide_eq_true c]
      have := hI.low q (by omega) c (p : Int) (by simp)
      rw [Int.toNat_natCast] at this
      exact (decide_eq_true this).symm
  have hic := in_count l inn (l.getD p 0) hil p (by omega) hin
  have hple : (inn.take p).countP (fun b => b) ≤ inn.countP (fun b => b) := List.Sublist.countP_le (List.take_sublist _ _)
  have hcl : inn.countP (fun b => b) ≤ l.length := by rw [← hil]; exact List.countP_le_length
  have hcn := hI.ct
  have hii := hI.ic
  have hi0 := hI.i0
  have hn0 := hI.n0
  have hacc := hI.acc
  have hnx := hI.nxt _ _ rfl
  rw [Int.toNat_natCast] at hnx
  have hf : inn.getD p false = false := by rw [hI.isin p hp]; exact decide_eq_false (by simp)
  have hmul : 0 ≤ (l.getD p 0 - n) * (cnt + 1) := Int.mul_nonneg (by omega) (by omega)
  have hs0 : 0 ≤ stp l (p : Int) n i cnt := by
    unfold stp
    rw [Int.toNat_natCast]
    rcases hnx with h | ⟨h1, h2⟩
    · have : (1 : Int) * (cnt + 1) ≤ (l.getD p 0 - n) * (cnt + 1) := Int.mul_le_mul_of_nonneg_right (by omega) (by omega)
      omega
    · rw [h1] at h2
      omega
  refine ⟨hp, hs0, hic, by omega, by omega, by omega, by omega, hr.1, hr.2, hf, hil, ?_⟩
  generalize hC : cLe l (l.getD p 0) p = C at *
  refine ⟨by rw [List.length_set]; exact hil, ?_, hsp.2, fun b hb => hI.rng b (by simp [hb]), ?_, ?_, ?_, by omega, by omega, by omega, ?_⟩
  · intro q hq
    by_cases e : q = p
    · subst e
      rw [getD_set_self inn q true false (by omega)]
      exact (decide_eq_true hnot).symm
    · rw [List.getD_eq_getElem?_getD, List.getElem?_set_ne (fun h => e h.symm), ← List.getD_eq_getElem?_getD, hI.isin q hq]
      congr 1
      have : ¬ ((q : Int) = (p : Int)) := by omega
      simp [this]
  · intro q hq hqn b hb
    by_cases e : q = p
    · subst e
      have := hsp.1 b hb
      unfold Lt at this
      rw [Int.toNat_natCast] at this
      omega
    · exact hI.low q hq (by
        intro h
        rcases List.mem_cons.1 h with h | h
        · omega
        · exact hqn h) b (by simp [hb])
  · rw [count_set inn p (by omega) hf]
    omega
  · intro b t' hbt
    have hb : b ∈ t := by rw [hbt]; simp
    have h1 := hsp.1 b hb
    have hbr := hI.rng b (by simp [hb])
    unfold Lt at h1
    rw [Int.toNat_natCast] at h1
    rcases h1 with h1 | ⟨h1, h2⟩
    · exact .inl h1
    · refine .inr ⟨h1, ?_⟩
      have hm := cLe_mono l (l.getD p 0) (p + 1) b.toNat (by omega)
      have hs1 := cLe_succ l (l.getD p 0) p hp
      rw [if_pos (Int.le_refl _), hC] at hs1
      omega
  · rw [List.length_append]
    omega
theorem step_div (r n cnt C i s : Int) (h : s = (r - n) * (cnt + 1) + C - i) (hC0 : 0 ≤ C) (hC : C ≤ cnt) : (i + s) / (cnt + 1) = r - n ∧ (i + s) % (cnt + 1) = C := by
  have e : i + s = C + (r - n) * (cnt + 1) := by omega
  rw [e]
  refine ⟨?_, ?_⟩
  · rw [Int.add_mul_ediv_right _ _ (by omega), Int.ediv_eq_zero_of_lt hC0 (by omega)]
    omega
  · rw [Int.add_mul_emod_self_right, Int.emod_eq_of_lt hC0 (by omega)]
theorem dec_loop (l : List Int) (hl : l.length ≤ 1048576) (hv : ∀ x ∈ l, isV x = true) (s : ByteArray) (hs : s.size ≤ 35184372088831) : ∀ (E : List Int) (inn : List Bool) (cnt n i bias : Int) (first : Bool) (out T : List Int) (p fuel : Nat), RI l E inn cnt n i out → encT l E n i cnt bias first = some T → (bytesOf s).drop p = T → p ≤ s.size → s.size - p ≤ fuel →
    outP s fuel (selB l inn) p n i bias first = (l, 0, 0)
  | [], inn, cnt, n, i, bias, first, out, T, p, fuel, hI, hT, hd, hp, hfu => by
    have e : T = [] := (Option.some.inj hT).symm
    subst e
    have hl2 : ((bytesOf s).drop p).length = s.size - p := by rw [List.length_drop, bytesOf_len]
    rw [hd] at hl2
    have hpe : ¬ p < s.size := by
      have : ([] : List Int).length = 0 := rfl
      omega
    have hsel : selB l inn = l := selB_all l inn hI.len (fun k hk => by rw [hI.isin k hk]; simp)
    rw [hsel]
    cases fuel with
    | zero => rfl
    | succ f => rw [outP, if_neg hpe]
  | a :: t, inn, cnt, n, i, bias, first, out, T, p, fuel, hI, hT, hd, hp, hfu => by
    have hvr : ∀ x ∈ l, 0 ≤ x ∧ x ≤ 1114111 := fun x hx => isV_rng x (hv x hx)
    have ha := hI.rng a (by simp)
    obtain ⟨q, rfl⟩ : ∃ q : Nat, a = (q : Int) := ⟨a.toNat, by omega⟩
    have hdl := digL_len 33 (stp l (q : Int) n i cnt) 36 bias
    obtain ⟨hq, hs0, hic, hC, hc0, hc1, hnr, hr0, hr1, hf, hil, hR⟩ := ri_step l hl hvr q t inn cnt n i out (digL 33 (stp l (q : Int) n i cnt) 36 bias) hdl hI
    have hii := hI.ic
    have hi0 := hI.i0
    have hn0 := hI.n0
    have hct := hI.ct
    have hvq : isV (l.getD q 0) = true := by rw [List.getD_eq_getElem?_getD, List.getElem?_eq_getElem hq]; exact hv _ (List.getElem_mem hq)
    have hsel := selB_set l inn q hil hq hf
    have hlen := selB_len l inn hil
    rw [encT] at hT
    have hstp : stp l (q : Int) n i cnt = (l.getD q 0 - n) * (cnt + 1) + (cLe l (l.getD q 0) q : Int) - i := by unfold stp; rw [Int.toNat_natCast]
    rw [Int.toNat_natCast] at hT
    generalize stp l (q : Int) n i cnt = sv at *
    by_cases c : sv > 2147483647
    · rw [if_pos c] at hT; cases hT
    · rw [if_neg c] at hT
      obtain ⟨T', hT', hTe⟩ := Option.map_eq_some_iff.1 hT
      rw [hic] at hsel
      generalize cLe l (l.getD q 0) q = C at *
      generalize l.getD q 0 = r at *
      subst hTe
      have hlt : p < s.size := by
        have hl2 : ((bytesOf s).drop p).length = s.size - p := by rw [List.length_drop, bytesOf_len]
        rw [hd, List.length_append] at hl2
        have : 1 ≤ (digL 33 sv 36 bias).length := by rw [digL]; split <;> simp
        omega
      have hlD : (digL 33 sv 36 bias).length ≤ s.size := by
        have hl2 : ((bytesOf s).drop p).length = s.size - p := by rw [List.length_drop, bytesOf_len]
        rw [hd, List.length_append] at hl2
        omega
      have hrd : digP s bias s.size p 0 1 36 = (0, 0 + sv * 1, p + (digL 33 sv 36 bias).length) ∧ (bytesOf s).drop (p + (digL 33 sv 36 bias).length) = T' := dig_read s bias 32 sv 36 0 1 p s.size T' hs0 (by show sv < 4294967296; omega) (by omega) (by omega) (by omega) (by omega) (by omega) (by omega) hd hlD
      rw [Int.zero_add, Int.mul_one] at hrd
      have hdv := step_div r n cnt (C : Int) i sv hstp (by omega) hC
      have hmB : (r - n) * (cnt + 1) ≤ 1114112 * 1048577 := Int.mul_le_mul (by omega) (by omega) (by omega) (by omega)
      have hm0 : 0 ≤ (r - n) * (cnt + 1) := Int.mul_nonneg (by omega) (by omega)
      have hcnt : cntV (selB l inn) = cnt + 1 := by unfold cntV; omega
      have ew : wrap64 (i + sv) = i + sv := wrap_id _ (by omega) (by omega)
      have hn : nV (selB l inn) n i sv = r := by
        unfold nV
        rw [hcnt, ew, Int.tdiv_eq_ediv_of_nonneg (by omega), hdv.1, wrap_id (r - n) (by omega) (by omega), wrap_id _ (by omega) (by omega)]
        omega
      have hpl : plV (selB l inn) i sv = (C : Int) := by
        unfold plV
        rw [hcnt, ew, Int.tmod_eq_emod_of_nonneg (by omega), hdv.2]
      cases fuel with
      | zero => omega
      | succ fuel =>
      rw [outP, if_pos hlt, hrd.1]
      dsimp only
      rw [if_pos rfl, hn, if_pos hvq, hpl, hcnt, Int.toNat_natCast, ← hsel]
      have hle2 : p + (digL 33 sv 36 bias).length ≤ s.size := by
        have hl2 : ((bytesOf s).drop p).length = s.size - p := by rw [List.length_drop, bytesOf_len]
        rw [hd, List.length_append] at hl2
        omega
      have h1 : 1 ≤ (digL 33 sv 36 bias).length := by rw [digL]; split <;> simp
      exact dec_loop l hl hv s hs t (inn.set q true) (cnt + 1) r ((C : Int) + 1) (adaptV sv (cnt + 1) first) false _ T' _ fuel hR hT' hrd.2 hle2 (by omega)
theorem digC_nb (v : Int) : digC v ≠ 45 → True := fun _ => trivial
theorem digL_nb : ∀ (f : Nat) (q k bias : Int), 0 ≤ q → ∀ x ∈ digL f q k bias, x ≠ 45
  | 0, _, _, _, _ => fun x hx => by cases hx
  | f + 1, q, k, bias, hq => fun x hx => by
    have hb := bnd_in k bias
    rw [digL] at hx
    split at hx
    · simp at hx
      subst hx
      unfold digC
      split <;> omega
    · rename_i h1
      have hm := Int.emod_nonneg (q - bndV k bias) (show 36 - bndV k bias ≠ 0 by omega)
      rcases List.mem_cons.1 hx with rfl | hx
      · unfold digC
        split <;> omega
      · exact digL_nb f _ _ _ (Int.ediv_nonneg (by omega) (by omega)) x hx
theorem encT_in (l : List Int) (hl : l.length ≤ 1048576) (hv : ∀ x ∈ l, 0 ≤ x ∧ x ≤ 1114111) : ∀ (E : List Int) (inn : List Bool) (cnt n i bias : Int) (first : Bool) (out T : List Int), RI l E inn cnt n i out → encT l E n i cnt bias first = some T → (∀ x ∈ T, x ≠ 45) ∧ InB T ∧ T.length ≤ 33 * E.length
  | [], _, _, _, _, _, _, _, T, _, hT => by
    have e : T = [] := (Option.some.inj hT).symm
    subst e
    exact ⟨fun x hx => (by cases hx), fun x hx => (by cases hx), Nat.le_refl _⟩
  | a :: t, inn, cnt, n, i, bias, first, out, T, hI, hT => by
    have ha := hI.rng a (by simp)
    obtain ⟨q, rfl⟩ : ∃ q : Nat, a = (q : Int) := ⟨a.toNat, by omega⟩
    have hdl := digL_len 33 (stp l (q : Int) n i cnt) 36 bias
    obtain ⟨hq, hs0, hic, hC, hc0, hc1, hnr, hr0, hr1, hf, hil, hR⟩ := ri_step l hl hv q t inn cnt n i out (digL 33 (stp l (q : Int) n i cnt) 36 bias) hdl hI
    rw [encT] at hT
    rw [Int.toNat_natCast] at hT
    by_cases c : stp l (q : Int) n i cnt > 2147483647
    · rw [if_pos c] at hT; cases hT
    · rw [if_neg c] at hT
      obtain ⟨T', hT', hTe⟩ := Option.map_eq_some_iff.1 hT
      subst hTe
      have ih := encT_in l hl hv t (inn.set q true) (cnt + 1) (l.getD q 0) ((cLe l (l.getD q 0) q : Int) + 1) (adaptV (stp l (q : Int) n i cnt) (cnt + 1) first) false _ T' hR hT'
      refine ⟨fun x hx => ?_, fun x hx => ?_, ?_⟩
      · rcases List.mem_append.1 hx with hx | hx
        · exact digL_nb 33 _ _ _ hs0 x hx
        · exact ih.1 x hx
      · rcases List.mem_append.1 hx with hx | hx
        · exact digL_in 33 _ _ _ hs0 x hx
        · exact ih.2.1 x hx
      · rw [List.length_append, List.length_cons]
        have := ih.2.2
        omega
theorem last_none (s : ByteArray) : ∀ n : Nat, (∀ j : Nat, j < n → bt s (j : Int) ≠ 45) → lastV s 45 n = -1
  | 0, _ => rfl
  | n + 1, h => by rw [lastV, if_neg (h n (by omega)), last_none s n (fun j hj => h j (by omega))]
theorem last_at (s : ByteArray) (m : Nat) (hm : bt s (m : Int) = 45) : ∀ n : Nat, m < n → (∀ j : Nat, m < j → j < n → bt s (j : Int) ≠ 45) → lastV s 45 n = (m : Int)
  | 0, h, _ => by omega
  | n + 1, h, hn => by
    rw [lastV]
    by_cases e : m = n
    · subst e; rw [if_pos hm]
    · rw [if_neg (hn n (by omega) (by omega)), last_at s m hm n (by omega) (fun j h1 h2 => hn j h1 (by omega))]
theorem basic_none (L : List Int) : ∀ (n i : Nat), (∀ j, i ≤ j → j < i + n → L.getD j 0 ≤ 127) → basicV L n i = none
  | 0, _, _ => rfl
  | n + 1, i, h => by
    rw [basicV, if_neg (by have := h i (Nat.le_refl _) (by omega); omega)]
    exact basic_none L n (i + 1) (fun j h1 h2 => h j (by omega) (by omega))
/-- What Puny writes is read as it was. -/
theorem there (l : List Int) (hl : l.length ≤ 1048576) (p : ByteArray) (h : punyV l = (p, 0)) : unpunyV p = (l, 0, 0) ∧ p.size ≤ 40000000 := by
  unfold punyV at h
  by_cases ha : (l.all isV) = true
  · rw [if_pos ha, refP_enc] at h
    have hv : ∀ x ∈ l, isV x = true := List.all_eq_true.1 ha
    have hvr : ∀ x ∈ l, 0 ≤ x ∧ x ≤ 1114111 := fun x hx => isV_rng x (hv x hx)
    have hm1 : (basL l).length ≤ l.length := List.length_filter_le _ _
    have hbin : ∀ x ∈ basL l, 0 ≤ x ∧ x ≤ 127 := fun x hx => by
      unfold basL at hx
      have := List.mem_filter.1 hx
      have h1 := hvr x this.1
      have h2 := of_decide_eq_true this.2
      omega
    have hR := ri_start l hl (l.map (fun x => decide (x < 128))) (by rw [List.length_map]) (fun k hk => by
      rw [List.getD_eq_getElem?_getD, List.getElem?_map, List.getElem?_eq_getElem hk, List.getD_eq_getElem?_getD, List.getElem?_eq_getElem hk]
      simp [hk]) (by rw [← selB_len l _ (by rw [List.length_map]), selB_map])
    have hsm := selB_map l
    have hol := ordN_len l l.length
    cases hT : encT l (ordN l l.length) 128 0 ((basL l).length : Int) 72 true with
    | none => rw [hT] at h; simp at h
    | some T =>
      rw [hT] at h
      have hp : strOfNums ((basL l ++ if 0 < (basL l).length then [45] else []) ++ T) = p := by simpa using congrArg Prod.fst h
      obtain ⟨hT1, hT2, hT3⟩ := encT_in l hl hvr _ _ _ _ _ _ _ _ T hR hT
      by_cases c : 0 < (basL l).length
      · rw [if_pos c] at hp hR
        have hInB : InB (basL l ++ [45] ++ T) := fun x hx => by
          rcases List.mem_append.1 hx with hx | hx
          · rcases List.mem_append.1 hx with hx | hx
            · have := hbin x hx; omega
            · simp at hx; omega
          · exact hT2 x hx
        have hby : bytesOf p = basL l ++ [45] ++ T := by rw [← hp]; exact bytesOf_strOfNums _ hInB
        have hsz : p.size = (basL l).length + 1 + T.length := by rw [← bytesOf_len, hby]; simp; omega
        have hdrop : (bytesOf p).drop ((basL l).length + 1) = T := by rw [hby, List.drop_append_of_le_length (by simp), List.drop_of_length_le (by simp), List.nil_append]
        have htake : (bytesOf p).take (basL l).length = basL l := by rw [hby, List.append_assoc, List.take_left]
        have hbt : ∀ j, j < p.size → bt p (j : Int) = (bytesOf p).getD j 0 := fun j hj => by
          rw [bt_bytes p j (by rw [bytesOf_len]; exact hj), List.getD_eq_getElem?_getD, List.getElem?_eq_getElem (by rw [bytesOf_len]; exact hj)]; rfl
        have hlast : lastV p 45 p.size = ((basL l).length : Int) := by
          refine last_at p (basL l).length ?_ p.size (by omega) (fun j h1 h2 => ?_)
          · rw [hbt _ (by omega), hby, List.append_assoc, List.getD_eq_getElem?_getD, List.getElem?_append_right (Nat.le_refl _), Nat.sub_self]
            rfl
          · rw [hbt _ h2, hby, List.getD_eq_getElem?_getD, List.getElem?_append_right (by simp; omega)]
            have hjl : j - (basL l ++ [45]).length < T.length := by simp; omega
            rw [List.getElem?_eq_getElem hjl]
            exact hT1 _ (List.getElem_mem hjl)
        refine ⟨?_, by omega⟩
        have hbn : basicV (bytesOf p) (basL l).length 0 = none := basic_none _ _ _ (fun j h1 h2 => by
          have hj : j < (basL l).length := by omega
          rw [hby, List.append_assoc, List.getD_eq_getElem?_getD, List.getElem?_append_left hj, List.getElem?_eq_getElem hj]
          exact (hbin _ (List.getElem_mem hj)).2)
        unfold unpunyV unpV
        rw [hlast, if_pos (by omega), Int.toNat_natCast, hbn]
        dsimp only
        rw [htake]
        have hdl := dec_loop l hl hv p (by omega) (ordN l l.length) _ _ 128 0 72 true _ T ((basL l).length + 1) p.size hR hT hdrop (by omega) (by omega)
        rw [hsm] at hdl
        exact hdl
      · rw [if_neg c, List.append_nil] at hp hR
        have hb0 : basL l = [] := List.eq_nil_of_length_eq_zero (by omega)
        rw [hb0, List.nil_append] at hp
        have hby : bytesOf p = T := by rw [← hp]; exact bytesOf_strOfNums _ hT2
        have hsz : p.size = T.length := by rw [← bytesOf_len, hby]
        have hbt : ∀ j, j < p.size → bt p (j : Int) = (bytesOf p).getD j 0 := fun j hj => by
          rw [bt_bytes p j (by rw [bytesOf_len]; exact hj), List.getD_eq_getElem?_getD, List.getElem?_eq_getElem (by rw [bytesOf_len]; exact hj)]; rfl
        have hlast : lastV p 45 p.size = -1 := last_none p p.size (fun j hj => by
          rw [hbt j hj, hby, List.getD_eq_getElem?_getD, List.getElem?_eq_getElem (show j < T.length by omega)]
          exact hT1 _ (List.getElem_mem _))
        refine ⟨?_, by omega⟩
        unfold unpunyV unpV
        rw [hlast, if_neg (by omega)]
        rw [hb0] at hsm
        have hdl := dec_loop l hl hv p (by omega) (ordN l l.length) _ _ 128 0 72 true _ T 0 p.size hR hT (by rw [List.drop_zero, hby]) (Nat.zero_le _) (by omega)
        rw [hsm] at hdl
        exact hdl
  · rw [if_neg ha] at h
    simp at h
end Go.Proofs.Ytabjfpjmiiiecaa.PU
