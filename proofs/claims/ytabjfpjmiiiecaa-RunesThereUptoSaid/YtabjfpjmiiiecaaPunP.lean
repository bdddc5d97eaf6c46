/- The program's Puny tells punyV. -/
import Derived.Test.YtabjfpjmiiiecaaPunA
namespace Go.Proofs.Ytabjfpjmiiiecaa.PU
set_option linter.unusedVariables false
set_option linter.unusedSimpArgs false
open Go.RowKit Go.Proofs.YtabjfpjmiiiecaaW.PrintWords Go.Proofs.YtabjfpjmiiiecaaW.PrintLast Go.Proofs.YtabjfpjmiiiecaaW.PrintMore Go.Proofs.Ytabjfpjmiiiecaa.B Go.Proofs.Ytabjfpjmiiiecaa.D Go.Proofs.Ytabjfpjmiiiecaa.UN Go.Proofs.Ytabjfpjmiiiecaa.OR
theorem l4_ev (l : List Int) (x7 n step bias done : Int) (L : List Int) (ln idx : Int) (R : ByteArray × Int) : ∀ (f : Nat) (q kk : Int) (acc : List Int), 0 ≤ q → q < ((2 ^ f : Nat) : Int) → q ≤ 4294967296 → 0 ≤ kk → kk + 36 * (f : Int) ≤ 1000000 → acc.length + f ≤ 1000000000 →
    Ev (fun k => (runes_adapt.f k step (wrap64 (done + 1)) (done == x7)).bind fun t137 => runes_Puny.l3 k l (acc ++ digL (f + 1) q kk bias) x7 n 0 t137 (wrap64 (done + 1)) L ln (wrap64 (idx + 1))) R →
    Ev (fun k => runes_Puny.l4 k l acc x7 n step bias done q kk L ln idx) R
  | f, q, kk, acc, h0, hq, hq2, hk0, hk1, ha, H => by
    have hb := bnd_in kk bias
    have hbe : runes_bound.f kk bias = some (bndV kk bias) := rfl
    rw [digL] at H
    generalize bndV kk bias = t at *
    by_cases c : q < t
    · rw [if_pos c] at H
      refine Ev.round (fun k => by rw [runes_Puny.l4, hbe, bind_some', if_pos c, digit_f q ⟨h0, by omega⟩, bind_some', if_pos (by omega)]) ?_
      exact H
    · rw [if_neg c] at H
      cases f with
      | zero => omega
      | succ f =>
      have hd := div_le q t (by omega) hb (2 ^ f) (by rw [Nat.pow_succ] at hq; omega)
      have hm := Int.emod_nonneg (q - t) (show 36 - t ≠ 0 by omega)
      have hm2 := Int.emod_lt_of_pos (q - t) (show 0 < 36 - t by omega)
      have hdle : (q - t) / (36 - t) ≤ q - t := Int.ediv_le_self _ (by omega)
      have hx := digit_f (t + (q - t) % (36 - t)) ⟨by omega, by omega⟩
      have ih := l4_ev l x7 n step bias done L ln idx R f ((q - t) / (36 - t)) (kk + 36) (acc ++ [digC (t + (q - t) % (36 - t))]) hd.1 hd.2 (by omega) (by omega) (by omega) (by rw [List.length_append]; simp; omega) (by rw [List.append_assoc, List.singleton_append]; exact H)
      have t1 : acc.length < 140737488355328 := by omega
      have t4 : ¬ (36 - t = 0) := by omega
      have E7 := Aside0.mk (show wrap64 (kk + 36) = kk + 36 from wrap_id _ (by omega) (by omega))
      have E6 := Aside0.mk (show wrap64 ((q - t) / (36 - t)) = (q - t) / (36 - t) from wrap_id _ (by omega) (by omega))
      have E5 := Aside0.mk (show wrap64 (t + (q - t) % (36 - t)) = t + (q - t) % (36 - t) from wrap_id _ (by omega) (by omega))
      have E4 := Aside0.mk (show Int.tdiv (q - t) (36 - t) = (q - t) / (36 - t) from Int.tdiv_eq_ediv_of_nonneg (by omega))
      have E3 := Aside0.mk (show Int.tmod (q - t) (36 - t) = (q - t) % (36 - t) from Int.tmod_eq_emod_of_nonneg (by omega))
      have E2 := Aside0.mk (show wrap64 (36 - t) = 36 - t from wrap_id _ (by omega) (by omega))
      have E1 := Aside0.mk (show wrap64 (q - t) = q - t from wrap_id _ (by omega) (by omega))
      exact Ev.round (fun k => by rw [runes_Puny.l4, hbe, bind_some', if_neg c, E1.out, E2.out, if_neg t4, E3.out, E5.out, hx, bind_some', if_pos t1, E4.out, E6.out, E7.out]) ih
theorem adapt_ev (st c : Int) (b : Bool) (h0 : 0 ≤ st) (h1 : st ≤ 2147483647) (hc : 1 ≤ c) : Ev (fun k => runes_adapt.f k st c b) (adaptV st c b) :=
  Ev.congr (fun k => (bias_f k st c b).symm) (bias_ev st c b h0 h1 hc)
/-- How the program stands at a level n and a place k. -/
structure Inv (l E : List Int) (n : Int) (k : Nat) (step done nr ir : Int) (first : Bool) (x7 : Int) (al : Nat) : Prop where
  rem : Rem l n k E
  dn : done = (cLe l n k : Int) + ((l.drop k).countP (fun x => decide (x < n)) : Int)
  eqn : step = n * (done + 1) + (cLe l n k : Int) - nr * (done + 1) - ir
  s0 : 0 ≤ step
  n0 : 128 ≤ n
  n1 : n ≤ 1114112
  r0 : 0 ≤ nr
  i0 : 0 ≤ ir
  fst : (done == x7) = first
  acc : (al : Int) ≤ 1048577 + 33 * done
  lo : x7 ≤ done
theorem Inv.big {l E : List Int} {n : Int} {k : Nat} {step done nr ir : Int} {first : Bool} {x7 : Int} {al : Nat} (h : Inv l E n k step done nr ir first x7 al) (hl : l.length ≤ 1048576) (hk : k ≤ l.length) : 0 ≤ done ∧ done ≤ (l.length : Int) ∧ step ≤ 1114112 * 1048577 + 1048576 := by
  have h1 := cLe_le l n k
  have h2 : (l.drop k).countP (fun x => decide (x < n)) ≤ l.length - k := by have := @List.countP_le_length _ (fun x => decide (x < n)) (l.drop k); rw [List.length_drop] at this; exact this
  have hd := h.dn
  have hd1 : done ≤ (l.length : Int) := by omega
  have hd0 : 0 ≤ done := by omega
  have e := h.eqn
  have hm : n * (done + 1) ≤ 1114112 * 1048577 := Int.mul_le_mul h.n1 (by omega) (by omega) (by omega)
  have hr : 0 ≤ nr * (done + 1) := Int.mul_nonneg h.r0 (by omega)
  have hi := h.i0
  exact ⟨hd0, hd1, by omega⟩
theorem drop_count (l : List Int) (n : Int) (k : Nat) (hk : k < l.length) : (l.drop k).countP (fun x => decide (x < n)) = (if l.getD k 0 < n then 1 else 0) + (l.drop (k + 1)).countP (fun x => decide (x < n)) := by
  have e : l.getD k 0 = l[k] := by rw [List.getD_eq_getElem?_getD, List.getElem?_eq_getElem hk]; rfl
  rw [List.drop_eq_getElem_cons hk, List.countP_cons, e]
  simp
  omega
theorem rem_head {l E : List Int} {n : Int} {k : Nat} (h : Rem l n k E) (hk : k < l.length) (he : l.getD k 0 = n) : ∃ t, E = (k : Int) :: t ∧ Rem l n (k + 1) t := by
  have hm := (h.mem (k : Int)).2 ⟨by omega, by omega, .inr ⟨by rw [Int.toNat_natCast]; exact he, by omega⟩⟩
  cases E with
  | nil => cases hm
  | cons a t =>
    have hs := List.pairwise_cons.1 h.srt
    have ha := (h.mem a).1 (by simp)
    have hak : a = (k : Int) := by
      rcases List.mem_cons.1 hm with e | e
      · exact e.symm
      · have hlt := hs.1 _ e
        unfold Lt at hlt
        rw [Int.toNat_natCast, he] at hlt
        omega
    subst hak
    refine ⟨t, rfl, hs.2, fun b => ?_⟩
    have hb := h.mem b
    constructor
    · intro hbt
      have h1 := hb.1 (by simp [hbt])
      have hlt := hs.1 b hbt
      unfold Lt at hlt
      rw [Int.toNat_natCast, he] at hlt
      refine ⟨h1.1, h1.2.1, ?_⟩
      omega
    · rintro ⟨h1, h2, h3⟩
      have h4 := hb.2 ⟨h1, h2, by omega⟩
      rcases List.mem_cons.1 h4 with e | e
      · subst e
        rw [Int.toNat_natCast] at h3
        omega
      · exact e
theorem rem_skip {l E : List Int} {n : Int} {k : Nat} (h : Rem l n k E) (he : l.getD k 0 ≠ n) : Rem l n (k + 1) E := by
  refine ⟨h.srt, fun a => ?_⟩
  rw [h.mem]
  constructor
  · rintro ⟨h1, h2, h3⟩
    refine ⟨h1, h2, ?_⟩
    by_cases e : a = (k : Int)
    · subst e
      rw [Int.toNat_natCast] at h3 ⊢
      omega
    · omega
  · rintro ⟨h1, h2, h3⟩
    exact ⟨h1, h2, by omega⟩
theorem rem_up {l E : List Int} {n : Int} (h : Rem l n l.length E) : Rem l (n + 1) 0 E := by
  refine ⟨h.srt, fun a => ?_⟩
  rw [h.mem]
  constructor
  · rintro ⟨h1, h2, h3⟩
    exact ⟨h1, h2, by omega⟩
  · rintro ⟨h1, h2, h3⟩
    exact ⟨h1, h2, by omega⟩
theorem rem_jump {l E : List Int} {n m : Int} (h : Rem l n 0 E) (hnm : n ≤ m) (hm : ∀ i, i < l.length → n ≤ l.getD i 0 → m ≤ l.getD i 0) : Rem l m 0 E := by
  refine ⟨h.srt, fun a => ?_⟩
  rw [h.mem]
  constructor
  · rintro ⟨h1, h2, h3⟩
    have := hm a.toNat (by omega) (by omega)
    exact ⟨h1, h2, by omega⟩
  · rintro ⟨h1, h2, h3⟩
    exact ⟨h1, h2, by omega⟩
theorem l3_ev (l : List Int) (hl : l.length ≤ 1048576) (hv : ∀ x ∈ l, 0 ≤ x ∧ x ≤ 1114111) (x7 n : Int) (hn1 : n ≤ 1114111)
    (IH : ∀ (E : List Int) (step bias done nr ir : Int) (first : Bool) (acc : List Int), Inv l E (n + 1) 0 step done nr ir first x7 acc.length → Ev (fun k => runes_Puny.l1 k l acc x7 (n + 1) step bias done) (refP l E nr ir done bias first acc)) :
    ∀ (d k0 : Nat) (E : List Int) (step bias done nr ir : Int) (first : Bool) (acc : List Int), k0 + d = l.length → Inv l E n k0 step done nr ir first x7 acc.length →
    Ev (fun k => runes_Puny.l3 k l acc x7 n step bias done l (l.length : Int) (k0 : Int)) (refP l E nr ir done bias first acc)
  | 0, k0, E, step, bias, done, nr, ir, first, acc, hk, hI => by
    obtain rfl : k0 = l.length := by omega
    have hbig := hI.big hl (Nat.le_refl _)
    have hn0 := hI.n0
    have e0 : (l.drop l.length).countP (fun x => decide (x < n)) = 0 := by rw [List.drop_length]; rfl
    have hdn := hI.dn
    rw [e0] at hdn
    have hup : Inv l E (n + 1) 0 (step + 1) done nr ir first x7 acc.length := by
      refine ⟨rem_up hI.rem, ?_, ?_, by have := hI.s0; omega, by omega, by omega, hI.r0, hI.i0, hI.fst, hI.acc, hI.lo⟩
      · rw [cLe_zero, List.drop_zero]
        have : l.countP (fun x => decide (x < n + 1)) = cLe l n l.length := by
          unfold cLe
          rw [List.take_length]
          exact List.countP_congr fun x _ => by simp; omega
        rw [this]
        omega
      · rw [cLe_zero]
        have e := hI.eqn
        have e2 : (n + 1) * (done + 1) = n * (done + 1) + (done + 1) := by rw [Int.add_mul, Int.one_mul]
        rw [e2]
        omega
    refine Ev.round (fun k => ?_) (IH E (step + 1) bias done nr ir first acc hup)
    rw [runes_Puny.l3, if_neg (by omega), wrap_id (n + 1) (by omega) (by omega), wrap_id (step + 1) (by have := hI.s0; omega) (by omega)]
  | d + 1, k0, E, step, bias, done, nr, ir, first, acc, hk, hI => by
    have hlo := hI.lo
    have hlt : k0 < l.length := by omega
    have hbig := hI.big hl (by omega)
    have hn0 := hI.n0
    have hs0 := hI.s0
    have hacc := hI.acc
    have egd : l.getD k0 0 = l[k0] := by rw [List.getD_eq_getElem?_getD, List.getElem?_eq_getElem hlt]; rfl
    have hrd : rd l (k0 : Int) = l.getD k0 0 := rfl
    have hr := hv l[k0] (List.getElem_mem hlt)
    rw [← egd] at hr
    have hc1 := cLe_succ l n k0 hlt
    have hdc := drop_count l n k0 hlt
    have hdn := hI.dn
    have heq := hI.eqn
    have E7 := Aside0.mk (show wrap64 ((k0 : Int) + 1) = ((k0 + 1 : Nat) : Int) by rw [wrap_id _ (by omega) (by omega)]; rfl)
    have E6 := Aside0.mk (show wrap64 (step + 1) = step + 1 from wrap_id _ (by omega) (by omega))
    have E5 := Aside0.mk (show wrap64 (l.getD k0 0) = l.getD k0 0 from wrap_id _ (by omega) (by omega))
    by_cases c1 : l.getD k0 0 < n
    · have hI2 : Inv l E n (k0 + 1) (step + 1) done nr ir first x7 acc.length := by
        rw [if_pos (by omega)] at hc1
        rw [if_pos c1] at hdc
        exact ⟨rem_skip hI.rem (by omega), by rw [hc1]; omega, by rw [hc1]; omega, by omega, hn0, hI.n1, hI.r0, hI.i0, hI.fst, hacc, hI.lo⟩
      refine Ev.round (fun k => by rw [runes_Puny.l3, if_pos (by omega), if_pos (by omega), if_pos (by omega), hrd, E5.out, if_pos c1, E6.out]) ?_
      refine Ev.round (fun k => by rw [runes_Puny.j5, E5.out, if_neg (by omega), E7.out]) ?_
      exact l3_ev l hl hv x7 n hn1 IH d (k0 + 1) E (step + 1) bias done nr ir first acc (by omega) hI2
    · by_cases c2 : l.getD k0 0 = n
      · obtain ⟨t, rfl, hR⟩ := rem_head hI.rem hlt c2
        rw [if_pos (by omega)] at hc1
        rw [if_neg (by omega)] at hdc
        have hs : (l.getD ((k0 : Int)).toNat 0 - nr) * (done + 1) + (cLe l (l.getD ((k0 : Int)).toNat 0) ((k0 : Int)).toNat : Int) - ir = step := by
          rw [Int.toNat_natCast, c2, Int.sub_mul, heq]
          omega
        rw [refP, hs]
        refine Ev.round (fun k => by rw [runes_Puny.l3, if_pos (by omega), if_pos (by omega), if_pos (by omega), hrd, E5.out, if_neg c1]) ?_
        by_cases c3 : step > 2147483647
        · rw [if_pos c3]
          exact Ev.last fun k => by rw [runes_Puny.j5, E5.out, if_pos c2, if_pos c3]
        · rw [if_neg c3]
          refine Ev.round (fun k => by rw [runes_Puny.j5, E5.out, if_pos c2, if_neg c3]) ?_
          have hdl := digL_len 33 step 36 bias
          have E8 := Aside0.mk (show wrap64 (done + 1) = done + 1 from wrap_id _ (by omega) (by omega))
          refine l4_ev l x7 n step bias done l (l.length : Int) (k0 : Int) _ 32 step 36 acc hs0 (by show step < 4294967296; omega) (by omega) (by omega) (by omega) (by omega) ?_
          rw [E8.out, hI.fst]
          refine Ev.bind (adapt_ev step (done + 1) first hs0 (by omega) (by omega)) ?_
          have hI2 : Inv l t n (k0 + 1) 0 (done + 1) n ((cLe l n k0 : Int) + 1) false x7 (acc ++ digL 33 step 36 bias).length := by
            refine ⟨hR, by rw [hc1]; omega, ?_, Int.le_refl _, hn0, hI.n1, by omega, by omega, ?_, ?_, ?_⟩
            · rw [hc1]
              generalize n * (done + 1 + 1) = A
              omega
            · exact beq_eq_false_iff_ne.2 (by omega)
            · rw [List.length_append]
              omega
            · omega
          have h3 := l3_ev l hl hv x7 n hn1 IH d (k0 + 1) t 0 (adaptV step (done + 1) first) (done + 1) n ((cLe l n k0 : Int) + 1) false (acc ++ digL 33 step 36 bias) (by omega) hI2
          rw [Int.toNat_natCast, c2, E7.out]
          exact h3
      · have hI2 : Inv l E n (k0 + 1) step done nr ir first x7 acc.length := by
          rw [if_neg (by omega)] at hc1
          rw [if_neg c1] at hdc
          exact ⟨rem_skip hI.rem c2, by rw [hc1]; omega, by rw [hc1]; omega, by omega, hn0, hI.n1, hI.r0, hI.i0, hI.fst, hacc, hI.lo⟩
        refine Ev.round (fun k => by rw [runes_Puny.l3, if_pos (by omega), if_pos (by omega), if_pos (by omega), hrd, E5.out, if_neg c1]) ?_
        refine Ev.round (fun k => by rw [runes_Puny.j5, E5.out, if_neg c2, E7.out]) ?_
        exact l3_ev l hl hv x7 n hn1 IH d (k0 + 1) E step bias done nr ir first acc (by omega) hI2
theorem l2_ev (l : List Int) (hl : l.length ≤ 1048576) (hv : ∀ x ∈ l, 0 ≤ x ∧ x ≤ 1114111) (acc : List Int) (x7 n step bias done : Int) (R : ByteArray × Int)
    (H : ∀ m, n ≤ m → m ≤ 1114112 → (∀ i, i < l.length → n ≤ l.getD i 0 → m ≤ l.getD i 0) → Ev (fun k => runes_Puny.l3 k l acc x7 m (wrap64 (step + wrap64 (wrap64 (m - n) * wrap64 (done + 1)))) bias done l (l.length : Int) 0) R) :
    ∀ (d j : Nat) (nx : Int), j + d = l.length → n ≤ nx → nx ≤ 1114112 → (∀ i, i < j → n ≤ l.getD i 0 → nx ≤ l.getD i 0) → Ev (fun k => runes_Puny.l2 k l acc x7 n step bias done nx l (l.length : Int) (j : Int)) R
  | 0, j, nx, hj, h1, h2, h3 => by
    obtain rfl : j = l.length := by omega
    exact Ev.round (fun k => by rw [runes_Puny.l2, if_neg (by omega)]) (H nx h1 h2 h3)
  | d + 1, j, nx, hj, h1, h2, h3 => by
    have hlt : j < l.length := by omega
    have egd : l.getD j 0 = l[j] := by rw [List.getD_eq_getElem?_getD, List.getElem?_eq_getElem hlt]; rfl
    have hrd : rd l (j : Int) = l.getD j 0 := rfl
    have hr := hv l[j] (List.getElem_mem hlt)
    rw [← egd] at hr
    have E7 := Aside0.mk (show wrap64 ((j : Int) + 1) = ((j + 1 : Nat) : Int) by rw [wrap_id _ (by omega) (by omega)]; rfl)
    have E5 := Aside0.mk (show wrap64 (l.getD j 0) = l.getD j 0 from wrap_id _ (by omega) (by omega))
    have step3 : ∀ nx', nx' ≤ nx → (n ≤ l.getD j 0 → nx' ≤ l.getD j 0) → ∀ i, i < j + 1 → n ≤ l.getD i 0 → nx' ≤ l.getD i 0 := by
      intro nx' hle hj' i hi hn
      by_cases e : i = j
      · subst e; exact hj' hn
      · have := h3 i (by omega) hn; omega
    by_cases c1 : l.getD j 0 ≥ n
    · by_cases c2 : l.getD j 0 < nx
      · refine Ev.round (fun k => by rw [runes_Puny.l2, if_pos (by omega), if_pos (by omega), if_pos (by omega), hrd, E5.out, if_pos c1, if_pos c2, E7.out]) ?_
        exact l2_ev l hl hv acc x7 n step bias done R H d (j + 1) (l.getD j 0) (by omega) c1 (by omega) (step3 _ (by omega) (fun _ => Int.le_refl _))
      · refine Ev.round (fun k => by rw [runes_Puny.l2, if_pos (by omega), if_pos (by omega), if_pos (by omega), hrd, E5.out, if_pos c1, if_neg c2, E7.out]) ?_
        exact l2_ev l hl hv acc x7 n step bias done R H d (j + 1) nx (by omega) h1 h2 (step3 _ (Int.le_refl _) (fun _ => by omega))
    · refine Ev.round (fun k => by rw [runes_Puny.l2, if_pos (by omega), if_pos (by omega), if_pos (by omega), hrd, E5.out, if_neg c1, E7.out]) ?_
      exact l2_ev l hl hv acc x7 n step bias done R H d (j + 1) nx (by omega) h1 h2 (step3 _ (Int.le_refl _) (fun h => absurd h (by omega)))
theorem l1_ev (l : List Int) (hl : l.length ≤ 1048576) (hv : ∀ x ∈ l, 0 ≤ x ∧ x ≤ 1114111) (x7 : Int) : ∀ (M : Nat) (n : Int) (E : List Int) (step bias done nr ir : Int) (first : Bool) (acc : List Int), 1114112 - n ≤ (M : Int) → Inv l E n 0 step done nr ir first x7 acc.length →
    Ev (fun k => runes_Puny.l1 k l acc x7 n step bias done) (refP l E nr ir done bias first acc)
  | M, n, E, step, bias, done, nr, ir, first, acc, hM, hI => by
    have hbig := hI.big hl (Nat.zero_le _)
    have hdn := hI.dn
    rw [cLe_zero, List.drop_zero] at hdn
    by_cases c : done < (l.length : Int)
    · have hex : ∃ i, i < l.length ∧ n ≤ l.getD i 0 := by
        by_cases h : ∃ i, i < l.length ∧ n ≤ l.getD i 0
        · exact h
        · exfalso
          have : l.countP (fun x => decide (x < n)) = l.length := by
            rw [List.countP_eq_length]
            intro x hxm
            obtain ⟨i, hi, rfl⟩ := List.getElem_of_mem hxm
            have e : l.getD i 0 = l[i] := by rw [List.getD_eq_getElem?_getD, List.getElem?_eq_getElem hi]; rfl
            by_cases h2 : l[i] < n
            · exact decide_eq_true h2
            · exact absurd ⟨i, hi, by rw [e]; omega⟩ h
          omega
      obtain ⟨i, hi, hni⟩ := hex
      have egd : l.getD i 0 = l[i] := by rw [List.getD_eq_getElem?_getD, List.getElem?_eq_getElem hi]; rfl
      have hvi := hv l[i] (List.getElem_mem hi)
      rw [← egd] at hvi
      cases M with
      | zero => omega
      | succ M =>
      have hn0 := hI.n0
      have hs0 := hI.s0
      have heq := hI.eqn
      rw [cLe_zero] at heq
      refine Ev.round (fun k => by rw [runes_Puny.l1, if_pos c]) ?_
      refine l2_ev l hl hv acc x7 n step bias done _ (fun m hm1 hm2 hm3 => ?_) l.length 0 1114112 (by omega) (by omega) (Int.le_refl _) (fun i hi => by omega)
      have hmi := hm3 i hi hni
      have hmul : (m - n) * (done + 1) = m * (done + 1) - n * (done + 1) := Int.sub_mul _ _ _
      have hm0 : 0 ≤ (m - n) * (done + 1) := Int.mul_nonneg (by omega) (by omega)
      have hmB : (m - n) * (done + 1) ≤ 1114112 * 1048577 := Int.mul_le_mul (by omega) (by omega) (by omega) (by omega)
      have hI2 : Inv l E m 0 (step + (m - n) * (done + 1)) done nr ir first x7 acc.length := by
        refine ⟨rem_jump hI.rem hm1 hm3, ?_, ?_, by omega, by omega, hm2, hI.r0, hI.i0, hI.fst, hI.acc, hI.lo⟩
        · rw [cLe_zero, List.drop_zero]
          have : l.countP (fun x => decide (x < m)) = l.countP (fun x => decide (x < n)) := by
            refine List.countP_congr fun x hxm => ?_
            obtain ⟨j, hj, rfl⟩ := List.getElem_of_mem hxm
            have e : l.getD j 0 = l[j] := by rw [List.getD_eq_getElem?_getD, List.getElem?_eq_getElem hj]; rfl
            have := hm3 j hj
            rw [e] at this
            simp
            omega
          rw [this]
          omega
        · rw [cLe_zero, hmul]
          omega
      have h3 := l3_ev l hl hv x7 m (by omega) (fun E' step' bias' done' nr' ir' first' acc' hI' => by
        exact l1_ev l hl hv x7 M (m + 1) E' step' bias' done' nr' ir' first' acc' (by omega) hI') l.length 0 E _ bias done nr ir first acc (by omega) hI2
      have hb2 := hI2.big hl (Nat.zero_le _)
      have hs2 := hI2.s0
      rw [wrap_id (m - n) (by omega) (by omega), wrap_id (done + 1) (by omega) (by omega), wrap_id ((m - n) * (done + 1)) (by omega) (by omega), wrap_id (step + (m - n) * (done + 1)) (by omega) (by omega)]
      exact h3
    · have hE : E = [] := by
        cases E with
        | nil => rfl
        | cons a t =>
          exfalso
          have ha := (hI.rem.mem a).1 (by simp)
          have hcl : l.countP (fun x => decide (x < n)) = l.length := by omega
          rw [List.countP_eq_length] at hcl
          have hi : a.toNat < l.length := by omega
          have egd : l.getD a.toNat 0 = l[a.toNat] := by rw [List.getD_eq_getElem?_getD, List.getElem?_eq_getElem hi]; rfl
          have := of_decide_eq_true (hcl l[a.toNat] (List.getElem_mem hi))
          omega
      subst hE
      exact Ev.last fun k => by rw [runes_Puny.l1, if_neg c]; rfl
theorem isV_rng (x : Int) (h : isV x = true) : 0 ≤ x ∧ x ≤ 1114111 := by
  unfold isV at h
  have h_ := of_decide_eq_true h
  exact ⟨h_.1, h_.2.1⟩
theorem bas_len (l : List Int) : (basL l).length = l.countP (fun x => decide (x < 128)) := by unfold basL; rw [List.countP_eq_length_filter]
theorem inv_start (l : List Int) (hl : l.length ≤ 1048576) : Inv l (ordN l l.length) 128 0 0 ((basL l).length : Int) 128 0 true ((basL l).length : Int) (basL l ++ if 0 < (basL l).length then [45] else []).length := by
  refine ⟨ord_rem l, ?_, ?_, Int.le_refl _, Int.le_refl _, by omega, by omega, Int.le_refl _, beq_self_eq_true _, ?_, Int.le_refl _⟩
  · rw [cLe_zero, List.drop_zero, bas_len]
    omega
  · rw [cLe_zero]
    omega
  · have h1 : (basL l).length ≤ l.length := List.length_filter_le _ _
    rw [List.length_append]
    split
    · simp; omega
    · simp; omega
theorem l0_ev (l : List Int) (hl : l.length ≤ 1048576) (hr : ∀ x ∈ l, -2147483648 ≤ x ∧ x ≤ 2147483647) : ∀ (d i : Nat), i + d = l.length → (∀ x ∈ l.take i, isV x = true) → Ev (fun k => runes_Puny.l0 k l (basL (l.take i)) l (l.length : Int) (i : Int)) (punyV l)
  | 0, i, hi, hv => by
    obtain rfl : i = l.length := by omega
    rw [List.take_length] at hv ⊢
    have hall : (l.all isV) = true := List.all_eq_true.2 hv
    have h1 : (basL l).length ≤ l.length := List.length_filter_le _ _
    have h := l1_ev l hl (fun x hx => isV_rng x (hv x hx)) ((basL l).length : Int) 1114112 128 (ordN l l.length) 0 72 ((basL l).length : Int) 128 0 true _ (by omega) (inv_start l hl)
    unfold punyV
    rw [if_pos hall]
    by_cases c : 0 < (basL l).length
    · rw [if_pos c] at h ⊢
      refine Ev.round (fun k => by rw [runes_Puny.l0, if_neg (by omega), if_pos (by omega), if_pos (by omega)]) ?_
      exact Ev.round (fun k => by rw [runes_Puny.j1]) h
    · rw [if_neg c, List.append_nil] at h ⊢
      refine Ev.round (fun k => by rw [runes_Puny.l0, if_neg (by omega), if_neg (by omega)]) ?_
      exact Ev.round (fun k => by rw [runes_Puny.j1]) h
  | d + 1, i, hi, hv => by
    have hlt : i < l.length := by omega
    have hrd : rd l (i : Int) = l[i] := by unfold rd; simp [List.getD_eq_getElem?_getD, hlt]
    have hm := List.getElem_mem hlt
    have hx := hr l[i] hm
    have htk := take_snoc l i hlt
    have hbl : (basL (l.take i)).length ≤ i := Nat.le_trans (List.length_filter_le _ _) (by rw [List.length_take]; omega)
    generalize hxe : l[i] = x at *
    refine Ev.round (fun k => by rw [runes_Puny.l0, if_pos (by omega), if_pos (by omega), if_pos (by omega), hrd, wrap_id x (by omega) (by omega), isV_eq, bind_some']) ?_
    by_cases c : isV x = true
    · have hx2 := isV_rng x c
      have ih := l0_ev l hl hr d (i + 1) (by omega) (by
        rw [htk]
        intro y hy
        rcases List.mem_append.1 hy with hy | hy
        · exact hv y hy
        · simp at hy; subst hy; exact c)
      have E7 := Aside0.mk (show wrap64 ((i : Int) + 1) = ((i + 1 : Nat) : Int) by rw [wrap_id _ (by omega) (by omega)]; rfl)
      rw [htk] at ih
      unfold basL at ih hbl ⊢
      rw [List.filter_append] at ih
      by_cases c2 : x < 128
      · rw [show [x].filter (fun x => decide (x < 128)) = [x] from by simp [c2]] at ih
        exact Ev.congr (fun k => by rw [if_pos c, if_pos c2, if_pos (by omega), show x % 256 = x from by omega, E7.out]) ih
      · rw [show [x].filter (fun x => decide (x < 128)) = [] from by simp [c2], List.append_nil] at ih
        exact Ev.congr (fun k => by rw [if_pos c, if_neg c2, E7.out]) ih
    · have hall : ¬ ((l.all isV) = true) := fun h => c (List.all_eq_true.1 h x hm)
      unfold punyV
      rw [if_neg hall]
      exact Ev.val fun k => by rw [if_neg c]
theorem puny_ev (l : List Int) (hl : l.length ≤ 1048576) (hr : ∀ x ∈ l, -2147483648 ≤ x ∧ x ≤ 2147483647) : Ev (fun k => runes_Puny.f k l) (punyV l) := by
  have h := l0_ev l hl hr l.length 0 (by omega) (fun x hx => by cases hx)
  exact h
end Go.Proofs.Ytabjfpjmiiiecaa.PU
