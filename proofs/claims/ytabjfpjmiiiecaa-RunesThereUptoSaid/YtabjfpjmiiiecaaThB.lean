/- What Unpuny reads Puny writes, but for capitals. -/
import Derived.Test.YtabjfpjmiiiecaaThA
import Derived.Test.YtabjfpjmiiiecaaSmall
import Derived.Test.YtabjfpjmiiiecaaRunEq
namespace Go.Proofs.Ytabjfpjmiiiecaa.PU
set_option linter.unusedVariables false
set_option linter.unusedSimpArgs false
open Go.RowKit Go.Proofs.YtabjfpjmiiiecaaW.PrintWords Go.Proofs.YtabjfpjmiiiecaaW.PrintLast Go.Proofs.YtabjfpjmiiiecaaW.PrintMore Go.Proofs.Ytabjfpjmiiiecaa.B Go.Proofs.Ytabjfpjmiiiecaa.T Go.Proofs.Ytabjfpjmiiiecaa.UN Go.Proofs.Ytabjfpjmiiiecaa.OR Go.Proofs.Ytabjfpjmiiiecaa.D Go.Proofs.Ytabjfpjmiiiecaa.SM
theorem low_all : ∀ n : Nat, n < 256 → (valV (n : Int)).2 = true → digC (valV (n : Int)).1 = lowC (n : Int) := by decide +kernel
theorem low_val (b v : Int) (h : 0 ≤ b ∧ b ≤ 255) (hv : valV b = (v, true)) : digC v = lowC b := by
  have := low_all b.toNat (by omega)
  rw [show ((b.toNat : Nat) : Int) = b from Int.toNat_of_nonneg h.1, hv] at this
  exact this rfl
theorem dig_write (s : ByteArray) (bias : Int) : ∀ (fuel p : Nat) (st wt k st' : Int) (p' : Nat), digP s bias fuel p st wt k = (0, st', p') → p ≤ s.size → 0 ≤ st → st ≤ 2147483647 → 1 ≤ wt → wt ≤ 75161927645 → 0 ≤ k → k + 36 * (fuel : Int) ≤ 4611686018427387904 →
    ∃ q, 0 ≤ q ∧ st' = st + q * wt ∧ p < p' ∧ p' ≤ s.size ∧ ∀ F : Nat, q < ((2 ^ F : Nat) : Int) → digL (F + 1) q k bias = (((bytesOf s).drop p).take (p' - p)).map lowC
  | 0, p, st, wt, k, st', p', h, _, _, _, _, _, _, _ => by simp [digP] at h
  | fuel + 1, p, st, wt, k, st', p', h, hp, h0, h1, h2, h3, hk0, hk1 => by
    rw [digP] at h
    have hv := valV_in (bt s (p : Int))
    have hb := bnd_in k bias
    have hr := bt_range s (p : Int)
    by_cases c1 : p < s.size
    · rw [if_pos c1] at h
      have hpl : p < (bytesOf s).length := by rw [bytesOf_len]; exact c1
      have hbt := bt_bytes s p hpl
      have hdr := List.drop_eq_getElem_cons hpl
      rw [← hbt] at hdr
      have hlv := low_val (bt s (p : Int))
      have hdl : ∀ F q, digL (F + 1) q k bias = if q < bndV k bias then [digC q] else digC (bndV k bias + (q - bndV k bias) % (36 - bndV k bias)) :: digL F ((q - bndV k bias) / (36 - bndV k bias)) (k + 36) bias := fun F q => rfl
      generalize bndV k bias = t at *
      generalize bt s (p : Int) = c at *
      generalize hvc : valV c = vc at *
      obtain ⟨v, b⟩ := vc
      dsimp only at hv h
      cases b with
      | false => rw [if_neg (by decide)] at h; simp at h
      | true =>
        rw [if_pos rfl] at h
        have hlow := hlv v hr rfl
        have hm : 0 ≤ v * wt ∧ v * wt ≤ 35 * 75161927645 := ⟨Int.mul_nonneg hv.1 (by omega), Int.mul_le_mul hv.2 h3 (by omega) (by omega)⟩
        rw [wrap_id (v * wt) (by omega) (by omega), wrap_id (st + v * wt) (by omega) (by omega)] at h
        by_cases c3 : st + v * wt > 2147483647
        · rw [if_pos c3] at h; simp at h
        · rw [if_neg c3] at h
          by_cases c4 : v < t
          · rw [if_pos c4] at h
            simp only [Prod.mk.injEq, true_and] at h
            obtain ⟨rfl, rfl⟩ := h
            refine ⟨v, hv.1, rfl, by omega, by omega, fun F _ => ?_⟩
            rw [hdl, if_pos c4, hdr, show p + 1 - p = 1 from by omega, hlow]
            rfl
          · rw [if_neg c4] at h
            have hw : wt ≤ v * wt := by
              have := Int.mul_le_mul_of_nonneg_right (show (1 : Int) ≤ v by omega) (show 0 ≤ wt by omega)
              omega
            have hm2 : wt * (36 - t) ≤ 2147483647 * 35 := Int.mul_le_mul (by omega) (by omega) (by omega) (by omega)
            have hm3 : wt ≤ wt * (36 - t) := by
              have := Int.mul_le_mul_of_nonneg_left (show (1 : Int) ≤ 36 - t by omega) (show 0 ≤ wt by omega)
              omega
            rw [wrap_id (36 - t) (by omega) (by omega), wrap_id (wt * (36 - t)) (by omega) (by omega), wrap_id (k + 36) (by omega) (by omega)] at h
            obtain ⟨q', hq0, hst, hpp, hps, hD⟩ := dig_write s bias fuel (p + 1) (st + v * wt) (wt * (36 - t)) (k + 36) st' p' h (by omega) (by omega) (by omega) (by omega) (by omega) (by omega) (by omega)
            have hqq : 0 ≤ q' * (36 - t) := Int.mul_nonneg hq0 (by omega)
            refine ⟨v + q' * (36 - t), by omega, ?_, by omega, hps, fun F hF => ?_⟩
            · have e := Int.add_mul v (q' * (36 - t)) wt
              have e2 : q' * (wt * (36 - t)) = q' * (36 - t) * wt := by ac_rfl
              rw [hst, e2]
              omega
            · have e3 : v + q' * (36 - t) - t = (v - t) + q' * (36 - t) := by omega
              have e4 : (v + q' * (36 - t) - t) % (36 - t) = v - t := by rw [e3, Int.add_mul_emod_self_right, Int.emod_eq_of_lt (by omega) (by omega)]
              have e5 : (v + q' * (36 - t) - t) / (36 - t) = q' := by rw [e3, Int.add_mul_ediv_right _ _ (by omega), Int.ediv_eq_zero_of_lt (by omega) (by omega)]; omega
              rw [hdl, if_neg (by omega), e4, e5, show t + (v - t) = v from by omega]
              cases F with
              | zero =>
                have : ((2 ^ 0 : Nat) : Int) = 1 := rfl
                omega
              | succ F =>
                have hdv := div_le (v + q' * (36 - t)) t (by omega) hb (2 ^ F) (by rw [Nat.pow_succ] at hF; omega)
                rw [e5] at hdv
                rw [hD F hdv.2, hdr, show p' - p = (p' - (p + 1)) + 1 from by omega, List.take_succ_cons, List.map_cons, hlow]
    · rw [if_neg c1] at h; simp at h
theorem sel_pos : ∀ (u : List Int) (inn : List Bool) (C : Nat), inn.length = u.length → C < (selB u inn).length →
    ∃ a, a < u.length ∧ inn.getD a false = true ∧ (inn.take a).countP (fun b => b) = C ∧ u.getD a 0 = (selB u inn).getD C 0 ∧ selB u (inn.set a false) = (selB u inn).eraseIdx C
  | [], inn, C, _, h => by cases inn <;> simp [selB] at h
  | x :: r, [], C, h, _ => by simp at h
  | x :: r, b :: bs, C, hl, h => by
    cases b with
    | true =>
      rw [selB, if_pos rfl] at h
      cases C with
      | zero =>
        refine ⟨0, by simp, rfl, rfl, ?_, ?_⟩
        · rw [selB, if_pos rfl]; rfl
        · rw [List.set_cons_zero, selB, selB, if_neg (by decide), if_pos rfl]; rfl
      | succ C =>
        obtain ⟨a, h1, h2, h3, h4, h5⟩ := sel_pos r bs C (by simpa using hl) (by simpa using h)
        refine ⟨a + 1, by simp; exact h1, by simpa using h2, ?_, ?_, ?_⟩
        · rw [List.take_succ_cons, List.countP_cons, h3]; simp
        · rw [selB, if_pos rfl, List.getD_cons_succ, List.getD_cons_succ]; exact h4
        · rw [List.set_cons_succ, selB, selB, if_pos rfl, if_pos rfl, h5]; rfl
    | false =>
      rw [selB, if_neg (by decide)] at h
      obtain ⟨a, h1, h2, h3, h4, h5⟩ := sel_pos r bs C (by simpa using hl) h
      refine ⟨a + 1, by simp; exact h1, by simpa using h2, ?_, ?_, ?_⟩
      · rw [List.take_succ_cons, List.countP_cons, h3]; simp
      · rw [selB, if_neg (by decide), List.getD_cons_succ]; exact h4
      · rw [List.set_cons_succ, selB, selB, if_neg (by decide), if_neg (by decide), h5]
theorem sel_mem : ∀ (u : List Int) (inn : List Bool) (j : Nat), inn.length = u.length → j < u.length → inn.getD j false = true → u.getD j 0 ∈ selB u inn
  | [], _, j, _, h, _ => by simp at h
  | x :: r, [], j, h, _, _ => by simp at h
  | x :: r, b :: bs, 0, hl, _, hb => by
    simp at hb
    subst hb
    rw [selB, if_pos rfl]
    simp
  | x :: r, b :: bs, j + 1, hl, hj, hb => by
    have ih := sel_mem r bs j (by simpa using hl) (by simpa using hj) (by simpa using hb)
    rw [selB, List.getD_cons_succ]
    cases b with
    | true => rw [if_pos rfl]; exact List.mem_cons_of_mem _ ih
    | false => rw [if_neg (by decide)]; exact ih
theorem ins_at (out : List Int) (c : Nat) (x : Int) (hc : c ≤ out.length) : (insL out c x).getD c 0 = x ∧ (insL out c x).eraseIdx c = out := by
  have hl : (out.take c).length = c := by rw [List.length_take]; omega
  unfold insL
  refine ⟨?_, ?_⟩
  · rw [List.getD_eq_getElem?_getD, List.getElem?_append_right (by omega), hl, Nat.sub_self]
    rfl
  · rw [List.eraseIdx_append_of_length_le (by omega), hl, Nat.sub_self]
    show out.take c ++ out.drop c = out
    exact List.take_append_drop c out
structure DI (u E : List Int) (inn : List Bool) (n place : Int) (out : List Int) : Prop where
  len : inn.length = u.length
  isin : ∀ k, k < u.length → inn.getD k false = decide (¬ (k : Int) ∈ E)
  sel : selB u inn = out
  srt : E.Pairwise (Lt u)
  rng : ∀ a ∈ E, 0 ≤ a ∧ a < (u.length : Int)
  val : ∀ b ∈ E, n ≤ u.getD b.toNat 0 ∧ (u.getD b.toNat 0 = n → place ≤ ((inn.take b.toNat).countP (fun b => b) : Int)) ∧ isV (u.getD b.toNat 0) = true
theorem count_le (inn : List Bool) (a b : Nat) (h : a ≤ b) : (inn.take a).countP (fun b => b) ≤ (inn.take b).countP (fun b => b) := List.Sublist.countP_le (List.take_sublist_take_left h)
theorem count_unset (inn : List Bool) (a b : Nat) (hab : a < b) (hb : b ≤ inn.length) (h : inn.getD a false = true) : (inn.take b).countP (fun b => b) = ((inn.set a false).take b).countP (fun b => b) + 1 := by
  have e : (inn.set a false).take b = (inn.take b).set a false := List.take_set ..
  have hl : a < (inn.take b).length := by rw [List.length_take]; omega
  have e2 : (inn.take b)[a] = true := by
    rw [List.getElem_take]
    rw [List.getD_eq_getElem?_getD, List.getElem?_eq_getElem (show a < inn.length by omega)] at h
    exact h
  have hp : 0 < (inn.take b).countP (fun b => b) := List.countP_pos_iff.2 ⟨true, by rw [← e2]; exact List.getElem_mem hl, rfl⟩
  rw [e, List.countP_set hl, e2]
  simp
  omega
theorem enc_loop (s : ByteArray) (hs : s.size ≤ 1048576) : ∀ (fuel : Nat) (out : List Int) (p : Nat) (n place bias : Int) (first : Bool) (u : List Int), outP s fuel out p n place bias first = (u, 0, 0) → p ≤ s.size → s.size - p ≤ fuel → out.length ≤ p → 0 ≤ place → place ≤ (out.length : Int) → 0 ≤ n → n ≤ 1114111 → (∀ x ∈ out, x ≤ n) →
    ∃ E inn, DI u E inn n place out ∧ encT u E n place (out.length : Int) bias first = some (((bytesOf s).drop p).map lowC)
  | fuel, out, p, n, place, bias, first, u, h, hp, hfu, hol, hp0, hp1, hn0, hn1, hle => by
    by_cases hlt : p < s.size
    · cases fuel with
      | zero => omega
      | succ fuel =>
      rw [outP, if_pos hlt] at h
      have hin := digP_in s bias s.size p 0 1 36 hp (by omega) (by omega) (by omega) (by omega)
      have hwr := dig_write s bias s.size p 0 1 36
      generalize digP s bias s.size p 0 1 36 = D at *
      obtain ⟨e, st, p2⟩ := D
      dsimp only at h hin
      by_cases c1 : e = 0
      · subst c1
        rw [if_pos rfl] at h
        have hin2 := hin.2 rfl
        obtain ⟨q, hq0, hqs, _, _, hD⟩ := hwr st p2 rfl hp (by omega) (by omega) (by omega) (by omega) (by omega) (by omega)
        rw [Int.zero_add, Int.mul_one] at hqs
        subst hqs
        have hD := hD 32 (by show st < 4294967296; omega)
        have hpl := plV_in out place st hp0 (by omega) hin2.1 hin2.2.1
        by_cases c2 : isV (nV out n place st) = true
        · rw [if_pos c2] at h
          have ew : wrap64 (place + st) = place + st := wrap_id _ (by omega) (by omega)
          have hcn : cntV out = (out.length : Int) + 1 := by unfold cntV; omega
          have hdv0 : 0 ≤ (place + st) / ((out.length : Int) + 1) := Int.ediv_nonneg (by omega) (by omega)
          have hdv1 : (place + st) / ((out.length : Int) + 1) ≤ place + st := Int.ediv_le_self _ (by omega)
          have hn2 : nV out n place st = n + (place + st) / ((out.length : Int) + 1) := by
            unfold nV
            rw [hcn, ew, Int.tdiv_eq_ediv_of_nonneg (by omega), wrap_id ((place + st) / ((out.length : Int) + 1)) (by omega) (by omega), wrap_id _ (by omega) (by omega)]
          have hpl2 : plV out place st = (place + st) % ((out.length : Int) + 1) := by
            unfold plV
            rw [hcn, ew, Int.tmod_eq_emod_of_nonneg (by omega)]
          have hdm := Int.mul_ediv_add_emod (place + st) ((out.length : Int) + 1)
          rw [← hpl2] at hdm
          have hr := isV_rng _ c2
          have hrn : n ≤ nV out n place st := by omega
          have hmul : (nV out n place st - n) * ((out.length : Int) + 1) + plV out place st = place + st := by
            rw [hn2, show n + (place + st) / ((out.length : Int) + 1) - n = (place + st) / ((out.length : Int) + 1) from by omega, Int.mul_comm]
            exact hdm
          have hz : nV out n place st = n → plV out place st = place + st := by
            intro e
            rw [e, Int.sub_self, Int.zero_mul] at hmul
            omega
          rw [hcn] at h
          generalize nV out n place st = r at *
          generalize plV out place st = Ci at *
          obtain ⟨C, rfl⟩ : ∃ C : Nat, Ci = (C : Int) := ⟨Ci.toNat, by omega⟩
          rw [Int.toNat_natCast] at h
          have hil := ins_len out C r
          obtain ⟨hia, hie⟩ := ins_at out C r (by omega)
          have hle2 : ∀ x ∈ insL out C r, x ≤ r := by
            intro x hx
            unfold insL at hx
            rcases List.mem_append.1 hx with hx | hx
            · have := hle x (List.mem_of_mem_take hx); omega
            · rcases List.mem_cons.1 hx with rfl | hx
              · omega
              · have := hle x (List.mem_of_mem_drop hx); omega
          obtain ⟨E', inn', hDI, hT⟩ := enc_loop s hs fuel (insL out C r) p2 r ((C : Int) + 1) (adaptV st ((out.length : Int) + 1) first) false u h hin.1 (by omega) (by omega) (by omega) (by omega) (by omega) (by omega) hle2
          obtain ⟨a, ha1, ha2, ha3, ha4, ha5⟩ := sel_pos u inn' C hDI.len (by rw [hDI.sel]; omega)
          rw [hDI.sel, hia] at ha4
          rw [hDI.sel, hie] at ha5
          have haE : ¬ (a : Int) ∈ E' := fun hm => by
            rw [hDI.isin a ha1, decide_eq_false (fun h => h hm)] at ha2
            cases ha2
          have hLt : ∀ b ∈ E', Lt u (a : Int) b := by
            intro b hb
            have hv := hDI.val b hb
            have hbr := hDI.rng b hb
            unfold Lt
            rw [Int.toNat_natCast, ha4]
            by_cases e : u.getD b.toNat 0 = r
            · refine .inr ⟨e.symm, ?_⟩
              have h2 := hv.2.1 e
              by_cases h3 : b.toNat ≤ a
              · have := count_le inn' b.toNat a h3
                omega
              · omega
            · exact .inl (by omega)
          have hcl : cLe u r a = C := by
            rw [← in_count u inn' r hDI.len a (by omega) (fun j hj => ?_)]
            · exact ha3
            · by_cases e : (j : Int) ∈ E'
              · rw [hDI.isin j (by omega), decide_eq_false (fun h => h e)]
                have := hLt _ e
                unfold Lt at this
                rw [Int.toNat_natCast, Int.toNat_natCast, ha4] at this
                exact (decide_eq_false (by omega)).symm
              · rw [hDI.isin j (by omega), decide_eq_true e]
                have hm := sel_mem u inn' j hDI.len (by omega) (by rw [hDI.isin j (by omega)]; exact decide_eq_true e)
                rw [hDI.sel] at hm
                exact (decide_eq_true (hle2 _ hm)).symm
          refine ⟨(a : Int) :: E', inn'.set a false, ⟨by rw [List.length_set]; exact hDI.len, ?_, ha5, List.pairwise_cons.2 ⟨hLt, hDI.srt⟩, ?_, ?_⟩, ?_⟩
          · intro k hk
            by_cases e : k = a
            · subst e
              rw [getD_set_self inn' k false false (by rw [hDI.len]; omega)]
              have : ¬ ¬ (k : Int) ∈ (k : Int) :: E' := fun h => h (by simp)
              exact (decide_eq_false this).symm
            · rw [List.getD_eq_getElem?_getD, List.getElem?_set_ne (fun h => e h.symm), ← List.getD_eq_getElem?_getD, hDI.isin k hk]
              congr 1
              have : ¬ ((k : Int) = (a : Int)) := by omega
              simp [this]
          · intro b hb
            rcases List.mem_cons.1 hb with rfl | hb
            · omega
            · exact hDI.rng b hb
          · intro b hb
            rcases List.mem_cons.1 hb with rfl | hb
            · rw [Int.toNat_natCast, ha4]
              refine ⟨hrn, fun e => ?_, c2⟩
              have e2 : (inn'.set a false).take a = inn'.take a := by rw [List.take_set, List.set_eq_of_length_le (by rw [List.length_take]; omega)]
              rw [e2, ha3]
              have := hz e
              omega
            · have hv := hDI.val b hb
              have hbr := hDI.rng b hb
              refine ⟨by omega, fun e => ?_, hv.2.2⟩
              have e3 : r = n := by omega
              have h4 := hv.2.1 (by omega)
              have h5 := hLt b hb
              unfold Lt at h5
              rw [Int.toNat_natCast, ha4] at h5
              have h6 := count_unset inn' a b.toNat (by omega) (by rw [hDI.len]; omega) ha2
              have := hz e3
              omega
          · rw [encT]
            have hstp : stp u (a : Int) n place (out.length : Int) = st := by
              unfold stp
              rw [Int.toNat_natCast, ha4, hcl]
              omega
            rw [hstp, if_neg (by omega), Int.toNat_natCast, ha4, hcl, hD]
            have e7 : ((insL out C r).length : Int) = (out.length : Int) + 1 := by omega
            rw [e7] at hT
            rw [hT]
            show some _ = some _
            congr 1
            have e8 : (bytesOf s).drop p2 = ((bytesOf s).drop p).drop (p2 - p) := by rw [List.drop_drop, show p + (p2 - p) = p2 from by omega]
            rw [e8]
            dsimp only
            rw [← List.map_append, List.take_append_drop]
        · rw [if_neg c2] at h
          simp at h
      · rw [if_neg c1] at h
        simp only [Prod.mk.injEq] at h
        exact absurd h.2.1 c1
    · have he : u = out := by
        cases fuel with
        | zero => simpa [outP] using h.symm
        | succ f => rw [outP, if_neg hlt] at h; simpa using h.symm
      subst he
      refine ⟨[], List.replicate u.length true, ⟨List.length_replicate, ?_, ?_, List.Pairwise.nil, fun a ha => (by cases ha), fun a ha => (by cases ha)⟩, ?_⟩
      · intro k hk
        rw [List.getD_eq_getElem?_getD, List.getElem?_replicate, if_pos hk]
        simp
      · exact selB_all u _ List.length_replicate (fun k hk => by rw [List.getD_eq_getElem?_getD, List.getElem?_replicate, if_pos hk]; rfl)
      · rw [encT, List.drop_of_length_le (by rw [bytesOf_len]; omega)]
        rfl
theorem lt_asymm (l : List Int) (a b : Int) (h1 : Lt l a b) (h2 : Lt l b a) : False := by unfold Lt at *; omega
theorem pw_eq (l : List Int) : ∀ (E O : List Int), E.Pairwise (Lt l) → O.Pairwise (Lt l) → (∀ a, a ∈ E ↔ a ∈ O) → E = O
  | [], [], _, _, _ => rfl
  | [], b :: t', _, _, h => by have := (h b).2 (by simp); cases this
  | a :: t, [], _, _, h => by have := (h a).1 (by simp); cases this
  | a :: t, b :: t', h1, h2, h => by
    have p1 := List.pairwise_cons.1 h1
    have p2 := List.pairwise_cons.1 h2
    have hab : a = b := by
      rcases List.mem_cons.1 ((h a).1 (by simp)) with e | e
      · exact e
      · rcases List.mem_cons.1 ((h b).2 (by simp)) with e2 | e2
        · exact e2.symm
        · exact (lt_asymm l a b (p1.1 b e2) (p2.1 a e)).elim
    subst hab
    congr 1
    refine pw_eq l t t' p1.2 p2.2 fun x => ?_
    have hx := h x
    constructor
    · intro hm
      rcases List.mem_cons.1 (hx.1 (by simp [hm])) with e | e
      · subst e
        exact (lt_asymm l x x (p1.1 x hm) (p1.1 x hm)).elim
      · exact e
    · intro hm
      rcases List.mem_cons.1 (hx.2 (by simp [hm])) with e | e
      · subst e
        exact (lt_asymm l x x (p2.1 x hm) (p2.1 x hm)).elim
      · exact e
theorem sel_filter : ∀ (u : List Int) (inn : List Bool), inn.length = u.length → (∀ k, k < u.length → inn.getD k false = decide (u.getD k 0 < 128)) → selB u inn = basL u
  | [], _, h, _ => by cases ‹List Bool› <;> simp_all [selB, basL]
  | x :: r, [], h, _ => by simp at h
  | x :: r, b :: bs, h, hk => by
    have h0 := hk 0 (by simp)
    simp at h0
    have ih := sel_filter r bs (by simpa using h) (fun k hkl => by have := hk (k + 1) (by simpa using hkl); simpa using this)
    unfold basL at ih ⊢
    rw [selB, ih, List.filter_cons, h0]
/-- From the end of the reading to Puny. -/
theorem back_from (s : ByteArray) (hs : s.size ≤ 1048576) (out : List Int) (p : Nat) (u : List Int) (h : outP s s.size out p 128 0 72 true = (u, 0, 0)) (hp : p ≤ s.size) (ho : out.length ≤ p) (hout : ∀ x ∈ out, 0 ≤ x ∧ x ≤ 127) :
    punyV u = (strOfNums (out ++ (if 0 < out.length then [45] else []) ++ ((bytesOf s).drop p).map lowC), 0) := by
  obtain ⟨E, inn, hDI, hT⟩ := enc_loop s hs s.size out p 128 0 72 true u h hp (by omega) ho (by omega) (by omega) (by omega) (by omega) (fun x hx => by have := hout x hx; omega)
  have hlow : ∀ k, k < u.length → ¬ (k : Int) ∈ E → 0 ≤ u.getD k 0 ∧ u.getD k 0 ≤ 127 := fun k hk hn => by
    have hm := sel_mem u inn k hDI.len hk (by rw [hDI.isin k hk]; exact decide_eq_true hn)
    rw [hDI.sel] at hm
    exact hout _ hm
  have hbas : basL u = out := by
    rw [← hDI.sel]
    refine (sel_filter u inn hDI.len fun k hk => ?_).symm
    rw [hDI.isin k hk]
    by_cases e : (k : Int) ∈ E
    · rw [decide_eq_false (fun h => h e)]
      have := (hDI.val _ e).1
      rw [Int.toNat_natCast] at this
      exact (decide_eq_false (by omega)).symm
    · rw [decide_eq_true e]
      have := hlow k hk e
      exact (decide_eq_true (by omega)).symm
  have hE : E = ordN u u.length := by
    refine pw_eq u E _ hDI.srt (ord_srt u u.length (Nat.le_refl _)) fun a => ?_
    rw [ord_mem u u.length (Nat.le_refl _)]
    constructor
    · intro ha
      have h1 := hDI.rng a ha
      exact ⟨h1.1, h1.2, (hDI.val a ha).1⟩
    · rintro ⟨h1, h2, h3⟩
      by_cases e : a ∈ E
      · exact e
      · have := hlow a.toNat (by omega) (by rw [Int.toNat_of_nonneg h1]; exact e)
        omega
  have hall : (u.all isV) = true := by
    refine List.all_eq_true.2 fun x hx => ?_
    obtain ⟨k, hk, rfl⟩ := List.getElem_of_mem hx
    have egd : u.getD k 0 = u[k] := by rw [List.getD_eq_getElem?_getD, List.getElem?_eq_getElem hk]; rfl
    rw [← egd]
    by_cases e : (k : Int) ∈ E
    · have := (hDI.val _ e).2.2
      rw [Int.toNat_natCast] at this
      exact this
    · have := hlow k hk e
      unfold isV
      exact decide_eq_true ⟨by omega, by omega, .inl (by omega)⟩
  unfold punyV
  rw [if_pos hall, ← hE, hbas, refP_enc, hT]
theorem basic_ok (L : List Int) : ∀ (n i : Nat), basicV L n i = none → ∀ j, i ≤ j → j < i + n → L.getD j 0 ≤ 127
  | 0, i, _, j, h1, h2 => by omega
  | n + 1, i, h, j, h1, h2 => by
    rw [basicV] at h
    by_cases c : L.getD i 0 > 127
    · rw [if_pos c] at h; cases h
    · rw [if_neg c] at h
      by_cases e : j = i
      · subst e; omega
      · exact basic_ok L n (i + 1) h j (by omega) (by omega)
theorem last_is (s : ByteArray) (c : Int) : ∀ (n : Nat) (m : Nat), lastV s c n = (m : Int) → bt s (m : Int) = c
  | 0, m, h => by
    rw [lastV] at h
    omega
  | n + 1, m, h => by
    rw [lastV] at h
    by_cases e : bt s (n : Int) = c
    · rw [if_pos e] at h
      rw [← h]; exact e
    · rw [if_neg e] at h
      exact last_is s c n m h
/-- What is read is written as it was, but for capitals. -/
theorem back (s : ByteArray) (hs : s.size ≤ 1048576) (u : List Int) (h : unpunyV s = (u, 0, 0)) : punyV u = (smallV s, 0) := by
  have hl := last_lt s 45 s.size
  have hbl := bytesOf_len s
  unfold unpunyV unpV at h
  unfold smallV barV
  by_cases c : 0 < lastV s 45 s.size
  · rw [if_pos c] at h
    obtain ⟨m, hm⟩ : ∃ m : Nat, lastV s 45 s.size = (m : Int) := ⟨(lastV s 45 s.size).toNat, by omega⟩
    rw [hm, Int.toNat_natCast] at h ⊢
    have hbar := last_is s 45 s.size m hm
    cases hb : basicV (bytesOf s) m 0 with
    | some j => rw [hb] at h; simp at h
    | none =>
      rw [hb] at h
      dsimp only at h
      have hok := basic_ok (bytesOf s) m 0 hb
      have htl : ((bytesOf s).take m).length = m := by rw [List.length_take]; omega
      have hf := back_from s hs ((bytesOf s).take m) (m + 1) u h (by omega) (by omega) (fun x hx => by
        obtain ⟨j, hj, rfl⟩ := List.getElem_of_mem hx
        rw [List.length_take] at hj
        rw [List.getElem_take]
        have h1 := hok j (by omega) (by omega)
        rw [List.getD_eq_getElem?_getD, List.getElem?_eq_getElem (show j < (bytesOf s).length by omega)] at h1
        exact ⟨(bytesOf_in s _ (List.getElem_mem _)).1, h1⟩)
      rw [hf, if_pos (by omega)]
      congr 2
      unfold smallL
      have hml : m < (bytesOf s).length := by omega
      have hd : (bytesOf s).drop m = 45 :: (bytesOf s).drop (m + 1) := by
        rw [List.drop_eq_getElem_cons hml, ← bt_bytes s m hml, hbar]
      rw [hd, List.map_cons, List.append_assoc]
      rfl
  · rw [if_neg c] at h
    have e0 : (lastV s 45 s.size).toNat = 0 := by omega
    have hf := back_from s hs [] 0 u h (Nat.zero_le _) (Nat.le_refl _) (fun x hx => by cases hx)
    rw [hf, e0]
    rfl
end Go.Proofs.Ytabjfpjmiiiecaa.PU
