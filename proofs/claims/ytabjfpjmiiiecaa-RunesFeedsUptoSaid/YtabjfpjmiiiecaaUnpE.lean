/- The reference's Unpuny, in the program's closed form; the program's Unpuny as a function proved by hand. -/
import Derived.Test.YtabjfpjmiiiecaaD8
import Derived.Test.YtabjfpjmiiiecaaD1
import Derived.Test.YtabjfpjmiiiecaaUnpW
namespace Go.Proofs.Ytabjfpjmiiiecaa.UN
set_option linter.unusedVariables false
set_option linter.unusedSimpArgs false
open Go.RowKit Go.Proofs.YtabjfpjmiiiecaaW.PrintWords Go.Proofs.YtabjfpjmiiiecaaW.PrintLast Go.Proofs.YtabjfpjmiiiecaaW.PrintMore Go.Proofs.Ytabjfpjmiiiecaa.B Go.Proofs.Ytabjfpjmiiiecaa.D Go.Proofs.Ytabjfpjmiiiecaa.DE Go.Proofs.Ytabjfpjmiiiecaa.CI Go.Proofs.Ytabjfpjmiiiecaa.M Go.Proofs.Ytabjfpjmiiiecaa.MN
theorem worth_all : ∀ n : Nat, n < 256 → worthV (n : Int) = if (valV (n : Int)).2 = true then (valV (n : Int)).1 else -1 := by decide +kernel
theorem worth_val (b : Int) (h : 0 ≤ b ∧ b ≤ 255) : posthornref05_worth.f b = some (if (valV b).2 = true then (valV b).1 else -1) := by
  unfold posthornref05_worth.f
  rw [if_pos h]
  have := worth_all b.toNat (by omega)
  rw [show ((b.toNat : Nat) : Int) = b from Int.toNat_of_nonneg h.1] at this
  rw [this]
theorem bound_eq (i : Nat) (hi : i ≤ 35184372088832) (bias : Int) : posthornref05_bound.f (i : Int) bias = some (bndV (36 * ((i : Int) + 1)) bias) := by
  unfold posthornref05_bound.f bndV mn mx
  rw [wrap_id ((i : Int) + 1) (by omega) (by omega), wrap_id (36 * ((i : Int) + 1)) (by omega) (by omega)]
  generalize wrap64 (36 * ((i : Int) + 1) - bias) = t
  by_cases h1 : t < 1
  · rw [if_pos h1]
    congr 1
    split <;> (first | omega | (split <;> omega))
  · rw [if_neg h1]
    by_cases h2 : t > 26
    · rw [if_pos h2]
      congr 1
      split <;> (first | omega | (split <;> omega))
    · rw [if_neg h2]
      congr 1
      split <;> (first | omega | (split <;> omega))
def stepR (D : Int × Int × Nat) : Int × Int × Int × Int := if D.1 = 0 then (D.2.1, (D.2.2 : Int), 0, 0) else (0, 0, D.1, (D.2.2 : Int))
theorem refStep_ev (s : ByteArray) (hs : s.size ≤ 35184372088831) (bias : Int) : ∀ (f p i : Nat) (st wt : Int), p ≤ s.size → s.size - p ≤ f → i ≤ p →
    Ev (fun k => posthornref05_step.l0 k s (p : Int) bias st wt (i : Int)) (stepR (digP s bias f p st wt (36 * ((i : Int) + 1))))
  | f, p, i, st, wt, hp, hf, hi => by
    by_cases hlt : p < s.size
    · cases f with
      | zero => omega
      | succ f =>
      have hw := worth_val (bt s (p : Int)) (bt_range s _)
      rw [digP, if_pos hlt]
      have hv := valV_in (bt s (p : Int))
      generalize valV (bt s (p : Int)) = vc at *
      obtain ⟨d, b⟩ := vc
      dsimp only at hw hv ⊢
      refine Ev.round (fun k => by rw [posthornref05_step.l0, if_neg (by omega), if_pos (by omega), if_pos (by omega), hw, bind_some']) ?_
      cases b with
      | false =>
        rw [if_neg (by decide)]
        refine Ev.last fun k => ?_
        show posthornref05_step.j1 (k + 1) s (p : Int) bias st wt (i : Int) true = _
        rw [posthornref05_step.j1, if_pos rfl]
        rfl
      | true =>
        rw [if_pos rfl]
        rw [if_pos rfl] at hw
        have e : decide (d < 0) = false := decide_eq_false (by omega)
        refine Ev.round (fun k => by rw [e, posthornref05_step.j1, if_neg (by decide), if_pos (by omega), if_pos (by omega), hw, bind_some']) ?_
        by_cases c1 : wrap64 (st + wrap64 (d * wt)) > 2147483647
        · rw [if_pos c1]
          exact Ev.val fun k => by rw [if_pos c1]; rfl
        · rw [if_neg c1]
          refine Ev.congr (fun k => by rw [if_neg c1, bound_eq i (by omega), bind_some']) ?_
          by_cases c2 : d < bndV (36 * ((i : Int) + 1)) bias
          · rw [if_pos c2]
            exact Ev.val fun k => by rw [if_pos c2, wrap_id ((p : Int) + 1) (by omega) (by omega)]; rfl
          · rw [if_neg c2]
            have ih := refStep_ev s hs bias f (p + 1) (i + 1) (wrap64 (st + wrap64 (d * wt))) (wrap64 (wt * wrap64 (36 - bndV (36 * ((i : Int) + 1)) bias))) (by omega) (by omega) (by omega)
            rw [show wrap64 (36 * ((i : Int) + 1) + 36) = 36 * (((i + 1 : Nat) : Int) + 1) from by rw [wrap_id _ (by omega) (by omega)]; omega]
            refine Ev.congr (fun k => ?_) ih
            rw [if_neg c2, bind_some', wrap_id ((p : Int) + 1) (by omega) (by omega), wrap_id ((i : Int) + 1) (by omega) (by omega)]
            rfl
    · have hd : digP s bias f p st wt (36 * ((i : Int) + 1)) = (51, 0, p) := by
        cases f with
        | zero => rfl
        | succ f => rw [digP, if_neg hlt]
      rw [hd]
      refine Ev.round (fun k => by rw [posthornref05_step.l0, if_pos (by omega)]) ?_
      refine Ev.last fun k => ?_
      rw [posthornref05_step.j1, if_pos rfl]
      rfl
theorem bias_l0 : ∀ (k : Nat) (x y : Int), posthornref05_Bias.l0 k x y = runes_adapt.l0 k x y
  | 0, _, _ => rfl
  | k + 1, x, y => by rw [posthornref05_Bias.l0, runes_adapt.l0, bias_l0 k]
theorem bias_j0 : ∀ (k : Nat) (x y : Int), posthornref05_Bias.j0 k x y = runes_adapt.j0 k x y
  | 0, _, _ => rfl
  | k + 1, x, y => by rw [posthornref05_Bias.j0, runes_adapt.j0, bias_l0 k]
theorem bias_f (k : Nat) (st c : Int) (b : Bool) : posthornref05_Bias.f k st c b = runes_adapt.f k st c b := by
  unfold posthornref05_Bias.f runes_adapt.f
  rw [bias_j0, bias_j0]
theorem bias_ev (st c : Int) (b : Bool) (h0 : 0 ≤ st) (h1 : st ≤ 2147483647) (hc : 1 ≤ c) : Ev (fun k => posthornref05_Bias.f k st c b) (adaptV st c b) := by
  refine ⟨12, fun k hk => ?_⟩
  obtain ⟨d, rfl⟩ : ∃ d, k = 12 + d := ⟨k - 12, by omega⟩
  show posthornref05_Bias.f (12 + d) st c b = _
  rw [bias_f]
  clear hk
  induction d with
  | zero => exact adapt_some st c b h0 h1 hc
  | succ d ih => exact runes_adapt.mono st c b (12 + d) _ ih
theorem refIs_eq (r : Int) : posthornref05_Is.f r = some (isV r) := by
  unfold posthornref05_Is.f isV
  by_cases h0 : r ≥ 0
  · by_cases h1 : r ≤ 1114111
    · by_cases h2 : r < 55296
      · rw [if_pos h0, if_pos h1, if_pos h2, decide_eq_true ⟨h0, h1, .inl h2⟩]
      · rw [if_pos h0, if_pos h1, if_neg h2]
        congr 1
        by_cases h3 : r > 57343
        · rw [decide_eq_true h3, decide_eq_true ⟨h0, h1, .inr h3⟩]
        · rw [decide_eq_false h3, decide_eq_false (by omega)]
    · rw [if_pos h0, if_neg h1, decide_eq_false (by omega)]
  · rw [if_neg h0, decide_eq_false (by omega)]
theorem wrap32_is (n : Int) (h : isV n = true) : wrap32 n = n := by
  unfold isV at h
  have h_ := of_decide_eq_true h
  unfold wrap32
  omega
theorem l2_yes (k : Nat) (s : ByteArray) (out : List Int) (p n place bias : Int) (first : Bool) (st q b2 n2 pl cn : Int) (h0 : p < (s.size : Int)) (h1 : posthornref05_step.f k s p bias = some (st, q, 0, 0)) (hcw : wrap64 ((out.length : Int) + 1) = cn) (h2 : ¬ cn = 0)
    (hn : wrap64 (n + wrap64 (Int.tdiv (wrap64 (place + st)) cn)) = n2) (h3 : posthornref05_Is.f n2 = some true) (hpl : Int.tmod (wrap64 (place + st)) cn = pl) (h4 : 0 ≤ pl) (h5 : pl ≤ (out.length : Int)) (h6 : ([] : List Int).length + (out.take pl.toNat).length < 35184372088832)
    (h7 : (([] : List Int) ++ out.take pl.toNat).length < 35184372088832) (h8 : (([] : List Int) ++ out.take pl.toNat ++ [wrap32 n2]).length + (out.drop pl.toNat).length < 35184372088832) (h9 : posthornref05_Bias.f k st cn first = some b2) :
    posthornref05_Unpuny.l2 (k + 1) s out p n place bias first = posthornref05_Unpuny.l2 k s (([] : List Int) ++ out.take pl.toNat ++ [wrap32 n2] ++ out.drop pl.toNat) q n2 (wrap64 (pl + 1)) b2 false := by
  rw [posthornref05_Unpuny.l2, if_pos h0, h1, bind_some']
  dsimp only
  rw [if_pos rfl, hcw, if_neg h2, hn, h3, bind_some', if_pos rfl, hpl, if_pos h4, if_pos h5, bind_some', if_pos h6, bind_some', if_pos h7, bind_some', bind_some', if_pos h8, h9, bind_some']
theorem l2_no (k : Nat) (s : ByteArray) (out : List Int) (p n place bias : Int) (first : Bool) (st q n2 cn : Int) (h0 : p < (s.size : Int)) (h1 : posthornref05_step.f k s p bias = some (st, q, 0, 0)) (hcw : wrap64 ((out.length : Int) + 1) = cn) (h2 : ¬ cn = 0)
    (hn : wrap64 (n + wrap64 (Int.tdiv (wrap64 (place + st)) cn)) = n2) (h3 : posthornref05_Is.f n2 = some false) :
    posthornref05_Unpuny.l2 (k + 1) s out p n place bias first = some ([], 50, wrap64 (q - 1)) := by
  rw [posthornref05_Unpuny.l2, if_pos h0, h1, bind_some']
  dsimp only
  rw [if_pos rfl, hcw, if_neg h2, hn, h3, bind_some', if_neg (by decide)]
theorem l2_err (k : Nat) (s : ByteArray) (out : List Int) (p n place bias : Int) (first : Bool) (e a : Int) (h0 : p < (s.size : Int)) (he : ¬ e = 0) (h1 : posthornref05_step.f k s p bias = some (0, 0, e, a)) :
    posthornref05_Unpuny.l2 (k + 1) s out p n place bias first = some ([], e, a) := by
  rw [posthornref05_Unpuny.l2, if_pos h0, h1, bind_some']
  dsimp only
  rw [if_neg he]
theorem refUnp_l2 (s : ByteArray) (hs : s.size ≤ 35184372088831) : ∀ (f p : Nat) (out : List Int) (n place bias : Int) (first : Bool), p ≤ s.size → s.size - p ≤ f → out.length ≤ p → 0 ≤ place → place ≤ (out.length : Int) →
    Ev (fun k => posthornref05_Unpuny.l2 k s out (p : Int) n place bias first) (outP s f out p n place bias first)
  | f, p, out, n, place, bias, first, hp, hf, ho, hp0, hp1 => by
    by_cases hlt : p < s.size
    · cases f with
      | zero => omega
      | succ f =>
      rw [outP, if_pos hlt]
      have hst := refStep_ev s hs bias s.size p 0 0 1 hp (by omega) (by omega)
      have hin := digP_in s bias s.size p 0 1 36 hp (by omega) (by omega) (by omega) (by omega)
      rw [show (36 : Int) * (((0 : Nat) : Int) + 1) = 36 from by omega] at hst
      generalize digP s bias s.size p 0 1 36 = D at *
      obtain ⟨e, st, q⟩ := D
      dsimp only at hin hst ⊢
      have hlt2 : (p : Int) < (s.size : Int) := by omega
      unfold stepR at hst
      by_cases c1 : e = 0
      · subst c1
        rw [if_pos rfl] at hst ⊢
        have hin2 := hin.2 rfl
        have hpl := plV_in out place st hp0 (by omega) hin2.1 hin2.2.1
        have hpn := (Int.toNat_of_nonneg hpl.1)
        have hcw : wrap64 ((out.length : Int) + 1) = cntV out := by unfold cntV; rw [wrap_id _ (by omega) (by omega)]; rfl
        have hc1 : 1 ≤ cntV out := by unfold cntV; omega
        have en : wrap64 (n + wrap64 (Int.tdiv (wrap64 (place + st)) (cntV out))) = nV out n place st := rfl
        have ep : Int.tmod (wrap64 (place + st)) (cntV out) = plV out place st := rfl
        generalize nV out n place st = n2 at *
        generalize plV out place st = pl at *
        obtain ⟨pn, rfl⟩ : ∃ pn : Nat, pl = (pn : Int) := ⟨pl.toNat, hpn.symm⟩
        rw [Int.toNat_natCast]
        clear hpn
        have EN := Aside0.mk en
        have EP := Aside0.mk ep
        have HCW := Aside0.mk hcw
        clear en ep hcw
        by_cases c2 : isV n2 = true
        · rw [if_pos c2]
          have htl : (out.take pn).length = pn := by rw [List.length_take]; omega
          have hdl : (out.drop pn).length = out.length - pn := List.length_drop ..
          have HQ2 := Aside0.mk (show wrap64 ((pn : Int) + 1) = (pn : Int) + 1 from wrap_id _ (by omega) (by omega))
          have HINS : Aside0 (([] : List Int) ++ out.take pn ++ [wrap32 n2] ++ out.drop pn = insL out pn n2) := ⟨by
            unfold insL
            rw [wrap32_is n2 c2, List.nil_append, List.append_assoc]
            rfl⟩
          have hil := ins_len out pn n2
          obtain ⟨K1, h1⟩ := hst
          obtain ⟨K2, h2⟩ := bias_ev st (cntV out) first hin2.1 hin2.2.1 hc1
          obtain ⟨K3, h3⟩ := refUnp_l2 s hs f q (insL out pn n2) n2 ((pn : Int) + 1) (adaptV st (cntV out) first) false hin.1 (by omega) (by omega) (by omega) (by omega)
          refine ⟨max K1 (max K2 K3) + 1, fun k hk => ?_⟩
          obtain ⟨k2, rfl⟩ : ∃ q, k = q + 1 := ⟨k - 1, by omega⟩
          have a1 := h1 k2 (by omega)
          have a2 := h2 k2 (by omega)
          have a3 := h3 k2 (by omega)
          refine (l2_yes k2 s out p n place bias first st q (adaptV st (cntV out) first) n2 pn (cntV out) hlt2 a1 HCW.out (by omega) EN.out (by rw [refIs_eq, c2]) EP.out hpl.1 hpl.2 (by rw [Int.toNat_natCast, htl, List.length_nil]; omega) (by rw [Int.toNat_natCast, List.nil_append, htl]; omega) (by rw [Int.toNat_natCast, List.length_append, List.nil_append, htl, hdl]; simp; omega) a2).trans ?_
          rw [Int.toNat_natCast, HINS.out, HQ2.out]
          exact a3
        · rw [if_neg c2]
          obtain ⟨K1, h1⟩ := hst
          refine ⟨K1 + 1, fun k hk => ?_⟩
          obtain ⟨k2, rfl⟩ : ∃ q, k = q + 1 := ⟨k - 1, by omega⟩
          have a1 := h1 k2 (by omega)
          have hq : wrap64 ((q : Int) - 1) = (q : Int) - 1 := wrap_id _ (by omega) (by omega)
          refine (l2_no k2 s out p n place bias first st q n2 (cntV out) hlt2 a1 HCW.out (by omega) EN.out (by rw [refIs_eq]; exact congrArg some (by simpa using c2))).trans ?_
          rw [hq]
      · rw [if_neg c1] at hst ⊢
        obtain ⟨K1, h1⟩ := hst
        refine ⟨K1 + 1, fun k hk => ?_⟩
        obtain ⟨k2, rfl⟩ : ∃ q, k = q + 1 := ⟨k - 1, by omega⟩
        exact l2_err k2 s out p n place bias first e q hlt2 c1 (h1 k2 (by omega))
    · have he : outP s f out p n place bias first = (out, 0, 0) := by
        cases f with
        | zero => rfl
        | succ f => rw [outP, if_neg hlt]
      rw [he]
      exact Ev.last fun k => by rw [posthornref05_Unpuny.l2, if_neg (by omega)]
/-- Where a letter stands the last time before n (below 0: nowhere). -/
def lastV (s : ByteArray) (c : Int) : Nat → Int
  | 0 => -1
  | n + 1 => if bt s (n : Int) = c then (n : Int) else lastV s c n
theorem last_lt (s : ByteArray) (c : Int) : ∀ n, lastV s c n < (n : Int) ∧ -1 ≤ lastV s c n
  | 0 => ⟨by show (-1 : Int) < 0; omega, Int.le_refl _⟩
  | n + 1 => by
    rw [lastV]
    have := last_lt s c n
    split
    · omega
    · omega
theorem last_ev (s : ByteArray) (hs : s.size ≤ 35184372088831) (c : Int) : ∀ n, n ≤ s.size → Ev (fun k => bytealg_LastIndexByteString.l0 k s c ((n : Int) - 1)) (lastV s c n)
  | 0, _ => Ev.last fun k => by rw [bytealg_LastIndexByteString.l0, if_neg (by omega)]; rfl
  | n + 1, h => by
    have e1 : (((n + 1 : Nat) : Int) - 1) = (n : Int) := by omega
    rw [e1, lastV]
    refine Ev.round (fun k => by rw [bytealg_LastIndexByteString.l0, if_pos (by omega), if_pos (by omega), if_pos (by omega)]) ?_
    by_cases hc : bt s (n : Int) = c
    · rw [if_pos hc]
      exact Ev.val fun k => by rw [if_pos hc]
    · rw [if_neg hc]
      exact Ev.congr (fun k => by rw [if_neg hc, wrap_id _ (by omega) (by omega)]) (last_ev s hs c n (by omega))
theorem lastIndex_ev (s : ByteArray) (hs : s.size ≤ 35184372088831) (c : Int) : Ev (fun k => strings_LastIndexByte.f k s c) (lastV s c s.size) := by
  unfold strings_LastIndexByte.f bytealg_LastIndexByteString.f
  refine Ev.same ?_
  rw [wrap_id _ (by omega) (by omega)]
  exact last_ev s hs c s.size (Nat.le_refl _)
/-- What Unpuny tells of a text. -/
def unpunyV (s : ByteArray) : List Int × Int × Int := unpV s (lastV s 45 s.size)
theorem refUnp_l1 (s : ByteArray) (hs : s.size ≤ 35184372088831) (pz : Nat) (hz : pz < s.size) : ∀ (f i : Nat), i ≤ pz → pz - i = f →
    Ev (fun k => posthornref05_Unpuny.l1 k s ((bytesOf s).take i) ((pz : Int) + 1) (i : Int))
      (match basicV (bytesOf s) f i with
      | some j => ([], 51, (j : Int))
      | none => outP s s.size ((bytesOf s).take pz) (pz + 1) 128 0 72 true)
  | 0, i, hi, hf => by
    obtain rfl : i = pz := by omega
    have hl := bytesOf_len s
    have h := refUnp_l2 s hs s.size (i + 1) ((bytesOf s).take i) 128 0 72 true (by omega) (by omega) (by rw [List.length_take]; omega) (by omega) (by omega)
    refine Ev.round (fun k => by rw [posthornref05_Unpuny.l1, if_neg (by rw [wrap_id _ (by omega) (by omega)]; omega)]) ?_
    exact h
  | f + 1, i, hi, hf => by
    have hl := bytesOf_len s
    have hb := bt_bytes s i (by omega)
    have hr := bt_range s (i : Int)
    rw [basicV, List.getD_eq_getElem?_getD, List.getElem?_eq_getElem (by omega), Option.getD_some]
    rw [← hb]
    refine Ev.round (fun k => by rw [posthornref05_Unpuny.l1, if_pos (by rw [wrap_id _ (by omega) (by omega)]; omega), if_pos (by omega), if_pos (by omega)]) ?_
    by_cases c : bt s (i : Int) > 127
    · rw [if_pos c]
      exact Ev.val fun k => by rw [if_pos c]
    · rw [if_neg c]
      have ih := refUnp_l1 s hs pz hz f (i + 1) (by omega) (by omega)
      refine Ev.congr (fun k => ?_) ih
      rw [if_neg c, if_pos (by rw [List.length_take]; omega), show wrap32 (bt s (i : Int)) = bt s (i : Int) from by unfold wrap32; omega, wrap_id ((i : Int) + 1) (by omega) (by omega), hb, ← take_snoc (bytesOf s) i (by omega)]
      rfl
def curV (s : ByteArray) (n : Nat) : Int := if 0 < lastV s 45 n then lastV s 45 n + 1 else 0
theorem refUnp_l0 (s : ByteArray) (hs : s.size ≤ 35184372088831) : ∀ (f p : Nat), 1 ≤ p → s.size - p = f → (s.size = 0 → p = 1) → (0 < s.size → p ≤ s.size) →
    Ev (fun k => posthornref05_Unpuny.l0 k s (curV s (min p s.size)) (p : Int)) (unpunyV s)
  | 0, p, h1, hf, h0, hp => by
    have hm : min p s.size = s.size := by omega
    rw [hm]
    refine Ev.round (fun k => by rw [posthornref05_Unpuny.l0, if_neg (by omega)]) ?_
    have hl := last_lt s 45 s.size
    unfold unpunyV unpV curV
    by_cases hz : 0 < lastV s 45 s.size
    · rw [if_pos hz, if_pos hz]
      generalize lastV s 45 s.size = z at *
      obtain ⟨pz, rfl⟩ : ∃ pz : Nat, z = (pz : Int) := ⟨z.toNat, by omega⟩
      exact refUnp_l1 s hs pz (by omega) pz 0 (by omega) (by omega)
    · rw [if_neg hz, if_neg hz]
      refine Ev.round (fun k => by rw [posthornref05_Unpuny.l1, if_neg (by rw [wrap_id _ (by omega) (by omega)]; omega)]) ?_
      exact refUnp_l2 s hs s.size 0 [] 128 0 72 true (Nat.zero_le _) (by omega) (Nat.le_refl _) (by omega) (by show (0 : Int) ≤ 0; omega)
  | f + 1, p, h1, hf, h0, hp => by
    have hm : min p s.size = p := by omega
    have hm2 : min (p + 1) s.size = p + 1 := by omega
    have ih := refUnp_l0 s hs f (p + 1) (by omega) (by omega) (by omega) (by omega)
    rw [hm2] at ih
    rw [hm]
    refine Ev.round (fun k => by rw [posthornref05_Unpuny.l0, if_pos (by omega), if_pos (by omega), wrap_id _ (by omega) (by omega)]) ?_
    by_cases c : bt s (p : Int) = 45
    · have e : curV s (p + 1) = (p : Int) + 1 := by unfold curV; rw [lastV, if_pos c, if_pos (by omega)]
      rw [e] at ih
      exact Ev.congr (fun k => by rw [if_pos c]; rfl) ih
    · have e : curV s (p + 1) = curV s p := by unfold curV; rw [lastV, if_neg c]
      rw [e] at ih
      exact Ev.congr (fun k => by rw [if_neg c]; rfl) ih
theorem refUnpuny_ev (s : ByteArray) (hs : s.size ≤ 35184372088831) : Ev (fun k => posthornref05_Unpuny.f k s) (unpunyV s) := by
  unfold posthornref05_Unpuny.f
  have h := refUnp_l0 s hs (s.size - 1) 1 (Nat.le_refl _) rfl (fun _ => rfl) (by omega)
  have e : curV s (min 1 s.size) = 0 := by
    unfold curV
    have := last_lt s 45 (min 1 s.size)
    rw [if_neg (by omega)]
  rw [e] at h
  exact h
end Go.Proofs.Ytabjfpjmiiiecaa.UN
namespace Go.Proofs.Ytabjfpjmiiiecaa.MN
open Go.RowKit Go.Proofs.YtabjfpjmiiiecaaW.PrintWords Go.Proofs.Ytabjfpjmiiiecaa.B Go.Proofs.Ytabjfpjmiiiecaa.D Go.Proofs.Ytabjfpjmiiiecaa.UN
def runes_Unpuny.f (a0 : ByteArray) : Option (List Int × Int × Int) := if a0.size ≤ 35184372088831 then some (unpunyV a0) else none
theorem runes_Unpuny.calls (a0 : ByteArray) (r1 : List Int) (r2 r3 : Int) (w : World) (h : runes_Unpuny.f a0 = some (r1, r2, r3)) :
    Calls Try.prog 15 #[.string a0] w fun e w' => ∃ v0_ : Value, e = .returned (.tuple #[v0_, .agg #[.int .i64 r2, .int .i64 r3]]) ∧ Kd.R (Kd.int .i32) 21 w' w.heap.size (fun _ => True) v0_ r1 ∧ Below w.heap.size w w' := by
  unfold runes_Unpuny.f at h
  split at h
  · rename_i hs
    have h2 : unpunyV a0 = (r1, r2, r3) := Option.some.inj h
    obtain ⟨k, hk⟩ := lastIndex_ev a0 hs 45
    refine (unp_walk a0 hs (lastV a0 45 a0.size) (last_lt a0 45 a0.size).1 w (fun W => (strings_LastIndexByte.calls k a0 45 _ W (hk k (Nat.le_refl _))).mono fun e w' hx => ⟨hx.1, hx.2.below⟩)).mono fun e w' hx => ?_
    obtain ⟨v, hv, ho, hb⟩ := hx
    have h3 : unpV a0 (lastV a0 45 a0.size) = (r1, r2, r3) := h2
    rw [h3] at hv ho
    exact ⟨v, hv, ho, hb⟩
  · cases h
end Go.Proofs.Ytabjfpjmiiiecaa.MN
