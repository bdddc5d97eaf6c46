/- DateOrders: of two dates of one zone the lesser one has the lesser second. -/
import Derived.Test.YtnmhkmkaklhapaaDoorMade
import Derived.Test.YtnmhkmkaklhapaaDoorFact
import Derived.Test.YtnmhkmkaklhapaaDoorO2
namespace Go.Proofs.YtnmhkmkaklhapaaDoor.Pure
set_option linter.unusedVariables false
set_option linter.unusedSimpArgs false
open Go.RowKit Go.Proofs.YtnmhkmkaklhapaaDoorW.PrintWords Go.Proofs.YtnmhkmkaklhapaaDoorW.PrintLast Go.Proofs.YtnmhkmkaklhapaaDoorW.PrintMore Go.Proofs.YtnmhkmkaklhapaaDoor.B Go.Proofs.YtnmhkmkaklhapaaDoor.O Go.Proofs.YtnmhkmkaklhapaaDoor.Cal Go.Proofs.YtnmhkmkaklhapaaDoor.Chk Go.Proofs.YtnmhkmkaklhapaaDoor.MN Go.Proofs.YtnmhkmkaklhapaaDoor.DP Go.Proofs.YtnmhkmkaklhapaaDoor.T Go.Proofs.YtnmhkmkaklhapaaDoor.Glob
def lexB : List Int → List Int → Bool
 | x :: xs, y :: ys => if x = y then lexB xs ys else decide (x < y)
 | _, _ => false
theorem less_l0 (xs ys : List Int) (h : xs.length = ys.length) (hn : xs.length ≤ 1000) (c : Nat) : ∀ i : Nat, xs.length - i = c → i ≤ xs.length → Ev (fun k => posthornlaw06_less.l0 k xs ys (xs.length : Int) (i : Int)) (lexB (xs.drop i) (ys.drop i)) := by
 induction c with
 | zero =>
  intro i hc hi
  refine Ev.last fun k => ?_
  rw [posthornlaw06_less.l0, if_neg (by omega), List.drop_eq_nil_of_le (by omega)]
  rfl
 | succ c ih =>
  intro i hc hi
  have h1 : i < xs.length := by omega
  have h2 : i < ys.length := by omega
  have r1 : rd xs (i : Int) = xs[i] := by unfold rd; simp [List.getD_eq_getElem?_getD, h1]
  have r2 : rd ys (i : Int) = ys[i] := by unfold rd; simp [List.getD_eq_getElem?_getD, h2]
  rw [List.drop_eq_getElem_cons h1, List.drop_eq_getElem_cons h2, lexB]
  by_cases e : xs[i] = ys[i]
  ·rw [if_pos e]
   refine Ev.step (fun k => ?_) (ih (i + 1) (by omega) (by omega))
   rw [posthornlaw06_less.l0, if_pos (by omega), if_pos (by omega), if_pos (by omega), if_pos (by omega), r1, r2, if_pos e, wrap_id _ (by omega) (by omega)]
   rfl
  ·rw [if_neg e]
   refine Ev.last fun k => ?_
   rw [posthornlaw06_less.l0, if_pos (by omega), if_pos (by omega), if_pos (by omega), if_pos (by omega), r1, r2, if_neg e]
theorem less_ev (y m d h mi s z y' m' d' h' mi' s' z' : Int) (hy : I16 y) (hm : I8 m) (hd : I8 d) (hh : I8 h) (hmi : I8 mi) (hs : I8 s) (hy' : I16 y') (hm' : I8 m') (hd' : I8 d') (hh' : I8 h') (hmi' : I8 mi') (hs' : I8 s') :
  Ev (fun k => posthornlaw06_less.f k y m d h mi s z y' m' d' h' mi' s' z') (lexB [y, m, d, h, mi, s] [y', m', d', h', mi', s']) := by
 unfold posthornlaw06_less.f
 unfold I16 I8 at *
 rw [wrap_id y (by omega) (by omega), wrap_id m (by omega) (by omega), wrap_id d (by omega) (by omega), wrap_id h (by omega) (by omega), wrap_id mi (by omega) (by omega), wrap_id s (by omega) (by omega), wrap_id y' (by omega) (by omega), wrap_id m' (by omega) (by omega), wrap_id d' (by omega) (by omega), wrap_id h' (by omega) (by omega), wrap_id mi' (by omega) (by omega), wrap_id s' (by omega) (by omega)]
 exact Ev.congr (fun k => by rw [bind_some']; rfl) (less_l0 [y, m, d, h, mi, s] [y', m', d', h', mi', s'] rfl (by simp) 6 0 rfl (by simp))
theorem civ_order (n n' : Int) (h1 : -719162 ≤ n) (h2 : n ≤ 2932896) (h1' : -719162 ≤ n') (h2' : n' ≤ 2932896) (y m d y' m' d' e e' : Int) (hc : civV n = (y, m, d, e)) (hc' : civV n' = (y', m', d', e')) :
  (y < y' ∧ n < n') ∨ (y' < y ∧ n' < n) ∨ (y = y' ∧ ((m < m' ∧ n < n') ∨ (m' < m ∧ n' < n) ∨ (m = m' ∧ ((d < d' ∧ n < n') ∨ (d' < d ∧ n' < n) ∨ (d = d' ∧ n = n'))))) := by
 obtain ⟨Y, M, D, v, hn, eY, eM, eD⟩ := civ_of n h1 h2
 obtain ⟨Y', M', D', v', hn', eY', eM', eD'⟩ := civ_of n' h1' h2'
 have q : civV n = ((Y : Int), (M : Int), (D : Int), 0) := by unfold civV; rw [if_neg (by omega), eY, eM, eD]
 have q' : civV n' = ((Y' : Int), (M' : Int), (D' : Int), 0) := by unfold civV; rw [if_neg (by omega), eY', eM', eD']
 rw [q] at hc
 rw [q'] at hc'
 simp only [Prod.mk.injEq] at hc hc'
 obtain ⟨rfl, rfl, rfl, _⟩ := hc
 obtain ⟨rfl, rfl, rfl, _⟩ := hc'
 have a := dn_year v.m1 v.m2 v.d1 v.d2
 have a' := dn_year v'.m1 v'.m2 v'.d1 v'.d2
 have b1 := v.d1
 have b1' := v'.d1
 have b2 := v.d2
 have b2' := v'.d2
 clear q q' eY eM eD eY' eM' eD'
 rcases Nat.lt_trichotomy Y Y' with g | rfl | g
 ·have := yb_mono (a := Y + 1) (b := Y') (by omega) (by omega)
  rw [yb_succ Y v.y1] at this
  unfold dn at hn hn'
  omega
 ·rcases Nat.lt_trichotomy M M' with g | rfl | g
  ·have := mb_mono Y (a := M + 1) (b := M') (by omega) (by omega)
   rw [mb_succ Y M v.m1] at this
   unfold dn at hn hn'
   omega
  ·unfold dn at hn hn'
   omega
  ·have := mb_mono Y (a := M' + 1) (b := M) (by omega) (by omega)
   rw [mb_succ Y M' v'.m1] at this
   unfold dn at hn hn'
   omega
 ·have := yb_mono (a := Y' + 1) (b := Y) (by omega) (by omega)
  rw [yb_succ Y' v'.y1] at this
  unfold dn at hn hn'
  omega
theorem orders_core (n n' y m d y' m' d' h mi s h' mi' s' z : Int) (b1 : 0 ≤ h ∧ h ≤ 23) (b2 : 0 ≤ mi ∧ mi ≤ 59) (b3 : 0 ≤ s ∧ s ≤ 59) (b1' : 0 ≤ h' ∧ h' ≤ 23) (b2' : 0 ≤ mi' ∧ mi' ≤ 59) (b3' : 0 ≤ s' ∧ s' ≤ 59)
  (ho : (y < y' ∧ n < n') ∨ (y' < y ∧ n' < n) ∨ (y = y' ∧ ((m < m' ∧ n < n') ∨ (m' < m ∧ n' < n) ∨ (m = m' ∧ ((d < d' ∧ n < n') ∨ (d' < d ∧ n' < n) ∨ (d = d' ∧ n = n')))))) :
  decide (n * 86400 + h * 3600 + mi * 60 + s - z * 60 < n' * 86400 + h' * 3600 + mi' * 60 + s' - z * 60) = lexB [y, m, d, h, mi, s] [y', m', d', h', mi', s'] ∧
  ((n * 86400 + h * 3600 + mi * 60 + s - z * 60 = n' * 86400 + h' * 3600 + mi' * 60 + s' - z * 60) ↔ (y = y' ∧ m = m' ∧ d = d' ∧ h = h' ∧ mi = mi' ∧ s = s')) := by
 unfold lexB lexB lexB lexB lexB lexB lexB
 rcases ho with ⟨a, b⟩ | ⟨a, b⟩ | ⟨rfl, ho⟩
 ·rw [if_neg (by omega)]; exact ⟨decide_eq_decide.2 (by omega), by omega⟩
 ·rw [if_neg (by omega)]; exact ⟨decide_eq_decide.2 (by omega), by omega⟩
 rw [if_pos rfl]
 rcases ho with ⟨a, b⟩ | ⟨a, b⟩ | ⟨rfl, ho⟩
 ·rw [if_neg (by omega)]; exact ⟨decide_eq_decide.2 (by omega), by omega⟩
 ·rw [if_neg (by omega)]; exact ⟨decide_eq_decide.2 (by omega), by omega⟩
 rw [if_pos rfl]
 rcases ho with ⟨a, b⟩ | ⟨a, b⟩ | ⟨rfl, rfl⟩
 ·rw [if_neg (by omega)]; exact ⟨decide_eq_decide.2 (by omega), by omega⟩
 ·rw [if_neg (by omega)]; exact ⟨decide_eq_decide.2 (by omega), by omega⟩
 rw [if_pos rfl]
 by_cases e1 : h = h'
 ·rw [if_pos e1]
  by_cases e2 : mi = mi'
  ·rw [if_pos e2]
   by_cases e3 : s = s'
   ·rw [if_pos e3]; exact ⟨decide_eq_false (by omega), by omega⟩
   ·rw [if_neg e3]; exact ⟨decide_eq_decide.2 (by omega), by omega⟩
  ·rw [if_neg e2]; exact ⟨decide_eq_decide.2 (by omega), by omega⟩
 ·rw [if_neg e1]; exact ⟨decide_eq_decide.2 (by omega), by omega⟩
theorem orders_ev (n h m s z n' h' m' s' : Int) (hn : I64 n) (hh : 0 ≤ h ∧ h ≤ 255) (hm : 0 ≤ m ∧ m ≤ 255) (hs : 0 ≤ s ∧ s ≤ 255) (hz : I16 z) (hn' : I64 n') (hh' : 0 ≤ h' ∧ h' ≤ 255) (hm' : 0 ≤ m' ∧ m' ≤ 255) (hs' : 0 ≤ s' ∧ s' ≤ 255) (z' : Int) :
  Ev (fun k => posthornlaw06_DateOrders.f k n h m s z n' h' m' s' z') true := by
 obtain ⟨g1, g2, g3, g4, g5, g6, g7⟩ := made_facts n h m s z
 obtain ⟨g1', g2', g3', g4', g5', g6', g7'⟩ := made_facts n' h' m' s' z
 have ho := civ_order (n % 3652059 - 719162) (n' % 3652059 - 719162) (by omega) (by omega) (by omega) (by omega) _ _ _ _ _ _ _ _ (civ_eta _) (civ_eta _)
 have hcore := orders_core (n % 3652059 - 719162) (n' % 3652059 - 719162) _ _ _ _ _ _ (h % 24) (m % 60) (s % 60) (h' % 24) (m' % 60) (s' % 60) (z.tmod 1440) (by omega) (by omega) (by omega) (by omega) (by omega) (by omega) ho
 have e1 : posthornlaw06_made.f n h m s z = some ((civV (n % 3652059 - 719162)).1, (civV (n % 3652059 - 719162)).2.1, (civV (n % 3652059 - 719162)).2.2.1, h % 24, m % 60, s % 60, z.tmod 1440) := if_pos ⟨hn, hh, hm, hs, hz⟩
 have e2 : posthornlaw06_made.f n' h' m' s' z = some ((civV (n' % 3652059 - 719162)).1, (civV (n' % 3652059 - 719162)).2.1, (civV (n' % 3652059 - 719162)).2.2.1, h' % 24, m' % 60, s' % 60, z.tmod 1440) := if_pos ⟨hn', hh', hm', hs', hz⟩
 have hl := less_ev (civV (n % 3652059 - 719162)).1 (civV (n % 3652059 - 719162)).2.1 (civV (n % 3652059 - 719162)).2.2.1 (h % 24) (m % 60) (s % 60) (z.tmod 1440) (civV (n' % 3652059 - 719162)).1 (civV (n' % 3652059 - 719162)).2.1 (civV (n' % 3652059 - 719162)).2.2.1 (h' % 24) (m' % 60) (s' % 60) (z.tmod 1440) g1.1 g1.2.1 g1.2.2.1 g1.2.2.2.1 g1.2.2.2.2.1 g1.2.2.2.2.2.1 g1'.1 g1'.2.1 g1'.2.2.1 g1'.2.2.2.1 g1'.2.2.2.2.1 g1'.2.2.2.2.2.1
 unfold posthornlaw06_DateOrders.f posthornlaw06_head.f
 have s1 : date_Seconds.f (civV (n % 3652059 - 719162)).1 (civV (n % 3652059 - 719162)).2.1 (civV (n % 3652059 - 719162)).2.2.1 (h % 24) (m % 60) (s % 60) (z.tmod 1440) = some ((n % 3652059 - 719162) * 86400 + h % 24 * 3600 + m % 60 * 60 + s % 60 - z.tmod 1440 * 60, 0) := g3
 have s2 : date_Seconds.f (civV (n' % 3652059 - 719162)).1 (civV (n' % 3652059 - 719162)).2.1 (civV (n' % 3652059 - 719162)).2.2.1 (h' % 24) (m' % 60) (s' % 60) (z.tmod 1440) = some ((n' % 3652059 - 719162) * 86400 + h' % 24 * 3600 + m' % 60 * 60 + s' % 60 - z.tmod 1440 * 60, 0) := g3'
 refine Ev.congr (fun k => by rw [bind_some', if_pos rfl, e1, bind_some', e2, bind_some', s1, bind_some', s2, bind_some', if_pos rfl, if_pos rfl]) (Ev.bind hl (Ev.val fun k => ?_))
 rw [← hcore.1, if_pos (by simp)]
 refine congrArg some ?_
 have hc2 := hcore.2
 simp only
 generalize (n % 3652059 - 719162) * 86400 + h % 24 * 3600 + m % 60 * 60 + s % 60 - z.tmod 1440 * 60 = X at *
 generalize (n' % 3652059 - 719162) * 86400 + h' % 24 * 3600 + m' % 60 * 60 + s' % 60 - z.tmod 1440 * 60 = Y at *
 by_cases e : X = Y
 ·obtain ⟨a, b, c, d, f, g⟩ := hc2.1 e
  rw [a, b, c, d, f, g, e]
  simp
 ·have hne := fun x => e (hc2.2 x)
  rw [beq_eq_false_iff_ne.2 e]
  refine beq_iff_eq.2 (Bool.eq_false_iff.2 fun hall => ?_).symm
  simp only [Bool.and_eq_true, beq_iff_eq] at hall
  exact hne ⟨hall.1, hall.2.1, hall.2.2.1, hall.2.2.2.1, hall.2.2.2.2.1, hall.2.2.2.2.2.1⟩
theorem DateOrders (a0_0 a0_1 a0_2 a0_3 a0_4 a1_0 a1_1 a1_2 a1_3 a1_4 : Int) (w : World) (w0_0 : (Lit.int .i64 a0_0).wf = true) (w0_1 : (Lit.int .u8 a0_1).wf = true) (w0_2 : (Lit.int .u8 a0_2).wf = true) (w0_3 : (Lit.int .u8 a0_3).wf = true) (w0_4 : (Lit.int .i16 a0_4).wf = true)
  (w1_0 : (Lit.int .i64 a1_0).wf = true) (w1_1 : (Lit.int .u8 a1_1).wf = true) (w1_2 : (Lit.int .u8 a1_2).wf = true) (w1_3 : (Lit.int .u8 a1_3).wf = true) (_w1_4 : (Lit.int .i16 a1_4).wf = true) (HG : GOk w) :
  Calls Tryd.prog 7 #[.agg #[.int .i64 a0_0, .int .u8 a0_1, .int .u8 a0_2, .int .u8 a0_3, .int .i16 a0_4], .agg #[.int .i64 a1_0, .int .u8 a1_1, .int .u8 a1_2, .int .u8 a1_3, .int .i16 a1_4]] w fun e w' => e = .returned (.bool true) ∧ Below w.heap.size w w' := by
 obtain ⟨k, hk⟩ := orders_ev a0_0 a0_1 a0_2 a0_3 a0_4 a1_0 a1_1 a1_2 a1_3 (wf_i64 w0_0) (wf_u8 w0_1) (wf_u8 w0_2) (wf_u8 w0_3) (wf_i16 w0_4) (wf_i64 w1_0) (wf_u8 w1_1) (wf_u8 w1_2) (wf_u8 w1_3) a1_4
 exact posthornlaw06_DateOrders.calls k _ _ _ _ _ _ _ _ _ _ true w HG (hk k (Nat.le_refl _))
end Go.Proofs.YtnmhkmkaklhapaaDoor.Pure
