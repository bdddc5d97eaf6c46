/- A date's text, as it is written (also in other capitals, with wider gaps), is read as the date: plain lists. A date's text is read as the date: whole texts. dressed: a date's text in other capitals, with wider gaps and a remark behind it, in closed words. A dressed text is read as the date. -/
import Derived.Test.YtnmhkmkaklhapaaDoorPrint
import Derived.Test.YtnmhkmkaklhapaaDoorRX
namespace Go.Proofs.YtnmhkmkaklhapaaDoor.PT
set_option linter.unusedVariables false
set_option linter.unusedSimpArgs false
open Go.RowKit Go.Proofs.YtnmhkmkaklhapaaDoorW.PrintWords Go.Proofs.YtnmhkmkaklhapaaDoor.B Go.Proofs.YtnmhkmkaklhapaaDoor.T Go.Proofs.YtnmhkmkaklhapaaDoor.DP Go.Proofs.YtnmhkmkaklhapaaDoor.Dec Go.Proofs.YtnmhkmkaklhapaaDoor.Chk Go.Proofs.YtnmhkmkaklhapaaDoor.Glob Go.Proofs.YtnmhkmkaklhapaaDoor.U

def Bl (g : List Int) : Prop := ∀ x ∈ g, isBl x = true
def Cl (c : Int) (g : List Int) : Prop := ∀ x ∈ g, isB c x = true
theorem tw_app (p : Int → Bool) : ∀ (g r : List Int), (∀ x ∈ g, p x = true) → (∀ x q, r = x :: q → p x = false) → ((g ++ r).takeWhile p).length = g.length
  | [], [], _, _ => rfl
  | [], x :: q, _, h => by rw [List.nil_append, List.takeWhile_cons, if_neg (by rw [h x q rfl]; decide)]
  | x :: g, r, hg, h => by
    rw [List.cons_append, List.takeWhile_cons, if_pos (hg x List.mem_cons_self), List.length_cons, List.length_cons, tw_app p g r (fun y hy => hg y (List.mem_cons_of_mem _ hy)) h]
theorem blN_app {g r : List Int} (hg : Bl g) (hr : ∀ x q, r = x :: q → isBl x = false) : blN (g ++ r) = g.length := tw_app isBl g r hg hr
theorem run_app {c : Int} {g r : List Int} (hg : Cl c g) (hr : ∀ x q, r = x :: q → isB c x = false) : run c (g ++ r) = g.length := tw_app (isB c) g r hg hr
theorem kinds_fin : ∀ c : Fin 256, (isBl (c.val : Int) = true → isB 2 (c.val : Int) = false ∧ isB 1 (c.val : Int) = false) ∧ (isB 2 (c.val : Int) = true → isBl (c.val : Int) = false ∧ isB 1 (c.val : Int) = false) ∧ (isB 1 (c.val : Int) = true → isBl (c.val : Int) = false ∧ isB 2 (c.val : Int) = false) ∧ ((48 ≤ c.val ∧ c.val ≤ 57) → isB 2 (c.val : Int) = true) := by decide +kernel
theorem kinds (c : Int) (h : 0 ≤ c ∧ c ≤ 255) : (isBl c = true → isB 2 c = false ∧ isB 1 c = false) ∧ (isB 2 c = true → isBl c = false ∧ isB 1 c = false) ∧ (isB 1 c = true → isBl c = false ∧ isB 2 c = false) ∧ ((48 ≤ c ∧ c ≤ 57) → isB 2 c = true) := by
  obtain ⟨k, rfl⟩ := Int.eq_ofNat_of_zero_le h.1
  have := kinds_fin ⟨k, by omega⟩
  exact ⟨this.1, this.2.1, this.2.2.1, fun q => this.2.2.2 ⟨by show 48 ≤ k; omega, by show k ≤ 57; omega⟩⟩
theorem hd_of {P : Int → Prop} {g r : List Int} (hg : g ≠ []) (h : ∀ x ∈ g, P x) : ∀ x q, g ++ r = x :: q → P x := by
  intro x q e
  cases g with
  | nil => exact absurd rfl hg
  | cons a g => rw [List.cons_append] at e; rw [← (List.cons.inj e).1]; exact h a List.mem_cons_self
theorem hd_cons {P : Int → Prop} {a : Int} {r : List Int} (h : P a) : ∀ x q, a :: r = x :: q → P x := by
  intro x q e
  rw [← (List.cons.inj e).1]; exact h

theorem num_decN (n : Nat) : num (decN n) = n := by
  induction n using Nat.strongRecOn with
  | _ n ih =>
    by_cases h : n < 10
    · rw [decN_small h]; unfold num; simp only [List.foldl]; omega
    · rw [decN_big h, num_snoc, ih (n / 10) (by omega)]; omega
theorem num_zeros (l : List Int) : ∀ j, num (List.replicate j 48 ++ l) = num l
  | 0 => rfl
  | j + 1 => by
    have e : num (List.replicate (j + 1) 48 ++ l) = num (List.replicate j 48 ++ l) := by unfold num; rw [List.replicate_succ, List.cons_append, List.foldl_cons]; rfl
    rw [e, num_zeros l j]
theorem num_padL (n k : Nat) : num (padL n k) = n := by unfold padL; rw [num_zeros, num_decN]
theorem padL_dig (n k : Nat) : Cl 2 (padL n k) := fun x hx => by
  have := padL_in n k x hx
  exact (kinds x (by omega)).2.2.2 this
theorem padL_length (n k : Nat) (h : (decN n).length ≤ k) : (padL n k).length = k := by unfold padL; rw [List.length_append, List.length_replicate]; omega
theorem num_app (b : List Int) : ∀ a : List Int, num (a ++ b) = num a * 10 ^ b.length + num b := by
  induction h : b.length generalizing b with
  | zero =>
    intro a
    obtain rfl : b = [] := List.length_eq_zero_iff.1 h
    simp [num]
  | succ n ih =>
    intro a
    obtain ⟨c, x, rfl⟩ : ∃ c x, b = c ++ [x] := ⟨b.dropLast, b.getLast (by intro e; rw [e] at h; simp at h), (List.dropLast_concat_getLast _).symm⟩
    have hl : c.length = n := by simpa using h
    rw [← List.append_assoc, num_snoc, num_snoc, ih c hl a, Int.pow_succ]
    rw [Int.mul_add, ← Int.mul_assoc, Int.mul_comm 10 (num a), Int.mul_assoc, Int.mul_comm 10 (10 ^ n)]
    omega

theorem fwd_up (A t t' : List Int) (h : upL t = upL t') : ∀ (n k : Nat), fwd A t k n = fwd A t' k n
  | 0, _ => rfl
  | n + 1, k => by rw [fwd, fwd, h, fwd_up A t t' h n (k + 1)]
theorem wkd_fin : ∀ k : Fin 7, fwd WKD ((WKD.drop (3 * k.val)).take 3) 0 7 = some k.val := by decide +kernel
theorem mon_fin : ∀ k : Fin 12, fwd MON ((MON.drop (3 * k.val)).take 3) 0 12 = some k.val := by decide +kernel
theorem word_wkd {t r : List Int} {k : Nat} (hk : k < 7) (ht : t.length = 3) (hc : Cl 1 t) (hu : upL t = upL ((WKD.drop (3 * k)).take 3)) (hr : ∀ x q, r = x :: q → isB 1 x = false) : wordF WKD (t ++ r) = some k := by
  unfold wordF
  rw [run_app hc hr, if_pos ht, ← ht, List.take_left, show WKD.length / t.length = 7 from by rw [ht]; rfl, fwd_up WKD t _ hu]
  exact wkd_fin ⟨k, hk⟩
theorem word_mon {t r : List Int} {k : Nat} (hk : k < 12) (ht : t.length = 3) (hc : Cl 1 t) (hu : upL t = upL ((MON.drop (3 * k)).take 3)) (hr : ∀ x q, r = x :: q → isB 1 x = false) : wordF MON (t ++ r) = some k := by
  unfold wordF
  rw [run_app hc hr, if_pos ht, ← ht, List.take_left, show MON.length / t.length = 12 from by rw [ht]; rfl, fwd_up MON t _ hu]
  exact mon_fin ⟨k, hk⟩
theorem digOk_of {l : List Int} {n : Nat} {a b : Int} (h : digN l = n) (h1 : a ≤ n) (h2 : (n : Int) ≤ b) : digOk l a b = true := by
  unfold digOk
  rw [h, decide_eq_true h1, decide_eq_true h2]
  rfl
theorem gap_pos {g : List Int} (h : g ≠ []) : decide (0 < g.length) = true := decide_eq_true (List.length_pos_iff.2 h)
theorem blB {c : Int} (h : isBl c = true) : 0 ≤ c ∧ c ≤ 255 := by
  unfold isBl at h
  rcases Bool.or_eq_true_iff.1 h with q | q <;> (have := beq_iff_eq.1 q; omega)
theorem clB {c x : Int} (h : isB c x = true) (hx : 0 ≤ x ∧ x ≤ 255) : True := trivial

/-- hour, minute, second -/
theorem clock_text (H M S r : List Int) (hH : Cl 2 H) (h2 : H.length = 2) (hM : Cl 2 M) (m2 : M.length = 2) (hS : Cl 2 S) (s2 : S.length = 2) (hr : ∀ x q, r = x :: q → isB 2 x = false) :
    clockP (H ++ (58 :: (M ++ (58 :: (S ++ r))))) 0 0 0 = ⟨true, r, num H, num M, num S⟩ := by
  have c58 : isB 2 58 = false := by decide +kernel
  have d1 : digN (H ++ (58 :: (M ++ (58 :: (S ++ r))))) = 2 := (run_app hH (hd_cons c58)).trans h2
  have d2 : digN (M ++ (58 :: (S ++ r))) = 2 := (run_app hM (hd_cons c58)).trans m2
  have d3 : digN (S ++ r) = 2 := (run_app hS hr).trans s2
  have o1 := digOk_of (a := 2) (b := 2) d1 (by decide) (by decide)
  have o2 := digOk_of (a := 2) (b := 2) d2 (by decide) (by decide)
  have o3 := digOk_of (a := 2) (b := 2) d3 (by decide) (by decide)
  have e1 : (H ++ (58 :: (M ++ (58 :: (S ++ r))))).drop 2 = 58 :: (M ++ (58 :: (S ++ r))) := by rw [← h2, List.drop_left]
  have e2 : (M ++ (58 :: (S ++ r))).drop 2 = 58 :: (S ++ r) := by rw [← m2, List.drop_left]
  have e3 : (S ++ r).drop 2 = r := by rw [← s2, List.drop_left]
  have t1 : (H ++ (58 :: (M ++ (58 :: (S ++ r))))).take 2 = H := by rw [← h2, List.take_left]
  have t2 : (M ++ (58 :: (S ++ r))).take 2 = M := by rw [← m2, List.take_left]
  have t3 : (S ++ r).take 2 = S := by rw [← s2, List.take_left]
  have dc : ∀ q : List Int, (58 :: q).drop 1 = q := fun _ => rfl
  have bg : ∀ q : List Int, begB (58 :: q) 58 = true := fun _ => rfl
  unfold clockP
  simp only [e1, dc, bg, e2, e3, t1, t2, t3, o1, o2, o3]
  rfl
/-- the day, its month and year, and the time -/
theorem date_text (D G2 M3 G3 Y G4 H M S G5 r : List Int) (k : Nat) (hD : Cl 2 D) (d1 : 1 ≤ D.length) (d2 : D.length ≤ 2) (g2 : Bl G2) (n2 : G2 ≠ []) (hk : k < 12) (m3 : M3.length = 3) (hM3 : Cl 1 M3) (hu : upL M3 = upL ((MON.drop (3 * k)).take 3)) (iM : InB M3) (g3 : Bl G3) (n3 : G3 ≠ []) (hY : Cl 2 Y) (y4 : Y.length = 4) (g4 : Bl G4) (n4 : G4 ≠ [])
    (hH : Cl 2 H) (h2 : H.length = 2) (hM : Cl 2 M) (m2 : M.length = 2) (hS : Cl 2 S) (s2 : S.length = 2) (g5 : Bl G5) (n5 : G5 ≠ []) (iY : InB Y) (iH : InB H) (hr : ∀ x q, r = x :: q → isBl x = false) :
    dateP (D ++ (G2 ++ (M3 ++ (G3 ++ (Y ++ (G4 ++ (H ++ (58 :: (M ++ (58 :: (S ++ (G5 ++ r)))))))))))) = (some ⟨num Y, (k : Int) + 1, num D, num H, num M, num S⟩, r) := by
  have nd : ∀ {g : List Int}, Bl g → ∀ x ∈ g, isB 2 x = false := fun hg x hx => ((kinds x (blB (hg x hx))).1 (hg x hx)).1
  have nl : ∀ {g : List Int}, Bl g → ∀ x ∈ g, isB 1 x = false := fun hg x hx => ((kinds x (blB (hg x hx))).1 (hg x hx)).2
  have ne : ∀ {g : List Int} {n : Nat}, g.length = n → 0 < n → g ≠ [] := fun h hn e => by rw [e] at h; simp at h; omega
  have q1 : digN (D ++ (G2 ++ (M3 ++ (G3 ++ (Y ++ (G4 ++ (H ++ (58 :: (M ++ (58 :: (S ++ (G5 ++ r)))))))))))) = D.length := run_app hD (hd_of n2 (nd g2))
  have q2 : blN (G2 ++ (M3 ++ (G3 ++ (Y ++ (G4 ++ (H ++ (58 :: (M ++ (58 :: (S ++ (G5 ++ r))))))))))) = G2.length := blN_app g2 (hd_of (ne m3 (by decide)) (fun x hx => ((kinds x (iM x hx)).2.2.1 (hM3 x hx)).1))
  have q3 : wordF MON (M3 ++ (G3 ++ (Y ++ (G4 ++ (H ++ (58 :: (M ++ (58 :: (S ++ (G5 ++ r)))))))))) = some k := word_mon hk m3 hM3 hu (hd_of n3 (nl g3))
  have q4 : blN (G3 ++ (Y ++ (G4 ++ (H ++ (58 :: (M ++ (58 :: (S ++ (G5 ++ r))))))))) = G3.length := blN_app g3 (hd_of (ne y4 (by decide)) (fun x hx => ((kinds x (iY x hx)).2.1 (hY x hx)).1))
  have q5 : digN (Y ++ (G4 ++ (H ++ (58 :: (M ++ (58 :: (S ++ (G5 ++ r)))))))) = 4 := (run_app hY (hd_of n4 (nd g4))).trans y4
  have q6 : blN (G4 ++ (H ++ (58 :: (M ++ (58 :: (S ++ (G5 ++ r))))))) = G4.length := blN_app g4 (hd_of (ne h2 (by decide)) (fun x hx => ((kinds x (iH x hx)).2.1 (hH x hx)).1))
  have q7 := clock_text H M S (G5 ++ r) hH h2 hM m2 hS s2 (hd_of n5 (nd g5))
  have q8 : blN (G5 ++ r) = G5.length := blN_app g5 hr
  have o1 := digOk_of (a := 1) (b := 2) q1 (by omega) (by omega)
  have o5 := digOk_of (a := 2) (b := 4) q5 (by decide) (by decide)
  have e3 : (M3 ++ (G3 ++ (Y ++ (G4 ++ (H ++ (58 :: (M ++ (58 :: (S ++ (G5 ++ r)))))))))).drop 3 = G3 ++ (Y ++ (G4 ++ (H ++ (58 :: (M ++ (58 :: (S ++ (G5 ++ r)))))))) := by rw [← m3, List.drop_left]
  have e5 : (Y ++ (G4 ++ (H ++ (58 :: (M ++ (58 :: (S ++ (G5 ++ r)))))))).drop 4 = G4 ++ (H ++ (58 :: (M ++ (58 :: (S ++ (G5 ++ r)))))) := by rw [← y4, List.drop_left]
  have t5 : (Y ++ (G4 ++ (H ++ (58 :: (M ++ (58 :: (S ++ (G5 ++ r)))))))).take 4 = Y := by rw [← y4, List.take_left]
  have ye : yearV 4 (num Y) = num Y := by unfold yearV; rw [if_neg (fun h => absurd h.1 (by decide)), if_neg (by decide)]
  unfold dateP
  simp only [q1, o1, List.drop_left, List.take_left, q2, gap_pos n2, q3, e3, q4, gap_pos n3, q5, o5, e5, q6, gap_pos n4, q7, q8, gap_pos n5, t5, ye]
  rfl
theorem zone_text (sg : Int) (ZH ZM r : List Int) (hs : sg = 43 ∨ sg = 45) (h1 : Cl 2 ZH) (l1 : ZH.length = 2) (h2 : Cl 2 ZM) (l2 : ZM.length = 2) (hm : 0 ≤ num ZM ∧ num ZM ≤ 59) (hh : 0 ≤ num ZH) (hr : ∀ x q, r = x :: q → isB 2 x = false) :
    zoneP (sg :: (ZH ++ (ZM ++ r))) = ((if sg = 45 then -(num ZH * 60 + num ZM) else num ZH * 60 + num ZM), true, r) := by
  have hc : Cl 2 (ZH ++ ZM) := fun x hx => by rcases List.mem_append.1 hx with h | h; exact h1 x h; exact h2 x h
  have l4 : (ZH ++ ZM).length = 4 := by rw [List.length_append]; omega
  have q : digN (ZH ++ (ZM ++ r)) = 4 := by rw [← List.append_assoc]; exact (run_app hc hr).trans l4
  have o := digOk_of (a := 4) (b := 4) q (by decide) (by decide)
  have t : (ZH ++ (ZM ++ r)).take 4 = ZH ++ ZM := by rw [← List.append_assoc, ← l4, List.take_left]
  have dr : (ZH ++ (ZM ++ r)).drop 4 = r := by rw [← List.append_assoc, ← l4, List.drop_left]
  have n4 : num (ZH ++ ZM) = num ZH * 100 + num ZM := by rw [num_app, l2]; rfl
  have x1 : (num ZH * 100 + num ZM) % 100 = num ZM := by omega
  have x2 : (num ZH * 100 + num ZM) / 100 = num ZH := by omega
  unfold zoneP
  simp only
  rw [if_pos hs]
  unfold zoneS
  rw [if_pos o, t, n4, x1, if_neg (by omega), dr]
  unfold signV
  rw [x1, x2]
end Go.Proofs.YtnmhkmkaklhapaaDoor.PT
namespace Go.Proofs.YtnmhkmkaklhapaaDoor.PT
set_option linter.unusedVariables false
set_option linter.unusedSimpArgs false
open Go.RowKit Go.Proofs.YtnmhkmkaklhapaaDoorW.PrintWords Go.Proofs.YtnmhkmkaklhapaaDoor.B Go.Proofs.YtnmhkmkaklhapaaDoor.T Go.Proofs.YtnmhkmkaklhapaaDoor.DP Go.Proofs.YtnmhkmkaklhapaaDoor.Dec Go.Proofs.YtnmhkmkaklhapaaDoor.Chk Go.Proofs.YtnmhkmkaklhapaaDoor.Glob Go.Proofs.YtnmhkmkaklhapaaDoor.U Go.Proofs.YtnmhkmkaklhapaaDoor.MN

/-- The lists of a date's text, each as it must be. -/
structure Parts (y mo d h mi s z : Int) where
  D : List Int
  G2 : List Int
  M3 : List Int
  G3 : List Int
  Y : List Int
  G4 : List Int
  H : List Int
  M : List Int
  S : List Int
  G5 : List Int
  sg : Int
  ZH : List Int
  ZM : List Int
  R : List Int
  k : Nat
  hD : Cl 2 D
  d1 : 1 ≤ D.length
  d2 : D.length ≤ 2
  g2 : Bl G2
  n2 : G2 ≠ []
  hk : k < 12
  m3 : M3.length = 3
  hM3 : Cl 1 M3
  hu : upL M3 = upL ((MON.drop (3 * k)).take 3)
  iM : InB M3
  g3 : Bl G3
  n3 : G3 ≠ []
  hY : Cl 2 Y
  y4 : Y.length = 4
  g4 : Bl G4
  n4 : G4 ≠ []
  hH : Cl 2 H
  h2 : H.length = 2
  hM : Cl 2 M
  m2 : M.length = 2
  hS : Cl 2 S
  s2 : S.length = 2
  g5 : Bl G5
  n5 : G5 ≠ []
  iY : InB Y
  iH : InB H
  iD : InB D
  hsg : sg = 43 ∨ sg = 45
  hZH : Cl 2 ZH
  l1 : ZH.length = 2
  hZM : Cl 2 ZM
  l2 : ZM.length = 2
  zm : 0 ≤ num ZM ∧ num ZM ≤ 59
  zh : 0 ≤ num ZH
  hR : ∀ x q, R = x :: q → isB 2 x = false
  rest : (restB R).1 = true
  ey : num Y = y
  emo : (k : Int) + 1 = mo
  ed : num D = d
  eh : num H = h
  emi : num M = mi
  es : num S = s
  ez : (if sg = 45 then -(num ZH * 60 + num ZM) else num ZH * 60 + num ZM) = z
def Parts.body {y mo d h mi s z : Int} (p : Parts y mo d h mi s z) : List Int :=
  p.D ++ (p.G2 ++ (p.M3 ++ (p.G3 ++ (p.Y ++ (p.G4 ++ (p.H ++ (58 :: (p.M ++ (58 :: (p.S ++ (p.G5 ++ (p.sg :: (p.ZH ++ (p.ZM ++ p.R))))))))))))))
theorem sgBl {sg : Int} (h : sg = 43 ∨ sg = 45) : isBl sg = false := by rcases h with rfl | rfl <;> rfl
theorem body_parse {y mo d h mi s z : Int} (p : Parts y mo d h mi s z) (N : Nat) (nm : Int) (hc : chkV y mo d h mi s z = 0) (hnm : nm < 0 ∨ wkV (daysV y mo d).1 = nm) : bodyP N nm p.body = ⟨0, 0, y, mo, d, h, mi, s, z⟩ := by
  have a := date_text p.D p.G2 p.M3 p.G3 p.Y p.G4 p.H p.M p.S p.G5 (p.sg :: (p.ZH ++ (p.ZM ++ p.R))) p.k p.hD p.d1 p.d2 p.g2 p.n2 p.hk p.m3 p.hM3 p.hu p.iM p.g3 p.n3 p.hY p.y4 p.g4 p.n4 p.hH p.h2 p.hM p.m2 p.hS p.s2 p.g5 p.n5 p.iY p.iH (hd_cons (sgBl p.hsg))
  have b := zone_text p.sg p.ZH p.ZM p.R p.hsg p.hZH p.l1 p.hZM p.l2 p.zm p.zh p.hR
  rw [p.ey, p.emo, p.ed, p.eh, p.emi, p.es] at a
  rw [p.ez] at b
  unfold bodyP Parts.body
  rw [a]
  simp only
  unfold tailP
  rw [b]
  simp only
  rcases hr : restB p.R with ⟨rb, q⟩
  have := p.rest
  rw [hr] at this
  simp only at this
  subst this
  simp only
  unfold finP
  simp only
  rw [if_neg (by rw [hc]; decide), if_neg (by intro ⟨q1, q2⟩; rcases hnm with e | e; omega; exact q2 e), if_neg (by rw [hc]; decide)]
theorem body_head {y mo d h mi s z : Int} (p : Parts y mo d h mi s z) (P : Int → Prop) (hp : ∀ x ∈ p.D, P x) : ∀ x q, p.body = x :: q → P x := hd_of (fun e => by have := p.d1; rw [e] at this; simp at this) hp
/-- Without a weekday, behind blanks. -/
theorem plain_parse {y mo d h mi s z : Int} (p : Parts y mo d h mi s z) (G0 : List Int) (g0 : Bl G0) (hc : chkV y mo d h mi s z = 0) : parseP (G0 ++ p.body) = ⟨0, 0, y, mo, d, h, mi, s, z⟩ := by
  have hb : blN (G0 ++ p.body) = G0.length := blN_app g0 (body_head p _ fun x hx => ((kinds x (p.iD x hx)).2.1 (p.hD x hx)).1)
  have hn1 : ∀ x q, p.body = x :: q → isB 1 x = false := body_head p _ fun x hx => ((kinds x (p.iD x hx)).2.1 (p.hD x hx)).2
  have hr : run 1 p.body = 0 := run_app (g := []) (fun x hx => by cases hx) hn1
  unfold parseP
  rw [hb, List.drop_left]
  unfold headP
  rw [if_pos hr]
  exact body_parse p _ _ hc (.inl (by decide))
/-- With the weekday. -/
theorem named_parse {y mo d h mi s z : Int} (p : Parts y mo d h mi s z) (G0 W3 G1 : List Int) (k : Nat) (g0 : Bl G0) (hk : k < 7) (w3 : W3.length = 3) (hW : Cl 1 W3) (iW : InB W3) (hu : upL W3 = upL ((WKD.drop (3 * k)).take 3)) (g1 : Bl G1) (hc : chkV y mo d h mi s z = 0) (hw : wkV (daysV y mo d).1 = k) :
    parseP (G0 ++ (W3 ++ (44 :: (G1 ++ p.body)))) = ⟨0, 0, y, mo, d, h, mi, s, z⟩ := by
  have c44 : isB 1 44 = false := by decide +kernel
  have nw : W3 ≠ [] := fun e => by rw [e] at w3; simp at w3
  have hb : blN (G0 ++ (W3 ++ (44 :: (G1 ++ p.body)))) = G0.length := blN_app g0 (hd_of nw fun x hx => ((kinds x (iW x hx)).2.2.1 (hW x hx)).1)
  have hr : run 1 (W3 ++ (44 :: (G1 ++ p.body))) = 3 := (run_app hW (hd_cons c44)).trans w3
  have hf := word_wkd hk w3 hW hu (r := 44 :: (G1 ++ p.body)) (hd_cons c44)
  have e3 : (W3 ++ (44 :: (G1 ++ p.body))).drop 3 = 44 :: (G1 ++ p.body) := by rw [← w3, List.drop_left]
  have bg : begB (44 :: (G1 ++ p.body)) 44 = true := rfl
  have d1 : (44 :: (G1 ++ p.body)).drop 1 = G1 ++ p.body := rfl
  have b1 : blN (G1 ++ p.body) = G1.length := blN_app g1 (body_head p _ fun x hx => ((kinds x (p.iD x hx)).2.1 (p.hD x hx)).1)
  unfold parseP
  rw [hb, List.drop_left]
  unfold headP
  rw [hr, if_neg (by decide), hf]
  simp only [e3, bg, d1, b1, List.drop_left]
  exact body_parse p _ _ hc (.inr hw)

theorem wkd3 : ∀ k : Fin 7, ((WKD.drop (3 * k.val)).take 3).length = 3 ∧ (∀ x ∈ (WKD.drop (3 * k.val)).take 3, isB 1 x = true ∧ 0 ≤ x ∧ x ≤ 255) := by decide +kernel
theorem mon3 : ∀ k : Fin 12, ((MON.drop (3 * k.val)).take 3).length = 3 ∧ (∀ x ∈ (MON.drop (3 * k.val)).take 3, isB 1 x = true ∧ 0 ≤ x ∧ x ≤ 255) := by decide +kernel
theorem decN_le2 {n : Nat} (h : n < 100) : (decN n).length ≤ 2 := decN_len 1 n (by omega)
theorem decN_le4 {n : Nat} (h : n < 10000) : (decN n).length ≤ 4 := decN_len 3 n (by omega)
theorem bl32 : Bl [32] := fun x hx => by rw [List.mem_singleton.1 hx]; rfl
/-- The parts of a date that Print writes. -/
def parts (y mo d h m s z : Int) (hy : 1 ≤ y ∧ y ≤ 9999) (hmo : 1 ≤ mo ∧ mo ≤ 12) (hd : 1 ≤ d ∧ d ≤ 31) (hh : 0 ≤ h ∧ h ≤ 23) (hm : 0 ≤ m ∧ m ≤ 59) (hs : 0 ≤ s ∧ s ≤ 59) (hz : -1439 ≤ z ∧ z ≤ 1439) : Parts y mo d h m s z where
  D := padL d.toNat 1
  G2 := [32]
  M3 := (MON.drop (3 * (mo - 1).toNat)).take 3
  G3 := [32]
  Y := padL y.toNat 4
  G4 := [32]
  H := padL h.toNat 2
  M := padL m.toNat 2
  S := padL s.toNat 2
  G5 := [32]
  sg := if z < 0 then 45 else 43
  ZH := padL (z.natAbs / 60) 2
  ZM := padL (z.natAbs % 60) 2
  R := []
  k := (mo - 1).toNat
  hD := padL_dig _ _
  d1 := by unfold padL; rw [List.length_append, List.length_replicate]; omega
  d2 := by unfold padL; have := decN_le2 (n := d.toNat) (by omega); have := decN_pos d.toNat; rw [List.length_append, List.length_replicate]; omega
  g2 := bl32
  n2 := by simp
  hk := by omega
  m3 := (mon3 ⟨(mo - 1).toNat, by omega⟩).1
  hM3 := fun x hx => ((mon3 ⟨(mo - 1).toNat, by omega⟩).2 x hx).1
  hu := rfl
  iM := fun x hx => ((mon3 ⟨(mo - 1).toNat, by omega⟩).2 x hx).2
  g3 := bl32
  n3 := by simp
  hY := padL_dig _ _
  y4 := padL_length _ _ (decN_le4 (by omega))
  g4 := bl32
  n4 := by simp
  hH := padL_dig _ _
  h2 := padL_length _ _ (decN_le2 (by omega))
  hM := padL_dig _ _
  m2 := padL_length _ _ (decN_le2 (by omega))
  hS := padL_dig _ _
  s2 := padL_length _ _ (decN_le2 (by omega))
  g5 := bl32
  n5 := by simp
  iY := padL_inB _ _
  iH := padL_inB _ _
  iD := padL_inB _ _
  hsg := by split; exact .inr rfl; exact .inl rfl
  hZH := padL_dig _ _
  l1 := padL_length _ _ (decN_le2 (by omega))
  hZM := padL_dig _ _
  l2 := padL_length _ _ (decN_le2 (by omega))
  zm := by rw [num_padL]; omega
  zh := by rw [num_padL]; omega
  hR := fun x q e => by cases e
  rest := rfl
  ey := by rw [num_padL]; omega
  emo := by omega
  ed := by rw [num_padL]; omega
  eh := by rw [num_padL]; omega
  emi := by rw [num_padL]; omega
  es := by rw [num_padL]; omega
  ez := by
    rw [num_padL, num_padL]
    by_cases hn : z < 0
    · rw [if_pos hn, if_pos rfl]; omega
    · rw [if_neg hn, if_neg (by decide)]; omega
theorem printL_parts (wk y mo d h m s z : Int) (hy : 1 ≤ y ∧ y ≤ 9999) (hmo : 1 ≤ mo ∧ mo ≤ 12) (hd : 1 ≤ d ∧ d ≤ 31) (hh : 0 ≤ h ∧ h ≤ 23) (hm : 0 ≤ m ∧ m ≤ 59) (hs : 0 ≤ s ∧ s ≤ 59) (hz : -1439 ≤ z ∧ z ≤ 1439) :
    printL wk y mo d h m s z = (WKD.drop (3 * wk.toNat)).take 3 ++ (44 :: ([32] ++ (parts y mo d h m s z hy hmo hd hh hm hs hz).body)) := by
  unfold printL Parts.body parts
  simp only [List.append_assoc, List.cons_append, List.nil_append, List.append_nil]
/-- What is written is read as it was. -/
theorem parse_print (y mo d h m s z : Int) (hy : 1 ≤ y ∧ y ≤ 9999) (hmo : 1 ≤ mo ∧ mo ≤ 12) (hd : 1 ≤ d ∧ d ≤ 31) (hh : 0 ≤ h ∧ h ≤ 23) (hm : 0 ≤ m ∧ m ≤ 59) (hs : 0 ≤ s ∧ s ≤ 59) (hz : -1439 ≤ z ∧ z ≤ 1439) (hc : chkV y mo d h m s z = 0) :
    parseP (printL (wkV (daysV y mo d).1) y mo d h m s z) = ⟨0, 0, y, mo, d, h, m, s, z⟩ := by
  have hw := wk_range (daysV y mo d).1
  have w3 := wkd3 ⟨(wkV (daysV y mo d).1).toNat, by omega⟩
  rw [printL_parts _ y mo d h m s z hy hmo hd hh hm hs hz]
  exact named_parse _ [] _ [32] (wkV (daysV y mo d).1).toNat (fun x hx => by cases hx) (by omega) w3.1 (fun x hx => (w3.2 x hx).1) (fun x hx => (w3.2 x hx).2) rfl bl32 hc (by omega)
theorem printL_in (wk y mo d h m s z : Int) (hy : 1 ≤ y ∧ y ≤ 9999) (hmo : 1 ≤ mo ∧ mo ≤ 12) (hd : 1 ≤ d ∧ d ≤ 31) (hh : 0 ≤ h ∧ h ≤ 23) (hm : 0 ≤ m ∧ m ≤ 59) (hs : 0 ≤ s ∧ s ≤ 59) (hz : -1439 ≤ z ∧ z ≤ 1439) (hw : 0 ≤ wk ∧ wk < 7) : InB (printL wk y mo d h m s z) ∧ (printL wk y mo d h m s z).length ≤ 100 := by
  have w3 := wkd3 ⟨wk.toNat, by omega⟩
  have m3 := mon3 ⟨(mo - 1).toNat, by omega⟩
  have p := fun (n k : Nat) (a : n < 10000) (b : k ≤ 4) => padL_len n k a b
  constructor
  · intro x hx
    unfold printL at hx
    simp only [List.mem_append, List.mem_cons, List.not_mem_nil, or_false] at hx
    have q := fun (n k : Nat) (h : x ∈ padL n k) => padL_inB n k x h
    repeat' (rcases hx with hx | hx)
    all_goals first | exact q _ _ hx | exact (w3.2 x hx).2 | exact (m3.2 x hx).2 | omega | (by_cases hzn : z < 0 <;> simp [hzn] at hx <;> omega)
  · unfold printL
    simp only [List.length_append, List.length_cons, List.length_nil]
    have a1 := p d.toNat 1 (by omega) (by decide)
    have a2 := p y.toNat 4 (by omega) (by decide)
    have a3 := p h.toNat 2 (by omega) (by decide)
    have a4 := p m.toNat 2 (by omega) (by decide)
    have a5 := p s.toNat 2 (by omega) (by decide)
    have a6 := p (z.natAbs / 60) 2 (by omega) (by decide)
    have a7 := p (z.natAbs % 60) 2 (by omega) (by decide)
    have e1 : ((WKD.drop (3 * wk.toNat)).take 3).length = 3 := w3.1
    have e2 : ((MON.drop (3 * (mo - 1).toNat)).take 3).length = 3 := m3.1
    omega
end Go.Proofs.YtnmhkmkaklhapaaDoor.PT
namespace Go.Proofs.YtnmhkmkaklhapaaDoor.DR
set_option linter.unusedVariables false
set_option linter.unusedSimpArgs false
open Go.RowKit Go.Proofs.YtnmhkmkaklhapaaDoorW.PrintWords Go.Proofs.YtnmhkmkaklhapaaDoorW.PrintLast Go.Proofs.YtnmhkmkaklhapaaDoorW.PrintMore Go.Proofs.YtnmhkmkaklhapaaDoor.B Go.Proofs.YtnmhkmkaklhapaaDoor.R Go.Proofs.YtnmhkmkaklhapaaDoor.T Go.Proofs.YtnmhkmkaklhapaaDoor.DP Go.Proofs.YtnmhkmkaklhapaaDoor.Dec Go.Proofs.YtnmhkmkaklhapaaDoor.Chk Go.Proofs.YtnmhkmkaklhapaaDoor.Glob Go.Proofs.YtnmhkmkaklhapaaDoor.U Go.Proofs.YtnmhkmkaklhapaaDoor.MN Go.Proofs.YtnmhkmkaklhapaaDoor.PT

def isLet (x : Int) : Bool := decide ((97 ≤ x ∧ x ≤ 122) ∨ (65 ≤ x ∧ x ≤ 90))
def flip (x : Int) : Int := if x ≥ 97 then x - 32 else x + 32
def bitB (mask i : Int) : Bool := (Int.tmod (shr .u64 mask (IntKind.u64.wrap (Int.tmod i 64))) 2) == 1
def dchar (mask i x : Int) : Int := if isLet x = true ∧ bitB mask i = true then flip x else x
def gapN (n : Nat) : List Int := ([32, 9, 32] : List Int).take n
def dr (mask w : Int) : List Int → Nat → List Int
  | [], _ => []
  | x :: r, i => (dchar mask i x :: (if dchar mask i x = 32 then gapN (w % 4).toNat else [])) ++ dr mask w r (i + 1)
def okR (c : Int) : Bool := decide (c ≥ 32 ∧ c ≤ 126 ∧ c ≠ 40 ∧ c ≠ 41 ∧ c ≠ 92)
def finL (out rem : List Int) : List Int := [32, 9] ++ (out ++ ([32, 40] ++ (rem.filter okR ++ [41, 32])))
theorem flip_fin : ∀ c : Fin 256, isLet (c.val : Int) = true → Go.bits .xor .u8 (c.val : Int) 32 = flip (c.val : Int) := by decide +kernel
theorem flip_of (c : Int) (h : 0 ≤ c ∧ c ≤ 255) (hl : isLet c = true) : Go.bits .xor .u8 c 32 = flip c := by
  obtain ⟨k, rfl⟩ := Int.eq_ofNat_of_zero_le h.1
  exact flip_fin ⟨k, by omega⟩ hl
theorem gap_snoc : ∀ n : Nat, n < 3 → gapN (n + 1) = gapN n ++ [bt (⟨#[32, 9]⟩ : ByteArray) (Int.tmod (n : Int) 2)] := by decide +kernel
theorem l2_ev (s : ByteArray) (out : List Int) (hs : s.size ≤ 1048576) (ho : out.length ≤ 1000000) (c : Nat) : ∀ (i : Nat) (acc : List Int), s.size - i = c → i ≤ s.size → acc.length ≤ i →
    Ev (fun k => posthornlaw06_dressed.l2 k s out acc (i : Int)) (strOfNums ([32, 9] ++ (out ++ ([32, 40] ++ ((acc ++ ((bytesOf s).drop i).filter okR) ++ [41, 32]))))) := by
  induction c with
  | zero =>
    intro i acc hc hi ha
    refine Ev.last fun k => ?_
    have e1 : (⟨#[32, 9]⟩ : ByteArray) = strOfNums [32, 9] := by kernel_rfl
    have e2 : (⟨#[32, 40]⟩ : ByteArray) = strOfNums [32, 40] := by kernel_rfl
    have e3 : (⟨#[41, 32]⟩ : ByteArray) = strOfNums [41, 32] := by kernel_rfl
    rw [posthornlaw06_dressed.l2, if_neg (by omega), e1, e2, e3, str_app, str_app, str_app, str_app, strOfNums_len, strOfNums_len, strOfNums_len, strOfNums_len, strOfNums_len]
    simp only [List.length_append, List.length_cons, List.length_nil]
    rw [if_pos (by omega), if_pos (by omega), if_pos (by omega), if_pos (by omega), List.drop_eq_nil_of_le (by rw [bytesOf_len]; omega), List.filter_nil, List.append_nil]
    simp only [List.append_assoc]
  | succ c ih =>
    intro i acc hc hi ha
    have hb : i < (bytesOf s).length := by rw [bytesOf_len]; omega
    have hx := bytesOf_in s _ (List.getElem_mem hb)
    rw [drop_cons _ i hb]
    have hbt := bt_bytes s i hb
    obtain ⟨x, ex⟩ : ∃ x, (bytesOf s)[i] = x := ⟨_, rfl⟩
    rw [ex] at hx hbt ⊢
    have key := ih (i + 1)
    have skip : okR x = false → Ev (fun k => posthornlaw06_dressed.l2 k s out acc (((i + 1 : Nat) : Int))) (strOfNums ([32, 9] ++ (out ++ ([32, 40] ++ ((acc ++ (x :: (bytesOf s).drop (i + 1)).filter okR) ++ [41, 32]))))) := fun h => by
      rw [List.filter_cons, if_neg (by rw [h]; decide)]
      exact key acc (by omega) (by omega) (by omega)
    by_cases c1 : x ≥ 32
    · by_cases c2 : x ≤ 126
      · by_cases c3 : x = 40
        · refine Ev.step (fun k => ?_) (skip (decide_eq_false (by omega)))
          rw [posthornlaw06_dressed.l2, if_pos (by omega), if_pos (by omega), hbt, if_pos c1, if_pos c2, if_pos c3, wrap_id _ (by omega) (by omega)]; rfl
        · by_cases c4 : x = 41
          · refine Ev.step (fun k => ?_) (skip (decide_eq_false (by omega)))
            rw [posthornlaw06_dressed.l2, if_pos (by omega), if_pos (by omega), hbt, if_pos c1, if_pos c2, if_neg c3, if_pos c4, wrap_id _ (by omega) (by omega)]; rfl
          · by_cases c5 : x = 92
            · refine Ev.step (fun k => ?_) (skip (decide_eq_false (by omega)))
              rw [posthornlaw06_dressed.l2, if_pos (by omega), if_pos (by omega), hbt, if_pos c1, if_pos c2, if_neg c3, if_neg c4, if_pos c5, wrap_id _ (by omega) (by omega)]; rfl
            · have k2 := key (acc ++ [x]) (by omega) (by omega) (by rw [List.length_append, List.length_singleton]; omega)
              rw [List.filter_cons, if_pos (show okR x = true from decide_eq_true ⟨c1, c2, c3, c4, c5⟩), show acc ++ x :: ((bytesOf s).drop (i + 1)).filter okR = (acc ++ [x]) ++ ((bytesOf s).drop (i + 1)).filter okR from by simp]
              refine Ev.step (fun k => ?_) k2
              rw [posthornlaw06_dressed.l2, if_pos (by omega), if_pos (by omega), hbt, if_pos c1, if_pos c2, if_neg c3, if_neg c4, if_neg c5, if_pos (by omega), wrap_id _ (by omega) (by omega)]; rfl
      · refine Ev.step (fun k => ?_) (skip (decide_eq_false (by omega)))
        rw [posthornlaw06_dressed.l2, if_pos (by omega), if_pos (by omega), hbt, if_pos c1, if_neg c2, wrap_id _ (by omega) (by omega)]; rfl
    · refine Ev.step (fun k => ?_) (skip (decide_eq_false (by omega)))
      rw [posthornlaw06_dressed.l2, if_pos (by omega), if_pos (by omega), hbt, if_neg c1, wrap_id _ (by omega) (by omega)]; rfl
theorem l1_ev (s rem : ByteArray) (mask w i : Int) (hw : 0 ≤ w ∧ w ≤ 255) (r : ByteArray) (acc : List Int) (ha : acc.length ≤ 1000000) (hnext : Ev (fun k => posthornlaw06_dressed.l0 k s mask w rem (acc ++ gapN (w % 4).toNat) (wrap64 (i + 1))) r) (c : Nat) : ∀ j : Nat, (w % 4).toNat - j = c → j ≤ (w % 4).toNat →
    Ev (fun k => posthornlaw06_dressed.l1 k s mask w rem (acc ++ gapN j) i (j : Int)) r := by
  have hm : wrap64 (Int.tmod w 4) = w % 4 := by rw [Int.tmod_eq_emod_of_nonneg hw.1, wrap_id _ (by omega) (by omega)]
  induction c with
  | zero =>
    intro j hc hj
    obtain rfl : j = (w % 4).toNat := by omega
    exact Ev.step (fun k => by rw [posthornlaw06_dressed.l1, hm, if_neg (by omega)]) hnext
  | succ c ih =>
    intro j hc hj
    have key := ih (j + 1) (by omega) (by omega)
    rw [gap_snoc j (by omega), ← List.append_assoc] at key
    have hg : (gapN j).length ≤ 3 := by unfold gapN; rw [List.length_take]; simp; omega
    refine Ev.step (fun k => ?_) key
    rw [posthornlaw06_dressed.l1, hm, if_pos (by omega), if_pos (by rw [Int.tmod_eq_emod_of_nonneg (by omega)]; omega), if_pos (by rw [Int.tmod_eq_emod_of_nonneg (by omega)]; omega), if_pos (by rw [List.length_append]; omega), wrap_id _ (by omega) (by omega)]
    rfl
set_option maxHeartbeats 1000000 in
theorem l0_ev (s rem : ByteArray) (mask w : Int) (hw : 0 ≤ w ∧ w ≤ 255) (hs : s.size ≤ 1000) (hr : rem.size ≤ 1048576) (c : Nat) : ∀ (i : Nat) (acc : List Int), s.size - i = c → i ≤ s.size → acc.length + 4 * (s.size - i) ≤ 100000 →
    Ev (fun k => posthornlaw06_dressed.l0 k s mask w rem acc (i : Int)) (strOfNums (finL (acc ++ dr mask w ((bytesOf s).drop i) i) (bytesOf rem))) := by
  induction c with
  | zero =>
    intro i acc hc hi ha
    have key := l2_ev rem acc hr (by omega) rem.size 0 [] rfl (Nat.zero_le _) (Nat.zero_le _)
    rw [List.drop_zero, List.nil_append, show ((0 : Nat) : Int) = 0 from rfl] at key
    have ed : (bytesOf s).drop i = [] := List.drop_eq_nil_of_le (by rw [bytesOf_len]; omega)
    have e2 : acc ++ dr mask w ((bytesOf s).drop i) i = acc := by rw [ed]; exact List.append_nil _
    rw [e2]
    exact Ev.step (f := fun k => posthornlaw06_dressed.l2 k rem acc [] 0) (fun k => by rw [posthornlaw06_dressed.l0, if_neg (by omega)]) key
  | succ c ih =>
    intro i acc hc hi ha
    have hb : i < (bytesOf s).length := by rw [bytesOf_len]; omega
    have hx := bytesOf_in s _ (List.getElem_mem hb)
    rw [drop_cons _ i hb, dr]
    have hbt := bt_bytes s i hb
    obtain ⟨x, ex⟩ : ∃ x, (bytesOf s)[i] = x := ⟨_, rfl⟩
    rw [ex] at hx hbt ⊢
    have hg : (gapN (w % 4).toNat).length ≤ 3 := by unfold gapN; rw [List.length_take]; simp; omega
    have HW1 : Aside0 (wrap64 ((i : Int) + 1) = ((i + 1 : Nat) : Int)) := ⟨by rw [wrap_id _ (by omega) (by omega)]; omega⟩
    -- behind the letter
    have j3 : ∀ v : Int, Ev (fun k => posthornlaw06_dressed.j3 k s mask w rem acc (i : Int) v) (strOfNums (finL (acc ++ ((v :: (if v = 32 then gapN (w % 4).toNat else [])) ++ dr mask w ((bytesOf s).drop (i + 1)) (i + 1))) (bytesOf rem))) := by
      intro v
      by_cases hv : v = 32
      · rw [if_pos hv]
        have k0 := ih (i + 1) ((acc ++ [v]) ++ gapN (w % 4).toNat) (by omega) (by omega) (by rw [List.length_append, List.length_append, List.length_singleton]; omega)
        rw [← HW1.out] at k0
        have k1 := l1_ev s rem mask w (i : Int) hw _ (acc ++ [v]) (by rw [List.length_append, List.length_singleton]; omega) k0 (w % 4).toNat 0 rfl (Nat.zero_le _)
        rw [show gapN 0 = [] from rfl, List.append_nil, show ((0 : Nat) : Int) = 0 from rfl] at k1
        rw [show acc ++ (v :: gapN (w % 4).toNat ++ dr mask w ((bytesOf s).drop (i + 1)) (i + 1)) = (acc ++ [v] ++ gapN (w % 4).toNat) ++ dr mask w ((bytesOf s).drop (i + 1)) (i + 1) from by simp]
        exact Ev.step (fun k => by rw [posthornlaw06_dressed.j3, if_pos (by omega), bind_some', if_pos hv]) k1
      · rw [if_neg hv]
        have k0 := ih (i + 1) (acc ++ [v]) (by omega) (by omega) (by rw [List.length_append, List.length_singleton]; omega)
        rw [show acc ++ (v :: [] ++ dr mask w ((bytesOf s).drop (i + 1)) (i + 1)) = (acc ++ [v]) ++ dr mask w ((bytesOf s).drop (i + 1)) (i + 1) from by simp]
        exact Ev.step (fun k => by rw [posthornlaw06_dressed.j3, if_pos (by omega), bind_some', if_neg hv, HW1.out]) k0
    have j2 : ∀ b : Bool, Ev (fun k => posthornlaw06_dressed.j2 k s mask w rem acc (i : Int) x b) (strOfNums (finL (acc ++ (((if b = true then Go.bits .xor .u8 x 32 else x) :: (if (if b = true then Go.bits .xor .u8 x 32 else x) = 32 then gapN (w % 4).toNat else [])) ++ dr mask w ((bytesOf s).drop (i + 1)) (i + 1))) (bytesOf rem))) := by
      intro b
      cases b with
      | true =>
        rw [if_pos rfl]
        refine Ev.step (fun k => ?_) (j3 (Go.bits .xor .u8 x 32))
        rw [posthornlaw06_dressed.j2, if_pos rfl]
      | false =>
        rw [if_neg (by decide)]
        refine Ev.step (fun k => ?_) (j3 x)
        rw [posthornlaw06_dressed.j2, if_neg (by decide)]
    have j1 : Ev (fun k => posthornlaw06_dressed.j1 k s mask w rem acc (i : Int) x (isLet x)) (strOfNums (finL (acc ++ ((dchar mask (i : Int) x :: (if dchar mask (i : Int) x = 32 then gapN (w % 4).toNat else [])) ++ dr mask w ((bytesOf s).drop (i + 1)) (i + 1))) (bytesOf rem))) := by
      cases hl : isLet x with
      | true =>
        have e : dchar mask (i : Int) x = if bitB mask (i : Int) = true then Go.bits .xor .u8 x 32 else x := by
          unfold dchar
          cases bitB mask (i : Int) with
          | true => rw [if_pos ⟨hl, rfl⟩, if_pos rfl, flip_of x hx hl]
          | false => rw [if_neg (fun h => Bool.noConfusion h.2), if_neg (by decide)]
        rw [e]
        refine Ev.step (fun k => ?_) (j2 (bitB mask (i : Int)))
        have hu : 0 ≤ IntKind.u64.wrap (Int.tmod (i : Int) 64) := by
          unfold IntKind.wrap
          simp only [show IntKind.u64.bits = 64 from rfl, show IntKind.u64.signed = false from rfl, Bool.false_and, show (2 : Int) ^ 64 = 18446744073709551616 from by decide]
          rw [if_neg (by decide)]
          omega
        rw [posthornlaw06_dressed.j1, if_pos rfl, if_pos hu]
        rfl
      | false =>
        have e : dchar mask (i : Int) x = x := by unfold dchar; rw [if_neg (fun h => by rw [hl] at h; exact Bool.noConfusion h.1)]
        rw [e]
        have k2 := j2 false
        rw [if_neg (by decide)] at k2
        refine Ev.step (fun k => ?_) k2
        rw [posthornlaw06_dressed.j1, if_neg (by decide)]
    refine Ev.step (fun k => ?_) j1
    rw [posthornlaw06_dressed.l0, if_pos (by omega), if_pos (by omega), hbt]
    have hl : isLet x = decide ((97 ≤ x ∧ x ≤ 122) ∨ (65 ≤ x ∧ x ≤ 90)) := rfl
    by_cases a1 : x ≥ 97
    · rw [if_pos a1]
      by_cases a2 : x ≤ 122
      · rw [if_pos a2, hl, decide_eq_true (.inl ⟨a1, a2⟩)]
      · rw [if_neg a2, if_pos (by omega), hl]
        congr 1
        exact decide_eq_decide.2 (by omega)
    · rw [if_neg a1]
      by_cases a3 : x ≥ 65
      · rw [if_pos a3, hl]
        congr 1
        exact decide_eq_decide.2 (by omega)
      · rw [if_neg a3, hl, decide_eq_false (by omega)]
theorem dressed_ev (s rem : ByteArray) (mask w : Int) (hw : 0 ≤ w ∧ w ≤ 255) (hs : s.size ≤ 1000) (hr : rem.size ≤ 1048576) :
    Ev (fun k => posthornlaw06_dressed.f k s mask w rem) (strOfNums (finL (dr mask w (bytesOf s) 0) (bytesOf rem))) := by
  have key := l0_ev s rem mask w hw hs hr s.size 0 [] rfl (Nat.zero_le _) (by simp; omega)
  rw [List.drop_zero, List.nil_append] at key
  exact key
end Go.Proofs.YtnmhkmkaklhapaaDoor.DR
namespace Go.Proofs.YtnmhkmkaklhapaaDoor.DR
set_option linter.unusedVariables false
set_option linter.unusedSimpArgs false
open Go.RowKit Go.Proofs.YtnmhkmkaklhapaaDoorW.PrintWords Go.Proofs.YtnmhkmkaklhapaaDoor.B Go.Proofs.YtnmhkmkaklhapaaDoor.T Go.Proofs.YtnmhkmkaklhapaaDoor.DP Go.Proofs.YtnmhkmkaklhapaaDoor.Dec Go.Proofs.YtnmhkmkaklhapaaDoor.Chk Go.Proofs.YtnmhkmkaklhapaaDoor.Glob Go.Proofs.YtnmhkmkaklhapaaDoor.U Go.Proofs.YtnmhkmkaklhapaaDoor.MN Go.Proofs.YtnmhkmkaklhapaaDoor.PT

theorem dr_app (mask w : Int) (b : List Int) : ∀ (a : List Int) (i : Nat), dr mask w (a ++ b) i = dr mask w a i ++ dr mask w b (i + a.length)
  | [], i => rfl
  | x :: a, i => by
    rw [List.cons_append, dr, dr, dr_app mask w b a (i + 1), List.length_cons, List.append_assoc, show i + 1 + a.length = i + (a.length + 1) from by omega]
theorem dr_plain (mask w : Int) : ∀ (a : List Int) (i : Nat), (∀ x ∈ a, isLet x = false ∧ x ≠ 32) → dr mask w a i = a
  | [], _, _ => rfl
  | x :: a, i, h => by
    have hx := h x List.mem_cons_self
    have e : dchar mask (i : Int) x = x := by unfold dchar; rw [if_neg (fun q => by rw [hx.1] at q; exact Bool.noConfusion q.1)]
    rw [dr, e, if_neg hx.2, dr_plain mask w a (i + 1) (fun y hy => h y (List.mem_cons_of_mem _ hy))]
    rfl
theorem dr_gap (mask w : Int) (i : Nat) : dr mask w [32] i = 32 :: gapN (w % 4).toNat := by
  have e : dchar mask (i : Int) 32 = 32 := by unfold dchar; rw [if_neg (fun q => absurd q.1 (by decide))]
  rw [dr, e, if_pos rfl]
  show 32 :: gapN (w % 4).toNat ++ [] = _
  rw [List.append_nil]
theorem let_fin : ∀ c : Fin 256, isB 1 (c.val : Int) = true → isLet (c.val : Int) = true ∧ isB 1 (flip (c.val : Int)) = true ∧ upL [flip (c.val : Int)] = upL [(c.val : Int)] ∧ (0 ≤ flip (c.val : Int) ∧ flip (c.val : Int) ≤ 255) ∧ flip (c.val : Int) ≠ 32 ∧ (c.val : Int) ≠ 32 := by decide +kernel
theorem let_of (c : Int) (h : 0 ≤ c ∧ c ≤ 255) (hb : isB 1 c = true) : isLet c = true ∧ isB 1 (flip c) = true ∧ upL [flip c] = upL [c] ∧ (0 ≤ flip c ∧ flip c ≤ 255) ∧ flip c ≠ 32 ∧ c ≠ 32 := by
  obtain ⟨k, rfl⟩ := Int.eq_ofNat_of_zero_le h.1
  exact let_fin ⟨k, by omega⟩ hb
theorem dr_let (mask w : Int) : ∀ (a : List Int) (i : Nat), (∀ x ∈ a, isB 1 x = true ∧ 0 ≤ x ∧ x ≤ 255) → (dr mask w a i).length = a.length ∧ (∀ x ∈ dr mask w a i, isB 1 x = true ∧ 0 ≤ x ∧ x ≤ 255) ∧ upL (dr mask w a i) = upL a
  | [], _, _ => ⟨rfl, fun x hx => (by cases hx), rfl⟩
  | x :: a, i, h => by
    have hx := h x List.mem_cons_self
    have q := let_of x hx.2 hx.1
    obtain ⟨l1, l2, l3⟩ := dr_let mask w a (i + 1) (fun y hy => h y (List.mem_cons_of_mem _ hy))
    have e : (dchar mask (i : Int) x = x ∨ dchar mask (i : Int) x = flip x) := by
      unfold dchar
      by_cases hb : isLet x = true ∧ bitB mask (i : Int) = true
      · rw [if_pos hb]; exact .inr rfl
      · rw [if_neg hb]; exact .inl rfl
    have f : dchar mask (i : Int) x ≠ 32 ∧ isB 1 (dchar mask (i : Int) x) = true ∧ (0 ≤ dchar mask (i : Int) x ∧ dchar mask (i : Int) x ≤ 255) ∧ upL [dchar mask (i : Int) x] = upL [x] := by
      rcases e with e | e
      · rw [e]; exact ⟨q.2.2.2.2.2, hx.1, hx.2, rfl⟩
      · rw [e]; exact ⟨q.2.2.2.2.1, q.2.1, q.2.2.2.1, q.2.2.1⟩
    rw [dr, if_neg f.1]
    generalize dchar mask (i : Int) x = c at *
    have ul : ∀ (y : Int) (r : List Int), upL (y :: r) = upL [y] ++ upL r := fun _ _ => rfl
    refine ⟨?_, ?_, ?_⟩
    · show (c :: ([] ++ dr mask w a (i + 1))).length = _
      rw [List.nil_append, List.length_cons, l1, List.length_cons]
    · intro y hy
      rcases List.mem_cons.1 hy with rfl | hy
      · exact ⟨f.2.1, f.2.2.1⟩
      · exact l2 y (by simpa using hy)
    · show upL (c :: ([] ++ dr mask w a (i + 1))) = _
      rw [List.nil_append, ul c, ul x, f.2.2.2, l3]
theorem gap_bl (n : Nat) : Bl (32 :: gapN n) := by
  intro x hx
  have : x = 32 ∨ x = 9 := by
    rcases List.mem_cons.1 hx with h | h
    · exact .inl h
    · have := List.mem_of_mem_take h
      simp at this
      omega
  rcases this with rfl | rfl <;> rfl
theorem nolet_fin : ∀ c : Fin 256, isB 2 (c.val : Int) = true → isLet (c.val : Int) = false ∧ (c.val : Int) ≠ 32 := by decide +kernel
theorem dr_pad (mask w : Int) (n k i : Nat) : dr mask w (padL n k) i = padL n k := dr_plain mask w _ i fun x hx => by
  have h := padL_in n k x hx
  obtain ⟨c, rfl⟩ := Int.eq_ofNat_of_zero_le (show 0 ≤ x by omega)
  exact nolet_fin ⟨c, by omega⟩ (padL_dig n k _ hx)
/-- The parts of a dressed date: the month's letters turned about, the gaps wider, the remark behind. -/
def parts' (mask w : Int) (i5 : Nat) (rem : List Int) (y mo d h m s z : Int) (hy : 1 ≤ y ∧ y ≤ 9999) (hmo : 1 ≤ mo ∧ mo ≤ 12) (hd : 1 ≤ d ∧ d ≤ 31) (hh : 0 ≤ h ∧ h ≤ 23) (hm : 0 ≤ m ∧ m ≤ 59) (hs : 0 ≤ s ∧ s ≤ 59) (hz : -1439 ≤ z ∧ z ≤ 1439)
    (hR : ∀ x q, rem = x :: q → isB 2 x = false) (hrest : (restB rem).1 = true) : Parts y mo d h m s z :=
  { parts y mo d h m s z hy hmo hd hh hm hs hz with
    G2 := 32 :: gapN (w % 4).toNat
    g2 := gap_bl _
    n2 := by simp
    M3 := dr mask w ((MON.drop (3 * (mo - 1).toNat)).take 3) i5
    m3 := (dr_let mask w _ i5 (mon3 ⟨(mo - 1).toNat, by omega⟩).2).1.trans (mon3 ⟨(mo - 1).toNat, by omega⟩).1
    hM3 := fun x hx => ((dr_let mask w _ i5 (mon3 ⟨(mo - 1).toNat, by omega⟩).2).2.1 x hx).1
    iM := fun x hx => ((dr_let mask w _ i5 (mon3 ⟨(mo - 1).toNat, by omega⟩).2).2.1 x hx).2
    hu := (dr_let mask w _ i5 (mon3 ⟨(mo - 1).toNat, by omega⟩).2).2.2
    G3 := 32 :: gapN (w % 4).toNat
    g3 := gap_bl _
    n3 := by simp
    G4 := 32 :: gapN (w % 4).toNat
    g4 := gap_bl _
    n4 := by simp
    G5 := 32 :: gapN (w % 4).toNat
    g5 := gap_bl _
    n5 := by simp
    R := rem
    hR := hR
    rest := hrest }
theorem rem_text : ∀ t : List Int, (∀ x ∈ t, okR x = true) → remN (t ++ [41, 32]) = some t.length
  | [], _ => rfl
  | x :: t, h => by
    have hx := of_decide_eq_true (h x List.mem_cons_self)
    rw [List.cons_append, remN, if_neg (by omega), if_neg (by omega), rem_text t (fun y hy => h y (List.mem_cons_of_mem _ hy))]
    rfl
theorem restB_40 (l r : List Int) (n : Nat) (hm : l.drop (blN l) = 40 :: r) (hr : remN r = some n) : (restB l).1 = decide (((40 :: r : List Int).drop (n + 2)).drop (blN ((40 :: r : List Int).drop (n + 2))) = []) := by
  unfold restB
  rw [hm]
  simp only [hr]
theorem rest_text (t : List Int) (h : ∀ x ∈ t, okR x = true) : (restB ([32, 40] ++ (t ++ [41, 32]))).1 = true := by
  have b : blN ([32, 40] ++ (t ++ [41, 32])) = 1 := by
    show blN ([32] ++ (40 :: (t ++ [41, 32]))) = 1
    exact blN_app bl32 (hd_cons (by decide))
  have hm : ([32, 40] ++ (t ++ [41, 32]) : List Int).drop (blN ([32, 40] ++ (t ++ [41, 32]))) = 40 :: (t ++ [41, 32]) := by rw [b]; rfl
  rw [restB_40 _ _ _ hm (rem_text t h)]
  have e : (40 :: (t ++ [41, 32]) : List Int).drop (t.length + 2) = [32] := by
    rw [List.drop_succ_cons, show t.length + 1 = (t ++ [(41 : Int)]).length from by simp, show t ++ [(41 : Int), 32] = (t ++ [41]) ++ [32] from by simp, List.drop_left]
  rw [e]
  decide
theorem drop_app' (mask w : Int) (a b : List Int) (i j : Nat) (h : j = i + a.length) : dr mask w (a ++ b) i = dr mask w a i ++ dr mask w b j := by rw [dr_app, h]
/-- A dressed text of a date that may be is read as it. -/
theorem parse_dressed (mask w : Int) (rem : List Int) (y mo d h m s z : Int) (hy : 1 ≤ y ∧ y ≤ 9999) (hmo : 1 ≤ mo ∧ mo ≤ 12) (hd : 1 ≤ d ∧ d ≤ 31) (hh : 0 ≤ h ∧ h ≤ 23) (hm : 0 ≤ m ∧ m ≤ 59) (hs : 0 ≤ s ∧ s ≤ 59) (hz : -1439 ≤ z ∧ z ≤ 1439) (hc : chkV y mo d h m s z = 0) :
    parseP (finL (dr mask w (printL (wkV (daysV y mo d).1) y mo d h m s z) 0) rem) = ⟨0, 0, y, mo, d, h, m, s, z⟩ := by
  have hw := wk_range (daysV y mo d).1
  have w3 := wkd3 ⟨(wkV (daysV y mo d).1).toNat, by omega⟩
  have hrest := rest_text (rem.filter okR) (fun x hx => (List.mem_filter.1 hx).2)
  have c44 : ∀ i, dr mask w [44] i = [44] := fun i => dr_plain mask w _ i (fun x hx => by rw [List.mem_singleton.1 hx]; decide)
  have c58 : ∀ i, dr mask w [58] i = [58] := fun i => dr_plain mask w _ i (fun x hx => by rw [List.mem_singleton.1 hx]; decide)
  have csg : ∀ i, dr mask w [if z < 0 then 45 else 43] i = [if z < 0 then 45 else 43] := fun i => dr_plain mask w _ i (fun x hx => by rw [List.mem_singleton.1 hx]; split <;> decide)
  have hform : ∃ i5 : Nat, finL (dr mask w (printL (wkV (daysV y mo d).1) y mo d h m s z) 0) rem = [32, 9] ++ (dr mask w ((WKD.drop (3 * (wkV (daysV y mo d).1).toNat)).take 3) 0 ++ (44 :: ((32 :: gapN (w % 4).toNat) ++ (parts' mask w i5 ([32, 40] ++ (rem.filter okR ++ [41, 32])) y mo d h m s z hy hmo hd hh hm hs hz (hd_cons (by decide +kernel)) hrest).body))) := by
    refine ⟨0 + ((WKD.drop (3 * (wkV (daysV y mo d).1).toNat)).take 3).length + [(44 : Int)].length + [(32 : Int)].length + (padL d.toNat 1).length + [(32 : Int)].length, ?_⟩
    unfold finL printL Parts.body parts' parts
    have e2 : ([44, 32] : List Int) = [44] ++ [32] := rfl
    rw [e2]
    simp only [List.append_assoc]
    simp only [dr_app]
    simp only [dr_pad, dr_gap, c44, c58, csg]
    simp only [List.append_assoc, List.cons_append, List.nil_append, Nat.add_assoc]
  obtain ⟨i5, e⟩ := hform
  rw [e]
  have l := dr_let mask w _ 0 w3.2
  exact named_parse _ [32, 9] _ _ (wkV (daysV y mo d).1).toNat (fun x hx => by simp at hx; rcases hx with rfl | rfl <;> rfl) (by omega) (l.1.trans w3.1) (fun x hx => (l.2.1 x hx).1) (fun x hx => (l.2.1 x hx).2) l.2.2 (gap_bl _) hc (by omega)
/-- Behind the weekday, its comma and its blank. -/
theorem parse_behind (y mo d h m s z : Int) (hy : 1 ≤ y ∧ y ≤ 9999) (hmo : 1 ≤ mo ∧ mo ≤ 12) (hd : 1 ≤ d ∧ d ≤ 31) (hh : 0 ≤ h ∧ h ≤ 23) (hm : 0 ≤ m ∧ m ≤ 59) (hs : 0 ≤ s ∧ s ≤ 59) (hz : -1439 ≤ z ∧ z ≤ 1439) (hc : chkV y mo d h m s z = 0) :
    parseP ((printL (wkV (daysV y mo d).1) y mo d h m s z).drop 5) = ⟨0, 0, y, mo, d, h, m, s, z⟩ := by
  have hw := wk_range (daysV y mo d).1
  have w3 := wkd3 ⟨(wkV (daysV y mo d).1).toNat, by omega⟩
  have e : (printL (wkV (daysV y mo d).1) y mo d h m s z).drop 5 = (parts y mo d h m s z hy hmo hd hh hm hs hz).body := by
    rw [printL_parts _ y mo d h m s z hy hmo hd hh hm hs hz]
    have l : ((WKD.drop (3 * (wkV (daysV y mo d).1).toNat)).take 3 ++ [44, 32]).length = 5 := by rw [List.length_append, w3.1]; rfl
    rw [show ∀ q : List Int, (WKD.drop (3 * (wkV (daysV y mo d).1).toNat)).take 3 ++ (44 :: ([32] ++ q)) = ((WKD.drop (3 * (wkV (daysV y mo d).1).toNat)).take 3 ++ [44, 32]) ++ q from fun q => by simp, ← l, List.drop_left]
  rw [e]
  exact plain_parse _ [] (fun x hx => by cases hx) hc
theorem printL_long (wk y mo d h m s z : Int) (hw : 0 ≤ wk ∧ wk < 7) : 5 ≤ (printL wk y mo d h m s z).length := by
  have w3 := wkd3 ⟨wk.toNat, by omega⟩
  have e1 : ((WKD.drop (3 * wk.toNat)).take 3).length = 3 := w3.1
  unfold printL
  simp only [List.length_append, List.length_cons, List.length_nil]
  omega
end Go.Proofs.YtnmhkmkaklhapaaDoor.DR
