/- A date's text, as it is written (also in other capitals, with wider gaps), is read as the date: plain lists. A date's text is read as the date: whole texts. -/
import Derived.Test.YtnmhkmkaklhapaaDoorPrint
namespace Go.Proofs.YtnmhkmkaklhapaaDoor.PT
set_option linter.unusedVariables false
set_option linter.unusedSimpArgs false
open Go.RowKit Go.Proofs.YtnmhkmkaklhapaaDoorW.PrintWords Go.Proofs.YtnmhkmkaklhapaaDoor.B Go.Proofs.YtnmhkmkaklhapaaDoor.T Go.Proofs.YtnmhkmkaklhapaaDoor.DP Go.Proofs.YtnmhkmkaklhapaaDoor.Dec Go.Proofs.YtnmhkmkaklhapaaDoor.Chk Go.Proofs.YtnmhkmkaklhapaaDoor.Glob Go.Proofs.YtnmhkmkaklhapaaDoor.U

def Bl (g : List Int) : Prop := ∀ x ∈ g, isBl x = true
def Cl (c : Int) (g : List Int) : Prop := ∀ x ∈ g, isB c x = true
theorem tw_app (p : Int → Bool) : ∀ (g r : List Int), (∀ x ∈ g, p x = true) → (∀ x q, r = x :: q → p x = false) → ((g ++ r).takeWhile p).length = g.length
  | [], [], _, _ => rfl
  | [], x :: q, _, h => by rw [List.nil_append, List.takeWhile_cons, if_neg (by rw [h x q rfl]; decide)]
  | x :: g, r, hg, h => by
    rw [List.cons_append, List.takeWhile_cons, if_pos (hg x List.mem_cons_self), List.length_cons, List.length_cons, tw_app p g r (fun y hy => hg y (List.mem_cons_of_mem _ hy)) h]
theorem blN_app {g r : List Int} (hg : Bl g) (hr : ∀ x q, r = x :: q → isBl x = false) : blN (g ++ r) = g.length := tw_app isBl g r hg hr
theorem run_app {c : Int} {g r : List Int} (hg : Cl c g) (hr : ∀ x q, r = x :: q → isB c x = false) : run c (g ++ r) = g.length := tw_app (isB c) g r hg hr
theorem kinds_fin : ∀ c : Fin 256, (isBl (c.val : Int) = true → isB 2 (c.val : Int) = false ∧ isB 1 (c.val : Int) = false) ∧ (isB 2 (c.val : Int) = true → isBl (c.val : Int) = false ∧ isB 1 (c.val : Int) = false) ∧ (isB 1 (c.val : Int) = true → isBl (c.val : Int) = false ∧ isB 2 (c.val : Int) = false) ∧ ((48 ≤ c.val ∧ c.val ≤ 57) → isB 2 (c.val : Int) = true) := by decide +kernel
theorem kinds (c : Int) (h : 0 ≤ c ∧ c ≤ 255) : (isBl c = true → isB 2 c = false ∧ isB 1 c = false) ∧ (isB 2 c = true → isBl c = false ∧ isB 1 c = false) ∧ (isB 1 c = true → isBl c = false ∧ isB 2 c = false) ∧ ((48 ≤ c ∧ c ≤ 57) → isB 2 c = true) := by
  obtain ⟨k, rfl⟩ := Int.eq_ofNat_of_zero_le h.1
  have := kinds_fin ⟨k, by omega⟩
  exact ⟨this.1, this.2.1, this.2.2.1, fun q => this.2.2.2 ⟨by show 48 ≤ k; omega, by show k ≤ 57; omega⟩⟩
theorem hd_of {P : Int → Prop} {g r : List Int} (hg : g ≠ []) (h : ∀ x ∈ g, P x) : ∀ x q, g ++ r = x :: q → P x := by
  intro x q e
  cases g with
  | nil => exact absurd rfl hg
  | cons a g => rw [List.cons_append] at e; rw [← (List.cons.inj e).1]; exact h a List.mem_cons_self
theorem hd_cons {P : Int → Prop} {a : Int} {r : List Int} (h : P a) : ∀ x q, a :: r = x :: q → P x := by
  intro x q e
  rw [← (List.cons.inj e).1]; exact h

theorem num_decN (n : Nat) : num (decN n) = n := by
  induction n using Nat.strongRecOn with
  | _ n ih =>
    by_cases h : n < 10
    · rw [decN_small h]; unfold num; simp only [List.foldl]; omega
    · rw [decN_big h, num_snoc, ih (n / 10) (by omega)]; omega
theorem num_zeros (l : List Int) : ∀ j, num (List.replicate j 48 ++ l) = num l
  | 0 => rfl
  | j + 1 => by
    have e : num (List.replicate (j + 1) 48 ++ l) = num (List.replicate j 48 ++ l) := by unfold num; rw [List.replicate_succ, List.cons_append, List.foldl_cons]; rfl
    rw [e, num_zeros l j]
theorem num_padL (n k : Nat) : num (padL n k) = n := by unfold padL; rw [num_zeros, num_decN]
theorem padL_dig (n k : Nat) : Cl 2 (padL n k) := fun x hx => by
  have := padL_in n k x hx
  exact (kinds x (by omega)).2.2.2 this
theorem padL_length (n k : Nat) (h : (decN n).length ≤ k) : (padL n k).length = k := by unfold padL; rw [List.length_append, List.length_replicate]; omega
theorem num_app (b : List Int) : ∀ a : List Int, num (a ++ b) = num a * 10 ^ b.length + num b := by
  induction h : b.length generalizing b with
  | zero =>
    intro a
    obtain rfl : b = [] := List.length_eq_zero_iff.1 h
    simp [num]
  | succ n ih =>
    intro a
    obtain ⟨c, x, rfl⟩ : ∃ c x, b = c ++ [x] := ⟨b.dropLast, b.getLast (by intro e; rw [e] at h; simp at h), (List.dropLast_concat_getLast _).symm⟩
    have hl : c.length = n := by simpa using h
    rw [← List.append_assoc, num_snoc, num_snoc, ih c hl a, Int.pow_succ]
    rw [Int.mul_add, ← Int.mul_assoc, Int.mul_comm 10 (num a), Int.mul_assoc, Int.mul_comm 10 (10 ^ n)]
    omega

theorem fwd_up (A t t' : List Int) (h : upL t = upL t') : ∀ (n k : Nat), fwd A t k n = fwd A t' k n
  | 0, _ => rfl
  | n + 1, k => by rw [fwd, fwd, h, fwd_up A t t' h n (k + 1)]
theorem wkd_fin : ∀ k : Fin 7, fwd WKD ((WKD.drop (3 * k.val)).take 3) 0 7 = some k.val := by decide +kernel
theorem mon_fin : ∀ k : Fin 12, fwd MON ((MON.drop (3 * k.val)).take 3) 0 12 = some k.val := by decide +kernel
theorem word_wkd {t r : List Int} {k : Nat} (hk : k < 7) (ht : t.length = 3) (hc : Cl 1 t) (hu : upL t = upL ((WKD.drop (3 * k)).take 3)) (hr : ∀ x q, r = x :: q → isB 1 x = false) : wordF WKD (t ++ r) = some k := by
  unfold wordF
  rw [run_app hc hr, if_pos ht, ← ht, List.take_left, show WKD.length / t.length = 7 from by rw [ht]; rfl, fwd_up WKD t _ hu]
  exact wkd_fin ⟨k, hk⟩
theorem word_mon {t r : List Int} {k : Nat} (hk : k < 12) (ht : t.length = 3) (hc : Cl 1 t) (hu : upL t = upL ((MON.drop (3 * k)).take 3)) (hr : ∀ x q, r = x :: q → isB 1 x = false) : wordF MON (t ++ r) = some k := by
  unfold wordF
  rw [run_app hc hr, if_pos ht, ← ht, List.take_left, show MON.length / t.length = 12 from by rw [ht]; rfl, fwd_up MON t _ hu]
  exact mon_fin ⟨k, hk⟩
theorem digOk_of {l : List Int} {n : Nat} {a b : Int} (h : digN l = n) (h1 : a ≤ n) (h2 : (n : Int) ≤ b) : digOk l a b = true := by
  unfold digOk
  rw [h, decide_eq_true h1, decide_eq_true h2]
  rfl
theorem gap_pos {g : List Int} (h : g ≠ []) : decide (0 < g.length) = true := decide_eq_true (List.length_pos_iff.2 h)
theorem blB {c : Int} (h : isBl c = true) : 0 ≤ c ∧ c ≤ 255 := by
  unfold isBl at h
  rcases Bool.or_eq_true_iff.1 h with q | q <;> (have := beq_iff_eq.1 q; omega)
theorem clB {c x : Int} (h : isB c x = true) (hx : 0 ≤ x ∧ x ≤ 255) : True := trivial

/-- hour, minute, second -/
theorem clock_text (H M S r : List Int) (hH : Cl 2 H) (h2 : H.length = 2) (hM : Cl 2 M) (m2 : M.length = 2) (hS : Cl 2 S) (s2 : S.length = 2) (hr : ∀ x q, r = x :: q → isB 2 x = false) :
    clockP (H ++ (58 :: (M ++ (58 :: (S ++ r))))) 0 0 0 = ⟨true, r, num H, num M, num S⟩ := by
  have c58 : isB 2 58 = false := by decide +kernel
  have d1 : digN (H ++ (58 :: (M ++ (58 :: (S ++ r))))) = 2 := (run_app hH (hd_cons c58)).trans h2
  have d2 : digN (M ++ (58 :: (S ++ r))) = 2 := (run_app hM (hd_cons c58)).trans m2
  have d3 : digN (S ++ r) = 2 := (run_app hS hr).trans s2
  have o1 := digOk_of (a := 2) (b := 2) d1 (by decide) (by decide)
  have o2 := digOk_of (a := 2) (b := 2) d2 (by decide) (by decide)
  have o3 := digOk_of (a := 2) (b := 2) d3 (by decide) (by decide)
  have e1 : (H ++ (58 :: (M ++ (58 :: (S ++ r))))).drop 2 = 58 :: (M ++ (58 :: (S ++ r))) := by rw [← h2, List.drop_left]
  have e2 : (M ++ (58 :: (S ++ r))).drop 2 = 58 :: (S ++ r) := by rw [← m2, List.drop_left]
  have e3 : (S ++ r).drop 2 = r := by rw [← s2, List.drop_left]
  have t1 : (H ++ (58 :: (M ++ (58 :: (S ++ r))))).take 2 = H := by rw [← h2, List.take_left]
  have t2 : (M ++ (58 :: (S ++ r))).take 2 = M := by rw [← m2, List.take_left]
  have t3 : (S ++ r).take 2 = S := by rw [← s2, List.take_left]
  have dc : ∀ q : List Int, (58 :: q).drop 1 = q := fun _ => rfl
  have bg : ∀ q : List Int, begB (58 :: q) 58 = true := fun _ => rfl
  unfold clockP
  simp only [e1, dc, bg, e2, e3, t1, t2, t3, o1, o2, o3]
  rfl
/-- the day, its month and year, and the time -/
theorem date_text (D G2 M3 G3 Y G4 H M S G5 r : List Int) (k : Nat) (hD : Cl 2 D) (d1 : 1 ≤ D.length) (d2 : D.length ≤ 2) (g2 : Bl G2) (n2 : G2 ≠ []) (hk : k < 12) (m3 : M3.length = 3) (hM3 : Cl 1 M3) (hu : upL M3 = upL ((MON.drop (3 * k)).take 3)) (iM : InB M3) (g3 : Bl G3) (n3 : G3 ≠ []) (hY : Cl 2 Y) (y4 : Y.length = 4) (g4 : Bl G4) (n4 : G4 ≠ [])
    (hH : Cl 2 H) (h2 : H.length = 2) (hM : Cl 2 M) (m2 : M.length = 2) (hS : Cl 2 S) (s2 : S.length = 2) (g5 : Bl G5) (n5 : G5 ≠ []) (iY : InB Y) (iH : InB H) (hr : ∀ x q, r = x :: q → isBl x = false) :
    dateP (D ++ (G2 ++ (M3 ++ (G3 ++ (Y ++ (G4 ++ (H ++ (58 :: (M ++ (58 :: (S ++ (G5 ++ r)))))))))))) = (some ⟨num Y, (k : Int) + 1, num D, num H, num M, num S⟩, r) := by
  have nd : ∀ {g : List Int}, Bl g → ∀ x ∈ g, isB 2 x = false := fun hg x hx => ((kinds x (blB (hg x hx))).1 (hg x hx)).1
  have nl : ∀ {g : List Int}, Bl g → ∀ x ∈ g, isB 1 x = false := fun hg x hx => ((kinds x (blB (hg x hx))).1 (hg x hx)).2
  have ne : ∀ {g : List Int} {n : Nat}, g.length = n → 0 < n → g ≠ [] := fun h hn e => by rw [e] at h; simp at h; omega
  have q1 : digN (D ++ (G2 ++ (M3 ++ (G3 ++ (Y ++ (G4 ++ (H ++ (58 :: (M ++ (58 :: (S ++ (G5 ++ r)))))))))))) = D.length := run_app hD (hd_of n2 (nd g2))
  have q2 : blN (G2 ++ (M3 ++ (G3 ++ (Y ++ (G4 ++ (H ++ (58 :: (M ++ (58 :: (S ++ (G5 ++ r))))))))))) = G2.length := blN_app g2 (hd_of (ne m3 (by decide)) (fun x hx => ((kinds x (iM x hx)).2.2.1 (hM3 x hx)).1))
  have q3 : wordF MON (M3 ++ (G3 ++ (Y ++ (G4 ++ (H ++ (58 :: (M ++ (58 :: (S ++ (G5 ++ r)))))))))) = some k := word_mon hk m3 hM3 hu (hd_of n3 (nl g3))
  have q4 : blN (G3 ++ (Y ++ (G4 ++ (H ++ (58 :: (M ++ (58 :: (S ++ (G5 ++ r))))))))) = G3.length := blN_app g3 (hd_of (ne y4 (by decide)) (fun x hx => ((kinds x (iY x hx)).2.1 (hY x hx)).1))
  have q5 : digN (Y ++ (G4 ++ (H ++ (58 :: (M ++ (58 :: (S ++ (G5 ++ r)))))))) = 4 := (run_app hY (hd_of n4 (nd g4))).trans y4
  have q6 : blN (G4 ++ (H ++ (58 :: (M ++ (58 :: (S ++ (G5 ++ r))))))) = G4.length := blN_app g4 (hd_of (ne h2 (by decide)) (fun x hx => ((kinds x (iH x hx)).2.1 (hH x hx)).1))
  have q7 := clock_text H M S (G5 ++ r) hH h2 hM m2 hS s2 (hd_of n5 (nd g5))
  have q8 : blN (G5 ++ r) = G5.length := blN_app g5 hr
  have o1 := digOk_of (a := 1) (b := 2) q1 (by omega) (by omega)
  have o5 := digOk_of (a := 2) (b := 4) q5 (by decide) (by decide)
  have e3 : (M3 ++ (G3 ++ (Y ++ (G4 ++ (H ++ (58 :: (M ++ (58 :: (S ++ (G5 ++ r)))))))))).drop 3 = G3 ++ (Y ++ (G4 ++ (H ++ (58 :: (M ++ (58 :: (S ++ (G5 ++ r)))))))) := by rw [← m3, List.drop_left]
  have e5 : (Y ++ (G4 ++ (H ++ (58 :: (M ++ (58 :: (S ++ (G5 ++ r)))))))).drop 4 = G4 ++ (H ++ (58 :: (M ++ (58 :: (S ++ (G5 ++ r)))))) := by rw [← y4, List.drop_left]
  have t5 : (Y ++ (G4 ++ (H ++ (58 :: (M ++ (58 :: (S ++ (G5 ++ r)))))))).take 4 = Y := by rw [← y4, List.take_left]
  have ye : yearV 4 (num Y) = num Y := by unfold yearV; rw [if_neg (fun h => absurd h.1 (by decide)), if_neg (by decide)]
  unfold dateP
  simp only [q1, o1, List.drop_left, List.take_left, q2, gap_pos n2, q3, e3, q4, gap_pos n3, q5, o5, e5, q6, gap_pos n4, q7, q8, gap_pos n5, t5, ye]
  rfl
theorem zone_text (sg : Int) (ZH ZM r : List Int) (hs : sg = 43 ∨ sg = 45) (h1 : Cl 2 ZH) (l1 : ZH.length = 2) (h2 : Cl 2 ZM) (l2 : ZM.length = 2) (hm : 0 ≤ num ZM ∧ num ZM ≤ 59) (hh : 0 ≤ num ZH) (hr : ∀ x q, r = x :: q → isB 2 x = false) :
    zoneP (sg :: (ZH ++ (ZM ++ r))) = ((if sg = 45 then -(num ZH * 60 + num ZM) else num ZH * 60 + num ZM), true, r) := by
  have hc : Cl 2 (ZH ++ ZM) := fun x hx => by rcases List.mem_append.1 hx with h | h; exact h1 x h; exact h2 x h
  have l4 : (ZH ++ ZM).length = 4 := by rw [List.length_append]; omega
  have q : digN (ZH ++ (ZM ++ r)) = 4 := by rw [← List.append_assoc]; exact (run_app hc hr).trans l4
  have o := digOk_of (a := 4) (b := 4) q (by decide) (by decide)
  have t : (ZH ++ (ZM ++ r)).take 4 = ZH ++ ZM := by rw [← List.append_assoc, ← l4, List.take_left]
  have dr : (ZH ++ (ZM ++ r)).drop 4 = r := by rw [← List.append_assoc, ← l4, List.drop_left]
  have n4 : num (ZH ++ ZM) = num ZH * 100 + num ZM := by rw [num_app, l2]; rfl
  have x1 : (num ZH * 100 + num ZM) % 100 = num ZM := by omega
  have x2 : (num ZH * 100 + num ZM) / 100 = num ZH := by omega
  unfold zoneP
  simp only
  rw [if_pos hs]
  unfold zoneS
  rw [if_pos o, t, n4, x1, if_neg (by omega), dr]
  unfold signV
  rw [x1, x2]
end Go.Proofs.YtnmhkmkaklhapaaDoor.PT
namespace Go.Proofs.YtnmhkmkaklhapaaDoor.PT
set_option linter.unusedVariables false
set_option linter.unusedSimpArgs false
open Go.RowKit Go.Proofs.YtnmhkmkaklhapaaDoorW.PrintWords Go.Proofs.YtnmhkmkaklhapaaDoor.B Go.Proofs.YtnmhkmkaklhapaaDoor.T Go.Proofs.YtnmhkmkaklhapaaDoor.DP Go.Proofs.YtnmhkmkaklhapaaDoor.Dec Go.Proofs.YtnmhkmkaklhapaaDoor.Chk Go.Proofs.YtnmhkmkaklhapaaDoor.Glob Go.Proofs.YtnmhkmkaklhapaaDoor.U Go.Proofs.YtnmhkmkaklhapaaDoor.MN

/-- The lists of a date's text, each as it must be. -/
structure Parts (y mo d h mi s z : Int) where
  D : List Int
  G2 : List Int
  M3 : List Int
  G3 : List Int
  Y : List Int
  G4 : List Int
  H : List Int
  M : List Int
  S : List Int
  G5 : List Int
  sg : Int
  ZH : List Int
  ZM : List Int
  R : List Int
  k : Nat
  hD : Cl 2 D
  d1 : 1 ≤ D.length
  d2 : D.length ≤ 2
  g2 : Bl G2
  n2 : G2 ≠ []
  hk : k < 12
  m3 : M3.length = 3
  hM3 : Cl 1 M3
  hu : upL M3 = upL ((MON.drop (3 * k)).take 3)
  iM : InB M3
  g3 : Bl G3
  n3 : G3 ≠ []
  hY : Cl 2 Y
  y4 : Y.length = 4
  g4 : Bl G4
  n4 : G4 ≠ []
  hH : Cl 2 H
  h2 : H.length = 2
  hM : Cl 2 M
  m2 : M.length = 2
  hS : Cl 2 S
  s2 : S.length = 2
  g5 : Bl G5
  n5 : G5 ≠ []
  iY : InB Y
  iH : InB H
  iD : InB D
  hsg : sg = 43 ∨ sg = 45
  hZH : Cl 2 ZH
  l1 : ZH.length = 2
  hZM : Cl 2 ZM
  l2 : ZM.length = 2
  zm : 0 ≤ num ZM ∧ num ZM ≤ 59
  zh : 0 ≤ num ZH
  hR : ∀ x q, R = x :: q → isB 2 x = false
  rest : (restB R).1 = true
  ey : num Y = y
  emo : (k : Int) + 1 = mo
  ed : num D = d
  eh : num H = h
  emi : num M = mi
  es : num S = s
  ez : (if sg = 45 then -(num ZH * 60 + num ZM) else num ZH * 60 + num ZM) = z
def Parts.body {y mo d h mi s z : Int} (p : Parts y mo d h mi s z) : List Int :=
  p.D ++ (p.G2 ++ (p.M3 ++ (p.G3 ++ (p.Y ++ (p.G4 ++ (p.H ++ (58 :: (p.M ++ (58 :: (p.S ++ (p.G5 ++ (p.sg :: (p.ZH ++ (p.ZM ++ p.R))))))))))))))
theorem sgBl {sg : Int} (h : sg = 43 ∨ sg = 45) : isBl sg = false := by rcases h with rfl | rfl <;> rfl
theorem body_parse {y mo d h mi s z : Int} (p : Parts y mo d h mi s z) (N : Nat) (nm : Int) (hc : chkV y mo d h mi s z = 0) (hnm : nm < 0 ∨ wkV (daysV y mo d).1 = nm) : bodyP N nm p.body = ⟨0, 0, y, mo, d, h, mi, s, z⟩ := by
  have a := date_text p.D p.G2 p.M3 p.G3 p.Y p.G4 p.H p.M p.S p.G5 (p.sg :: (p.ZH ++ (p.ZM ++ p.R))) p.k p.hD p.d1 p.d2 p.g2 p.n2 p.hk p.m3 p.hM3 p.hu p.iM p.g3 p.n3 p.hY p.y4 p.g4 p.n4 p.hH p.h2 p.hM p.m2 p.hS p.s2 p.g5 p.n5 p.iY p.iH (hd_cons (sgBl p.hsg))
  have b := zone_text p.sg p.ZH p.ZM p.R p.hsg p.hZH p.l1 p.hZM p.l2 p.zm p.zh p.hR
  rw [p.ey, p.emo, p.ed, p.eh, p.emi, p.es] at a
  rw [p.ez] at b
  unfold bodyP Parts.body
  rw [a]
  simp only
  unfold tailP
  rw [b]
  simp only
  rcases hr : restB p.R with ⟨rb, q⟩
  have := p.rest
  rw [hr] at this
  simp only at this
  subst this
  simp only
  unfold finP
  simp only
  rw [if_neg (by rw [hc]; decide), if_neg (by intro ⟨q1, q2⟩; rcases hnm with e | e; omega; exact q2 e), if_neg (by rw [hc]; decide)]
theorem body_head {y mo d h mi s z : Int} (p : Parts y mo d h mi s z) (P : Int → Prop) (hp : ∀ x ∈ p.D, P x) : ∀ x q, p.body = x :: q → P x := hd_of (fun e => by have := p.d1; rw [e] at this; simp at this) hp
/-- Without a weekday, behind blanks. -/
theorem plain_parse {y mo d h mi s z : Int} (p : Parts y mo d h mi s z) (G0 : List Int) (g0 : Bl G0) (hc : chkV y mo d h mi s z = 0) : parseP (G0 ++ p.body) = ⟨0, 0, y, mo, d, h, mi, s, z⟩ := by
  have hb : blN (G0 ++ p.body) = G0.length := blN_app g0 (body_head p _ fun x hx => ((kinds x (p.iD x hx)).2.1 (p.hD x hx)).1)
  have hn1 : ∀ x q, p.body = x :: q → isB 1 x = false := body_head p _ fun x hx => ((kinds x (p.iD x hx)).2.1 (p.hD x hx)).2
  have hr : run 1 p.body = 0 := run_app (g := []) (fun x hx => by cases hx) hn1
  unfold parseP
  rw [hb, List.drop_left]
  unfold headP
  rw [if_pos hr]
  exact body_parse p _ _ hc (.inl (by decide))
/-- With the weekday. -/
theorem named_parse {y mo d h mi s z : Int} (p : Parts y mo d h mi s z) (G0 W3 G1 : List Int) (k : Nat) (g0 : Bl G0) (hk : k < 7) (w3 : W3.length = 3) (hW : Cl 1 W3) (iW : InB W3) (hu : upL W3 = upL ((WKD.drop (3 * k)).take 3)) (g1 : Bl G1) (hc : chkV y mo d h mi s z = 0) (hw : wkV (daysV y mo d).1 = k) :
    parseP (G0 ++ (W3 ++ (44 :: (G1 ++ p.body)))) = ⟨0, 0, y, mo, d, h, mi, s, z⟩ := by
  have c44 : isB 1 44 = false := by decide +kernel
  have nw : W3 ≠ [] := fun e => by rw [e] at w3; simp at w3
  have hb : blN (G0 ++ (W3 ++ (44 :: (G1 ++ p.body)))) = G0.length := blN_app g0 (hd_of nw fun x hx => ((kinds x (iW x hx)).2.2.1 (hW x hx)).1)
  have hr : run 1 (W3 ++ (44 :: (G1 ++ p.body))) = 3 := (run_app hW (hd_cons c44)).trans w3
  have hf := word_wkd hk w3 hW hu (r := 44 :: (G1 ++ p.body)) (hd_cons c44)
  have e3 : (W3 ++ (44 :: (G1 ++ p.body))).drop 3 = 44 :: (G1 ++ p.body) := by rw [← w3, List.drop_left]
  have bg : begB (44 :: (G1 ++ p.body)) 44 = true := rfl
  have d1 : (44 :: (G1 ++ p.body)).drop 1 = G1 ++ p.body := rfl
  have b1 : blN (G1 ++ p.body) = G1.length := blN_app g1 (body_head p _ fun x hx => ((kinds x (p.iD x hx)).2.1 (p.hD x hx)).1)
  unfold parseP
  rw [hb, List.drop_left]
  unfold headP
  rw [hr, if_neg (by decide), hf]
  simp only [e3, bg, d1, b1, List.drop_left]
  exact body_parse p _ _ hc (.inr hw)

theorem wkd3 : ∀ k : Fin 7, ((WKD.drop (3 * k.val)).take 3).length = 3 ∧ (∀ x ∈ (WKD.drop (3 * k.val)).take 3, isB 1 x = true ∧ 0 ≤ x ∧ x ≤ 255) := by decide +kernel
theorem mon3 : ∀ k : Fin 12, ((MON.drop (3 * k.val)).take 3).length = 3 ∧ (∀ x ∈ (MON.drop (3 * k.val)).take 3, isB 1 x = true ∧ 0 ≤ x ∧ x ≤ 255) := by decide +kernel
theorem decN_le2 {n : Nat} (h : n < 100) : (decN n).length ≤ 2 := decN_len 1 n (by omega)
theorem decN_le4 {n : Nat} (h : n < 10000) : (decN n).length ≤ 4 := decN_len 3 n (by omega)
theorem bl32 : Bl [32] := fun x hx => by rw [List.mem_singleton.1 hx]; rfl
/-- The parts of a date that Print writes. -/
def parts (y mo d h m s z : Int) (hy : 1 ≤ y ∧ y ≤ 9999) (hmo : 1 ≤ mo ∧ mo ≤ 12) (hd : 1 ≤ d ∧ d ≤ 31) (hh : 0 ≤ h ∧ h ≤ 23) (hm : 0 ≤ m ∧ m ≤ 59) (hs : 0 ≤ s ∧ s ≤ 59) (hz : -1439 ≤ z ∧ z ≤ 1439) : Parts y mo d h m s z where
  D := padL d.toNat 1
  G2 := [32]
  M3 := (MON.drop (3 * (mo - 1).toNat)).take 3
  G3 := [32]
  Y := padL y.toNat 4
  G4 := [32]
  H := padL h.toNat 2
  M := padL m.toNat 2
  S := padL s.toNat 2
  G5 := [32]
  sg := if z < 0 then 45 else 43
  ZH := padL (z.natAbs / 60) 2
  ZM := padL (z.natAbs % 60) 2
  R := []
  k := (mo - 1).toNat
  hD := padL_dig _ _
  d1 := by unfold padL; rw [List.length_append, List.length_replicate]; omega
  d2 := by unfold padL; have := decN_le2 (n := d.toNat) (by omega); have := decN_pos d.toNat; rw [List.length_append, List.length_replicate]; omega
  g2 := bl32
  n2 := by simp
  hk := by omega
  m3 := (mon3 ⟨(mo - 1).toNat, by omega⟩).1
  hM3 := fun x hx => ((mon3 ⟨(mo - 1).toNat, by omega⟩).2 x hx).1
  hu := rfl
  iM := fun x hx => ((mon3 ⟨(mo - 1).toNat, by omega⟩).2 x hx).2
  g3 := bl32
  n3 := by simp
  hY := padL_dig _ _
  y4 := padL_length _ _ (decN_le4 (by omega))
  g4 := bl32
  n4 := by simp
  hH := padL_dig _ _
  h2 := padL_length _ _ (decN_le2 (by omega))
  hM := padL_dig _ _
  m2 := padL_length _ _ (decN_le2 (by omega))
  hS := padL_dig _ _
  s2 := padL_length _ _ (decN_le2 (by omega))
  g5 := bl32
  n5 := by simp
  iY := padL_inB _ _
  iH := padL_inB _ _
  iD := padL_inB _ _
  hsg := by split; exact .inr rfl; exact .inl rfl
  hZH := padL_dig _ _
  l1 := padL_length _ _ (decN_le2 (by omega))
  hZM := padL_dig _ _
  l2 := padL_length _ _ (decN_le2 (by omega))
  zm := by rw [num_padL]; omega
  zh := by rw [num_padL]; omega
  hR := fun x q e => by cases e
  rest := rfl
  ey := by rw [num_padL]; omega
  emo := by omega
  ed := by rw [num_padL]; omega
  eh := by rw [num_padL]; omega
  emi := by rw [num_padL]; omega
  es := by rw [num_padL]; omega
  ez := by
    rw [num_padL, num_padL]
    by_cases hn : z < 0
    · rw [if_pos hn, if_pos rfl]; omega
    · rw [if_neg hn, if_neg (by decide)]; omega
theorem printL_parts (wk y mo d h m s z : Int) (hy : 1 ≤ y ∧ y ≤ 9999) (hmo : 1 ≤ mo ∧ mo ≤ 12) (hd : 1 ≤ d ∧ d ≤ 31) (hh : 0 ≤ h ∧ h ≤ 23) (hm : 0 ≤ m ∧ m ≤ 59) (hs : 0 ≤ s ∧ s ≤ 59) (hz : -1439 ≤ z ∧ z ≤ 1439) :
    printL wk y mo d h m s z = (WKD.drop (3 * wk.toNat)).take 3 ++ (44 :: ([32] ++ (parts y mo d h m s z hy hmo hd hh hm hs hz).body)) := by
  unfold printL Parts.body parts
  simp only [List.append_assoc, List.cons_append, List.nil_append, List.append_nil]
/-- What is written is read as it was. -/
theorem parse_print (y mo d h m s z : Int) (hy : 1 ≤ y ∧ y ≤ 9999) (hmo : 1 ≤ mo ∧ mo ≤ 12) (hd : 1 ≤ d ∧ d ≤ 31) (hh : 0 ≤ h ∧ h ≤ 23) (hm : 0 ≤ m ∧ m ≤ 59) (hs : 0 ≤ s ∧ s ≤ 59) (hz : -1439 ≤ z ∧ z ≤ 1439) (hc : chkV y mo d h m s z = 0) :
    parseP (printL (wkV (daysV y mo d).1) y mo d h m s z) = ⟨0, 0, y, mo, d, h, m, s, z⟩ := by
  have hw := wk_range (daysV y mo d).1
  have w3 := wkd3 ⟨(wkV (daysV y mo d).1).toNat, by omega⟩
  rw [printL_parts _ y mo d h m s z hy hmo hd hh hm hs hz]
  exact named_parse _ [] _ [32] (wkV (daysV y mo d).1).toNat (fun x hx => by cases hx) (by omega) w3.1 (fun x hx => (w3.2 x hx).1) (fun x hx => (w3.2 x hx).2) rfl bl32 hc (by omega)
theorem printL_in (wk y mo d h m s z : Int) (hy : 1 ≤ y ∧ y ≤ 9999) (hmo : 1 ≤ mo ∧ mo ≤ 12) (hd : 1 ≤ d ∧ d ≤ 31) (hh : 0 ≤ h ∧ h ≤ 23) (hm : 0 ≤ m ∧ m ≤ 59) (hs : 0 ≤ s ∧ s ≤ 59) (hz : -1439 ≤ z ∧ z ≤ 1439) (hw : 0 ≤ wk ∧ wk < 7) : InB (printL wk y mo d h m s z) ∧ (printL wk y mo d h m s z).length ≤ 100 := by
  have w3 := wkd3 ⟨wk.toNat, by omega⟩
  have m3 := mon3 ⟨(mo - 1).toNat, by omega⟩
  have p := fun (n k : Nat) (a : n < 10000) (b : k ≤ 4) => padL_len n k a b
  constructor
  · intro x hx
    unfold printL at hx
    simp only [List.mem_append, List.mem_cons, List.not_mem_nil, or_false] at hx
    have q := fun (n k : Nat) (h : x ∈ padL n k) => padL_inB n k x h
    repeat' (rcases hx with hx | hx)
    all_goals first | exact q _ _ hx | exact (w3.2 x hx).2 | exact (m3.2 x hx).2 | omega | (by_cases hzn : z < 0 <;> simp [hzn] at hx <;> omega)
  · unfold printL
    simp only [List.length_append, List.length_cons, List.length_nil]
    have a1 := p d.toNat 1 (by omega) (by decide)
    have a2 := p y.toNat 4 (by omega) (by decide)
    have a3 := p h.toNat 2 (by omega) (by decide)
    have a4 := p m.toNat 2 (by omega) (by decide)
    have a5 := p s.toNat 2 (by omega) (by decide)
    have a6 := p (z.natAbs / 60) 2 (by omega) (by decide)
    have a7 := p (z.natAbs % 60) 2 (by omega) (by decide)
    have e1 : ((WKD.drop (3 * wk.toNat)).take 3).length = 3 := w3.1
    have e2 : ((MON.drop (3 * (mo - 1).toNat)).take 3).length = 3 := m3.1
    omega
end Go.Proofs.YtnmhkmkaklhapaaDoor.PT
