/- Unbase64, the program's fold and the reference's, told as one (plain). -/
import Derived.Test.YtokgckhhhhigiaaUnb
import Derived.Test.YtokgckhhhhigiaaG7
namespace Go.Proofs.Ytokgckhhhhigiaa.UnbP
set_option linter.unusedVariables false
set_option linter.unusedSimpArgs false
set_option linter.unusedVariables false
open Go.RowKit Go.Proofs.YtokgckhhhhigiaaW.PrintWords Go.Proofs.YtokgckhhhhigiaaW.PrintLast Go.Proofs.YtokgckhhhhigiaaW.PrintMore Go.Proofs.Ytokgckhhhhigiaa.B Go.Proofs.Ytokgckhhhhigiaa.Rd Go.Proofs.Ytokgckhhhhigiaa.G

theorem of_fin {n : Nat} {p : Int → Prop} (h : ∀ x : Fin n, p (x.val : Int)) (x : Int) (hx : 0 ≤ x ∧ x < n) : p x := by
  have := h ⟨x.toNat, by omega⟩
  simp only at this
  rwa [Int.toNat_of_nonneg hx.1] at this
theorem of_fin2 {n m : Nat} {p : Int → Int → Prop} (h : ∀ (x : Fin n) (y : Fin m), p (x.val : Int) (y.val : Int)) (x y : Int) (hx : 0 ≤ x ∧ x < n) (hy : 0 ≤ y ∧ y < m) : p x y :=
  of_fin (n := n) (p := fun x => p x y) (fun x => of_fin (n := m) (p := fun y => p (x.val : Int) y) (h x) y hy) x hx

/-- A letter's number, or -1. -/
def num (c : Int) : Int := if valV c < 64 then valV c else -1
def isL (c : Int) : Bool := decide (valV c < 64)
def lowB (c m : Int) : Bool := isL c && decide (valV c % m = 0)
theorem val_range : ∀ c : Fin 256, 0 ≤ valV (c.val : Int) ∧ valV (c.val : Int) ≤ 65 := by decide +kernel
theorem val_r (c : Int) (h : 0 ≤ c ∧ c ≤ 255) : 0 ≤ valV c ∧ valV c ≤ 65 := of_fin (n := 256) (p := fun c => 0 ≤ valV c ∧ valV c ≤ 65) val_range c (by omega)
theorem val_pad_fin : ∀ c : Fin 256, decide (valV (c.val : Int) = 64) = decide ((c.val : Int) = 61) := by decide +kernel
theorem val_pad (c : Int) (h : 0 ≤ c ∧ c ≤ 255) : valV c = 64 ↔ c = 61 := by
  have := of_fin (n := 256) (p := fun c => decide (valV c = 64) = decide (c = 61)) val_pad_fin c (by omega)
  exact decide_eq_decide.1 this
theorem number_fin : ∀ c : Fin 256, posthornref04_number.f 66 (c.val : Int) = some (num (c.val : Int)) := by decide +kernel
theorem number_ev (c : Int) (h : 0 ≤ c ∧ c ≤ 255) : Ev (fun k => posthornref04_number.f k c) (num c) :=
  Ev.of (fun k => posthornref04_number.mono c k) (k := 66) (of_fin (n := 256) (p := fun c => posthornref04_number.f 66 c = some (num c)) number_fin c (by omega))
theorem low4_fin : ∀ c : Fin 256, posthornref04_low.f 70 (c.val : Int) 4 = some (lowB (c.val : Int) 16) := by decide +kernel
theorem low2_fin : ∀ c : Fin 256, posthornref04_low.f 70 (c.val : Int) 2 = some (lowB (c.val : Int) 4) := by decide +kernel
theorem low4_ev (c : Int) (h : 0 ≤ c ∧ c ≤ 255) : Ev (fun k => posthornref04_low.f k c 4) (lowB c 16) :=
  Ev.of (fun k => posthornref04_low.mono c 4 k) (k := 70) (of_fin (n := 256) (p := fun c => posthornref04_low.f 70 c 4 = some (lowB c 16)) low4_fin c (by omega))
theorem low2_ev (c : Int) (h : 0 ≤ c ∧ c ≤ 255) : Ev (fun k => posthornref04_low.f k c 2) (lowB c 4) :=
  Ev.of (fun k => posthornref04_low.mono c 2 k) (k := 70) (of_fin (n := 256) (p := fun c => posthornref04_low.f 70 c 2 = some (lowB c 4)) low2_fin c (by omega))

/-- May the byte of this place stand behind those ahead, in a group? -/
def okAt (g : Nat → Int) : Nat → Bool
  | 0 => isL (g 0)
  | 1 => isL (g 1)
  | 2 => isL (g 2) || (decide (g 2 = 61) && lowB (g 1) 16)
  | _ => if g 2 = 61 then decide (g 3 = 61) else (isL (g 3) || (decide (g 3 = 61) && lowB (g 2) 4))
theorem num_nn (c : Int) (h : 0 ≤ c ∧ c ≤ 255) : decide (num c ≥ 0) = isL c := by
  have := val_r c h
  unfold num isL
  by_cases h1 : valV c < 64
  · rw [if_pos h1, decide_eq_true h1]; exact decide_eq_true this.1
  · rw [if_neg h1, decide_eq_false h1]; rfl

theorem okAt_three (g : Nat → Int) : okAt g 3 = (if g 2 = 61 then decide (g 3 = 61) else (isL (g 3) || (decide (g 3 = 61) && lowB (g 2) 4))) := rfl
/-- One byte of a group. -/
theorem beg_step (g : ByteArray) (c : Nat → Int) (hc : ∀ i, c i = bt g (i : Int)) (hs : g.size ≤ 4) (i : Nat) (h : i < g.size) (r : Bool) (ih : Ev (fun k => posthornref04_begun.l0 k g ((i + 1 : Nat) : Int)) r) :
    Ev (fun k => posthornref04_begun.l0 k g (i : Int)) (if okAt c i = true then r else false) := by
  have hr : ∀ j, 0 ≤ c j ∧ c j ≤ 255 := fun j => by rw [hc]; exact bt_range g _
  have hw : wrap64 ((i : Int) + 1) = ((i + 1 : Nat) : Int) := wrap_id _ (by omega) (by omega)
  have hlt : (i : Int) < (g.size : Int) := by omega
  have h0 : (0 : Int) ≤ (i : Int) := by omega
  have key : ∀ (j : Int) (b : Bool), (j = (i : Int) ∧ (b = (i == 0) ∨ b = (i == 1))) → (i = 0 → b = true) → (i ≠ 0 → b = (i == 1)) → Ev (fun k => posthornref04_begun.j1 k g (i : Int) (decide (num (c i) ≥ 0)) j b) (if okAt c i = true then r else false) := by
    rintro _ b ⟨rfl, _⟩ hb0 hb1
    rw [num_nn _ (hr i)]
    match i, h, hlt, hw, hb0, hb1, ih with
    | 0, h, hlt, hw, hb0, hb1, ih =>
      rw [hb0 rfl]
      by_cases hl : isL (c 0) = true
      · refine Ev.round (f := fun k => posthornref04_begun.l0 k g ((0 + 1 : Nat) : Int)) (fun k => ?_) (by rw [okAt, if_pos hl]; exact ih)
        simp only [posthornref04_begun.j1]
        rw [if_pos (by decide), if_pos hl, hw]
      · refine Ev.last fun k => ?_
        simp only [posthornref04_begun.j1]
        rw [if_pos (by decide), if_neg hl, okAt, if_neg hl]
    | 1, h, hlt, hw, hb0, hb1, ih =>
      rw [hb1 (by decide)]
      by_cases hl : isL (c 1) = true
      · refine Ev.round (f := fun k => posthornref04_begun.l0 k g ((1 + 1 : Nat) : Int)) (fun k => ?_) (by rw [okAt, if_pos hl]; exact ih)
        simp only [posthornref04_begun.j1]
        rw [if_pos (by decide), if_pos hl, hw]
      · refine Ev.last fun k => ?_
        simp only [posthornref04_begun.j1]
        rw [if_pos (by decide), if_neg hl, okAt, if_neg hl]
    | 2, h, hlt, hw, hb0, hb1, ih =>
      rw [hb1 (by decide)]
      have e2 : c 2 = bt g 2 := hc 2
      have e1 : c 1 = bt g 1 := hc 1
      by_cases hl : isL (c 2) = true
      · refine Ev.round (f := fun k => posthornref04_begun.l0 k g ((2 + 1 : Nat) : Int)) (fun k => ?_) (by rw [okAt, hl, Bool.true_or, if_pos rfl]; exact ih)
        simp only [posthornref04_begun.j1]
        rw [if_neg (by decide), if_pos (by decide), if_pos hl, hw]
      · by_cases hp : c 2 = 61
        · refine Ev.round (f := fun k => (posthornref04_low.f k (bt g 1) 4).bind fun t215 => (if t215 = true then (posthornref04_begun.l0 k g (wrap64 (((2 : Nat) : Int) + 1))) else (some false))) (fun k => ?_) ?_
          · simp only [posthornref04_begun.j1]
            rw [if_neg (by decide), if_pos (by decide), if_neg hl, if_pos (by omega), if_pos (by rw [← e2]; exact hp), if_pos (by omega)]
          · refine Ev.bind (a := lowB (c 1) 16) (f := fun k t => if t = true then (posthornref04_begun.l0 k g (wrap64 (((2 : Nat) : Int) + 1))) else (some false)) (by rw [← e1]; exact low4_ev _ (hr 1)) ?_
            rw [okAt, Bool.eq_false_iff.2 hl, Bool.false_or, decide_eq_true hp, Bool.true_and]
            by_cases hq : lowB (c 1) 16 = true
            · rw [if_pos hq]; refine Ev.congr (fun k => ?_) ih; rw [if_pos hq, hw]
            · rw [if_neg hq]; exact Ev.val fun k => by rw [if_neg hq]
        · refine Ev.last fun k => ?_
          simp only [posthornref04_begun.j1]
          rw [if_neg (by decide), if_pos (by decide), if_neg hl, if_pos (by omega), if_neg (by rw [← e2]; exact hp), okAt, Bool.eq_false_iff.2 hl, decide_eq_false hp]
          rfl
    | 3, h, hlt, hw, hb0, hb1, ih =>
      rw [hb1 (by decide)]
      have e2 : c 2 = bt g 2 := hc 2
      have e3 : c 3 = bt g 3 := hc 3
      by_cases hp : c 2 = 61
      · by_cases hq : c 3 = 61
        · refine Ev.round (f := fun k => posthornref04_begun.l0 k g ((3 + 1 : Nat) : Int)) (fun k => ?_) (by rw [okAt_three, if_pos hp, decide_eq_true hq, if_pos rfl]; exact ih)
          simp only [posthornref04_begun.j1]
          rw [if_neg (by decide), if_neg (by decide), if_pos (by omega), if_pos (by rw [← e2]; exact hp), if_pos (by omega), if_pos (by rw [← e3]; exact hq), hw]
        · refine Ev.last fun k => ?_
          simp only [posthornref04_begun.j1]
          rw [if_neg (by decide), if_neg (by decide), if_pos (by omega), if_pos (by rw [← e2]; exact hp), if_pos (by omega), if_neg (by rw [← e3]; exact hq), okAt_three, if_pos hp, decide_eq_false hq]
          rfl
      · by_cases hl : isL (c 3) = true
        · refine Ev.round (f := fun k => posthornref04_begun.l0 k g ((3 + 1 : Nat) : Int)) (fun k => ?_) (by rw [okAt_three, if_neg hp, hl, Bool.true_or, if_pos rfl]; exact ih)
          simp only [posthornref04_begun.j1]
          rw [if_neg (by decide), if_neg (by decide), if_pos (by omega), if_neg (by rw [← e2]; exact hp), if_pos hl, hw]
        · by_cases hq : c 3 = 61
          · refine Ev.round (f := fun k => (posthornref04_low.f k (bt g 2) 2).bind fun t215 => (if t215 = true then (posthornref04_begun.l0 k g (wrap64 (((3 : Nat) : Int) + 1))) else (some false))) (fun k => ?_) ?_
            · simp only [posthornref04_begun.j1]
              rw [if_neg (by decide), if_neg (by decide), if_pos (by omega), if_neg (by rw [← e2]; exact hp), if_neg hl, if_pos (by omega), if_pos (by rw [← e3]; exact hq)]
            · refine Ev.bind (a := lowB (c 2) 4) (f := fun k t => if t = true then (posthornref04_begun.l0 k g (wrap64 (((3 : Nat) : Int) + 1))) else (some false)) (by rw [← e2]; exact low2_ev _ (hr 2)) ?_
              rw [okAt_three, if_neg hp, Bool.eq_false_iff.2 hl, Bool.false_or, decide_eq_true hq, Bool.true_and]
              by_cases hz : lowB (c 2) 4 = true
              · rw [if_pos hz]; refine Ev.congr (fun k => ?_) ih; rw [if_pos hz, hw]
              · rw [if_neg hz]; exact Ev.val fun k => by rw [if_neg hz]
          · refine Ev.last fun k => ?_
            simp only [posthornref04_begun.j1]
            rw [if_neg (by decide), if_neg (by decide), if_pos (by omega), if_neg (by rw [← e2]; exact hp), if_neg hl, if_pos (by omega), if_neg (by rw [← e3]; exact hq), okAt_three, if_neg hp, Bool.eq_false_iff.2 hl, decide_eq_false hq]
            rfl
    | n + 4, h, _, _, _, _, _ => omega
  refine Ev.round (f := fun k => (posthornref04_number.f k (c i)).bind fun t => if (i : Int) = 0 then posthornref04_begun.j1 k g (i : Int) (decide (t ≥ 0)) (i : Int) ((i : Int) == 0) else posthornref04_begun.j1 k g (i : Int) (decide (t ≥ 0)) (i : Int) ((i : Int) == 1)) (fun k => ?_) ?_
  · simp only [posthornref04_begun.l0]
    rw [if_pos hlt, if_pos h0, ← hc]
  · refine Ev.bind (a := num (c i)) (f := fun k t => if (i : Int) = 0 then posthornref04_begun.j1 k g (i : Int) (decide (t ≥ 0)) (i : Int) ((i : Int) == 0) else posthornref04_begun.j1 k g (i : Int) (decide (t ≥ 0)) (i : Int) ((i : Int) == 1)) (number_ev _ (hr i)) ?_
    by_cases hi0 : i = 0
    · refine Ev.congr (fun k => ?_) (key (i : Int) ((i : Int) == 0) ⟨rfl, .inl (by subst hi0; rfl)⟩ (fun _ => by subst hi0; rfl) (fun h => absurd hi0 h))
      rw [if_pos (by omega)]
    · have hb : (((i : Int) == 1) : Bool) = (i == 1) := by
        by_cases h1 : i = 1
        · subst h1; rfl
        · rw [beq_eq_false_iff_ne.2 h1, beq_eq_false_iff_ne.2 (by omega)]
      refine Ev.congr (fun k => ?_) (key (i : Int) ((i : Int) == 1) ⟨rfl, .inr hb⟩ (fun h => absurd h hi0) (fun _ => hb))
      rw [if_neg (by omega)]

/-- The first n bytes of a group. -/
def begB (c : Nat → Int) : Nat → Bool
  | 0 => true
  | n + 1 => begB c n && okAt c n
theorem beg_from (g : ByteArray) (c : Nat → Int) (hc : ∀ i, c i = bt g (i : Int)) (hs : g.size ≤ 4) (d : Nat) : ∀ i, i + d = g.size → ∃ r : Bool, Ev (fun k => posthornref04_begun.l0 k g (i : Int)) r ∧ (begB c i && r) = begB c g.size := by
  induction d with
  | zero =>
    intro i hi
    refine ⟨true, Ev.last fun k => ?_, ?_⟩
    · simp only [posthornref04_begun.l0]
      rw [if_neg (by omega)]
    · rw [Bool.and_true, show i = g.size by omega]
  | succ d ih =>
    intro i hi
    obtain ⟨r, hr, hb⟩ := ih (i + 1) (by omega)
    refine ⟨_, beg_step g c hc hs i (by omega) r hr, ?_⟩
    rw [← hb, begB]
    cases okAt c i <;> simp
theorem begun_ev (g : ByteArray) (c : Nat → Int) (hc : ∀ i, c i = bt g (i : Int)) (hs : g.size ≤ 4) : Ev (fun k => posthornref04_begun.f k g) (begB c g.size) := by
  obtain ⟨r, hr, hb⟩ := beg_from g c hc hs g.size 0 (by omega)
  rw [← hb]
  simp only [begB, Bool.true_and]
  exact hr

theorem bt_extract (s : ByteArray) (a b : Nat) (hb : b ≤ s.size) (i : Nat) (hi : a + i < b) : bt (s.extract a b) (i : Int) = bt s ((a + i : Nat) : Int) := by
  unfold bt
  have h1 : (s.extract a b).size = b - a := by simp; omega
  rw [dif_pos (by rw [h1]; omega), dif_pos (by omega)]
  have e : (((a + i : Nat) : Int)).toNat = a + i := Int.toNat_natCast _
  simp only [ByteArray.getElem_extract, Int.toNat_natCast]

theorem okAt_congr (f g : Nat → Int) (n : Nat) (h : ∀ j, j ≤ n → f j = g j) : okAt f n = okAt g n := by
  match n with
  | 0 => simp only [okAt, h 0 (by omega)]
  | 1 => simp only [okAt, h 1 (by omega)]
  | 2 => simp only [okAt, h 1 (by omega), h 2 (by omega)]
  | n + 3 =>
    show (if f 2 = 61 then decide (f 3 = 61) else (isL (f 3) || (decide (f 3 = 61) && lowB (f 2) 4))) = (if g 2 = 61 then decide (g 3 = 61) else (isL (g 3) || (decide (g 3 = 61) && lowB (g 2) 4)))
    rw [h 2 (by omega), h 3 (by omega)]
theorem begB_congr (f g : Nat → Int) (n : Nat) (h : ∀ j, j < n → f j = g j) : begB f n = begB g n := by
  induction n with
  | zero => rfl
  | succ n ih => rw [begB, begB, ih fun j hj => h j (by omega), okAt_congr f g n fun j hj => h j (by omega)]

section
variable (s : ByteArray)
def G (q j : Nat) : Int := bt s ((4 * q + j : Nat) : Int)
/-- Did the group ahead end with a sign? -/
def ahead (q : Nat) : Bool := decide (0 < q) && decide (bt s ((4 * q - 1 : Nat) : Int) = 61)
def onB (q n : Nat) : Bool := !ahead s q && begB (G s q) (n + 1)
theorem On_ev (hs : s.size ≤ 40000000000000) (q n : Nat) (hn : n < 4) (h : 4 * q + n < s.size) : Ev (fun k => posthornref04_On.f k s ((4 * q + n : Nat) : Int)) (onB s q n) := by
  have hq : wrap64 ((wrap64 (Int.tdiv ((4 * q + n : Nat) : Int) 4)) * 4) = ((4 * q : Nat) : Int) := by
    rw [Int.tdiv_eq_ediv_of_nonneg (by omega), wrap_id (((4 * q + n : Nat) : Int) / 4) (by omega) (by omega), wrap_id _ (by omega) (by omega)]; omega
  have hi : wrap64 (((4 * q + n : Nat) : Int) + 1) = ((4 * q + n + 1 : Nat) : Int) := by rw [wrap_id _ (by omega) (by omega)]; omega
  have hsz : (s.extract (4 * q) (4 * q + n + 1)).size = n + 1 := by simp; omega
  have hb := begun_ev (s.extract (4 * q) (4 * q + n + 1)) (fun i => bt (s.extract (4 * q) (4 * q + n + 1)) (i : Int)) (fun _ => rfl) (by omega)
  rw [hsz, begB_congr _ (G s q) (n + 1) fun j hj => by rw [G]; exact bt_extract s _ _ (by omega) j (by omega)] at hb
  by_cases h0 : q = 0
  · have ha : ahead s q = false := by unfold ahead; rw [decide_eq_false (by omega)]; rfl
    refine Ev.congr (fun k => ?_) (Ev.same (show Ev (fun k => posthornref04_begun.f k (s.extract (4 * q) (4 * q + n + 1))) (onB s q n) by unfold onB; rw [ha]; exact hb))
    unfold posthornref04_On.f
    rw [hq, hi, if_pos (by omega), if_pos (by omega), if_pos (by omega), if_pos (by omega), Int.toNat_natCast, Int.toNat_natCast]
  · have h1 : wrap64 (((4 * q : Nat) : Int) - 1) = ((4 * q - 1 : Nat) : Int) := by rw [wrap_id _ (by omega) (by omega)]; omega
    by_cases h2 : bt s ((4 * q - 1 : Nat) : Int) = 61
    · have ha : ahead s q = true := by unfold ahead; rw [decide_eq_true (by omega), decide_eq_true h2]; rfl
      refine Ev.val fun k => ?_
      unfold posthornref04_On.f
      rw [hq, hi, h1, if_neg (by omega), if_pos (by omega), if_pos (by omega), if_pos h2, onB, ha]
      rfl
    · have ha : ahead s q = false := by unfold ahead; rw [decide_eq_true (by omega), decide_eq_false h2]; rfl
      refine Ev.congr (fun k => ?_) (Ev.same (show Ev (fun k => posthornref04_begun.f k (s.extract (4 * q) (4 * q + n + 1))) (onB s q n) by unfold onB; rw [ha]; exact hb))
      unfold posthornref04_On.f
      rw [hq, hi, h1, if_neg (by omega), if_pos (by omega), if_pos (by omega), if_neg h2, if_pos (by omega), if_pos (by omega), if_pos (by omega), Int.toNat_natCast, Int.toNat_natCast]
end
def whyV (c : Int) : Int := if valV c = 65 then 40 else 41
theorem why_ev (c : Int) (h : 0 ≤ c ∧ c ≤ 255) : Ev (fun k => posthornref04_why.f k c) (whyV c) := by
  refine Ev.bind (a := num c) (f := fun k t => if t < 0 then (if c = 61 then (some 41) else (some 40)) else (some 41)) (number_ev c h) (Ev.val fun k => ?_)
  have hr := val_r c h
  have hp := val_pad c h
  unfold num whyV
  by_cases h1 : valV c < 64
  · rw [if_pos h1, if_neg (by omega), if_neg (by omega)]
  · rw [if_neg h1, if_pos (by decide)]
    by_cases h2 : valV c = 64
    · rw [if_pos (hp.1 h2), if_neg (by omega)]
    · rw [if_neg (fun e => h2 (hp.2 e)), if_pos (by omega)]

/-- Where the program's reader stands behind n bytes of group q. -/
structure Inv (s : ByteArray) (q n : Nat) (st : St) : Prop where
  hn : st.n = n
  lt : n < 4
  o0 : n = 0 → st.o = ahead s q
  o1 : n ≠ 0 → st.o = false ∧ ahead s q = false
  beg : begB (G s q) n = true
  ha : 1 ≤ n → st.a = valV (G s q 0)
  hb : 2 ≤ n → st.b = valV (G s q 1)
  hc : 3 ≤ n → st.c = valV (G s q 2)
theorem and15 : ∀ x : Fin 256, Go.bits .and .u8 (x.val : Int) 15 = (x.val : Int) % 16 := by decide +kernel
theorem and3 : ∀ x : Fin 256, Go.bits .and .u8 (x.val : Int) 3 = (x.val : Int) % 4 := by decide +kernel
theorem G_in (s : ByteArray) (q j : Nat) : 0 ≤ G s q j ∧ G s q j ≤ 255 := bt_range _ _
theorem isL_iff (c : Int) : isL c = true ↔ valV c < 64 := decide_eq_true_iff
theorem beg1 {g : Nat → Int} {n : Nat} (h : begB g (n + 1) = true) : begB g n = true ∧ okAt g n = true := by rw [begB, Bool.and_eq_true] at h; exact h
/-- The program's answer at a byte. -/
theorem next_is (s : ByteArray) (q n : Nat) (st : St) (h : Inv s q n st) : st.next (valV (G s q n)) = if onB s q n = true then 0 else whyV (G s q n) := by
  obtain ⟨a, b, c, d, n', o⟩ := st
  obtain ⟨rfl, hlt, ho0, ho1, hb, ha, hb', hc⟩ := h
  simp only at hlt ho0 ho1 hb ha hb' hc ⊢
  have hr := val_r _ (G_in s q n')
  have hp := val_pad _ (G_in s q n')
  unfold St.next nextV whyV onB
  rw [begB, hb, Bool.true_and]
  simp only
  match n', hlt, ho0, ho1, hb, ha, hb', hc, hr, hp with
  | 0, _, ho0, _, _, _, _, _, hr, hp =>
    rw [← ho0 rfl, show okAt (G s q) 0 = isL (G s q 0) from rfl]
    by_cases h1 : valV (G s q 0) = 65
    · rw [if_pos h1, if_pos h1, isL, decide_eq_false (by omega), Bool.and_false]; rfl
    · rw [if_neg h1, if_neg h1]
      cases o
      · rw [if_neg (by decide), if_neg (by omega)]
        by_cases h2 : valV (G s q 0) = 64
        · rw [if_neg (by omega), if_pos (by omega), isL, decide_eq_false (by omega)]; rfl
        · rw [if_pos h2, isL, decide_eq_true (by omega)]; rfl
      · rw [if_pos rfl]; rfl
  | 1, _, _, ho1, _, _, _, _, hr, hp =>
    obtain ⟨rfl, hah⟩ := ho1 (by decide)
    rw [hah, show okAt (G s q) 1 = isL (G s q 1) from rfl]
    by_cases h1 : valV (G s q 1) = 65
    · rw [if_pos h1, if_pos h1, isL, decide_eq_false (by omega), Bool.and_false]; rfl
    · rw [if_neg h1, if_neg h1, if_neg (by decide), if_neg (by omega)]
      by_cases h2 : valV (G s q 1) = 64
      · rw [if_neg (by omega), if_pos (by omega), isL, decide_eq_false (by omega)]; rfl
      · rw [if_pos h2, isL, decide_eq_true (by omega)]; rfl
  | 2, _, _, ho1, hb, _, hb', _, hr, hp =>
    obtain ⟨rfl, hah⟩ := ho1 (by decide)
    obtain rfl := hb' (by decide)
    have hr1 := val_r _ (G_in s q 1)
    have hl1 : isL (G s q 1) = true := (beg1 hb).2
    have e15 := of_fin (n := 256) (p := fun x => Go.bits .and .u8 x 15 = x % 16) and15 _ (show 0 ≤ valV (G s q 1) ∧ valV (G s q 1) < (256 : Nat) by omega)
    rw [hah, show okAt (G s q) 2 = (isL (G s q 2) || (decide (G s q 2 = 61) && lowB (G s q 1) 16)) from rfl, lowB, hl1, e15]
    by_cases h1 : valV (G s q 2) = 65
    · rw [if_pos h1, if_pos h1, isL, decide_eq_false (by omega), decide_eq_false (fun e => by have := hp.2 e; omega)]; rfl
    · rw [if_neg h1, if_neg h1, if_neg (by decide), if_neg (by omega)]
      by_cases h2 : valV (G s q 2) = 64
      · rw [if_neg (by omega), isL, decide_eq_false (by omega), decide_eq_true (hp.1 h2)]
        by_cases h3 : valV (G s q 1) % 16 = 0
        · rw [if_neg (by omega), decide_eq_true h3]; rfl
        · rw [if_pos (by omega), decide_eq_false h3]; rfl
      · rw [if_pos h2, isL, decide_eq_true (by omega)]; rfl
  | 3, _, _, ho1, hb, _, hb', hc, hr, hp =>
    obtain ⟨rfl, hah⟩ := ho1 (by decide)
    obtain rfl := hc (by decide)
    have hr2 := val_r _ (G_in s q 2)
    have hp2 := val_pad _ (G_in s q 2)
    have hok2 : okAt (G s q) 2 = true := (beg1 hb).2
    rw [show okAt (G s q) 2 = (isL (G s q 2) || (decide (G s q 2 = 61) && lowB (G s q 1) 16)) from rfl] at hok2
    have e3 := of_fin (n := 256) (p := fun x => Go.bits .and .u8 x 3 = x % 4) and3 _ (show 0 ≤ valV (G s q 2) ∧ valV (G s q 2) < (256 : Nat) by omega)
    rw [hah, okAt_three, e3]
    by_cases h1 : valV (G s q 3) = 65
    · rw [if_pos h1, if_pos h1]
      by_cases h5 : G s q 2 = 61
      · rw [if_pos h5, decide_eq_false (fun e => by have := hp.2 e; omega)]; rfl
      · rw [if_neg h5, isL, decide_eq_false (show ¬ valV (G s q 3) < 64 by omega), decide_eq_false (fun e => by have := hp.2 e; omega)]; rfl
    · rw [if_neg h1, if_neg h1, if_neg (by decide)]
      by_cases h5 : G s q 2 = 61
      · rw [if_pos ⟨rfl, hp2.2 h5⟩, if_pos h5]
        by_cases h2 : valV (G s q 3) = 64
        · rw [if_neg (by omega), decide_eq_true (hp.1 h2)]; rfl
        · rw [if_pos h2, decide_eq_false (fun e => h2 (hp.2 e))]; rfl
      · have hl2 : isL (G s q 2) = true := by rw [decide_eq_false h5, Bool.false_and, Bool.or_false] at hok2; exact hok2
        rw [if_neg (fun e => h5 (hp2.1 e.2)), if_neg h5, lowB, hl2]
        by_cases h2 : valV (G s q 3) = 64
        · rw [if_neg (by omega), isL, decide_eq_false (by omega), decide_eq_true (hp.1 h2)]
          by_cases h3 : valV (G s q 2) % 4 = 0
          · rw [if_neg (by omega), decide_eq_true h3]; rfl
          · rw [if_pos (by omega), decide_eq_false h3]; rfl
        · rw [if_pos h2, isL, decide_eq_true (by omega)]; rfl

def grp (s : ByteArray) : Nat → List Int
  | 0 => []
  | q + 1 => grp s q ++ fourB (valV (G s q 0)) (valV (G s q 1)) (valV (G s q 2)) (valV (G s q 3))
theorem put_is (s : ByteArray) (q n : Nat) (st : St) (h : Inv s q n st) (ho : onB s q n = true) (hn : n < 3) : Inv s q (n + 1) (st.put (valV (G s q n))) ∧ st.out (valV (G s q n)) = [] := by
  obtain ⟨a, b, c, d, n', o⟩ := st
  obtain ⟨rfl, hlt, ho0, ho1, hb, ha, hb', hc⟩ := h
  simp only at hlt ho0 ho1 hb ha hb' hc ho hn ⊢
  unfold onB at ho
  rw [Bool.and_eq_true] at ho
  have hah : ahead s q = false := by have := ho.1; cases h : ahead s q <;> simp_all
  have hof : o = false := by
    by_cases h0 : n' = 0
    · rw [ho0 h0, hah]
    · exact (ho1 h0).1
  match n', hn, ho, ha, hb', hc with
  | 0, _, ho, _, _, _ => exact ⟨⟨rfl, by omega, fun h => by omega, fun _ => ⟨hof, hah⟩, ho.2, fun _ => rfl, fun h => by omega, fun h => by omega⟩, rfl⟩
  | 1, _, ho, ha, _, _ => exact ⟨⟨rfl, by omega, fun h => by omega, fun _ => ⟨hof, hah⟩, ho.2, fun _ => ha (by omega), fun _ => rfl, fun h => by omega⟩, rfl⟩
  | 2, _, ho, ha, hb', _ => exact ⟨⟨rfl, by omega, fun h => by omega, fun _ => ⟨hof, hah⟩, ho.2, fun _ => ha (by omega), fun _ => hb' (by omega), fun _ => rfl⟩, rfl⟩
theorem put_four (s : ByteArray) (q : Nat) (st : St) (h : Inv s q 3 st) (ho : onB s q 3 = true) : Inv s (q + 1) 0 (st.put (valV (G s q 3))) ∧ st.out (valV (G s q 3)) = fourB (valV (G s q 0)) (valV (G s q 1)) (valV (G s q 2)) (valV (G s q 3)) ∧ begB (G s q) 4 = true := by
  obtain ⟨a, b, c, d, n', o⟩ := st
  obtain ⟨h3, hlt, ho0, ho1, hb, ha, hb', hc⟩ := h
  simp only at h3 ho0 ho1 ha hb' hc
  subst h3
  have hp := val_pad _ (G_in s q 3)
  unfold onB at ho
  rw [Bool.and_eq_true] at ho
  refine ⟨⟨rfl, by omega, fun _ => ?_, fun h => absurd rfl h, rfl, fun h => by omega, fun h => by omega, fun h => by omega⟩, ?_, ho.2⟩
  · show (valV (G s q 3) == 64) = ahead s (q + 1)
    unfold ahead
    rw [decide_eq_true (by omega), Bool.true_and, show 4 * (q + 1) - 1 = 4 * q + 3 by omega]
    show (valV (G s q 3) == 64) = decide (G s q 3 = 61)
    by_cases h : G s q 3 = 61
    · rw [decide_eq_true h, hp.2 h]; rfl
    · rw [decide_eq_false h]; exact beq_eq_false_iff_ne.2 fun e => h (hp.1 e)
  · unfold St.out
    simp only
    rw [if_pos trivial, ha (by omega), hb' (by omega), hc (by omega)]

theorem b1_fin : ∀ (a b : Fin 64), b1 (a.val : Int) (b.val : Int) = (a.val : Int) * 4 + (b.val : Int) / 16 := by decide +kernel
theorem b2_fin : ∀ (a b : Fin 64), b2 (a.val : Int) (b.val : Int) = (a.val : Int) % 16 * 16 + (b.val : Int) / 4 := by decide +kernel
theorem b3_fin : ∀ (a b : Fin 64), b3 (a.val : Int) (b.val : Int) = (a.val : Int) % 4 * 64 + (b.val : Int) := by decide +kernel
def mz (c : Int) : Int := if valV c < 64 then valV c else 0
theorem mz_in (c : Int) (h : 0 ≤ c ∧ c ≤ 255) : 0 ≤ mz c ∧ mz c < 64 := by
  have := val_r c h
  unfold mz
  split <;> omega
theorem mx_num (c : Int) (h : 0 ≤ c ∧ c ≤ 255) : mx 0 (num c) = mz c := by
  have := val_r c h
  unfold mx num mz
  by_cases h1 : valV c < 64
  · rw [if_pos h1, if_pos h1]; split <;> omega
  · rw [if_neg h1, if_neg h1]; rfl
theorem group_step (g : ByteArray) (hs : g.size = 4) (m x : Int) (i : Nat) (hi : i < 4) (hx : 0 ≤ x ∧ x < 1000000) (r : List Int)
    (h : Ev (fun k => posthornref04_group.l0 k g m (x * 64 + mz (bt g (i : Int))) ((i + 1 : Nat) : Int)) r) : Ev (fun k => posthornref04_group.l0 k g m x (i : Int)) r := by
  have hb := bt_range g (i : Int)
  have hm := mz_in _ hb
  refine Ev.round (f := fun k => (posthornref04_number.f k (bt g (i : Int))).bind fun t => posthornref04_group.l0 k g m (wrap64 ((wrap64 (x * 64)) + (mx 0 t))) (wrap64 ((i : Int) + 1))) (fun k => ?_) ?_
  · simp only [posthornref04_group.l0]
    rw [if_pos (by omega), if_pos (by omega), if_pos (by omega)]
  · refine Ev.bind (a := num (bt g (i : Int))) (f := fun k t => posthornref04_group.l0 k g m (wrap64 ((wrap64 (x * 64)) + (mx 0 t))) (wrap64 ((i : Int) + 1))) (number_ev _ hb) ?_
    refine Ev.congr (fun k => ?_) h
    rw [mx_num _ hb, wrap_id (x * 64) (by omega) (by omega), wrap_id _ (by omega) (by omega), wrap_id _ (by omega) (by omega)]
    rfl
theorem group_l0 (g : ByteArray) (hs : g.size = 4) (m : Nat) (hm : m ≤ 3) (r : List Int) (q : Int) (hq : q = ((mz (bt g 0) * 64 + mz (bt g 1)) * 64 + mz (bt g 2)) * 64 + mz (bt g 3))
    (hr : r = [q / 65536, q / 256 % 256, q % 256].take m) : Ev (fun k => posthornref04_group.l0 k g (m : Int) 0 0) r := by
  have h0 := mz_in _ (bt_range g 0)
  have h1 := mz_in _ (bt_range g 1)
  have h2 := mz_in _ (bt_range g 2)
  have h3 := mz_in _ (bt_range g 3)
  have hq0 : 0 ≤ q ∧ q < 16777216 := by omega
  refine group_step g hs m 0 0 (by omega) (by omega) r ?_
  refine group_step g hs m _ 1 (by omega) (by show 0 ≤ 0 * 64 + mz (bt g 0) ∧ 0 * 64 + mz (bt g 0) < 1000000; omega) r ?_
  refine group_step g hs m _ 2 (by omega) (by show 0 ≤ (0 * 64 + mz (bt g 0)) * 64 + mz (bt g 1) ∧ (0 * 64 + mz (bt g 0)) * 64 + mz (bt g 1) < 1000000; omega) r ?_
  refine group_step g hs m _ 3 (by omega) (by show 0 ≤ ((0 * 64 + mz (bt g 0)) * 64 + mz (bt g 1)) * 64 + mz (bt g 2) ∧ ((0 * 64 + mz (bt g 0)) * 64 + mz (bt g 1)) * 64 + mz (bt g 2) < 1000000; omega) r ?_
  refine Ev.last fun k => ?_
  have e : (((0 * 64 + mz (bt g ((0 : Nat) : Int))) * 64 + mz (bt g ((1 : Nat) : Int))) * 64 + mz (bt g ((2 : Nat) : Int))) * 64 + mz (bt g ((3 : Nat) : Int)) = q := by
    show (((0 * 64 + mz (bt g 0)) * 64 + mz (bt g 1)) * 64 + mz (bt g 2)) * 64 + mz (bt g 3) = q
    omega
  rw [e]
  simp only [posthornref04_group.l0]
  have e1 : wrap64 (Int.tdiv q 65536) % 256 = q / 65536 := by rw [Int.tdiv_eq_ediv_of_nonneg hq0.1, wrap_id _ (by omega) (by omega)]; omega
  have e2 : Int.tmod (wrap64 (Int.tdiv q 256)) 256 % 256 = q / 256 % 256 := by rw [Int.tdiv_eq_ediv_of_nonneg hq0.1, wrap_id _ (by omega) (by omega), Int.tmod_eq_emod_of_nonneg (by omega)]; omega
  have e3 : Int.tmod q 256 % 256 = q % 256 := by rw [Int.tmod_eq_emod_of_nonneg hq0.1]; omega
  rw [if_neg (by decide), e1, e2, e3, bind_some', if_pos (by omega), if_pos (by simp; omega), hr, Int.toNat_natCast]

theorem group_ev (s : ByteArray) (q : Nat) (h : 4 * q + 4 ≤ s.size) (hb : begB (G s q) 4 = true) : Ev (fun k => posthornref04_group.f k (s.extract (4 * q) (4 * q + 4))) (fourB (valV (G s q 0)) (valV (G s q 1)) (valV (G s q 2)) (valV (G s q 3))) := by
  have hsz : (s.extract (4 * q) (4 * q + 4)).size = 4 := by simp; omega
  have eb : ∀ j : Nat, j < 4 → bt (s.extract (4 * q) (4 * q + 4)) (j : Int) = G s q j := fun j hj => bt_extract s _ _ h j (by omega)
  have e0 : bt (s.extract (4 * q) (4 * q + 4)) 0 = G s q 0 := eb 0 (by omega)
  have e1 : bt (s.extract (4 * q) (4 * q + 4)) 1 = G s q 1 := eb 1 (by omega)
  have e2 : bt (s.extract (4 * q) (4 * q + 4)) 2 = G s q 2 := eb 2 (by omega)
  have e3 : bt (s.extract (4 * q) (4 * q + 4)) 3 = G s q 3 := eb 3 (by omega)
  obtain ⟨hb3, k3⟩ := beg1 hb
  obtain ⟨hb2, k2⟩ := beg1 hb3
  obtain ⟨hb1, k1⟩ := beg1 hb2
  obtain ⟨_, k0⟩ := beg1 hb1
  have r0 := val_r _ (G_in s q 0)
  have r1 := val_r _ (G_in s q 1)
  have r2 := val_r _ (G_in s q 2)
  have r3 := val_r _ (G_in s q 3)
  have l0 : valV (G s q 0) < 64 := (isL_iff _).1 k0
  have l1 : valV (G s q 1) < 64 := (isL_iff _).1 k1
  have p2 := val_pad _ (G_in s q 2)
  have p3 := val_pad _ (G_in s q 3)
  rw [show okAt (G s q) 2 = (isL (G s q 2) || (decide (G s q 2 = 61) && lowB (G s q 1) 16)) from rfl] at k2
  rw [okAt_three] at k3
  have m0 : mz (G s q 0) = valV (G s q 0) := if_pos l0
  have m1 : mz (G s q 1) = valV (G s q 1) := if_pos l1
  have f1 := of_fin2 (n := 64) (m := 64) (p := fun a b => b1 a b = a * 4 + b / 16) b1_fin (valV (G s q 0)) (valV (G s q 1)) (by omega) (by omega)
  have key := fun (m : Nat) (hm : m ≤ 3) (r : List Int) (hr : _) => group_l0 (s.extract (4 * q) (4 * q + 4)) hsz m hm r _ rfl hr
  rw [e0, e1, e2, e3, m0, m1] at key
  by_cases h5 : G s q 2 = 61
  · have m2 : mz (G s q 2) = 0 := if_neg (by rw [p2.2 h5]; omega)
    rw [if_pos h5, decide_eq_true_iff] at k3
    have m3 : mz (G s q 3) = 0 := if_neg (by rw [p3.2 k3]; omega)
    rw [m2, m3] at key
    have K := key 1 (by omega) (fourB (valV (G s q 0)) (valV (G s q 1)) (valV (G s q 2)) (valV (G s q 3))) (by
      rw [fourB, if_pos (p2.2 h5), f1]
      simp only [List.take_succ_cons, List.take_zero, List.cons.injEq, and_true]
      omega)
    refine Ev.congr (f := fun k => posthornref04_group.j0 k (s.extract (4 * q) (4 * q + 4)) 2) (fun k => ?_) (Ev.round (f := fun k => posthornref04_group.j1 k (s.extract (4 * q) (4 * q + 4)) 1) (fun k => ?_) (Ev.round (fun k => ?_) K))
    · unfold posthornref04_group.f; rw [if_pos (by omega), if_pos (by rw [e3]; exact k3)]
    · simp only [posthornref04_group.j0]; rw [if_pos (by omega), if_pos (by rw [e2]; exact h5)]
    · simp only [posthornref04_group.j1]; rfl
  · have hl2 : isL (G s q 2) = true := by rw [decide_eq_false h5, Bool.false_and, Bool.or_false] at k2; exact k2
    have l2 : valV (G s q 2) < 64 := (isL_iff _).1 hl2
    have m2 : mz (G s q 2) = valV (G s q 2) := if_pos l2
    have f2 := of_fin2 (n := 64) (m := 64) (p := fun a b => b2 a b = a % 16 * 16 + b / 4) b2_fin (valV (G s q 1)) (valV (G s q 2)) (by omega) (by omega)
    rw [if_neg h5] at k3
    by_cases h6 : G s q 3 = 61
    · have m3 : mz (G s q 3) = 0 := if_neg (by rw [p3.2 h6]; omega)
      rw [m2, m3] at key
      have K := key 2 (by omega) (fourB (valV (G s q 0)) (valV (G s q 1)) (valV (G s q 2)) (valV (G s q 3))) (by
        rw [fourB, if_neg (by omega), if_pos (p3.2 h6), f1, f2]
        simp only [List.take_succ_cons, List.take_zero, List.cons.injEq, and_true]
        omega)
      refine Ev.congr (f := fun k => posthornref04_group.j0 k (s.extract (4 * q) (4 * q + 4)) 2) (fun k => ?_) (Ev.round (f := fun k => posthornref04_group.j1 k (s.extract (4 * q) (4 * q + 4)) 2) (fun k => ?_) (Ev.round (fun k => ?_) K))
      · unfold posthornref04_group.f; rw [if_pos (by omega), if_pos (by rw [e3]; exact h6)]
      · simp only [posthornref04_group.j0]; rw [if_pos (by omega), if_neg (by rw [e2]; exact h5)]
      · simp only [posthornref04_group.j1]; rfl
    · have hl3 : isL (G s q 3) = true := by rw [decide_eq_false h6, Bool.false_and, Bool.or_false] at k3; exact k3
      have l3 : valV (G s q 3) < 64 := (isL_iff _).1 hl3
      have m3 : mz (G s q 3) = valV (G s q 3) := if_pos l3
      have f3 := of_fin2 (n := 64) (m := 64) (p := fun a b => b3 a b = a % 4 * 64 + b) b3_fin (valV (G s q 2)) (valV (G s q 3)) (by omega) (by omega)
      rw [m2, m3] at key
      have K := key 3 (by omega) (fourB (valV (G s q 0)) (valV (G s q 1)) (valV (G s q 2)) (valV (G s q 3))) (by
        rw [fourB, if_neg (by omega), if_neg (by omega), f1, f2, f3]
        simp only [List.take_succ_cons, List.take_zero, List.cons.injEq, and_true]
        omega)
      refine Ev.congr (f := fun k => posthornref04_group.j0 k (s.extract (4 * q) (4 * q + 4)) 3) (fun k => ?_) (Ev.round (f := fun k => posthornref04_group.j1 k (s.extract (4 * q) (4 * q + 4)) 3) (fun k => ?_) (Ev.round (fun k => ?_) K))
      · unfold posthornref04_group.f; rw [if_pos (by omega), if_neg (by rw [e3]; exact h6)]
      · simp only [posthornref04_group.j0]; rw [if_pos (by omega), if_neg (by rw [e2]; exact h5)]
      · simp only [posthornref04_group.j1]; rfl

theorem fourB_len (a b c d : Int) : (fourB a b c d).length ≤ 3 := by
  unfold fourB
  split
  · simp
  · split <;> simp
theorem grp_len (s : ByteArray) (q : Nat) : (grp s q).length ≤ 3 * q := by
  induction q with
  | zero => simp [grp]
  | succ q ih => have := fourB_len (valV (G s q 0)) (valV (G s q 1)) (valV (G s q 2)) (valV (G s q 3)); rw [grp, List.length_append]; omega
/-- The reference's second loop. -/
theorem ref_l1 (s : ByteArray) (hs : s.size ≤ 40000000000000) (m : Nat) (hm : s.size = 4 * m) (hb : ∀ q, q < m → begB (G s q) 4 = true) (d : Nat) : ∀ q, q + d = m → Ev (fun k => posthornref04_Unbase64.l1 k s (grp s q) ((4 * q : Nat) : Int)) (grp s m, 0, 0) := by
  induction d with
  | zero =>
    intro q hq
    refine Ev.last fun k => ?_
    simp only [posthornref04_Unbase64.l1]
    rw [if_neg (by omega), show q = m by omega]
  | succ d ih =>
    intro q hq
    have hw : wrap64 (((4 * q : Nat) : Int) + 4) = ((4 * q + 4 : Nat) : Int) := by rw [wrap_id _ (by omega) (by omega)]; omega
    refine Ev.round (f := fun k => (posthornref04_group.f k (s.extract (4 * q) (4 * q + 4))).bind fun t230 => if (grp s q).length + t230.length < 140737488355328 then (posthornref04_Unbase64.l1 k s (grp s q ++ t230) (wrap64 (((4 * q : Nat) : Int) + 4))) else none) (fun k => ?_) ?_
    · simp only [posthornref04_Unbase64.l1]
      rw [hw, if_pos (by omega), if_pos (by omega), if_pos (by omega), if_pos (by omega), Int.toNat_natCast, Int.toNat_natCast]
    · refine Ev.bind (f := fun k t230 => if (grp s q).length + t230.length < 140737488355328 then (posthornref04_Unbase64.l1 k s (grp s q ++ t230) (wrap64 (((4 * q : Nat) : Int) + 4))) else none) (group_ev s q (by omega) (hb q (by omega))) ?_
      refine Ev.congr (fun k => ?_) (ih (q + 1) (by omega))
      have h1 := grp_len s q
      have h2 := fourB_len (valV (G s q 0)) (valV (G s q 1)) (valV (G s q 2)) (valV (G s q 3))
      rw [if_pos (by omega), hw]
      rfl

theorem G_list (s : ByteArray) (q n : Nat) (h : 4 * q + n < s.size) : (bytesOf s).drop (4 * q + n) = G s q n :: (bytesOf s).drop (4 * q + n + 1) := by
  have hl : 4 * q + n < (bytesOf s).length := by rw [bytesOf_len]; exact h
  rw [drop_cons _ _ hl, G, bt_bytes s _ hl]
theorem unb_loop (s : ByteArray) (hs : s.size ≤ 40000000000000) (d : Nat) : ∀ (q n : Nat) (st : St), 4 * q + n + d = s.size → Inv s q n st → (∀ j, j < q → begB (G s j) 4 = true) →
    Ev (fun k => posthornref04_Unbase64.l0 k s ((4 * q + n : Nat) : Int)) (unbL ((bytesOf s).drop (4 * q + n)) st (grp s q) (4 * q + n)) := by
  induction d with
  | zero =>
    intro q n st hd hi hb
    have hlt := hi.lt
    have hn := hi.hn
    rw [List.drop_eq_nil_of_le (by rw [bytesOf_len]; omega), unbL]
    by_cases h0 : n = 0
    · rw [if_neg (by omega)]
      subst h0
      refine Ev.round (f := fun k => posthornref04_Unbase64.l1 k s ([] : List Int) 0) (fun k => ?_) (ref_l1 s hs q (by omega) hb q 0 (by omega))
      simp only [posthornref04_Unbase64.l0]
      rw [if_neg (by omega), if_pos (by omega)]
    · rw [if_pos (by omega)]
      refine Ev.last fun k => ?_
      simp only [posthornref04_Unbase64.l0]
      rw [if_neg (by omega), if_neg (by omega), show (s.size : Int) = ((4 * q + n : Nat) : Int) by omega]
  | succ d ih =>
    intro q n st hd hi hb
    have hlt := hi.lt
    have hw : wrap64 (((4 * q + n : Nat) : Int) + 1) = ((4 * q + n + 1 : Nat) : Int) := by rw [wrap_id _ (by omega) (by omega)]; omega
    rw [G_list s q n (by omega), unbL, next_is s q n st hi]
    refine Ev.round (f := fun k => (posthornref04_On.f k s ((4 * q + n : Nat) : Int)).bind fun t228 => (if t228 = true then (posthornref04_Unbase64.l0 k s (wrap64 (((4 * q + n : Nat) : Int) + 1))) else (if (0 : Int) ≤ ((4 * q + n : Nat) : Int) then ((posthornref04_why.f k (bt s ((4 * q + n : Nat) : Int))).bind fun t229 => (some (([] : List Int), t229, ((4 * q + n : Nat) : Int)))) else (none)))) (fun k => ?_) ?_
    · simp only [posthornref04_Unbase64.l0]
      rw [if_pos (by omega)]
    · refine Ev.bind (f := fun k t228 => (if t228 = true then (posthornref04_Unbase64.l0 k s (wrap64 (((4 * q + n : Nat) : Int) + 1))) else (if (0 : Int) ≤ ((4 * q + n : Nat) : Int) then ((posthornref04_why.f k (bt s ((4 * q + n : Nat) : Int))).bind fun t229 => (some (([] : List Int), t229, ((4 * q + n : Nat) : Int)))) else (none)))) (On_ev s hs q n hlt (by omega)) ?_
      by_cases ho : onB s q n = true
      · rw [if_pos ho, if_neg (fun h => h rfl)]
        by_cases h3 : n < 3
        · obtain ⟨hi', hout⟩ := put_is s q n st hi ho h3
          rw [hout, List.append_nil]
          refine Ev.congr (fun k => ?_) (ih q (n + 1) _ (by omega) hi' hb)
          rw [if_pos ho, hw]; rfl
        · obtain rfl : n = 3 := by omega
          obtain ⟨hi', hout, hb4⟩ := put_four s q st hi ho
          rw [hout]
          have key := ih (q + 1) 0 _ (by omega) hi' (fun j hj => by
            by_cases hjq : j = q
            · subst hjq; exact hb4
            · exact hb j (by omega))
          refine Ev.congr (fun k => ?_) key
          rw [if_pos ho, hw]; rfl
      · rw [if_neg ho, if_pos (by unfold whyV; split <;> omega)]
        refine Ev.congr (f := fun k => (posthornref04_why.f k (G s q n)).bind fun t229 => (some (([] : List Int), t229, ((4 * q + n : Nat) : Int)))) (fun k => ?_) ?_
        · rw [if_neg ho, if_pos (by omega)]; rfl
        · exact Ev.bind (f := fun k t229 => (some (([] : List Int), t229, ((4 * q + n : Nat) : Int)))) (why_ev _ (G_in s q n)) (Ev.now _)
theorem inv0 (s : ByteArray) : Inv s 0 0 St.new := ⟨rfl, by omega, fun _ => by unfold ahead; rfl, fun h => absurd rfl h, rfl, fun h => by omega, fun h => by omega, fun h => by omega⟩
theorem Unbase64_ev (s : ByteArray) (hs : s.size ≤ 40000000000000) : Ev (fun k => posthornref04_Unbase64.f k s) (unbL (bytesOf s) St.new [] 0) :=
  unb_loop s hs s.size 0 0 St.new (by omega) (inv0 s) (fun j hj => by omega)
theorem unbL_len : ∀ (xs : List Int) (st : St) (out : List Int) (i : Nat), (unbL xs st out i).1.length ≤ out.length + 3 * xs.length
  | [], st, out, i => by rw [unbL]; split <;> simp
  | ch :: r, st, out, i => by
    rw [unbL]
    split
    · simp
    · have := unbL_len r (st.put (valV ch)) (out ++ st.out (valV ch)) (i + 1)
      have := out_len st (valV ch)
      rw [List.length_append] at *
      rw [List.length_cons]; omega
end Go.Proofs.Ytokgckhhhhigiaa.UnbP
