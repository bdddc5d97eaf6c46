/- Unbase64, the program's fold and the reference's, told as one (plain). Base64, as a plain function on lists. Base64 and Unbase64, plainly: there and back, what is taken is written again, what is refused has its place. Rows, the program's and the reference's, as one plain function on lists. fed of the statements (walked by hand): a new reader, fed with bytes in pieces, tells what one Feed tells. What each statement of outright.go asks first (walked by hand): something is written and read, both ways. The functions of code that are walked by hand, in the form that the printed callers want. -/
import Derived.Test.YtokgckhhhhigiaaDoorRdr
import Derived.Test.YtokgckhhhhigiaaDoorDB
import Derived.Test.YtokgckhhhhigiaaDoorBase
import Derived.Test.YtokgckhhhhigiaaDoorQuoW
import Derived.Deep.CutRange
import Derived.Test.YtokgckhhhhigiaaDoorUnqW
namespace Go.Proofs.YtokgckhhhhigiaaDoor.UnbP
set_option linter.unusedVariables false
set_option linter.unusedSimpArgs false
set_option linter.unusedVariables false
open Go.RowKit Go.Proofs.YtokgckhhhhigiaaDoorW.PrintWords Go.Proofs.YtokgckhhhhigiaaDoorW.PrintLast Go.Proofs.YtokgckhhhhigiaaDoorW.PrintMore Go.Proofs.YtokgckhhhhigiaaDoor.B Go.Proofs.YtokgckhhhhigiaaDoor.Rd Go.Proofs.YtokgckhhhhigiaaDoor.D

theorem of_fin {n : Nat} {p : Int → Prop} (h : ∀ x : Fin n, p (x.val : Int)) (x : Int) (hx : 0 ≤ x ∧ x < n) : p x := by
  have := h ⟨x.toNat, by omega⟩
  simp only at this
  rwa [Int.toNat_of_nonneg hx.1] at this
theorem of_fin2 {n m : Nat} {p : Int → Int → Prop} (h : ∀ (x : Fin n) (y : Fin m), p (x.val : Int) (y.val : Int)) (x y : Int) (hx : 0 ≤ x ∧ x < n) (hy : 0 ≤ y ∧ y < m) : p x y :=
  of_fin (n := n) (p := fun x => p x y) (fun x => of_fin (n := m) (p := fun y => p (x.val : Int) y) (h x) y hy) x hx

/-- A letter's number, or -1. -/
def num (c : Int) : Int := if valV c < 64 then valV c else -1
def isL (c : Int) : Bool := decide (valV c < 64)
def lowB (c m : Int) : Bool := isL c && decide (valV c % m = 0)
theorem val_range : ∀ c : Fin 256, 0 ≤ valV (c.val : Int) ∧ valV (c.val : Int) ≤ 65 := by decide +kernel
theorem val_r (c : Int) (h : 0 ≤ c ∧ c ≤ 255) : 0 ≤ valV c ∧ valV c ≤ 65 := of_fin (n := 256) (p := fun c => 0 ≤ valV c ∧ valV c ≤ 65) val_range c (by omega)
theorem val_pad_fin : ∀ c : Fin 256, decide (valV (c.val : Int) = 64) = decide ((c.val : Int) = 61) := by decide +kernel
theorem val_pad (c : Int) (h : 0 ≤ c ∧ c ≤ 255) : valV c = 64 ↔ c = 61 := by
  have := of_fin (n := 256) (p := fun c => decide (valV c = 64) = decide (c = 61)) val_pad_fin c (by omega)
  exact decide_eq_decide.1 this
theorem number_fin : ∀ c : Fin 256, posthornref04_number.f 66 (c.val : Int) = some (num (c.val : Int)) := by decide +kernel
theorem number_ev (c : Int) (h : 0 ≤ c ∧ c ≤ 255) : Ev (fun k => posthornref04_number.f k c) (num c) :=
  Ev.of (fun k => posthornref04_number.mono c k) (k := 66) (of_fin (n := 256) (p := fun c => posthornref04_number.f 66 c = some (num c)) number_fin c (by omega))
theorem low4_fin : ∀ c : Fin 256, posthornref04_low.f 70 (c.val : Int) 4 = some (lowB (c.val : Int) 16) := by decide +kernel
theorem low2_fin : ∀ c : Fin 256, posthornref04_low.f 70 (c.val : Int) 2 = some (lowB (c.val : Int) 4) := by decide +kernel
theorem low4_ev (c : Int) (h : 0 ≤ c ∧ c ≤ 255) : Ev (fun k => posthornref04_low.f k c 4) (lowB c 16) :=
  Ev.of (fun k => posthornref04_low.mono c 4 k) (k := 70) (of_fin (n := 256) (p := fun c => posthornref04_low.f 70 c 4 = some (lowB c 16)) low4_fin c (by omega))
theorem low2_ev (c : Int) (h : 0 ≤ c ∧ c ≤ 255) : Ev (fun k => posthornref04_low.f k c 2) (lowB c 4) :=
  Ev.of (fun k => posthornref04_low.mono c 2 k) (k := 70) (of_fin (n := 256) (p := fun c => posthornref04_low.f 70 c 2 = some (lowB c 4)) low2_fin c (by omega))

/-- May the byte of this place stand behind those ahead, in a group? -/
def okAt (g : Nat → Int) : Nat → Bool
  | 0 => isL (g 0)
  | 1 => isL (g 1)
  | 2 => isL (g 2) || (decide (g 2 = 61) && lowB (g 1) 16)
  | _ => if g 2 = 61 then decide (g 3 = 61) else (isL (g 3) || (decide (g 3 = 61) && lowB (g 2) 4))
theorem num_nn (c : Int) (h : 0 ≤ c ∧ c ≤ 255) : decide (num c ≥ 0) = isL c := by
  have := val_r c h
  unfold num isL
  by_cases h1 : valV c < 64
  · rw [if_pos h1, decide_eq_true h1]; exact decide_eq_true this.1
  · rw [if_neg h1, decide_eq_false h1]; rfl

theorem okAt_three (g : Nat → Int) : okAt g 3 = (if g 2 = 61 then decide (g 3 = 61) else (isL (g 3) || (decide (g 3 = 61) && lowB (g 2) 4))) := rfl
/-- One byte of a group. -/
theorem beg_step (g : ByteArray) (c : Nat → Int) (hc : ∀ i, c i = bt g (i : Int)) (hs : g.size ≤ 4) (i : Nat) (h : i < g.size) (r : Bool) (ih : Ev (fun k => posthornref04_begun.l0 k g ((i + 1 : Nat) : Int)) r) :
    Ev (fun k => posthornref04_begun.l0 k g (i : Int)) (if okAt c i = true then r else false) := by
  have hr : ∀ j, 0 ≤ c j ∧ c j ≤ 255 := fun j => by rw [hc]; exact bt_range g _
  have hw : wrap64 ((i : Int) + 1) = ((i + 1 : Nat) : Int) := wrap_id _ (by omega) (by omega)
  have hlt : (i : Int) < (g.size : Int) := by omega
  have h0 : (0 : Int) ≤ (i : Int) := by omega
  have key : ∀ (j : Int) (b : Bool), (j = (i : Int) ∧ (b = (i == 0) ∨ b = (i == 1))) → (i = 0 → b = true) → (i ≠ 0 → b = (i == 1)) → Ev (fun k => posthornref04_begun.j1 k g (i : Int) (decide (num (c i) ≥ 0)) j b) (if okAt c i = true then r else false) := by
    rintro _ b ⟨rfl, _⟩ hb0 hb1
    rw [num_nn _ (hr i)]
    match i, h, hlt, hw, hb0, hb1, ih with
    | 0, h, hlt, hw, hb0, hb1, ih =>
      rw [hb0 rfl]
      by_cases hl : isL (c 0) = true
      · refine Ev.round (f := fun k => posthornref04_begun.l0 k g ((0 + 1 : Nat) : Int)) (fun k => ?_) (by rw [okAt, if_pos hl]; exact ih)
        simp only [posthornref04_begun.j1]
        rw [if_pos (by decide), if_pos hl, hw]
      · refine Ev.last fun k => ?_
        simp only [posthornref04_begun.j1]
        rw [if_pos (by decide), if_neg hl, okAt, if_neg hl]
    | 1, h, hlt, hw, hb0, hb1, ih =>
      rw [hb1 (by decide)]
      by_cases hl : isL (c 1) = true
      · refine Ev.round (f := fun k => posthornref04_begun.l0 k g ((1 + 1 : Nat) : Int)) (fun k => ?_) (by rw [okAt, if_pos hl]; exact ih)
        simp only [posthornref04_begun.j1]
        rw [if_pos (by decide), if_pos hl, hw]
      · refine Ev.last fun k => ?_
        simp only [posthornref04_begun.j1]
        rw [if_pos (by decide), if_neg hl, okAt, if_neg hl]
    | 2, h, hlt, hw, hb0, hb1, ih =>
      rw [hb1 (by decide)]
      have e2 : c 2 = bt g 2 := hc 2
      have e1 : c 1 = bt g 1 := hc 1
      by_cases hl : isL (c 2) = true
      · refine Ev.round (f := fun k => posthornref04_begun.l0 k g ((2 + 1 : Nat) : Int)) (fun k => ?_) (by rw [okAt, hl, Bool.true_or, if_pos rfl]; exact ih)
        simp only [posthornref04_begun.j1]
        rw [if_neg (by decide), if_pos (by decide), if_pos hl, hw]
      · by_cases hp : c 2 = 61
        · refine Ev.round (f := fun k => (posthornref04_low.f k (bt g 1) 4).bind fun t215 => (if t215 = true then (posthornref04_begun.l0 k g (wrap64 (((2 : Nat) : Int) + 1))) else (some false))) (fun k => ?_) ?_
          · simp only [posthornref04_begun.j1]
            rw [if_neg (by decide), if_pos (by decide), if_neg hl, if_pos (by omega), if_pos (by rw [← e2]; exact hp), if_pos (by omega)]
          · refine Ev.bind (a := lowB (c 1) 16) (f := fun k t => if t = true then (posthornref04_begun.l0 k g (wrap64 (((2 : Nat) : Int) + 1))) else (some false)) (by rw [← e1]; exact low4_ev _ (hr 1)) ?_
            rw [okAt, Bool.eq_false_iff.2 hl, Bool.false_or, decide_eq_true hp, Bool.true_and]
            by_cases hq : lowB (c 1) 16 = true
            · rw [if_pos hq]; refine Ev.congr (fun k => ?_) ih; rw [if_pos hq, hw]
            · rw [if_neg hq]; exact Ev.val fun k => by rw [if_neg hq]
        · refine Ev.last fun k => ?_
          simp only [posthornref04_begun.j1]
          rw [if_neg (by decide), if_pos (by decide), if_neg hl, if_pos (by omega), if_neg (by rw [← e2]; exact hp), okAt, Bool.eq_false_iff.2 hl, decide_eq_false hp]
          rfl
    | 3, h, hlt, hw, hb0, hb1, ih =>
      rw [hb1 (by decide)]
      have e2 : c 2 = bt g 2 := hc 2
      have e3 : c 3 = bt g 3 := hc 3
      by_cases hp : c 2 = 61
      · by_cases hq : c 3 = 61
        · refine Ev.round (f := fun k => posthornref04_begun.l0 k g ((3 + 1 : Nat) : Int)) (fun k => ?_) (by rw [okAt_three, if_pos hp, decide_eq_true hq, if_pos rfl]; exact ih)
          simp only [posthornref04_begun.j1]
          rw [if_neg (by decide), if_neg (by decide), if_pos (by omega), if_pos (by rw [← e2]; exact hp), if_pos (by omega), if_pos (by rw [← e3]; exact hq), hw]
        · refine Ev.last fun k => ?_
          simp only [posthornref04_begun.j1]
          rw [if_neg (by decide), if_neg (by decide), if_pos (by omega), if_pos (by rw [← e2]; exact hp), if_pos (by omega), if_neg (by rw [← e3]; exact hq), okAt_three, if_pos hp, decide_eq_false hq]
          rfl
      · by_cases hl : isL (c 3) = true
        · refine Ev.round (f := fun k => posthornref04_begun.l0 k g ((3 + 1 : Nat) : Int)) (fun k => ?_) (by rw [okAt_three, if_neg hp, hl, Bool.true_or, if_pos rfl]; exact ih)
          simp only [posthornref04_begun.j1]
          rw [if_neg (by decide), if_neg (by decide), if_pos (by omega), if_neg (by rw [← e2]; exact hp), if_pos hl, hw]
        · by_cases hq : c 3 = 61
          · refine Ev.round (f := fun k => (posthornref04_low.f k (bt g 2) 2).bind fun t215 => (if t215 = true then (posthornref04_begun.l0 k g (wrap64 (((3 : Nat) : Int) + 1))) else (some false))) (fun k => ?_) ?_
            · simp only [posthornref04_begun.j1]
              rw [if_neg (by decide), if_neg (by decide), if_pos (by omega), if_neg (by rw [← e2]; exact hp), if_neg hl, if_pos (by omega), if_pos (by rw [← e3]; exact hq)]
            · refine Ev.bind (a := lowB (c 2) 4) (f := fun k t => if t = true then (posthornref04_begun.l0 k g (wrap64 (((3 : Nat) : Int) + 1))) else (some false)) (by rw [← e2]; exact low2_ev _ (hr 2)) ?_
              rw [okAt_three, if_neg hp, Bool.eq_false_iff.2 hl, Bool.false_or, decide_eq_true hq, Bool.true_and]
              by_cases hz : lowB (c 2) 4 = true
              · rw [if_pos hz]; refine Ev.congr (fun k => ?_) ih; rw [if_pos hz, hw]
              · rw [if_neg hz]; exact Ev.val fun k => by rw [if_neg hz]
          · refine Ev.last fun k => ?_
            simp only [posthornref04_begun.j1]
            rw [if_neg (by decide), if_neg (by decide), if_pos (by omega), if_neg (by rw [← e2]; exact hp), if_neg hl, if_pos (by omega), if_neg (by rw [← e3]; exact hq), okAt_three, if_neg hp, Bool.eq_false_iff.2 hl, decide_eq_false hq]
            rfl
    | n + 4, h, _, _, _, _, _ => omega
  refine Ev.round (f := fun k => (posthornref04_number.f k (c i)).bind fun t => if (i : Int) = 0 then posthornref04_begun.j1 k g (i : Int) (decide (t ≥ 0)) (i : Int) ((i : Int) == 0) else posthornref04_begun.j1 k g (i : Int) (decide (t ≥ 0)) (i : Int) ((i : Int) == 1)) (fun k => ?_) ?_
  · simp only [posthornref04_begun.l0]
    rw [if_pos hlt, if_pos h0, ← hc]
  · refine Ev.bind (a := num (c i)) (f := fun k t => if (i : Int) = 0 then posthornref04_begun.j1 k g (i : Int) (decide (t ≥ 0)) (i : Int) ((i : Int) == 0) else posthornref04_begun.j1 k g (i : Int) (decide (t ≥ 0)) (i : Int) ((i : Int) == 1)) (number_ev _ (hr i)) ?_
    by_cases hi0 : i = 0
    · refine Ev.congr (fun k => ?_) (key (i : Int) ((i : Int) == 0) ⟨rfl, .inl (by subst hi0; rfl)⟩ (fun _ => by subst hi0; rfl) (fun h => absurd hi0 h))
      rw [if_pos (by omega)]
    · have hb : (((i : Int) == 1) : Bool) = (i == 1) := by
        by_cases h1 : i = 1
        · subst h1; rfl
        · rw [beq_eq_false_iff_ne.2 h1, beq_eq_false_iff_ne.2 (by omega)]
      refine Ev.congr (fun k => ?_) (key (i : Int) ((i : Int) == 1) ⟨rfl, .inr hb⟩ (fun h => absurd h hi0) (fun _ => hb))
      rw [if_neg (by omega)]

/-- The first n bytes of a group. -/
def begB (c : Nat → Int) : Nat → Bool
  | 0 => true
  | n + 1 => begB c n && okAt c n
theorem beg_from (g : ByteArray) (c : Nat → Int) (hc : ∀ i, c i = bt g (i : Int)) (hs : g.size ≤ 4) (d : Nat) : ∀ i, i + d = g.size → ∃ r : Bool, Ev (fun k => posthornref04_begun.l0 k g (i : Int)) r ∧ (begB c i && r) = begB c g.size := by
  induction d with
  | zero =>
    intro i hi
    refine ⟨true, Ev.last fun k => ?_, ?_⟩
    · simp only [posthornref04_begun.l0]
      rw [if_neg (by omega)]
    · rw [Bool.and_true, show i = g.size by omega]
  | succ d ih =>
    intro i hi
    obtain ⟨r, hr, hb⟩ := ih (i + 1) (by omega)
    refine ⟨_, beg_step g c hc hs i (by omega) r hr, ?_⟩
    rw [← hb, begB]
    cases okAt c i <;> simp
theorem begun_ev (g : ByteArray) (c : Nat → Int) (hc : ∀ i, c i = bt g (i : Int)) (hs : g.size ≤ 4) : Ev (fun k => posthornref04_begun.f k g) (begB c g.size) := by
  obtain ⟨r, hr, hb⟩ := beg_from g c hc hs g.size 0 (by omega)
  rw [← hb]
  simp only [begB, Bool.true_and]
  exact hr

theorem bt_extract (s : ByteArray) (a b : Nat) (hb : b ≤ s.size) (i : Nat) (hi : a + i < b) : bt (s.extract a b) (i : Int) = bt s ((a + i : Nat) : Int) := by
  unfold bt
  have h1 : (s.extract a b).size = b - a := by simp; omega
  rw [dif_pos (by rw [h1]; omega), dif_pos (by omega)]
  have e : (((a + i : Nat) : Int)).toNat = a + i := Int.toNat_natCast _
  simp only [ByteArray.getElem_extract, Int.toNat_natCast]

theorem okAt_congr (f g : Nat → Int) (n : Nat) (h : ∀ j, j ≤ n → f j = g j) : okAt f n = okAt g n := by
  match n with
  | 0 => simp only [okAt, h 0 (by omega)]
  | 1 => simp only [okAt, h 1 (by omega)]
  | 2 => simp only [okAt, h 1 (by omega), h 2 (by omega)]
  | n + 3 =>
    show (if f 2 = 61 then decide (f 3 = 61) else (isL (f 3) || (decide (f 3 = 61) && lowB (f 2) 4))) = (if g 2 = 61 then decide (g 3 = 61) else (isL (g 3) || (decide (g 3 = 61) && lowB (g 2) 4)))
    rw [h 2 (by omega), h 3 (by omega)]
theorem begB_congr (f g : Nat → Int) (n : Nat) (h : ∀ j, j < n → f j = g j) : begB f n = begB g n := by
  induction n with
  | zero => rfl
  | succ n ih => rw [begB, begB, ih fun j hj => h j (by omega), okAt_congr f g n fun j hj => h j (by omega)]

section
variable (s : ByteArray)
def G (q j : Nat) : Int := bt s ((4 * q + j : Nat) : Int)
/-- Did the group ahead end with a sign? -/
def ahead (q : Nat) : Bool := decide (0 < q) && decide (bt s ((4 * q - 1 : Nat) : Int) = 61)
def onB (q n : Nat) : Bool := !ahead s q && begB (G s q) (n + 1)
theorem On_ev (hs : s.size ≤ 40000000000000) (q n : Nat) (hn : n < 4) (h : 4 * q + n < s.size) : Ev (fun k => posthornref04_On.f k s ((4 * q + n : Nat) : Int)) (onB s q n) := by
  have hq : wrap64 ((wrap64 (Int.tdiv ((4 * q + n : Nat) : Int) 4)) * 4) = ((4 * q : Nat) : Int) := by
    rw [Int.tdiv_eq_ediv_of_nonneg (by omega), wrap_id (((4 * q + n : Nat) : Int) / 4) (by omega) (by omega), wrap_id _ (by omega) (by omega)]; omega
  have hi : wrap64 (((4 * q + n : Nat) : Int) + 1) = ((4 * q + n + 1 : Nat) : Int) := by rw [wrap_id _ (by omega) (by omega)]; omega
  have hsz : (s.extract (4 * q) (4 * q + n + 1)).size = n + 1 := by simp; omega
  have hb := begun_ev (s.extract (4 * q) (4 * q + n + 1)) (fun i => bt (s.extract (4 * q) (4 * q + n + 1)) (i : Int)) (fun _ => rfl) (by omega)
  rw [hsz, begB_congr _ (G s q) (n + 1) fun j hj => by rw [G]; exact bt_extract s _ _ (by omega) j (by omega)] at hb
  by_cases h0 : q = 0
  · have ha : ahead s q = false := by unfold ahead; rw [decide_eq_false (by omega)]; rfl
    refine Ev.congr (fun k => ?_) (Ev.same (show Ev (fun k => posthornref04_begun.f k (s.extract (4 * q) (4 * q + n + 1))) (onB s q n) by unfold onB; rw [ha]; exact hb))
    unfold posthornref04_On.f
    rw [hq, hi, if_pos (by omega), if_pos (by omega), if_pos (by omega), if_pos (by omega), Int.toNat_natCast, Int.toNat_natCast]
  · have h1 : wrap64 (((4 * q : Nat) : Int) - 1) = ((4 * q - 1 : Nat) : Int) := by rw [wrap_id _ (by omega) (by omega)]; omega
    by_cases h2 : bt s ((4 * q - 1 : Nat) : Int) = 61
    · have ha : ahead s q = true := by unfold ahead; rw [decide_eq_true (by omega), decide_eq_true h2]; rfl
      refine Ev.val fun k => ?_
      unfold posthornref04_On.f
      rw [hq, hi, h1, if_neg (by omega), if_pos (by omega), if_pos (by omega), if_pos h2, onB, ha]
      rfl
    · have ha : ahead s q = false := by unfold ahead; rw [decide_eq_true (by omega), decide_eq_false h2]; rfl
      refine Ev.congr (fun k => ?_) (Ev.same (show Ev (fun k => posthornref04_begun.f k (s.extract (4 * q) (4 * q + n + 1))) (onB s q n) by unfold onB; rw [ha]; exact hb))
      unfold posthornref04_On.f
      rw [hq, hi, h1, if_neg (by omega), if_pos (by omega), if_pos (by omega), if_neg h2, if_pos (by omega), if_pos (by omega), if_pos (by omega), Int.toNat_natCast, Int.toNat_natCast]
end
def whyV (c : Int) : Int := if valV c = 65 then 40 else 41
theorem why_ev (c : Int) (h : 0 ≤ c ∧ c ≤ 255) : Ev (fun k => posthornref04_why.f k c) (whyV c) := by
  refine Ev.bind (a := num c) (f := fun k t => if t < 0 then (if c = 61 then (some 41) else (some 40)) else (some 41)) (number_ev c h) (Ev.val fun k => ?_)
  have hr := val_r c h
  have hp := val_pad c h
  unfold num whyV
  by_cases h1 : valV c < 64
  · rw [if_pos h1, if_neg (by omega), if_neg (by omega)]
  · rw [if_neg h1, if_pos (by decide)]
    by_cases h2 : valV c = 64
    · rw [if_pos (hp.1 h2), if_neg (by omega)]
    · rw [if_neg (fun e => h2 (hp.2 e)), if_pos (by omega)]

/-- Where the program's reader stands behind n bytes of group q. -/
structure Inv (s : ByteArray) (q n : Nat) (st : St) : Prop where
  hn : st.n = n
  lt : n < 4
  o0 : n = 0 → st.o = ahead s q
  o1 : n ≠ 0 → st.o = false ∧ ahead s q = false
  beg : begB (G s q) n = true
  ha : 1 ≤ n → st.a = valV (G s q 0)
  hb : 2 ≤ n → st.b = valV (G s q 1)
  hc : 3 ≤ n → st.c = valV (G s q 2)
theorem and15 : ∀ x : Fin 256, Go.bits .and .u8 (x.val : Int) 15 = (x.val : Int) % 16 := by decide +kernel
theorem and3 : ∀ x : Fin 256, Go.bits .and .u8 (x.val : Int) 3 = (x.val : Int) % 4 := by decide +kernel
theorem G_in (s : ByteArray) (q j : Nat) : 0 ≤ G s q j ∧ G s q j ≤ 255 := bt_range _ _
theorem isL_iff (c : Int) : isL c = true ↔ valV c < 64 := decide_eq_true_iff
theorem beg1 {g : Nat → Int} {n : Nat} (h : begB g (n + 1) = true) : begB g n = true ∧ okAt g n = true := by rw [begB, Bool.and_eq_true] at h; exact h
/-- The program's answer at a byte. -/
theorem next_is (s : ByteArray) (q n : Nat) (st : St) (h : Inv s q n st) : st.next (valV (G s q n)) = if onB s q n = true then 0 else whyV (G s q n) := by
  obtain ⟨a, b, c, d, n', o⟩ := st
  obtain ⟨rfl, hlt, ho0, ho1, hb, ha, hb', hc⟩ := h
  simp only at hlt ho0 ho1 hb ha hb' hc ⊢
  have hr := val_r _ (G_in s q n')
  have hp := val_pad _ (G_in s q n')
  unfold St.next nextV whyV onB
  rw [begB, hb, Bool.true_and]
  simp only
  match n', hlt, ho0, ho1, hb, ha, hb', hc, hr, hp with
  | 0, _, ho0, _, _, _, _, _, hr, hp =>
    rw [← ho0 rfl, show okAt (G s q) 0 = isL (G s q 0) from rfl]
    by_cases h1 : valV (G s q 0) = 65
    · rw [if_pos h1, if_pos h1, isL, decide_eq_false (by omega), Bool.and_false]; rfl
    · rw [if_neg h1, if_neg h1]
      cases o
      · rw [if_neg (by decide), if_neg (by omega)]
        by_cases h2 : valV (G s q 0) = 64
        · rw [if_neg (by omega), if_pos (by omega), isL, decide_eq_false (by omega)]; rfl
        · rw [if_pos h2, isL, decide_eq_true (by omega)]; rfl
      · rw [if_pos rfl]; rfl
  | 1, _, _, ho1, _, _, _, _, hr, hp =>
    obtain ⟨rfl, hah⟩ := ho1 (by decide)
    rw [hah, show okAt (G s q) 1 = isL (G s q 1) from rfl]
    by_cases h1 : valV (G s q 1) = 65
    · rw [if_pos h1, if_pos h1, isL, decide_eq_false (by omega), Bool.and_false]; rfl
    · rw [if_neg h1, if_neg h1, if_neg (by decide), if_neg (by omega)]
      by_cases h2 : valV (G s q 1) = 64
      · rw [if_neg (by omega), if_pos (by omega), isL, decide_eq_false (by omega)]; rfl
      · rw [if_pos h2, isL, decide_eq_true (by omega)]; rfl
  | 2, _, _, ho1, hb, _, hb', _, hr, hp =>
    obtain ⟨rfl, hah⟩ := ho1 (by decide)
    obtain rfl := hb' (by decide)
    have hr1 := val_r _ (G_in s q 1)
    have hl1 : isL (G s q 1) = true := (beg1 hb).2
    have e15 := of_fin (n := 256) (p := fun x => Go.bits .and .u8 x 15 = x % 16) and15 _ (show 0 ≤ valV (G s q 1) ∧ valV (G s q 1) < (256 : Nat) by omega)
    rw [hah, show okAt (G s q) 2 = (isL (G s q 2) || (decide (G s q 2 = 61) && lowB (G s q 1) 16)) from rfl, lowB, hl1, e15]
    by_cases h1 : valV (G s q 2) = 65
    · rw [if_pos h1, if_pos h1, isL, decide_eq_false (by omega), decide_eq_false (fun e => by have := hp.2 e; omega)]; rfl
    · rw [if_neg h1, if_neg h1, if_neg (by decide), if_neg (by omega)]
      by_cases h2 : valV (G s q 2) = 64
      · rw [if_neg (by omega), isL, decide_eq_false (by omega), decide_eq_true (hp.1 h2)]
        by_cases h3 : valV (G s q 1) % 16 = 0
        · rw [if_neg (by omega), decide_eq_true h3]; rfl
        · rw [if_pos (by omega), decide_eq_false h3]; rfl
      · rw [if_pos h2, isL, decide_eq_true (by omega)]; rfl
  | 3, _, _, ho1, hb, _, hb', hc, hr, hp =>
    obtain ⟨rfl, hah⟩ := ho1 (by decide)
    obtain rfl := hc (by decide)
    have hr2 := val_r _ (G_in s q 2)
    have hp2 := val_pad _ (G_in s q 2)
    have hok2 : okAt (G s q) 2 = true := (beg1 hb).2
    rw [show okAt (G s q) 2 = (isL (G s q 2) || (decide (G s q 2 = 61) && lowB (G s q 1) 16)) from rfl] at hok2
    have e3 := of_fin (n := 256) (p := fun x => Go.bits .and .u8 x 3 = x % 4) and3 _ (show 0 ≤ valV (G s q 2) ∧ valV (G s q 2) < (256 : Nat) by omega)
    rw [hah, okAt_three, e3]
    by_cases h1 : valV (G s q 3) = 65
    · rw [if_pos h1, if_pos h1]
      by_cases h5 : G s q 2 = 61
      · rw [if_pos h5, decide_eq_false (fun e => by have := hp.2 e; omega)]; rfl
      · rw [if_neg h5, isL, decide_eq_false (show ¬ valV (G s q 3) < 64 by omega), decide_eq_false (fun e => by have := hp.2 e; omega)]; rfl
    · rw [if_neg h1, if_neg h1, if_neg (by decide)]
      by_cases h5 : G s q 2 = 61
      · rw [if_pos ⟨rfl, hp2.2 h5⟩, if_pos h5]
        by_cases h2 : valV (G s q 3) = 64
        · rw [if_neg (by omega), decide_eq_true (hp.1 h2)]; rfl
        · rw [if_pos h2, decide_eq_false (fun e => h2 (hp.2 e))]; rfl
      · have hl2 : isL (G s q 2) = true := by rw [decide_eq_false h5, Bool.false_and, Bool.or_false] at hok2; exact hok2
        rw [if_neg (fun e => h5 (hp2.1 e.2)), if_neg h5, lowB, hl2]
        by_cases h2 : valV (G s q 3) = 64
        · rw [if_neg (by omega), isL, decide_eq_false (by omega), decide_eq_true (hp.1 h2)]
          by_cases h3 : valV (G s q 2) % 4 = 0
          · rw [if_neg (by omega), decide_eq_true h3]; rfl
          · rw [if_pos (by omega), decide_eq_false h3]; rfl
        · rw [if_pos h2, isL, decide_eq_true (by omega)]; rfl

def grp (s : ByteArray) : Nat → List Int
  | 0 => []
  | q + 1 => grp s q ++ fourB (valV (G s q 0)) (valV (G s q 1)) (valV (G s q 2)) (valV (G s q 3))
theorem put_is (s : ByteArray) (q n : Nat) (st : St) (h : Inv s q n st) (ho : onB s q n = true) (hn : n < 3) : Inv s q (n + 1) (st.put (valV (G s q n))) ∧ st.out (valV (G s q n)) = [] := by
  obtain ⟨a, b, c, d, n', o⟩ := st
  obtain ⟨rfl, hlt, ho0, ho1, hb, ha, hb', hc⟩ := h
  simp only at hlt ho0 ho1 hb ha hb' hc ho hn ⊢
  unfold onB at ho
  rw [Bool.and_eq_true] at ho
  have hah : ahead s q = false := by have := ho.1; cases h : ahead s q <;> simp_all
  have hof : o = false := by
    by_cases h0 : n' = 0
    · rw [ho0 h0, hah]
    · exact (ho1 h0).1
  match n', hn, ho, ha, hb', hc with
  | 0, _, ho, _, _, _ => exact ⟨⟨rfl, by omega, fun h => by omega, fun _ => ⟨hof, hah⟩, ho.2, fun _ => rfl, fun h => by omega, fun h => by omega⟩, rfl⟩
  | 1, _, ho, ha, _, _ => exact ⟨⟨rfl, by omega, fun h => by omega, fun _ => ⟨hof, hah⟩, ho.2, fun _ => ha (by omega), fun _ => rfl, fun h => by omega⟩, rfl⟩
  | 2, _, ho, ha, hb', _ => exact ⟨⟨rfl, by omega, fun h => by omega, fun _ => ⟨hof, hah⟩, ho.2, fun _ => ha (by omega), fun _ => hb' (by omega), fun _ => rfl⟩, rfl⟩
theorem put_four (s : ByteArray) (q : Nat) (st : St) (h : Inv s q 3 st) (ho : onB s q 3 = true) : Inv s (q + 1) 0 (st.put (valV (G s q 3))) ∧ st.out (valV (G s q 3)) = fourB (valV (G s q 0)) (valV (G s q 1)) (valV (G s q 2)) (valV (G s q 3)) ∧ begB (G s q) 4 = true := by
  obtain ⟨a, b, c, d, n', o⟩ := st
  obtain ⟨h3, hlt, ho0, ho1, hb, ha, hb', hc⟩ := h
  simp only at h3 ho0 ho1 ha hb' hc
  subst h3
  have hp := val_pad _ (G_in s q 3)
  unfold onB at ho
  rw [Bool.and_eq_true] at ho
  refine ⟨⟨rfl, by omega, fun _ => ?_, fun h => absurd rfl h, rfl, fun h => by omega, fun h => by omega, fun h => by omega⟩, ?_, ho.2⟩
  · show (valV (G s q 3) == 64) = ahead s (q + 1)
    unfold ahead
    rw [decide_eq_true (by omega), Bool.true_and, show 4 * (q + 1) - 1 = 4 * q + 3 by omega]
    show (valV (G s q 3) == 64) = decide (G s q 3 = 61)
    by_cases h : G s q 3 = 61
    · rw [decide_eq_true h, hp.2 h]; rfl
    · rw [decide_eq_false h]; exact beq_eq_false_iff_ne.2 fun e => h (hp.1 e)
  · unfold St.out
    simp only
    rw [if_pos trivial, ha (by omega), hb' (by omega), hc (by omega)]

theorem b1_fin : ∀ (a b : Fin 64), b1 (a.val : Int) (b.val : Int) = (a.val : Int) * 4 + (b.val : Int) / 16 := by decide +kernel
theorem b2_fin : ∀ (a b : Fin 64), b2 (a.val : Int) (b.val : Int) = (a.val : Int) % 16 * 16 + (b.val : Int) / 4 := by decide +kernel
theorem b3_fin : ∀ (a b : Fin 64), b3 (a.val : Int) (b.val : Int) = (a.val : Int) % 4 * 64 + (b.val : Int) := by decide +kernel
def mz (c : Int) : Int := if valV c < 64 then valV c else 0
theorem mz_in (c : Int) (h : 0 ≤ c ∧ c ≤ 255) : 0 ≤ mz c ∧ mz c < 64 := by
  have := val_r c h
  unfold mz
  split <;> omega
theorem mx_num (c : Int) (h : 0 ≤ c ∧ c ≤ 255) : mx 0 (num c) = mz c := by
  have := val_r c h
  unfold mx num mz
  by_cases h1 : valV c < 64
  · rw [if_pos h1, if_pos h1]; split <;> omega
  · rw [if_neg h1, if_neg h1]; rfl
theorem group_step (g : ByteArray) (hs : g.size = 4) (m x : Int) (i : Nat) (hi : i < 4) (hx : 0 ≤ x ∧ x < 1000000) (r : List Int)
    (h : Ev (fun k => posthornref04_group.l0 k g m (x * 64 + mz (bt g (i : Int))) ((i + 1 : Nat) : Int)) r) : Ev (fun k => posthornref04_group.l0 k g m x (i : Int)) r := by
  have hb := bt_range g (i : Int)
  have hm := mz_in _ hb
  refine Ev.round (f := fun k => (posthornref04_number.f k (bt g (i : Int))).bind fun t => posthornref04_group.l0 k g m (wrap64 ((wrap64 (x * 64)) + (mx 0 t))) (wrap64 ((i : Int) + 1))) (fun k => ?_) ?_
  · simp only [posthornref04_group.l0]
    rw [if_pos (by omega), if_pos (by omega), if_pos (by omega)]
  · refine Ev.bind (a := num (bt g (i : Int))) (f := fun k t => posthornref04_group.l0 k g m (wrap64 ((wrap64 (x * 64)) + (mx 0 t))) (wrap64 ((i : Int) + 1))) (number_ev _ hb) ?_
    refine Ev.congr (fun k => ?_) h
    rw [mx_num _ hb, wrap_id (x * 64) (by omega) (by omega), wrap_id _ (by omega) (by omega), wrap_id _ (by omega) (by omega)]
    rfl
theorem group_l0 (g : ByteArray) (hs : g.size = 4) (m : Nat) (hm : m ≤ 3) (r : List Int) (q : Int) (hq : q = ((mz (bt g 0) * 64 + mz (bt g 1)) * 64 + mz (bt g 2)) * 64 + mz (bt g 3))
    (hr : r = [q / 65536, q / 256 % 256, q % 256].take m) : Ev (fun k => posthornref04_group.l0 k g (m : Int) 0 0) r := by
  have h0 := mz_in _ (bt_range g 0)
  have h1 := mz_in _ (bt_range g 1)
  have h2 := mz_in _ (bt_range g 2)
  have h3 := mz_in _ (bt_range g 3)
  have hq0 : 0 ≤ q ∧ q < 16777216 := by omega
  refine group_step g hs m 0 0 (by omega) (by omega) r ?_
  refine group_step g hs m _ 1 (by omega) (by show 0 ≤ 0 * 64 + mz (bt g 0) ∧ 0 * 64 + mz (bt g 0) < 1000000; omega) r ?_
  refine group_step g hs m _ 2 (by omega) (by show 0 ≤ (0 * 64 + mz (bt g 0)) * 64 + mz (bt g 1) ∧ (0 * 64 + mz (bt g 0)) * 64 + mz (bt g 1) < 1000000; omega) r ?_
  refine group_step g hs m _ 3 (by omega) (by show 0 ≤ ((0 * 64 + mz (bt g 0)) * 64 + mz (bt g 1)) * 64 + mz (bt g 2) ∧ ((0 * 64 + mz (bt g 0)) * 64 + mz (bt g 1)) * 64 + mz (bt g 2) < 1000000; omega) r ?_
  refine Ev.last fun k => ?_
  have e : (((0 * 64 + mz (bt g ((0 : Nat) : Int))) * 64 + mz (bt g ((1 : Nat) : Int))) * 64 + mz (bt g ((2 : Nat) : Int))) * 64 + mz (bt g ((3 : Nat) : Int)) = q := by
    show (((0 * 64 + mz (bt g 0)) * 64 + mz (bt g 1)) * 64 + mz (bt g 2)) * 64 + mz (bt g 3) = q
    omega
  rw [e]
  simp only [posthornref04_group.l0]
  have e1 : wrap64 (Int.tdiv q 65536) % 256 = q / 65536 := by rw [Int.tdiv_eq_ediv_of_nonneg hq0.1, wrap_id _ (by omega) (by omega)]; omega
  have e2 : Int.tmod (wrap64 (Int.tdiv q 256)) 256 % 256 = q / 256 % 256 := by rw [Int.tdiv_eq_ediv_of_nonneg hq0.1, wrap_id _ (by omega) (by omega), Int.tmod_eq_emod_of_nonneg (by omega)]; omega
  have e3 : Int.tmod q 256 % 256 = q % 256 := by rw [Int.tmod_eq_emod_of_nonneg hq0.1]; omega
  rw [if_neg (by decide), e1, e2, e3, bind_some', if_pos (by omega), if_pos (by simp; omega), hr, Int.toNat_natCast]

theorem group_ev (s : ByteArray) (q : Nat) (h : 4 * q + 4 ≤ s.size) (hb : begB (G s q) 4 = true) : Ev (fun k => posthornref04_group.f k (s.extract (4 * q) (4 * q + 4))) (fourB (valV (G s q 0)) (valV (G s q 1)) (valV (G s q 2)) (valV (G s q 3))) := by
  have hsz : (s.extract (4 * q) (4 * q + 4)).size = 4 := by simp; omega
  have eb : ∀ j : Nat, j < 4 → bt (s.extract (4 * q) (4 * q + 4)) (j : Int) = G s q j := fun j hj => bt_extract s _ _ h j (by omega)
  have e0 : bt (s.extract (4 * q) (4 * q + 4)) 0 = G s q 0 := eb 0 (by omega)
  have e1 : bt (s.extract (4 * q) (4 * q + 4)) 1 = G s q 1 := eb 1 (by omega)
  have e2 : bt (s.extract (4 * q) (4 * q + 4)) 2 = G s q 2 := eb 2 (by omega)
  have e3 : bt (s.extract (4 * q) (4 * q + 4)) 3 = G s q 3 := eb 3 (by omega)
  obtain ⟨hb3, k3⟩ := beg1 hb
  obtain ⟨hb2, k2⟩ := beg1 hb3
  obtain ⟨hb1, k1⟩ := beg1 hb2
  obtain ⟨_, k0⟩ := beg1 hb1
  have r0 := val_r _ (G_in s q 0)
  have r1 := val_r _ (G_in s q 1)
  have r2 := val_r _ (G_in s q 2)
  have r3 := val_r _ (G_in s q 3)
  have l0 : valV (G s q 0) < 64 := (isL_iff _).1 k0
  have l1 : valV (G s q 1) < 64 := (isL_iff _).1 k1
  have p2 := val_pad _ (G_in s q 2)
  have p3 := val_pad _ (G_in s q 3)
  rw [show okAt (G s q) 2 = (isL (G s q 2) || (decide (G s q 2 = 61) && lowB (G s q 1) 16)) from rfl] at k2
  rw [okAt_three] at k3
  have m0 : mz (G s q 0) = valV (G s q 0) := if_pos l0
  have m1 : mz (G s q 1) = valV (G s q 1) := if_pos l1
  have f1 := of_fin2 (n := 64) (m := 64) (p := fun a b => b1 a b = a * 4 + b / 16) b1_fin (valV (G s q 0)) (valV (G s q 1)) (by omega) (by omega)
  have key := fun (m : Nat) (hm : m ≤ 3) (r : List Int) (hr : _) => group_l0 (s.extract (4 * q) (4 * q + 4)) hsz m hm r _ rfl hr
  rw [e0, e1, e2, e3, m0, m1] at key
  by_cases h5 : G s q 2 = 61
  · have m2 : mz (G s q 2) = 0 := if_neg (by rw [p2.2 h5]; omega)
    rw [if_pos h5, decide_eq_true_iff] at k3
    have m3 : mz (G s q 3) = 0 := if_neg (by rw [p3.2 k3]; omega)
    rw [m2, m3] at key
    have K := key 1 (by omega) (fourB (valV (G s q 0)) (valV (G s q 1)) (valV (G s q 2)) (valV (G s q 3))) (by
      rw [fourB, if_pos (p2.2 h5), f1]
      simp only [List.take_succ_cons, List.take_zero, List.cons.injEq, and_true]
      omega)
    refine Ev.congr (f := fun k => posthornref04_group.j0 k (s.extract (4 * q) (4 * q + 4)) 2) (fun k => ?_) (Ev.round (f := fun k => posthornref04_group.j1 k (s.extract (4 * q) (4 * q + 4)) 1) (fun k => ?_) (Ev.round (fun k => ?_) K))
    · unfold posthornref04_group.f; rw [if_pos (by omega), if_pos (by rw [e3]; exact k3)]
    · simp only [posthornref04_group.j0]; rw [if_pos (by omega), if_pos (by rw [e2]; exact h5)]
    · simp only [posthornref04_group.j1]; rfl
  · have hl2 : isL (G s q 2) = true := by rw [decide_eq_false h5, Bool.false_and, Bool.or_false] at k2; exact k2
    have l2 : valV (G s q 2) < 64 := (isL_iff _).1 hl2
    have m2 : mz (G s q 2) = valV (G s q 2) := if_pos l2
    have f2 := of_fin2 (n := 64) (m := 64) (p := fun a b => b2 a b = a % 16 * 16 + b / 4) b2_fin (valV (G s q 1)) (valV (G s q 2)) (by omega) (by omega)
    rw [if_neg h5] at k3
    by_cases h6 : G s q 3 = 61
    · have m3 : mz (G s q 3) = 0 := if_neg (by rw [p3.2 h6]; omega)
      rw [m2, m3] at key
      have K := key 2 (by omega) (fourB (valV (G s q 0)) (valV (G s q 1)) (valV (G s q 2)) (valV (G s q 3))) (by
        rw [fourB, if_neg (by omega), if_pos (p3.2 h6), f1, f2]
        simp only [List.take_succ_cons, List.take_zero, List.cons.injEq, and_true]
        omega)
      refine Ev.congr (f := fun k => posthornref04_group.j0 k (s.extract (4 * q) (4 * q + 4)) 2) (fun k => ?_) (Ev.round (f := fun k => posthornref04_group.j1 k (s.extract (4 * q) (4 * q + 4)) 2) (fun k => ?_) (Ev.round (fun k => ?_) K))
      · unfold posthornref04_group.f; rw [if_pos (by omega), if_pos (by rw [e3]; exact h6)]
      · simp only [posthornref04_group.j0]; rw [if_pos (by omega), if_neg (by rw [e2]; exact h5)]
      · simp only [posthornref04_group.j1]; rfl
    · have hl3 : isL (G s q 3) = true := by rw [decide_eq_false h6, Bool.false_and, Bool.or_false] at k3; exact k3
      have l3 : valV (G s q 3) < 64 := (isL_iff _).1 hl3
      have m3 : mz (G s q 3) = valV (G s q 3) := if_pos l3
      have f3 := of_fin2 (n := 64) (m := 64) (p := fun a b => b3 a b = a % 4 * 64 + b) b3_fin (valV (G s q 2)) (valV (G s q 3)) (by omega) (by omega)
      rw [m2, m3] at key
      have K := key 3 (by omega) (fourB (valV (G s q 0)) (valV (G s q 1)) (valV (G s q 2)) (valV (G s q 3))) (by
        rw [fourB, if_neg (by omega), if_neg (by omega), f1, f2, f3]
        simp only [List.take_succ_cons, List.take_zero, List.cons.injEq, and_true]
        omega)
      refine Ev.congr (f := fun k => posthornref04_group.j0 k (s.extract (4 * q) (4 * q + 4)) 3) (fun k => ?_) (Ev.round (f := fun k => posthornref04_group.j1 k (s.extract (4 * q) (4 * q + 4)) 3) (fun k => ?_) (Ev.round (fun k => ?_) K))
      · unfold posthornref04_group.f; rw [if_pos (by omega), if_neg (by rw [e3]; exact h6)]
      · simp only [posthornref04_group.j0]; rw [if_pos (by omega), if_neg (by rw [e2]; exact h5)]
      · simp only [posthornref04_group.j1]; rfl

theorem fourB_len (a b c d : Int) : (fourB a b c d).length ≤ 3 := by
  unfold fourB
  split
  · simp
  · split <;> simp
theorem grp_len (s : ByteArray) (q : Nat) : (grp s q).length ≤ 3 * q := by
  induction q with
  | zero => simp [grp]
  | succ q ih => have := fourB_len (valV (G s q 0)) (valV (G s q 1)) (valV (G s q 2)) (valV (G s q 3)); rw [grp, List.length_append]; omega
/-- The reference's second loop. -/
theorem ref_l1 (s : ByteArray) (hs : s.size ≤ 40000000000000) (m : Nat) (hm : s.size = 4 * m) (hb : ∀ q, q < m → begB (G s q) 4 = true) (d : Nat) : ∀ q, q + d = m → Ev (fun k => posthornref04_Unbase64.l1 k s (grp s q) ((4 * q : Nat) : Int)) (grp s m, 0, 0) := by
  induction d with
  | zero =>
    intro q hq
    refine Ev.last fun k => ?_
    simp only [posthornref04_Unbase64.l1]
    rw [if_neg (by omega), show q = m by omega]
  | succ d ih =>
    intro q hq
    have hw : wrap64 (((4 * q : Nat) : Int) + 4) = ((4 * q + 4 : Nat) : Int) := by rw [wrap_id _ (by omega) (by omega)]; omega
    refine Ev.round (f := fun k => (posthornref04_group.f k (s.extract (4 * q) (4 * q + 4))).bind fun t230 => if (grp s q).length + t230.length < 140737488355328 then (posthornref04_Unbase64.l1 k s (grp s q ++ t230) (wrap64 (((4 * q : Nat) : Int) + 4))) else none) (fun k => ?_) ?_
    · simp only [posthornref04_Unbase64.l1]
      rw [hw, if_pos (by omega), if_pos (by omega), if_pos (by omega), if_pos (by omega), Int.toNat_natCast, Int.toNat_natCast]
    · refine Ev.bind (f := fun k t230 => if (grp s q).length + t230.length < 140737488355328 then (posthornref04_Unbase64.l1 k s (grp s q ++ t230) (wrap64 (((4 * q : Nat) : Int) + 4))) else none) (group_ev s q (by omega) (hb q (by omega))) ?_
      refine Ev.congr (fun k => ?_) (ih (q + 1) (by omega))
      have h1 := grp_len s q
      have h2 := fourB_len (valV (G s q 0)) (valV (G s q 1)) (valV (G s q 2)) (valV (G s q 3))
      rw [if_pos (by omega), hw]
      rfl

theorem G_list (s : ByteArray) (q n : Nat) (h : 4 * q + n < s.size) : (bytesOf s).drop (4 * q + n) = G s q n :: (bytesOf s).drop (4 * q + n + 1) := by
  have hl : 4 * q + n < (bytesOf s).length := by rw [bytesOf_len]; exact h
  rw [drop_cons _ _ hl, G, bt_bytes s _ hl]
theorem unb_loop (s : ByteArray) (hs : s.size ≤ 40000000000000) (d : Nat) : ∀ (q n : Nat) (st : St), 4 * q + n + d = s.size → Inv s q n st → (∀ j, j < q → begB (G s j) 4 = true) →
    Ev (fun k => posthornref04_Unbase64.l0 k s ((4 * q + n : Nat) : Int)) (unbL ((bytesOf s).drop (4 * q + n)) st (grp s q) (4 * q + n)) := by
  induction d with
  | zero =>
    intro q n st hd hi hb
    have hlt := hi.lt
    have hn := hi.hn
    rw [List.drop_eq_nil_of_le (by rw [bytesOf_len]; omega), unbL]
    by_cases h0 : n = 0
    · rw [if_neg (by omega)]
      subst h0
      refine Ev.round (f := fun k => posthornref04_Unbase64.l1 k s ([] : List Int) 0) (fun k => ?_) (ref_l1 s hs q (by omega) hb q 0 (by omega))
      simp only [posthornref04_Unbase64.l0]
      rw [if_neg (by omega), if_pos (by omega)]
    · rw [if_pos (by omega)]
      refine Ev.last fun k => ?_
      simp only [posthornref04_Unbase64.l0]
      rw [if_neg (by omega), if_neg (by omega), show (s.size : Int) = ((4 * q + n : Nat) : Int) by omega]
  | succ d ih =>
    intro q n st hd hi hb
    have hlt := hi.lt
    have hw : wrap64 (((4 * q + n : Nat) : Int) + 1) = ((4 * q + n + 1 : Nat) : Int) := by rw [wrap_id _ (by omega) (by omega)]; omega
    rw [G_list s q n (by omega), unbL, next_is s q n st hi]
    refine Ev.round (f := fun k => (posthornref04_On.f k s ((4 * q + n : Nat) : Int)).bind fun t228 => (if t228 = true then (posthornref04_Unbase64.l0 k s (wrap64 (((4 * q + n : Nat) : Int) + 1))) else (if (0 : Int) ≤ ((4 * q + n : Nat) : Int) then ((posthornref04_why.f k (bt s ((4 * q + n : Nat) : Int))).bind fun t229 => (some (([] : List Int), t229, ((4 * q + n : Nat) : Int)))) else (none)))) (fun k => ?_) ?_
    · simp only [posthornref04_Unbase64.l0]
      rw [if_pos (by omega)]
    · refine Ev.bind (f := fun k t228 => (if t228 = true then (posthornref04_Unbase64.l0 k s (wrap64 (((4 * q + n : Nat) : Int) + 1))) else (if (0 : Int) ≤ ((4 * q + n : Nat) : Int) then ((posthornref04_why.f k (bt s ((4 * q + n : Nat) : Int))).bind fun t229 => (some (([] : List Int), t229, ((4 * q + n : Nat) : Int)))) else (none)))) (On_ev s hs q n hlt (by omega)) ?_
      by_cases ho : onB s q n = true
      · rw [if_pos ho, if_neg (fun h => h rfl)]
        by_cases h3 : n < 3
        · obtain ⟨hi', hout⟩ := put_is s q n st hi ho h3
          rw [hout, List.append_nil]
          refine Ev.congr (fun k => ?_) (ih q (n + 1) _ (by omega) hi' hb)
          rw [if_pos ho, hw]; rfl
        · obtain rfl : n = 3 := by omega
          obtain ⟨hi', hout, hb4⟩ := put_four s q st hi ho
          rw [hout]
          have key := ih (q + 1) 0 _ (by omega) hi' (fun j hj => by
            by_cases hjq : j = q
            · subst hjq; exact hb4
            · exact hb j (by omega))
          refine Ev.congr (fun k => ?_) key
          rw [if_pos ho, hw]; rfl
      · rw [if_neg ho, if_pos (by unfold whyV; split <;> omega)]
        refine Ev.congr (f := fun k => (posthornref04_why.f k (G s q n)).bind fun t229 => (some (([] : List Int), t229, ((4 * q + n : Nat) : Int)))) (fun k => ?_) ?_
        · rw [if_neg ho, if_pos (by omega)]; rfl
        · exact Ev.bind (f := fun k t229 => (some (([] : List Int), t229, ((4 * q + n : Nat) : Int)))) (why_ev _ (G_in s q n)) (Ev.now _)
theorem inv0 (s : ByteArray) : Inv s 0 0 St.new := ⟨rfl, by omega, fun _ => by unfold ahead; rfl, fun h => absurd rfl h, rfl, fun h => by omega, fun h => by omega, fun h => by omega⟩
theorem Unbase64_ev (s : ByteArray) (hs : s.size ≤ 40000000000000) : Ev (fun k => posthornref04_Unbase64.f k s) (unbL (bytesOf s) St.new [] 0) :=
  unb_loop s hs s.size 0 0 St.new (by omega) (inv0 s) (fun j hj => by omega)
theorem unbL_len : ∀ (xs : List Int) (st : St) (out : List Int) (i : Nat), (unbL xs st out i).1.length ≤ out.length + 3 * xs.length
  | [], st, out, i => by rw [unbL]; split <;> simp
  | ch :: r, st, out, i => by
    rw [unbL]
    split
    · simp
    · have := unbL_len r (st.put (valV ch)) (out ++ st.out (valV ch)) (i + 1)
      have := out_len st (valV ch)
      rw [List.length_append] at *
      rw [List.length_cons]; omega
end Go.Proofs.YtokgckhhhhigiaaDoor.UnbP
namespace Go.Proofs.YtokgckhhhhigiaaDoor.B64
set_option linter.unusedVariables false
set_option linter.unusedSimpArgs false
open Go.RowKit Go.Proofs.YtokgckhhhhigiaaDoorW.PrintWords Go.Proofs.YtokgckhhhhigiaaDoor.B Go.Proofs.YtokgckhhhhigiaaDoor.D

theorem rd_nat (xs : List Int) (i : Nat) (h : i < xs.length) : rd xs (i : Int) = xs[i] := by
  unfold rd
  simp [List.getD_eq_getElem?_getD, h]
abbrev letT : ByteArray := ⟨#[65, 66, 67, 68, 69, 70, 71, 72, 73, 74, 75, 76, 77, 78, 79, 80, 81, 82, 83, 84, 85, 86, 87, 88, 89, 90, 97, 98, 99, 100, 101, 102, 103, 104, 105, 106, 107, 108, 109, 110, 111, 112, 113, 114, 115, 116, 117, 118, 119, 120, 121, 122, 48, 49, 50, 51, 52, 53, 54, 55, 56, 57, 43, 47]⟩
/-- The letter of a number below 64. -/
def let' (i : Int) : Int := bt letT i
theorem let_range : ∀ i : Fin 64, 43 ≤ let' (i.val : Int) ∧ let' (i.val : Int) ≤ 122 := by decide +kernel
theorem let_in (i : Int) (h : 0 ≤ i ∧ i < 64) : 43 ≤ let' i ∧ let' i ≤ 122 := by
  have := let_range ⟨i.toNat, by omega⟩
  simp only at this
  rwa [Int.toNat_of_nonneg h.1] at this
def b64 : List Int → List Int
  | a :: b :: c :: r => let' (a / 4) :: let' (a % 4 * 16 + b / 16) :: let' (b % 16 * 4 + c / 64) :: let' (c % 64) :: b64 r
  | [a, b] => [let' (a / 4), let' (a % 4 * 16 + b / 16), let' (b % 16 * 4), 61]
  | [a] => [let' (a / 4), let' (a % 4 * 16), 61, 61]
  | [] => []
theorem InB.tail {a : Int} {r : List Int} (h : InB (a :: r)) : (0 ≤ a ∧ a ≤ 255) ∧ InB r := ⟨h a List.mem_cons_self, fun x hx => h x (List.mem_cons_of_mem _ hx)⟩
theorem InB.cons {a : Int} {r : List Int} (ha : 0 ≤ a ∧ a ≤ 255) (h : InB r) : InB (a :: r) := fun x hx => by
  rcases List.mem_cons.1 hx with rfl | hx
  · exact ha
  · exact h x hx
theorem InB.nil : InB [] := fun x hx => by cases hx
theorem let_b (i : Int) (h : 0 ≤ i ∧ i < 64) : 0 ≤ let' i ∧ let' i ≤ 255 := by have := let_in i h; omega
theorem b64_in : ∀ (xs : List Int), InB xs → InB (b64 xs)
  | [], _ => InB.nil
  | [a], h => by
    have h1 := (InB.tail h).1
    exact InB.cons (let_b _ (by omega)) (InB.cons (let_b _ (by omega)) (InB.cons (by omega) (InB.cons (by omega) InB.nil)))
  | [a, b], h => by
    obtain ⟨h1, h⟩ := InB.tail h
    have h2 := (InB.tail h).1
    exact InB.cons (let_b _ (by omega)) (InB.cons (let_b _ (by omega)) (InB.cons (let_b _ (by omega)) (InB.cons (by omega) InB.nil)))
  | a :: b :: c :: r, h => by
    obtain ⟨h1, h⟩ := InB.tail h
    obtain ⟨h2, h⟩ := InB.tail h
    obtain ⟨h3, h⟩ := InB.tail h
    exact InB.cons (let_b _ (by omega)) (InB.cons (let_b _ (by omega)) (InB.cons (let_b _ (by omega)) (InB.cons (let_b _ (by omega)) (b64_in r h))))
theorem b64_len : ∀ (xs : List Int), (b64 xs).length = 4 * ((xs.length + 2) / 3)
  | [] => rfl
  | [a] => by simp [b64]
  | [a, b] => by simp [b64]
  | a :: b :: c :: r => by
    have := b64_len r
    simp only [b64, List.length_cons, this]
    omega

theorem and3 : ∀ x : Fin 256, Go.bits .and .u8 (x.val : Int) 3 = (x.val : Int) % 4 := by decide +kernel
theorem and15 : ∀ x : Fin 256, Go.bits .and .u8 (x.val : Int) 15 = (x.val : Int) % 16 := by decide +kernel
theorem and63 : ∀ x : Fin 256, Go.bits .and .u8 (x.val : Int) 63 = (x.val : Int) % 64 := by decide +kernel
theorem or16 : ∀ (a : Fin 4) (b : Fin 16), Go.bits .or .u8 ((a.val : Int) * 16) (b.val : Int) = (a.val : Int) * 16 + (b.val : Int) := by decide +kernel
theorem or4 : ∀ (a : Fin 16) (b : Fin 4), Go.bits .or .u8 ((a.val : Int) * 4) (b.val : Int) = (a.val : Int) * 4 + (b.val : Int) := by decide +kernel
theorem of_fin {n : Nat} {p : Int → Prop} (h : ∀ x : Fin n, p (x.val : Int)) (x : Int) (hx : 0 ≤ x ∧ x < n) : p x := by
  have := h ⟨x.toNat, by omega⟩
  simp only at this
  rwa [Int.toNat_of_nonneg hx.1] at this
theorem and3_of (x : Int) (h : 0 ≤ x ∧ x ≤ 255) : Go.bits .and .u8 x 3 = x % 4 := of_fin (p := fun x => Go.bits .and .u8 x 3 = x % 4) and3 x (by omega)
theorem and15_of (x : Int) (h : 0 ≤ x ∧ x ≤ 255) : Go.bits .and .u8 x 15 = x % 16 := of_fin (p := fun x => Go.bits .and .u8 x 15 = x % 16) and15 x (by omega)
theorem and63_of (x : Int) (h : 0 ≤ x ∧ x ≤ 255) : Go.bits .and .u8 x 63 = x % 64 := of_fin (p := fun x => Go.bits .and .u8 x 63 = x % 64) and63 x (by omega)
theorem or16_of (a b : Int) (ha : 0 ≤ a ∧ a < 4) (hb : 0 ≤ b ∧ b < 16) : Go.bits .or .u8 (a * 16) b = a * 16 + b :=
  of_fin (n := 4) (p := fun a => Go.bits .or .u8 (a * 16) b = a * 16 + b) (fun x => of_fin (n := 16) (p := fun b => Go.bits .or .u8 ((x.val : Int) * 16) b = (x.val : Int) * 16 + b) (or16 x) b (by omega)) a (by omega)
theorem or4_of (a b : Int) (ha : 0 ≤ a ∧ a < 16) (hb : 0 ≤ b ∧ b < 4) : Go.bits .or .u8 (a * 4) b = a * 4 + b :=
  of_fin (n := 16) (p := fun a => Go.bits .or .u8 (a * 4) b = a * 4 + b) (fun x => of_fin (n := 4) (p := fun b => Go.bits .or .u8 ((x.val : Int) * 4) b = (x.val : Int) * 4 + b) (or4 x) b (by omega)) a (by omega)

theorem code_loop (d : Nat) : ∀ (xs acc : List Int), InB xs → xs.length ≤ 3 * d → acc.length + 4 * d ≤ 140737488355000 → Ev (fun k => code_Base64.l0 k xs acc) (strOfNums (acc ++ b64 xs)) := by
  induction d with
  | zero =>
    intro xs acc hx hl ha
    obtain rfl : xs = [] := List.eq_nil_of_length_eq_zero (by omega)
    refine Ev.last fun k => ?_
    simp only [code_Base64.l0]
    rw [if_neg (by decide), if_neg (by decide), if_neg (by decide)]
    simp [b64]
  | succ d ih =>
    intro xs acc hx hl ha
    match xs, hx, hl with
    | [], hx, hl =>
      refine Ev.last fun k => ?_
      simp only [code_Base64.l0]
      rw [if_neg (by decide), if_neg (by decide), if_neg (by decide)]
      simp [b64]
    | [a], hx, hl =>
      have h1 := (InB.tail hx).1
      refine Ev.last fun k => ?_
      simp only [code_Base64.l0]
      rw [show rd [a] 0 = a from rfl, and3_of _ h1, show a % 4 * 16 % 256 = a % 4 * 16 from by omega]
      rw [if_neg (by simp), if_pos (by simp), if_pos (by simp), if_pos (by omega), if_pos (by omega), if_pos (by omega), if_pos (by omega), bind_some', if_pos (by simp; omega)]
      rfl
    | [a, b], hx, hl =>
      obtain ⟨h1, hx⟩ := InB.tail hx
      have h2 := (InB.tail hx).1
      refine Ev.last fun k => ?_
      simp only [code_Base64.l0]
      rw [show rd [a, b] 0 = a from rfl, show rd [a, b] 1 = b from rfl, and3_of _ h1, and15_of _ h2, show a % 4 * 16 % 256 = a % 4 * 16 from by omega, show b % 16 * 4 % 256 = b % 16 * 4 from by omega, or16_of _ _ (by omega) (by omega)]
      rw [if_neg (by simp), if_neg (by simp), if_pos (by simp), if_pos (by simp), if_pos (by omega), if_pos (by omega), if_pos (by simp), if_pos (by omega), if_pos (by omega), if_pos (by omega), if_pos (by omega), bind_some', if_pos (by simp; omega)]
      rfl
    | a :: b :: c :: r, hx, hl =>
      obtain ⟨h1, hx⟩ := InB.tail hx
      obtain ⟨h2, hx⟩ := InB.tail hx
      obtain ⟨h3, hx⟩ := InB.tail hx
      have key := ih r (acc ++ [let' (a / 4), let' (a % 4 * 16 + b / 16), let' (b % 16 * 4 + c / 64), let' (c % 64)]) hx (by simp at hl; omega) (by simp; omega)
      rw [show (acc ++ [let' (a / 4), let' (a % 4 * 16 + b / 16), let' (b % 16 * 4 + c / 64), let' (c % 64)]) ++ b64 r = acc ++ b64 (a :: b :: c :: r) from by simp [b64]] at key
      refine Ev.round (f := fun k => code_Base64.l0 k r (acc ++ [let' (a / 4), let' (a % 4 * 16 + b / 16), let' (b % 16 * 4 + c / 64), let' (c % 64)])) (fun k => ?_) key
      have hlen : ((a :: b :: c :: r).length : Int) = (r.length : Int) + 3 := by simp; omega
      simp only [code_Base64.l0]
      rw [show rd (a :: b :: c :: r) 0 = a from rfl, show rd (a :: b :: c :: r) 1 = b from rfl, show rd (a :: b :: c :: r) 2 = c from rfl, and3_of _ h1, and15_of _ h2, and63_of _ h3, show a % 4 * 16 % 256 = a % 4 * 16 from by omega, show b % 16 * 4 % 256 = b % 16 * 4 from by omega, or16_of _ _ (by omega) (by omega), or4_of _ _ (by omega) (by omega), hlen]
      rw [if_pos (by omega), if_pos (by omega), if_pos (by omega), if_pos (by omega), if_pos (by omega), if_pos (by omega), if_pos (by omega), if_pos (by omega), if_pos (by omega), if_pos (by omega), if_pos (by omega), if_pos (by omega), bind_some', if_pos (by simp; omega), if_pos (by omega)]
      rfl

theorem Base64_ev (xs : List Int) (hx : InB xs) (hl : xs.length ≤ 70368744177664) : Ev (fun k => code_Base64.f k xs) (strOfNums (b64 xs)) := by
  have key := code_loop ((xs.length + 2) / 3) xs [] hx (by omega) (by simp; omega)
  rw [List.nil_append] at key
  refine Ev.congr (fun k => ?_) key
  unfold code_Base64.f
  rw [wrap_id ((xs.length : Int) + 2) (by omega) (by omega), Int.tdiv_eq_ediv_of_nonneg (by omega), wrap_id (((xs.length : Int) + 2) / 3) (by omega) (by omega), wrap_id _ (by omega) (by omega), if_pos (by omega), if_pos (by omega)]

/-! ### The reference's: the bits of three bytes -/
end Go.Proofs.YtokgckhhhhigiaaDoor.B64
namespace Go.Proofs.YtokgckhhhhigiaaDoor.UB
set_option linter.unusedVariables false
set_option linter.unusedSimpArgs false
open Go.RowKit Go.Proofs.YtokgckhhhhigiaaDoorW.PrintWords Go.Proofs.YtokgckhhhhigiaaDoor.B Go.Proofs.YtokgckhhhhigiaaDoor.D Go.Proofs.YtokgckhhhhigiaaDoor.Rd Go.Proofs.YtokgckhhhhigiaaDoor.UnbP Go.Proofs.YtokgckhhhhigiaaDoor.B64 Go.Proofs.YtokgckhhhhigiaaDoor.Fd

/-- Two readers that tell the same. -/
structure Sim (s t : St) : Prop where
  n : s.n = t.n
  o : s.o = t.o
  a : 0 < s.n → s.a = t.a
  b : 1 < s.n → s.b = t.b
  c : 2 < s.n → s.c = t.c
theorem Sim.refl (s : St) : Sim s s := ⟨rfl, rfl, fun _ => rfl, fun _ => rfl, fun _ => rfl⟩
theorem Sim.next {s t : St} (h : Sim s t) (v : Int) : s.next v = t.next v := by
  obtain ⟨a, b, c, d, n, o⟩ := s
  obtain ⟨a', b', c', d', n', o'⟩ := t
  obtain ⟨h1, h2, _, h4, h5⟩ := h
  simp only at h1 h2 h4 h5
  subst h1 h2
  unfold St.next nextV
  simp only
  by_cases hn : n = 3
  · rw [h5 (by omega), h4 (by omega)]
  · by_cases hn2 : n = 2
    · rw [h4 (by omega)]
      subst hn2
      simp
    · by_cases hlt : n < 2
      · simp [hn, hlt]
      · simp [hn, hn2]
theorem Sim.out {s t : St} (h : Sim s t) (v : Int) : s.out v = t.out v := by
  unfold St.out
  rw [← h.n]
  split
  · rw [h.a (by omega), h.b (by omega), h.c (by omega)]
  · rfl
theorem Sim.put {s t : St} (h : Sim s t) (v : Int) (hn : s.n ≤ 3) : Sim (s.put v) (t.put v) := by
  obtain ⟨a, b, c, d, n, o⟩ := s
  obtain ⟨a', b', c', d', n', o'⟩ := t
  obtain ⟨h1, h2, h3, h4, h5⟩ := h
  simp only at h1 h2 h3 h4 h5 hn
  subst h1 h2
  match n, hn with
  | 0, _ => exact ⟨rfl, rfl, fun _ => rfl, fun h => absurd h (show ¬ 1 < 1 by decide), fun h => absurd h (show ¬ 2 < 1 by decide)⟩
  | 1, _ => exact ⟨rfl, rfl, fun _ => h3 (by decide), fun _ => rfl, fun h => absurd h (show ¬ 2 < 2 by decide)⟩
  | 2, _ => exact ⟨rfl, rfl, fun _ => h3 (by decide), fun _ => h4 (by decide), fun _ => rfl⟩
  | 3, _ => exact ⟨rfl, rfl, fun h => absurd h (show ¬ 0 < 0 by decide), fun h => absurd h (show ¬ 1 < 0 by decide), fun h => absurd h (show ¬ 2 < 0 by decide)⟩
theorem Sim.unb : ∀ (l : List Int) {s t : St} (_ : Sim s t) (_ : s.n ≤ 3) (out : List Int) (i : Nat), unbL l s out i = unbL l t out i
  | [], s, t, h, _, out, i => by rw [unbL, unbL, h.n]
  | ch :: r, s, t, h, hn, out, i => by
    rw [unbL, unbL, h.next, h.out, Sim.unb r (h.put (valV ch) hn) (St.put_n _ _ hn)]

theorem next_range (s : St) (v : Int) : s.next v = 0 ∨ s.next v = 40 ∨ s.next v = 41 := by
  unfold St.next nextV
  repeat' split
  all_goals simp
theorem put_mod (s : St) (v : Int) (hn : s.n ≤ 3) : (s.put v).n = (s.n + 1) % 4 := by
  obtain ⟨a, b, c, d, n, o⟩ := s
  match n, hn with
  | 0, _ => simp [St.put]
  | 1, _ => simp [St.put]
  | 2, _ => simp [St.put]
  | 3, _ => simp [St.put]
/-- What is told of a text: all of it, or the error and its place. -/
theorem unb_told : ∀ (l : List Int) (s : St) (out : List Int) (i : Nat), s.n ≤ 3 →
    ((unbL l s out i).2.1 = 0 ∧ (unbL l s out i).2.2 = 0 ∧ (s.n + l.length) % 4 = 0) ∨
    (∃ p : Nat, unbL l s out i = ([], 40, (p : Int)) ∧ i ≤ p ∧ p < i + l.length) ∨
    (∃ p : Nat, unbL l s out i = ([], 41, (p : Int)) ∧ i ≤ p ∧ p ≤ i + l.length ∧ (p = i + l.length → (s.n + l.length) % 4 ≠ 0))
  | [], s, out, i, hn => by
    by_cases h : s.n > 0
    · refine .inr (.inr ⟨i, ?_, Nat.le_refl _, by simp, fun _ => by simp; omega⟩)
      rw [unbL, if_pos h]
    · refine .inl ?_
      rw [unbL, if_neg h]
      refine ⟨rfl, rfl, ?_⟩
      have : s.n = 0 := by omega
      rw [this]; rfl
  | ch :: r, s, out, i, hn => by
    rw [unbL]
    rcases next_range s (valV ch) with h | h | h
    · rw [if_neg (fun e => e h)]
      have hm := put_mod s (valV ch) hn
      have e : ((s.put (valV ch)).n + r.length) % 4 = (s.n + (ch :: r).length) % 4 := by rw [hm, List.length_cons]; omega
      rcases unb_told r (s.put (valV ch)) (out ++ s.out (valV ch)) (i + 1) (St.put_n _ _ hn) with h1 | ⟨p, h1, h2, h3⟩ | ⟨p, h1, h2, h3, h4⟩
      · rw [e] at h1; exact .inl h1
      · exact .inr (.inl ⟨p, h1, by omega, by rw [List.length_cons]; omega⟩)
      · exact .inr (.inr ⟨p, h1, by omega, by rw [List.length_cons]; omega, fun hp => by rw [← e]; exact h4 (by rw [List.length_cons] at hp; omega)⟩)
    · rw [if_pos (by rw [h]; decide), h]
      exact .inr (.inl ⟨i, rfl, Nat.le_refl _, by rw [List.length_cons]; omega⟩)
    · rw [if_pos (by rw [h]; decide), h]
      exact .inr (.inr ⟨i, rfl, Nat.le_refl _, by omega, fun hp => by rw [List.length_cons] at hp; omega⟩)
/-- An error ahead of the text's end stands, whatever is behind. -/
theorem unb_more (t : List Int) : ∀ (l : List Int) (s : St) (out : List Int) (i p : Nat) (e : Int), unbL l s out i = ([], e, (p : Int)) → e ≠ 0 → p ≠ i + l.length → unbL (l ++ t) s out i = ([], e, (p : Int))
  | [], s, out, i, p, e, h, he, hp => by
    rw [unbL] at h
    split at h
    · injection h with _ h
      injection h with _ h
      exact absurd (Int.ofNat.inj h).symm (by simpa using hp)
    · injection h with _ h
      injection h with h _
      exact absurd h.symm he
  | ch :: r, s, out, i, p, e, h, he, hp => by
    rw [List.cons_append, unbL]
    rw [unbL] at h
    split at h
    · rename_i h1
      rw [if_pos h1]
      exact h
    · rename_i h1
      rw [if_neg h1]
      exact unb_more t r _ _ _ p e h he (by rw [List.length_cons] at hp; omega)

theorem valV_let_fin : ∀ i : Fin 64, valV (let' (i.val : Int)) = (i.val : Int) := by decide +kernel
theorem valV_let (i : Int) (h : 0 ≤ i ∧ i < 64) : valV (let' i) = i := UnbP.of_fin (n := 64) (p := fun i => valV (let' i) = i) valV_let_fin i (by omega)
theorem let_val_fin : ∀ c : Fin 256, valV (c.val : Int) < 64 → let' (valV (c.val : Int)) = (c.val : Int) := by decide +kernel
theorem let_val (c : Int) (hc : 0 ≤ c ∧ c ≤ 255) (h : valV c < 64) : let' (valV c) = c := UnbP.of_fin (n := 256) (p := fun c => valV c < 64 → let' (valV c) = c) let_val_fin c (by omega) h
theorem val61 : valV 61 = 64 := by decide +kernel
theorem b1_of (a b : Int) (ha : 0 ≤ a ∧ a < 64) (hb : 0 ≤ b ∧ b < 64) : b1 a b = a * 4 + b / 16 := UnbP.of_fin2 (n := 64) (m := 64) (p := fun a b => b1 a b = a * 4 + b / 16) b1_fin a b (by omega) (by omega)
theorem b2_of (a b : Int) (ha : 0 ≤ a ∧ a < 64) (hb : 0 ≤ b ∧ b < 64) : b2 a b = a % 16 * 16 + b / 4 := UnbP.of_fin2 (n := 64) (m := 64) (p := fun a b => b2 a b = a % 16 * 16 + b / 4) b2_fin a b (by omega) (by omega)
theorem b3_of (a b : Int) (ha : 0 ≤ a ∧ a < 64) (hb : 0 ≤ b ∧ b < 64) : b3 a b = a % 4 * 64 + b := UnbP.of_fin2 (n := 64) (m := 64) (p := fun a b => b3 a b = a % 4 * 64 + b) b3_fin a b (by omega) (by omega)
theorem n15 (x : Int) (h : 0 ≤ x ∧ x < 64) : Go.bits .and .u8 x 15 = x % 16 := and15_of x (by omega)
theorem n3 (x : Int) (h : 0 ≤ x ∧ x < 64) : Go.bits .and .u8 x 3 = x % 4 := and3_of x (by omega)

/-- A letter below 64 goes on, if no group ended and no sign stands third. -/
theorem next_letter (s : St) (v : Int) (hv : v < 64) (ho : s.o = false) (hc : s.n = 3 → s.c ≠ 64) : s.next v = 0 := by
  unfold St.next nextV
  rw [if_neg (by omega), ho, if_neg (by decide), if_neg (fun h => hc h.1 h.2), if_pos (by omega)]
/-- Four letters are three bytes. -/
theorem unb_four (p q r s : Int) (hp : 0 ≤ p ∧ p < 64) (hq : 0 ≤ q ∧ q < 64) (hr : 0 ≤ r ∧ r < 64) (hs : 0 ≤ s ∧ s < 64) (rest : List Int) (st : St) (hn : st.n = 0) (ho : st.o = false) (out : List Int) (i : Nat) :
    unbL (let' p :: let' q :: let' r :: let' s :: rest) st out i = unbL rest ⟨p, q, r, s, 0, false⟩ (out ++ [b1 p q, b2 q r, b3 r s]) (i + 4) := by
  obtain ⟨a, b, c, d, n, o⟩ := st
  simp only at hn ho
  subst hn ho
  simp only [unbL, valV_let p hp, valV_let q hq, valV_let r hr, valV_let s hs]
  rw [if_neg (fun h => h (next_letter _ p hp.2 rfl (fun h => by cases h)))]
  simp only [St.put, St.out]
  rw [if_neg (fun h => h (next_letter _ q hq.2 rfl (fun h => by cases h)))]
  rw [if_neg (fun h => h (next_letter _ r hr.2 rfl (fun h => by cases h)))]
  rw [if_neg (fun h => h (next_letter _ s hs.2 rfl (fun _ => by show r ≠ 64; omega)))]
  have h1 : (s == 64) = false := beq_eq_false_iff_ne.2 (by omega)
  have h2 : fourB p q r s = [b1 p q, b2 q r, b3 r s] := by unfold fourB; rw [if_neg (by omega), if_neg (by omega)]
  simp [h1, h2]
theorem unb_two (p q r : Int) (hp : 0 ≤ p ∧ p < 64) (hq : 0 ≤ q ∧ q < 64) (hr : 0 ≤ r ∧ r < 64) (h4 : r % 4 = 0) (st : St) (hn : st.n = 0) (ho : st.o = false) (out : List Int) (i : Nat) :
    unbL [let' p, let' q, let' r, 61] st out i = (out ++ [b1 p q, b2 q r], 0, 0) := by
  obtain ⟨a, b, c, d, n, o⟩ := st
  simp only at hn ho
  subst hn ho
  simp only [unbL, valV_let p hp, valV_let q hq, valV_let r hr, val61]
  rw [if_neg (fun h => h (next_letter _ p hp.2 rfl (fun h => by cases h)))]
  simp only [St.put, St.out]
  rw [if_neg (fun h => h (next_letter _ q hq.2 rfl (fun h => by cases h)))]
  rw [if_neg (fun h => h (next_letter _ r hr.2 rfl (fun h => by cases h)))]
  have h : (St.mk p q r d 3 false).next 64 = 0 := by
    unfold St.next nextV
    rw [if_neg (by decide), if_neg (show ¬ (false = true) by decide), if_neg (fun h => by have : r = 64 := h.2; omega), if_neg (by decide), if_neg]
    rintro (h | ⟨h, _⟩ | ⟨_, h⟩)
    · exact absurd h (show ¬ 3 < 2 by decide)
    · cases h
    · exact h (by rw [n3 r hr]; exact h4)
  rw [if_neg (fun h' => h' h)]
  have h2 : fourB p q r 64 = [b1 p q, b2 q r] := by unfold fourB; rw [if_neg (by omega), if_pos rfl]
  simp [h2]
theorem unb_one (p q : Int) (hp : 0 ≤ p ∧ p < 64) (hq : 0 ≤ q ∧ q < 64) (h16 : q % 16 = 0) (st : St) (hn : st.n = 0) (ho : st.o = false) (out : List Int) (i : Nat) :
    unbL [let' p, let' q, 61, 61] st out i = (out ++ [b1 p q], 0, 0) := by
  obtain ⟨a, b, c, d, n, o⟩ := st
  simp only at hn ho
  subst hn ho
  simp only [unbL, valV_let p hp, valV_let q hq, val61]
  rw [if_neg (fun h => h (next_letter _ p hp.2 rfl (fun h => by cases h)))]
  simp only [St.put, St.out]
  rw [if_neg (fun h => h (next_letter _ q hq.2 rfl (fun h => by cases h)))]
  have h : (St.mk p q c d 2 false).next 64 = 0 := by
    unfold St.next nextV
    rw [if_neg (by decide), if_neg (show ¬ (false = true) by decide), if_neg (fun h => by have : (2 : Nat) = 3 := h.1; omega), if_neg (by decide), if_neg]
    rintro (h | ⟨_, h⟩ | ⟨h, _⟩)
    · exact absurd h (show ¬ 2 < 2 by decide)
    · exact h (by rw [n15 q hq]; exact h16)
    · cases h
  rw [if_neg (fun h' => h' h)]
  have h3 : (St.mk p q 64 d 3 false).next 64 = 0 := by
    unfold St.next nextV
    rw [if_neg (by decide), if_neg (show ¬ (false = true) by decide), if_pos ⟨rfl, rfl⟩, if_neg (by decide)]
  rw [if_neg (fun h' => h' h3)]
  have h2 : fourB p q 64 64 = [b1 p q] := by unfold fourB; rw [if_pos rfl]
  simp [h2]
/-- Whole threes ahead of a text. -/
theorem unb_ahead : ∀ (n : Nat) (xs : List Int), xs.length = 3 * n → InB xs → ∀ (rest : List Int) (st : St), st.n = 0 → st.o = false → ∀ (out : List Int) (i : Nat),
    ∃ st', st'.n = 0 ∧ st'.o = false ∧ unbL (b64 xs ++ rest) st out i = unbL rest st' (out ++ xs) (i + 4 * n) := by
  intro n
  induction n with
  | zero =>
    intro xs hl hx rest st hn ho out i
    obtain rfl : xs = [] := List.length_eq_zero_iff.1 (by omega)
    exact ⟨st, hn, ho, by simp [b64]⟩
  | succ n ih =>
    intro xs hl hx rest st hn ho out i
    match xs, hl, hx with
    | a :: b :: c :: r, hl, hx =>
      obtain ⟨h1, hx⟩ := InB.tail hx
      obtain ⟨h2, hx⟩ := InB.tail hx
      obtain ⟨h3, hx⟩ := InB.tail hx
      obtain ⟨st', s1, s2, e⟩ := ih r (by simp at hl; omega) hx rest ⟨a / 4, a % 4 * 16 + b / 16, b % 16 * 4 + c / 64, c % 64, 0, false⟩ rfl rfl (out ++ [a, b, c]) (i + 4)
      refine ⟨st', s1, s2, ?_⟩
      rw [b64]
      simp only [List.cons_append]
      rw [unb_four _ _ _ _ (by omega) (by omega) (by omega) (by omega) _ st hn ho, b1_of _ _ (by omega) (by omega), b2_of _ _ (by omega) (by omega), b3_of _ _ (by omega) (by omega)]
      rw [show a / 4 * 4 + (a % 4 * 16 + b / 16) / 16 = a by omega, show (a % 4 * 16 + b / 16) % 16 * 16 + (b % 16 * 4 + c / 64) / 4 = b by omega, show (b % 16 * 4 + c / 64) % 4 * 64 + c % 64 = c by omega, e]
      simp only [List.append_assoc, List.cons_append, List.nil_append]
      rw [show i + 4 + 4 * n = i + 4 * (n + 1) by omega]
    | [], hl, _ => simp at hl
    | [_], hl, _ => simp at hl; omega
    | [_, _], hl, _ => simp at hl; omega
/-- Bytes in base64, and back. -/
theorem unb_b64 (xs : List Int) (hx : InB xs) (st : St) (hn : st.n = 0) (ho : st.o = false) (i : Nat) : unbL (b64 xs) st [] i = (xs, 0, 0) := by
  have hsplit : ∃ n ys zs, xs = ys ++ zs ∧ ys.length = 3 * n ∧ zs.length < 3 := ⟨xs.length / 3, xs.take (xs.length / 3 * 3), xs.drop (xs.length / 3 * 3), (List.take_append_drop _ _).symm, by rw [List.length_take]; omega, by rw [List.length_drop]; omega⟩
  obtain ⟨n, ys, zs, rfl, hy, hz⟩ := hsplit
  have hiy : InB ys := fun x h => hx x (List.mem_append_left _ h)
  have hiz : InB zs := fun x h => hx x (List.mem_append_right _ h)
  have happ : ∀ (n : Nat) (ys zs : List Int), ys.length = 3 * n → b64 (ys ++ zs) = b64 ys ++ b64 zs := by
    intro n
    induction n with
    | zero => intro ys zs h; obtain rfl : ys = [] := List.length_eq_zero_iff.1 (by omega); simp [b64]
    | succ n ih =>
      intro ys zs h
      match ys, h with
      | a :: b :: c :: r, h => simp only [List.cons_append, b64]; rw [ih r zs (by simp at h; omega)]
      | [], h => simp at h
      | [_], h => simp at h; omega
      | [_, _], h => simp at h; omega
  rw [happ n ys zs hy]
  obtain ⟨st', s1, s2, e⟩ := unb_ahead n ys hy hiy (b64 zs) st hn ho [] i
  rw [e]
  match zs, hz, hiz with
  | [], _, _ => rw [b64, unbL, if_neg (by omega)]; simp
  | [a], _, hiz =>
    have h1 := (InB.tail hiz).1
    rw [b64, unb_one _ _ (by omega) (by omega) (by omega) st' s1 s2, b1_of _ _ (by omega) (by omega), show a / 4 * 4 + a % 4 * 16 / 16 = a by omega]
    rfl
  | [a, b], _, hiz =>
    obtain ⟨h1, hiz⟩ := InB.tail hiz
    have h2 := (InB.tail hiz).1
    rw [b64, unb_two _ _ _ (by omega) (by omega) (by omega) (by omega) st' s1 s2, b1_of _ _ (by omega) (by omega), b2_of _ _ (by omega) (by omega), show a / 4 * 4 + (a % 4 * 16 + b / 16) / 16 = a by omega, show (a % 4 * 16 + b / 16) % 16 * 16 + b % 16 * 4 / 4 = b by omega]
    rfl
  | _ :: _ :: _ :: _, hz, _ => simp at hz; omega
/-- Whole threes ahead of a text that is refused. -/
theorem unb_later (ys l : List Int) (n : Nat) (hy : ys.length = 3 * n) (hx : InB ys) (e : Int) (p : Nat) (h : unbL l St.new [] 0 = ([], e, (p : Int))) (he : e ≠ 0) : unbL (b64 ys ++ l) St.new [] 0 = ([], e, ((4 * n + p : Nat) : Int)) := by
  obtain ⟨st', s1, s2, h1⟩ := unb_ahead n ys hy hx l St.new rfl rfl [] 0
  rw [h1]
  have hs : Sim st' St.new := ⟨s1, s2, fun h => by omega, fun h => by omega, fun h => by omega⟩
  rw [Sim.unb l hs (by omega)]
  have hsh : ∀ (l : List Int) (s : St) (out out' : List Int) (i k p : Nat), unbL l s out i = ([], e, (p : Int)) → unbL l s out' (k + i) = ([], e, ((k + p : Nat) : Int)) := by
    intro l
    induction l with
    | nil =>
      intro s out out' i k p h
      rw [unbL] at h ⊢
      split at h
      · rename_i h1
        rw [if_pos h1]
        injection h with _ h
        injection h with h2 h3
        rw [← h2, ← Int.ofNat.inj h3]
      · injection h with _ h
        injection h with h _
        exact absurd h.symm he
    | cons ch r ih =>
      intro s out out' i k p h
      rw [unbL] at h ⊢
      split at h
      · rename_i h1
        rw [if_pos h1]
        injection h with _ h
        injection h with h2 h3
        rw [← h2, ← Int.ofNat.inj h3]
      · rename_i h1
        rw [if_neg h1]
        exact ih _ _ _ _ _ _ h
  have := hsh l St.new [] ([] ++ ys) 0 (4 * n) p h
  rw [Nat.add_zero] at this
  rw [Nat.zero_add]
  exact this

theorem next0 {s : St} {v : Int} (h : s.next v = 0) : v ≠ 65 ∧ s.o = false := by
  unfold St.next nextV at h
  by_cases h1 : v = 65
  · rw [if_pos h1] at h; cases h
  · rw [if_neg h1] at h
    refine ⟨h1, ?_⟩
    cases ho : s.o
    · rfl
    · rw [ho, if_pos rfl] at h; cases h
theorem nextA {a b c d v : Int} {n : Nat} {o : Bool} (h : (St.mk a b c d n o).next v = 0) (hn : n < 2) (hv : v ≤ 65) : v < 64 := by
  obtain ⟨h1, ho⟩ := next0 h
  simp only at ho
  subst ho
  unfold St.next nextV at h
  simp only at h
  rw [if_neg h1, if_neg (by decide), if_neg (fun h => by omega)] at h
  by_cases h2 : v ≠ 64
  · omega
  · rw [if_neg h2, if_pos (.inl hn)] at h; cases h
theorem nextB {a b c d v : Int} {o : Bool} (h : (St.mk a b c d 2 o).next v = 0) (hv : v ≤ 65) (hb : 0 ≤ b ∧ b < 64) : v < 64 ∨ (v = 64 ∧ b % 16 = 0) := by
  obtain ⟨h1, ho⟩ := next0 h
  simp only at ho
  subst ho
  unfold St.next nextV at h
  simp only at h
  rw [if_neg h1, if_neg (by decide), if_neg (fun h => by omega)] at h
  by_cases h2 : v ≠ 64
  · exact .inl (by omega)
  · refine .inr ⟨Decidable.of_not_not h2, ?_⟩
    rw [if_neg h2] at h
    refine Decidable.by_contra fun hb' => ?_
    rw [if_pos (.inr (.inl ⟨trivial, by rw [n15 b hb]; exact hb'⟩))] at h
    cases h
theorem nextC {a b c d v : Int} {o : Bool} (h : (St.mk a b c d 3 o).next v = 0) (hv : v ≤ 65) : (c = 64 ∧ v = 64) ∨ (c ≠ 64 ∧ (v < 64 ∨ (v = 64 ∧ (0 ≤ c ∧ c < 64 → c % 4 = 0)))) := by
  obtain ⟨h1, ho⟩ := next0 h
  simp only at ho
  subst ho
  unfold St.next nextV at h
  simp only at h
  rw [if_neg h1, if_neg (by decide)] at h
  by_cases hc : c = 64
  · rw [if_pos ⟨trivial, hc⟩] at h
    refine .inl ⟨hc, ?_⟩
    by_cases h2 : v ≠ 64
    · rw [if_pos h2] at h; cases h
    · exact Decidable.of_not_not h2
  · rw [if_neg (fun h => hc h.2)] at h
    refine .inr ⟨hc, ?_⟩
    by_cases h2 : v ≠ 64
    · exact .inl (by omega)
    · refine .inr ⟨Decidable.of_not_not h2, fun hr => ?_⟩
      rw [if_neg h2] at h
      refine Decidable.by_contra fun hb' => ?_
      rw [if_pos (.inr (.inr ⟨trivial, by rw [n3 c hr]; exact hb'⟩))] at h
      cases h
theorem unb_cons {ch : Int} {r : List Int} {st : St} {out b : List Int} {i : Nat} (h : unbL (ch :: r) st out i = (b, 0, 0)) : st.next (valV ch) = 0 ∧ unbL r (st.put (valV ch)) (out ++ st.out (valV ch)) (i + 1) = (b, 0, 0) := by
  rw [unbL] at h
  split at h
  · rename_i h1
    injection h with _ h
    injection h with h _
    exact absurd h h1
  · rename_i h1
    exact ⟨Decidable.of_not_not h1, h⟩
/-- What is taken is written again. -/
theorem b64_unb : ∀ (n : Nat) (l : List Int), l.length ≤ n → InB l → ∀ (st : St), st.n = 0 → ∀ (out b : List Int) (i : Nat), unbL l st out i = (b, 0, 0) → ∃ ys, b = out ++ ys ∧ b64 ys = l ∧ InB ys := by
  intro n
  induction n with
  | zero =>
    intro l hl _ st hn out b i h
    obtain rfl : l = [] := List.length_eq_zero_iff.1 (by omega)
    rw [unbL, if_neg (by omega)] at h
    injection h with h _
    exact ⟨[], by rw [List.append_nil, h], rfl, fun x hx => by cases hx⟩
  | succ n ih =>
    intro l hl hin st hn out b i h
    obtain ⟨a0, b0, c0, d0, n0, o0⟩ := st
    simp only at hn
    subst hn
    match l, hl, hin, h with
    | [], _, _, h =>
      rw [unbL, if_neg (show ¬ (0 > 0) by decide)] at h
      injection h with h _
      exact ⟨[], by rw [List.append_nil, h], rfl, fun x hx => by cases hx⟩
    | [x], _, _, h =>
      obtain ⟨_, h⟩ := unb_cons h
      simp [unbL, St.put] at h
    | [x, y], _, _, h =>
      obtain ⟨_, h⟩ := unb_cons h
      obtain ⟨_, h⟩ := unb_cons h
      simp [unbL, St.put] at h
    | [x, y, z], _, _, h =>
      obtain ⟨_, h⟩ := unb_cons h
      obtain ⟨_, h⟩ := unb_cons h
      obtain ⟨_, h⟩ := unb_cons h
      simp [unbL, St.put] at h
    | x :: y :: z :: u :: r, hl, hin, h =>
      obtain ⟨ix, hin⟩ := InB.tail hin
      obtain ⟨iy, hin⟩ := InB.tail hin
      obtain ⟨iz, hin⟩ := InB.tail hin
      obtain ⟨iu, hin⟩ := InB.tail hin
      have vx := val_r x ix
      have vy := val_r y iy
      have vz := val_r z iz
      have vu := val_r u iu
      obtain ⟨g1, h⟩ := unb_cons h
      obtain ⟨g2, h⟩ := unb_cons h
      obtain ⟨g3, h⟩ := unb_cons h
      obtain ⟨g4, h⟩ := unb_cons h
      simp only [St.put, St.out] at g2 g3 g4 h
      have hx := nextA g1 (by decide) vx.2
      have hy := nextA g2 (by decide) vy.2
      have lx := let_val x ix hx
      have ly := let_val y iy hy
      rw [if_neg (by decide), if_neg (by decide), if_neg (by decide), if_pos trivial] at h
      simp only [List.append_nil] at h
      have hnil : ∀ (s : St) (o2 : List Int) (j : Nat) (l : List Int) , s.n = 0 → s.o = true → InB l → unbL l s o2 j = (b, 0, 0) → l = [] ∧ b = o2 := by
        intro s o2 j l hs ho hl h
        match l, h with
        | [], h => rw [unbL, if_neg (by omega)] at h; injection h with h _; exact ⟨rfl, h.symm⟩
        | ch :: r, h =>
          have := (next0 (unb_cons h).1).2
          rw [ho] at this
          cases this
      rcases nextB g3 vz.2 ⟨vy.1, hy⟩ with hz | ⟨hz, hy16⟩
      · have lz := let_val z iz hz
        rcases nextC g4 vu.2 with ⟨hc, _⟩ | ⟨_, hu | ⟨hu, hz4⟩⟩
        · omega
        · have lu := let_val u iu hu
          have hf : fourB (valV x) (valV y) (valV z) (valV u) = [b1 (valV x) (valV y), b2 (valV y) (valV z), b3 (valV z) (valV u)] := by unfold fourB; rw [if_neg (by omega), if_neg (by omega)]
          rw [hf, b1_of _ _ ⟨vx.1, hx⟩ ⟨vy.1, hy⟩, b2_of _ _ ⟨vy.1, hy⟩ ⟨vz.1, hz⟩, b3_of _ _ ⟨vz.1, hz⟩ ⟨vu.1, hu⟩] at h
          obtain ⟨ys, rfl, hys, hyi⟩ := ih r (by simp at hl; omega) hin _ rfl _ _ _ h
          refine ⟨[valV x * 4 + valV y / 16, valV y % 16 * 16 + valV z / 4, valV z % 4 * 64 + valV u] ++ ys, by simp, ?_, ?_⟩
          · simp only [List.cons_append, List.nil_append, b64]
            rw [show (valV x * 4 + valV y / 16) / 4 = valV x by omega, show (valV x * 4 + valV y / 16) % 4 * 16 + (valV y % 16 * 16 + valV z / 4) / 16 = valV y by omega, show (valV y % 16 * 16 + valV z / 4) % 16 * 4 + (valV z % 4 * 64 + valV u) / 64 = valV z by omega, show (valV z % 4 * 64 + valV u) % 64 = valV u by omega, lx, ly, lz, lu, hys]
          · exact InB.cons (by omega) (InB.cons (by omega) (InB.cons (by omega) hyi))
        · have hf : fourB (valV x) (valV y) (valV z) (valV u) = [b1 (valV x) (valV y), b2 (valV y) (valV z)] := by unfold fourB; rw [if_neg (by omega), if_pos hu]
          rw [hf, b1_of _ _ ⟨vx.1, hx⟩ ⟨vy.1, hy⟩, b2_of _ _ ⟨vy.1, hy⟩ ⟨vz.1, hz⟩] at h
          obtain ⟨rfl, rfl⟩ := hnil _ _ _ _ rfl (by simp [hu]) hin h
          have hz4 := hz4 ⟨vz.1, hz⟩
          have hu61 := (val_pad u iu).1 hu
          refine ⟨[valV x * 4 + valV y / 16, valV y % 16 * 16 + valV z / 4], rfl, ?_, ?_⟩
          · simp only [b64]
            rw [show (valV x * 4 + valV y / 16) / 4 = valV x by omega, show (valV x * 4 + valV y / 16) % 4 * 16 + (valV y % 16 * 16 + valV z / 4) / 16 = valV y by omega, show (valV y % 16 * 16 + valV z / 4) % 16 * 4 = valV z by omega, lx, ly, lz, hu61]
          · exact InB.cons (by omega) (InB.cons (by omega) (fun x hx => by cases hx))
      · rcases nextC g4 vu.2 with ⟨_, hu⟩ | ⟨hc, _⟩
        · have hf : fourB (valV x) (valV y) (valV z) (valV u) = [b1 (valV x) (valV y)] := by unfold fourB; rw [if_pos hz]
          rw [hf, b1_of _ _ ⟨vx.1, hx⟩ ⟨vy.1, hy⟩] at h
          obtain ⟨rfl, rfl⟩ := hnil _ _ _ _ rfl (by simp [hu]) hin h
          have hz61 := (val_pad z iz).1 hz
          have hu61 := (val_pad u iu).1 hu
          refine ⟨[valV x * 4 + valV y / 16], rfl, ?_, ?_⟩
          · simp only [b64]
            rw [show (valV x * 4 + valV y / 16) / 4 = valV x by omega, show (valV x * 4 + valV y / 16) % 4 * 16 = valV y by omega, lx, ly, hz61, hu61]
          · exact InB.cons (by omega) (fun x hx => by cases hx)
        · exact absurd hz hc

/-! the reader, piece by piece -/
def noEnd (ch : Int) : Bool := !(ch == 13 || ch == 10)
theorem feed_append : ∀ (xs ys : List Int) (st : St) (out : List Int), feedL (xs ++ ys) st out = if (feedL xs st out).2.2 = 0 then feedL ys (feedL xs st out).2.1 (feedL xs st out).1 else feedL xs st out
  | [], ys, st, out => by simp [feedL]
  | ch :: r, ys, st, out => by
    rw [List.cons_append, feedL, feedL]
    by_cases h1 : ch = 13 ∨ ch = 10
    · rw [if_pos h1, if_pos h1]; exact feed_append r ys st out
    · rw [if_neg h1, if_neg h1]
      by_cases h2 : st.next (valV ch) ≠ 0
      · rw [if_pos h2, if_pos h2, if_neg h2]
      · rw [if_neg h2, if_neg h2]; exact feed_append r ys _ _
theorem feed_out : ∀ (xs : List Int) (st : St) (out : List Int), feedL xs st out = (out ++ (feedL xs st []).1, (feedL xs st []).2.1, (feedL xs st []).2.2)
  | [], st, out => by simp [feedL]
  | ch :: r, st, out => by
    rw [feedL, feedL]
    by_cases h1 : ch = 13 ∨ ch = 10
    · rw [if_pos h1, if_pos h1]; exact feed_out r st out
    · rw [if_neg h1, if_neg h1]
      by_cases h2 : st.next (valV ch) ≠ 0
      · rw [if_pos h2, if_pos h2]; simp
      · rw [if_neg h2, if_neg h2, feed_out r _ (out ++ st.out (valV ch)), feed_out r _ ([] ++ st.out (valV ch))]
        simp
theorem feed_n : ∀ (xs : List Int) (st : St) (out : List Int), st.n ≤ 3 → (feedL xs st out).2.1.n ≤ 3
  | [], st, out, h => h
  | ch :: r, st, out, h => by
    rw [feedL]
    split
    · exact feed_n r st out h
    · split
      · exact h
      · exact feed_n r _ _ (St.put_n _ _ h)
theorem feed_len : ∀ (xs : List Int) (st : St) (out : List Int), (feedL xs st out).1.length ≤ out.length + 3 * xs.length
  | [], st, out => by simp [feedL]
  | ch :: r, st, out => by
    rw [feedL, List.length_cons]
    split
    · have := feed_len r st out; omega
    · split
      · simp
      · have := feed_len r (st.put (valV ch)) (out ++ st.out (valV ch))
        have := out_len st (valV ch)
        rw [List.length_append] at *
        omega
theorem feed_in : ∀ (xs : List Int) (st : St) (out : List Int), (feedL xs st out).2.2 = 0 ∨ (feedL xs st out).2.2 = 40 ∨ (feedL xs st out).2.2 = 41
  | [], st, out => .inl rfl
  | ch :: r, st, out => by
    rw [feedL]
    split
    · exact feed_in r st out
    · split
      · exact next_range _ _
      · exact feed_in r _ _
theorem out_lenN (st : St) (v : Int) : (st.out v).length ≤ if st.n = 3 then 3 else 0 := by
  have := out_len st v
  unfold St.out at this ⊢
  split
  · rename_i h; rw [if_pos h] at this; exact this
  · simp
/-- A reader tells what Unbase64 tells of the letters without line ends. -/
theorem feed_unb : ∀ (xs : List Int) (st : St) (out : List Int) (i : Nat), st.n ≤ 3 → st.n = i % 4 → out.length ≤ i / 4 * 3 →
    ((feedL xs st out).2.2 = 0 ∧ unbL (xs.filter noEnd) st out i = if (feedL xs st out).2.1.n > 0 then ([], 41, ((i + (xs.filter noEnd).length : Nat) : Int)) else ((feedL xs st out).1, 0, 0)) ∨
    ((feedL xs st out).2.2 ≠ 0 ∧ ∃ p : Nat, unbL (xs.filter noEnd) st out i = ([], (feedL xs st out).2.2, (p : Int)) ∧ p < i + (xs.filter noEnd).length ∧ (feedL xs st out).1.length ≤ p / 4 * 3)
  | [], st, out, i, _, _, _ => by
    refine .inl ⟨rfl, ?_⟩
    simp [feedL, unbL]
  | ch :: r, st, out, i, hn, hm, hl => by
    rw [feedL]
    by_cases h1 : ch = 13 ∨ ch = 10
    · rw [if_pos h1, List.filter_cons_of_neg (by rcases h1 with rfl | rfl <;> simp [noEnd])]
      exact feed_unb r st out i hn hm hl
    · rw [if_neg h1, List.filter_cons_of_pos (by simp [noEnd]; exact ⟨fun h => h1 (.inl h), fun h => h1 (.inr h)⟩), unbL]
      by_cases h2 : st.next (valV ch) ≠ 0
      · rw [if_pos h2, if_pos h2]
        exact .inr ⟨h2, i, rfl, by rw [List.length_cons]; omega, hl⟩
      · rw [if_neg h2, if_neg h2]
        have ho := out_lenN st (valV ch)
        have := feed_unb r (st.put (valV ch)) (out ++ st.out (valV ch)) (i + 1) (St.put_n _ _ hn) (by rw [put_mod _ _ hn]; omega) (by rw [List.length_append]; split at ho <;> omega)
        rw [List.length_cons, show i + ((r.filter noEnd).length + 1) = i + 1 + (r.filter noEnd).length by omega]
        exact this
end Go.Proofs.YtokgckhhhhigiaaDoor.UB
namespace Go.Proofs.YtokgckhhhhigiaaDoor.B64
set_option linter.unusedVariables false
set_option linter.unusedSimpArgs false
open Go.RowKit Go.Proofs.YtokgckhhhhigiaaDoorW.PrintWords Go.Proofs.YtokgckhhhhigiaaDoorW.PrintMore Go.Proofs.YtokgckhhhhigiaaDoor.B Go.Proofs.YtokgckhhhhigiaaDoor.D

theorem extract_bytes (s : ByteArray) (a b : Nat) : bytesOf (s.extract a b) = ((bytesOf s).drop a).take (b - a) := by
  unfold bytesOf
  rw [Lib.extract_data, List.map_take, List.map_drop]
theorem extract_front (l : List Int) (hl : InB l) (n : Nat) : (strOfNums l).extract 0 n = strOfNums (l.take n) := by
  refine bytesOf_inj ?_
  rw [extract_bytes, bytesOf_strOfNums _ hl, bytesOf_strOfNums _ fun x hx => hl x (List.mem_of_mem_take hx)]
  simp
theorem extract_back (l : List Int) (hl : InB l) (n : Nat) : (strOfNums l).extract n (strOfNums l).size = strOfNums (l.drop n) := by
  refine bytesOf_inj ?_
  rw [extract_bytes, bytesOf_strOfNums _ hl, bytesOf_strOfNums _ fun x hx => hl x (List.mem_of_mem_drop hx), strOfNums_len]
  exact List.take_of_length_le (by simp)

/-- Rows of at most m. -/
def rowsL (m : Nat) : Nat → List Int → List Int
  | 0, _ => []
  | d + 1, l => if l = [] then [] else l.take m ++ [13, 10] ++ rowsL m d (l.drop m)
theorem rowsL_more (m : Nat) (hm : 0 < m) : ∀ (d e : Nat) (l : List Int), l.length ≤ d → l.length ≤ e → rowsL m d l = rowsL m e l
  | 0, 0, l, _, _ => rfl
  | 0, e + 1, l, h, _ => by
    obtain rfl := List.eq_nil_of_length_eq_zero (show l.length = 0 by omega)
    simp [rowsL]
  | d + 1, 0, l, _, h => by
    obtain rfl := List.eq_nil_of_length_eq_zero (show l.length = 0 by omega)
    simp [rowsL]
  | d + 1, e + 1, l, h1, h2 => by
    simp only [rowsL]
    by_cases h : l = []
    · rw [if_pos h, if_pos h]
    · rw [if_neg h, if_neg h, rowsL_more m hm d e (l.drop m) (by rw [List.length_drop]; omega) (by rw [List.length_drop]; omega)]
def rows (m : Nat) (l : List Int) : List Int := rowsL m l.length l
theorem rows_nil (m : Nat) : rows m [] = [] := rfl
theorem rows_step (m : Nat) (hm : 0 < m) (l : List Int) (h : l ≠ []) : rows m l = l.take m ++ [13, 10] ++ rows m (l.drop m) := by
  unfold rows
  have hp : 0 < l.length := List.length_pos_iff.mpr h
  obtain ⟨d, hd⟩ : ∃ d, l.length = d + 1 := ⟨l.length - 1, by omega⟩
  rw [hd, rowsL, if_neg h, rowsL_more m hm d (l.drop m).length (l.drop m) (by rw [List.length_drop]; omega) (Nat.le_refl _)]

theorem mn_eq (m n : Nat) : mn (m : Int) (n : Int) = ((min m n : Nat) : Int) := by
  unfold mn
  split
  · rw [Nat.min_eq_right (by omega)]
  · rw [Nat.min_eq_left (by omega)]

theorem front_len (l : List Int) (m : Nat) (hm : 0 < m) (hp : 0 < l.length) : (l.take m).length + 2 + 3 * (l.length - m) ≤ 3 * l.length := by
  have h := List.length_take (i := m) (l := l)
  rcases Nat.le_total m l.length with h' | h'
  · rw [Nat.min_eq_left h'] at h
    omega
  · rw [Nat.min_eq_right h'] at h
    omega
theorem codeRows_loop (m : Nat) (hm : 0 < m) (d : Nat) : ∀ (l acc : List Int), InB l → l.length ≤ d → acc.length + 3 * l.length ≤ 140737488355000 → Ev (fun k => code_Rows.l0 k (m : Int) (strOfNums l) acc) (strOfNums (acc ++ rows m l), 0) := by
  induction d with
  | zero =>
    intro l acc hl h ha
    obtain rfl := List.eq_nil_of_length_eq_zero (show l.length = 0 by omega)
    refine Ev.last fun k => ?_
    simp only [code_Rows.l0]
    rw [strOfNums_len, if_neg (by simp), rows_nil, List.append_nil]
  | succ d ih =>
    intro l acc hl h ha
    by_cases he : l = []
    · subst he
      refine Ev.last fun k => ?_
      simp only [code_Rows.l0]
      rw [strOfNums_len, if_neg (by simp), rows_nil, List.append_nil]
    · have hp : 0 < l.length := List.length_pos_iff.mpr he
      have htl : (l.take (min m l.length)).length = min m l.length := by rw [List.length_take]; omega
      have key := ih (l.drop m) (acc ++ l.take m ++ [13, 10]) (fun x hx => hl x (List.mem_of_mem_drop hx)) (by rw [List.length_drop]; omega) (by simp only [List.length_append, List.length_drop, List.length_cons, List.length_nil]; have h5 := front_len l m hm hp; omega)
      rw [show acc ++ l.take m ++ [13, 10] ++ rows m (l.drop m) = acc ++ rows m l from by rw [rows_step m hm l he]; simp] at key
      have ht : l.take (min m l.length) = l.take m := by
        rcases Nat.le_total m l.length with h' | h'
        · rw [Nat.min_eq_left h']
        · rw [Nat.min_eq_right h', List.take_of_length_le (Nat.le_refl _), List.take_of_length_le h']
      have hd : l.drop (min m l.length) = l.drop m := by
        rcases Nat.le_total m l.length with h' | h'
        · rw [Nat.min_eq_left h']
        · rw [Nat.min_eq_right h', List.drop_eq_nil_of_le (Nat.le_refl _), List.drop_eq_nil_of_le h']
      refine Ev.round (f := fun k => code_Rows.l0 k (m : Int) (strOfNums (l.drop m)) (acc ++ l.take m ++ [13, 10])) (fun k => ?_) key
      have hlen := strOfNums_len l
      simp only [code_Rows.l0]
      rw [extract_back l hl, extract_front l hl, hlen, mn_eq, Int.toNat_natCast, hd, ht, bytesOf_strOfNums _ fun x hx => hl x (List.mem_of_mem_take hx), strOfNums_len]
      have h2 : (l.take m).length ≤ l.length := by rw [List.length_take]; omega
      rw [if_pos (by omega), if_pos (by omega), if_pos (by omega), if_pos (by omega), bind_some', bind_some', if_pos (by simp only [List.length_append, List.length_cons, List.length_nil]; omega)]

def rowsR (xs : List Int) (m : Int) : ByteArray × Int := if m < 4 ∨ 76 < m ∨ m % 4 ≠ 0 then (⟨#[]⟩, 2) else (strOfNums (rows m.toNat (b64 xs)), 0)

theorem Rows_ev (xs : List Int) (m : Int) (hx : InB xs) (hl : xs.length ≤ 10000000000000) : Ev (fun k => code_Rows.f k xs m) (rowsR xs m) := by
  unfold code_Rows.f rowsR
  by_cases h1 : m < 4
  · simp only [if_pos h1, if_pos (Or.inl h1 : m < 4 ∨ 76 < m ∨ m % 4 ≠ 0)]
    exact Ev.last fun k => by simp only [code_Rows.j0]; rfl
  by_cases h2 : m > 76
  · simp only [if_neg h1, if_pos h2, if_pos (Or.inr (Or.inl h2) : m < 4 ∨ 76 < m ∨ m % 4 ≠ 0)]
    exact Ev.last fun k => by simp only [code_Rows.j0]; rfl
  have e : Int.tmod m 4 = m % 4 := Int.tmod_eq_emod_of_nonneg (by omega)
  simp only [if_neg h1, if_neg h2, e]
  by_cases h3 : m % 4 = 0
  · rw [if_neg (by omega)]
    obtain ⟨n, rfl⟩ := Int.eq_ofNat_of_zero_le (show 0 ≤ m by omega)
    have hb := b64_len xs
    have hin := b64_in xs hx
    refine Ev.round (f := fun k => (code_Base64.f k xs).bind fun t => (if (n : Int) = 0 then (none) else (if 0 ≤ (wrap64 ((t.size : Int) + (wrap64 (2 * (wrap64 ((wrap64 ((t.size : Int) / n)) + 1)))))) then (if (wrap64 ((t.size : Int) + (wrap64 (2 * (wrap64 ((wrap64 ((t.size : Int) / n)) + 1))))) : Int).toNat ≤ 281474976710656 then (code_Rows.l0 k n t (([] : List Int))) else (none)) else (none)))) (fun k => ?_) ?_
    · simp only [code_Rows.j0]
      rw [h3]
      rfl
    · refine Ev.bind (Base64_ev xs hx (by omega)) ?_
      have key := codeRows_loop n (by omega) (b64 xs).length (b64 xs) [] hin (Nat.le_refl _) (by simp; omega)
      rw [List.nil_append] at key
      refine Ev.congr (fun k => ?_) key
      have hq : 0 ≤ ((b64 xs).length : Int) / n ∧ ((b64 xs).length : Int) / n ≤ (b64 xs).length := ⟨Int.ediv_nonneg (by omega) (by omega), Int.ediv_le_self _ (by omega)⟩
      rw [strOfNums_len, wrap_id (((b64 xs).length : Int) / n) (by omega) (by omega), wrap_id (((b64 xs).length : Int) / n + 1) (by omega) (by omega), wrap_id (2 * _) (by omega) (by omega), wrap_id _ (by omega) (by omega), if_neg (by omega), if_pos (by omega), if_pos (by omega)]
  · rw [if_pos (Or.inr (Or.inr h3))]
    exact Ev.last fun k => by simp only [code_Rows.j0]; rw [if_pos (bne_iff_ne.2 h3)]

end Go.Proofs.YtokgckhhhhigiaaDoor.B64
namespace Go.Proofs.YtokgckhhhhigiaaDoor.FdW
set_option linter.unusedVariables false
set_option linter.unusedSimpArgs false
open Go.RowKit Go.Proofs.YtokgckhhhhigiaaDoorW.PrintWords Go.Proofs.YtokgckhhhhigiaaDoorW.PrintLast Go.Proofs.YtokgckhhhhigiaaDoorW.PrintMore Go.Proofs.YtokgckhhhhigiaaDoor.B Go.Proofs.YtokgckhhhhigiaaDoor.M Go.Proofs.YtokgckhhhhigiaaDoor.D Go.Proofs.YtokgckhhhhigiaaDoor.Turn Go.Proofs.YtokgckhhhhigiaaDoor.Rd Go.Proofs.YtokgckhhhhigiaaDoor.Fd Go.Proofs.YtokgckhhhhigiaaDoor.UB Go.Proofs.YtokgckhhhhigiaaDoor.QW

def fedR (xs : List Int) : List Int × Int × Int × Bool := ((feedL xs St.new []).1, (feedL xs St.new []).2.2, closeV (feedL xs St.new []).2.1 (feedL xs St.new []).2.2, true)
/-- What stands between the pieces. -/
structure Pc (w : World) (g : Nat) (v : Value) (o : List Int) (st : St) (er : Int) (W : World) : Prop where
  own : W.ownsRow w.heap.size 5 1 v o.length (nums .u8 o)
  cells : W.heap[g]? = some (.cells (st.cells true er) 57 (0, 0))
  below : Below w.heap.size w W
theorem Pc.step {w W W' : World} {g : Nat} {v : Value} {o : List Int} {st : St} {er : Int} (h : Pc w g v o st er W) (hb : Below W.heap.size W W') : Pc w g v o st er W' :=
  ⟨own_move h.own (fun k hk => hb.block k (own_lt h.own k hk)), blk_below h.cells hb, below_step h.below hb⟩
theorem Pc.ne {w W : World} {g : Nat} {v : Value} {o : List Int} {st : St} {er : Int} (h : Pc w g v o st er W) : some g ≠ v.ownBlock := row_ne h.own h.cells
theorem Pc.fed {w W W' : World} {g : Nat} {v : Value} {o : List Int} {st st' : St} {er er' : Int} (h : Pc w g v o st er W) (hk : W'.heap[g]? = some (.cells (st'.cells true er') 57 (0, 0))) (hp : KeepBut W W' g none) (hb : Below w.heap.size W W') : Pc w g v o st' er' W' :=
  ⟨own_move h.own (fun k hk' => hp.2 k (own_lt h.own k hk') (by rintro rfl; exact h.ne hk'.symm) (by simp)), hk, h.below.trans hb⟩
theorem Pc.app {w W W' : World} {g : Nat} {v v' : Value} {o o' : List Int} {st : St} {er : Int} (h : Pc w g v o st er W) (ho : W'.ownsRow w.heap.size 5 1 v' o'.length (nums .u8 o')) (hb : Below w.heap.size w W') (hg : W.grownBy W' v.ownBlock) : Pc w g v' o' st er W' :=
  ⟨ho, by rw [hg.block g (blk_lt h.cells) h.ne]; exact h.cells, hb⟩
theorem feed_stop {xs ys : List Int} {o : List Int} {st : St} {er : Int} (h : feedL xs St.new [] = (o, st, er)) (he : er ≠ 0) : feedL (xs ++ ys) St.new [] = (o, st, er) := by
  rw [feed_append, h, if_neg he]
theorem feed_go {xs ys : List Int} {o : List Int} {st : St} (h : feedL xs St.new [] = (o, st, 0)) : feedL (xs ++ ys) St.new [] = (o ++ (feedL ys st []).1, (feedL ys st []).2.1, (feedL ys st []).2.2) := by
  rw [feed_append, h, if_pos rfl]
  exact feed_out ys st o
theorem take_more (xs : List Int) (a n : Nat) : xs.take (a + n) = xs.take a ++ (xs.drop a).take n := by rw [List.take_add]
theorem C_piece {w : World} {A : Option Addr} {xs : List Int} {c : Nat} (h : Kd.C (Kd.int .u8) w A xs.length xs) (a n : Nat) (hn : a + n ≤ xs.length) (hc : xs.length ≤ c) : Kd.C (Kd.int .u8) w (if c = a then A else A.map (·.add (a * 1))) ((xs.drop a).take n).length ((xs.drop a).take n) := by
  have := Kd.C_mid h (lo := a) (hi := a + n) (by omega) hn hc
  rw [List.drop_take, show a + n - a = n by omega] at this
  exact this
theorem cutp {i : TypeInfo} (hi : Tryd.prog.info? 5 = some i) (hsz : i.size = 1) (A : Option Addr) (n c a k : Nat) (x y : Int) (hx : x = (a : Int)) (hy : y = ((a + k : Nat) : Int)) (h : a + k ≤ n) (hc : n ≤ c) : ∀ W : World, (Instr.slice 22 (.slice A n c) (some (.int .i64 x)) (some (.int .i64 y)) none).run Tryd.prog W = .ok (.slice (if c = a then A else A.map (·.add (a * 1))) k (c - a)) W := by
  have h1 := cut_mid (P := Tryd.prog) 22 5 .i64 .i64 Tryd.underlying22 hi 1 hsz A n c x y (by omega) (by omega) (by omega) hc
  rw [show y.toNat = a + k by omega, show x.toNat = a by omega, show a + k - a = k by omega] at h1
  exact h1

set_option maxHeartbeats 8000000 in
set_option maxRecDepth 100000 in
theorem fed_calls (A A1 : Option Addr) (c0 c1 : Nat) (xs cuts : List Int) (w : World) (hr : Kd.C (Kd.int .u8) w A xs.length xs) (hc : xs.length ≤ c0) (hr1 : Kd.C (Kd.int .i64) w A1 cuts.length cuts) (hin : InB xs) (hs : xs.length ≤ 10000000000000) (hs1 : cuts.length ≤ 10000000000000) :
    Calls Tryd.prog 22 #[.slice A xs.length c0, .slice A1 cuts.length c1] w fun e w' => ∃ v0_ : Value, e = .returned (.tuple #[v0_, .int .i64 (fedR xs).2.1, .int .i64 (fedR xs).2.2.1, .bool (fedR xs).2.2.2]) ∧ Kd.R (Kd.int .u8) 5 w' w.heap.size (fun _ => True) v0_ (fedR xs).1 ∧ Below w.heap.size w w' := by
  obtain ⟨ii, hi, _, hsz, _⟩ := info_parts info5
  have HR := Aside0.mk hr
  have HR1 := Aside0.mk hr1
  have HI := Aside0.mk hin
  clear hr hr1 hin
  go_enter Tryd.func22, Tryd.ntmps22
  go_wp2_with ((go_at_call 32); (with_reducible refine (new_calls _).mono ?_); rintro e wN ⟨g, rfl, hgN, hkN, hbN⟩; have HP0 : Aside0 (Pc w g (.slice none 0 0) [] St.new 0 wN) := ⟨⟨own_nil wN w.heap.size 5 1, hkN, hbN⟩⟩; have hgw := hgN; clear hbN hkN hgN)
  go_loopg [9, 10, 11, 12, 13, 14, 15] (cuts.length + 1) (fun gk v9 v10 v11 v12 v13 v14 v15 wr => ∃ (j a : Nat) (o : List Int) (st : St) (er : Int), v10 = .int .i64 er ∧ v11 = .int .i64 a ∧ v12 = .int .i64 j ∧ Aside0 (gk = cuts.length + 1 - j) ∧ j ≤ cuts.length + 1 ∧ a ≤ xs.length ∧ Aside0 (j = cuts.length + 1 → a = xs.length) ∧ Aside0 (feedL (xs.take a) St.new [] = (o, st, er)) ∧ Aside0 (Pc w g v9 o st er wr))
  case atStart => exact ⟨0, 0, [], St.new, 0, rfl, rfl, rfl, ⟨rfl⟩, by omega, by omega, ⟨fun h => by omega⟩, ⟨rfl⟩, HP0⟩
  case round =>
    clear HP0
    obtain ⟨j, a, o, st, er, rfl, rfl, rfl, HGK, hj, ha, HEND, HF, HP⟩ := hrel
    by_cases hlt : j ≤ cuts.length
    · go_upto_if 30 with (fail)
      go_cut [13] from 17 to 68 (fun s13 wx => ∃ n : Nat, s13 = .int .i64 n ∧ a + n ≤ xs.length ∧ Aside0 (j = cuts.length → a + n = xs.length) ∧ wx = wr)
      case first =>
        by_cases h : j < cuts.length
        · obtain ⟨ad1, rfl, hcell1⟩ := Kd.at_int HR1.out (j : Int) (by omega) (by omega)
          rw [Int.toNat_natCast] at hcell1
          have hcell := pw_cell_below HP.out.below hcell1
          have p34 : 0 ≤ (j : Int) := by omega
          have q34 : (j : Int) < (cuts.length : Int) := by omega
          obtain ⟨x, hx⟩ : ∃ x, x = rd cuts (j : Int) := ⟨_, rfl⟩
          rw [← hx] at hcell
          clear hcell1 hx h
          go_wp2_with (fail)
          all_goals go_meet
          all_goals first
            | exact ⟨xs.length - a, by congr 1; omega, by omega, ⟨fun _ => by omega⟩, rfl⟩
            | exact ⟨0, rfl, by omega, ⟨fun _ => by omega⟩, rfl⟩
            | (rename_i h_; rw [if_pos h] at h_; have e_ := Int.toNat_of_nonneg (Int.le_of_lt h); exact ⟨(x.tmod 9).toNat, congrArg (Value.int .i64) e_.symm, by omega, ⟨fun _ => by omega⟩, rfl⟩)
        · have hje : j = cuts.length := by omega
          go_wp2_with (fail)
          go_meet
          exact ⟨xs.length - a, by congr 1; omega, by omega, ⟨fun _ => by omega⟩, rfl⟩
      case rest =>
        obtain ⟨n, rfl, hn, HN, rfl⟩ := hcut
        have HAN := Aside0.mk hn
        have hcutp := cutp hi hsz A xs.length c0 a n (a : Int) ((a : Int) + (n : Int)) rfl (by omega) hn hc
        obtain ⟨A2, hA2⟩ : ∃ A2, A2 = (if c0 = a then A else A.map (·.add (a * 1))) := ⟨_, rfl⟩
        obtain ⟨c2, hc2⟩ : ∃ c2, c2 = c0 - a := ⟨_, rfl⟩
        obtain ⟨ys, hys⟩ : ∃ ys, ys = (xs.drop a).take n := ⟨_, rfl⟩
        have hyl : ys.length = n := by rw [hys, List.length_take, List.length_drop]; omega
        have HC2 := Aside0.mk (C_piece HR.out a n hn hc)
        rw [← hys, ← hA2] at HC2
        rw [← hA2, ← hc2, ← hyl] at hcutp
        rw [← hyl]
        have HYI : Aside0 (InB ys) := ⟨fun y hy => HI.out y (by rw [hys] at hy; exact List.mem_of_mem_drop (List.mem_of_mem_take hy))⟩
        have HTK : Aside0 (xs.take (a + ys.length) = xs.take a ++ ys) := ⟨by rw [hyl, hys]; exact take_more xs a n⟩
        have hyb : ys.length ≤ 10000000000000 := by omega
        have hab : a + ys.length ≤ xs.length := by omega
        have HEN : Aside0 (j = cuts.length → a + ys.length = xs.length) := ⟨by rw [hyl]; exact HN.out⟩
        have HA2 : Aside0 (∀ ad, A2 = some ad → 0 < ys.length → ad.block ≠ g) := ⟨Kd.far_C (0 : Int) HC2.out hgw⟩
        clear hA2 hc2 hyl HN hys HAN hn
        have hol : o.length ≤ 3 * xs.length := by
          have := feed_len (xs.take a) St.new []
          rw [HF.out, List.length_take] at this
          simp at this
          omega
        by_cases he : er = 0
        · subst he
          obtain ⟨p1, hp1⟩ : ∃ p1, p1 = (feedL ys st []).1 := ⟨_, rfl⟩
          obtain ⟨p3, hp3⟩ : ∃ p3, p3 = (feedL ys st []).2.2 := ⟨_, rfl⟩
          have hn3 : st.n ≤ 3 := by
            have := feed_n (xs.take a) St.new [] (by decide)
            rw [HF.out] at this
            exact this
          have HN3 := Aside0.mk hn3
          have HF2 := Aside0.mk (feed_go (ys := ys) HF.out)
          have hpl := feed_len ys st []
          rw [← hp1] at hpl
          have hpl2 : p1.length ≤ 3 * ys.length := by simpa using hpl
          have HP1 := Aside0.mk hp1
          have HP3 := Aside0.mk hp3
          clear hn3 hp1 hp3 hpl
          go_wp2_with (first
            | ((go_at_call 33); (with_reducible refine (feed_calls w.heap.size g st HN3.out A2 c2 ys _ hgw HP.out.below.size HP.out.cells (Kd.C_below HC2.out HP.out.below) HA2.out hyb HYI.out).mono ?_); rintro e wF ⟨A5, c5, rfl, hr5, _, hk5, hp5, hb5⟩; have HPF := Aside0.mk (HP.out.fed hk5 hp5 hb5); rw [← HP1.out] at hr5; rw [← HP1.out, ← HP3.out]; have HR5 := Aside0.mk hr5; clear hr5 hk5 hp5 hb5)
            | (at_builtin; refine print_append_row (w0 := w) w.heap.size rfl (.tmp 66) (.tmp 67) 22 5 .u8 1 rfl Tryd.underlying22 info5 (by decide) u9 o p1 A5 p1.length c5 rfl rfl ?aO ?aR ?aB ?aS ?aL ?_; (case aO => exact HPF.out.own); (case aR => exact HR5.out); (case aB => exact HPF.out.below); (case aS => exact HPF.out.below.size); (case aL => omega); intro v1 w1 ho hb hg hat; have HP1' := Aside0.mk (HPF.out.app ho hb hg); clear ho hb hg hat))
          go_roundg (cuts.length + 1 - (j + 1))
          case measure => have := HGK.out; omega
          case rel =>
            refine ⟨j + 1, a + ys.length, o ++ p1, (feedL ys st []).2.1, p3, rfl, by go_num, by go_num, ⟨rfl⟩, by omega, hab, ⟨fun h => HEN.out (by omega)⟩, ⟨?_⟩, ⟨?_⟩⟩
            · rw [HTK.out, HF2.out, ← HP1.out, ← HP3.out]
            · have := HP1'.out
              rw [← HP3.out] at this
              exact this
        · have HE := Aside0.mk he
          have hne1 : (er != 0) = true := bne_iff_ne.2 he
          have hne2 : (er != er) = false := by simp
          clear he
          go_wp2_with (first
            | ((go_at_call 33); (with_reducible refine (feed_err g st er HE.out _ _ HP.out.cells).mono ?_); rintro e wF ⟨rfl, ⟨nd, rfl⟩⟩; have HPF := Aside0.mk (HP.out.step (pw_below_drewN (Below.refl _ _) nd)))
            | (at_builtin; refine print_append_row (w0 := w) w.heap.size rfl (.tmp 66) (.tmp 67) 22 5 .u8 1 rfl Tryd.underlying22 info5 (by decide) u9 o [] none 0 0 rfl rfl ?aO ?aR ?aB ?aS ?aL ?_; (case aO => exact HPF.out.own); (case aR => exact ⟨rfl, by omega, fun h => by omega⟩); (case aB => exact HPF.out.below); (case aS => exact HPF.out.below.size); (case aL => omega); intro v1 w1 ho hb hg hat; have HP1' := Aside0.mk (HPF.out.app ho hb hg); clear ho hb hg hat))
          go_roundg (cuts.length + 1 - (j + 1))
          case measure => have := HGK.out; omega
          case rel =>
            refine ⟨j + 1, a + ys.length, o ++ [], st, er, rfl, by go_num, by go_num, ⟨rfl⟩, by omega, hab, ⟨fun h => HEN.out (by omega)⟩, ⟨?_⟩, HP1'⟩
            rw [HTK.out, feed_stop HF.out HE.out, List.append_nil]
    · have hje : j = cuts.length + 1 := by omega
      have hq := HF.out
      rw [HEND.out hje, List.take_length] at hq
      have HFE := Aside0.mk hq
      clear hq hje
      go_wp2_with ((go_at_call 38); (with_reducible refine (close_calls g st er _ HP.out.cells).mono ?_); rintro e wF ⟨rfl, rfl⟩)
      refine bodyPost_ret (results_list (rs := [.tmp 4, .tmp 5, .tmp 6, .tmp 7]) rfl (by simp) (.tmp (.tmp (.tmp (.tmp .nil))))) rfl ?_
      refine ⟨u9, ?_, ?_, HP.out.below⟩
      · unfold fedR
        rw [HFE.out]
        rfl
      · unfold fedR
        rw [HFE.out]
        exact Kd.R_of_own (h1 := fun _ => rfl) (ok := fun _ => True) HP.out.own (fun _ _ => trivial)
end Go.Proofs.YtokgckhhhhigiaaDoor.FdW
namespace Go.Proofs.YtokgckhhhhigiaaDoor.WK
set_option linter.unusedVariables false
set_option linter.unusedSimpArgs false
open Go.RowKit Go.Proofs.YtokgckhhhhigiaaDoorW.PrintWords Go.Proofs.YtokgckhhhhigiaaDoorW.PrintLast Go.Proofs.YtokgckhhhhigiaaDoorW.PrintMore Go.Proofs.YtokgckhhhhigiaaDoor.B Go.Proofs.YtokgckhhhhigiaaDoor.M Go.Proofs.YtokgckhhhhigiaaDoor.D Go.Proofs.YtokgckhhhhigiaaDoor.Turn Go.Proofs.YtokgckhhhhigiaaDoor.Glob Go.Proofs.YtokgckhhhhigiaaDoor.Q Go.Proofs.YtokgckhhhhigiaaDoor.QW Go.Proofs.YtokgckhhhhigiaaDoor.UW Go.Proofs.YtokgckhhhhigiaaDoor.Rd Go.Proofs.YtokgckhhhhigiaaDoor.Fd Go.Proofs.YtokgckhhhhigiaaDoor.Lent

def posthornlaw04_wakes.f : Option Bool := some true
abbrev tTWE : ByteArray := ⟨#[84, 87, 69, 61]⟩
abbrev tQ : ByteArray := ⟨#[97, 61, 51, 68, 98]⟩
theorem string_of_row {w : World} {A : Option Addr} {n c : Nat} {xs : List Int} (h : ReadsInt w .u8 A n xs) : (convert 22 9 (.slice A n c)).run Tryd.prog w = .ok (.string (strOfNums xs)) w :=
  string_of_reads Tryd.underlying22 Tryd.underlying5 Tryd.underlying9 h

set_option maxHeartbeats 4000000 in
set_option maxRecDepth 100000 in
theorem wakes_calls (w : World) (HG : GOk w) :
    Calls Tryd.prog 18 #[] w fun e w' => e = .returned (.bool true) ∧ Below w.heap.size w w' := by
  have A1 : Aside0 (unbL (bytesOf tTWE) St.new [] 0 = ([77, 97], 0, 0)) := ⟨by decide +kernel⟩
  have A2 : Aside0 (unq (bytesOf tQ) = ([97, 61, 98], 0, 0)) := ⟨by decide +kernel⟩
  have A3 : Aside0 ((feedL [84, 87, 69, 61] St.new []).1 = [77, 97] ∧ (feedL [84, 87, 69, 61] St.new []).2.2 = 0) := ⟨by decide +kernel⟩
  have A4 : Aside0 (code_Base64.f 5 [77, 97] = some tTWE) := ⟨by decide +kernel⟩
  have A5 : Aside0 (strOfNums (quo [97, 61, 98]) = tQ) := ⟨by decide +kernel⟩
  have A6 : Aside0 (strOfNums [77, 97] = ⟨#[77, 97]⟩) := ⟨by decide +kernel⟩
  have A7 : Aside0 (strOfNums [97, 61, 98] = ⟨#[97, 61, 98]⟩) := ⟨by decide +kernel⟩
  have A8 : Aside0 (InB [84, 87, 69, 61]) := ⟨fun x hx => by simp at hx; omega⟩
  have A9 : Aside0 (InB [97, 61, 98]) := ⟨fun x hx => by simp at hx; omega⟩
  have kc := fun (w : World) (C : Array Value) (n c : Nat) => Lib.run_convert_bytes_const (P := Tryd.prog) w 22 5 C n c Tryd.underlying22 Tryd.underlying5
  have HB := Aside0.mk (Below.refl w.heap.size w)
  go_enter Tryd.func18, Tryd.ntmps18
  go_wp2_with (first
    | ((go_at_call 20); (with_reducible refine (unb_calls tTWE [77, 97] 0 0 _ (by decide) A1.out).mono ?_); rintro e w1 ⟨v1, rfl, ho1, hb⟩; (try (have n_ := Aside0.mk (below_step HB.out hb); clear HB; have HB := n_; clear n_)); (try (have n_ := Aside0.mk (OwnB.below O1.out hb); clear O1; have O1 := n_; clear n_)); (try (have n_ := Aside0.mk (OwnB.below O2.out hb); clear O2; have O2 := n_; clear n_)); (try (have n_ := Aside0.mk (blk_below BX.out hb); clear BX; have BX := n_; clear n_)); (try (have n_ := Aside0.mk (blk_below BY.out hb); clear BY; have BY := n_; clear n_)); (try (have n_ := Aside0.mk (ReadsInt.below O5.out hb); clear O5; have O5 := n_; clear n_)); have O1 := Aside0.mk (OwnB.of_R ho1); clear hb ho1)
    | ((go_at_call 16); (with_reducible refine (unq_calls tQ [97, 61, 98] 0 0 _ (GOk.of_below HG HB.out) (by decide) A2.out).mono ?_); rintro e w2 ⟨v2, rfl, ho2, hb⟩; (try (have n_ := Aside0.mk (below_step HB.out hb); clear HB; have HB := n_; clear n_)); (try (have n_ := Aside0.mk (OwnB.below O1.out hb); clear O1; have O1 := n_; clear n_)); (try (have n_ := Aside0.mk (OwnB.below O2.out hb); clear O2; have O2 := n_; clear n_)); (try (have n_ := Aside0.mk (blk_below BX.out hb); clear BX; have BX := n_; clear n_)); (try (have n_ := Aside0.mk (blk_below BY.out hb); clear BY; have BY := n_; clear n_)); (try (have n_ := Aside0.mk (ReadsInt.below O5.out hb); clear O5; have O5 := n_; clear n_)); have O2 := Aside0.mk (OwnB.of_R ho2); clear hb ho2)
    | ((with_reducible refine gate_dst (N := 2) rfl ?_); (try (refine gate_guard (by rfl) ?_; dsimp only)); refine box_event ?hg (N := 2) ?hd (cs := #[.int .i64 0, .int .i64 0]) (t := 29) ?hr ?_; (case hd => rfl); (case hg => rfl); (case hr => first | (go_simp; done) | (go_simp; rfl)); intro gX hgX wX hbox hb0; have hb := (((below_step (by repeat (first | (with_reducible first | exact Below.refl _ _ | apply below_alloc | apply pw_below_drewN | apply below_drew1))) hb0).setCell (p := ⟨gX, 0, none⟩) (by rw [hgX]; exact below_size (by repeat (first | (with_reducible first | exact Below.refl _ _ | apply below_alloc | apply pw_below_drewN | apply below_drew1)))) (.int .i64 0)).setCell (p := ⟨gX, 1, none⟩) (by rw [hgX]; exact below_size (by repeat (first | (with_reducible first | exact Below.refl _ _ | apply below_alloc | apply pw_below_drewN | apply below_drew1)))) (.int .i64 0)); have hc0X : wX.cell? ⟨gX, 0, none⟩ = some (.int .i64 0) := blk_cell hbox 0; have hf0X := blk_frozen hbox 0; have hc1X : wX.cell? ⟨gX, 1, none⟩ = some (.int .i64 0) := blk_cell hbox 1; have hf1X := blk_frozen hbox 1; (try (have n_ := Aside0.mk (below_step HB.out hb); clear HB; have HB := n_; clear n_)); (try (have n_ := Aside0.mk (OwnB.below O1.out hb); clear O1; have O1 := n_; clear n_)); (try (have n_ := Aside0.mk (OwnB.below O2.out hb); clear O2; have O2 := n_; clear n_)); (try (have n_ := Aside0.mk (blk_below BX.out hb); clear BX; have BX := n_; clear n_)); (try (have n_ := Aside0.mk (blk_below BY.out hb); clear BY; have BY := n_; clear n_)); (try (have n_ := Aside0.mk (ReadsInt.below O5.out hb); clear O5; have O5 := n_; clear n_)); have BX := Aside0.mk (blk_put (blk_put hbox 0 (.int .i64 0) rfl) 1 (.int .i64 0) rfl); clear hbox hb hb0 hgX)
    | ((with_reducible refine gate_dst (N := 4) rfl ?_); (try (refine gate_guard (by rfl) ?_; dsimp only)); refine box_event ?hg (N := 4) ?hd (cs := #[.int .i64 0, .int .i64 0]) (t := 29) ?hr ?_; (case hd => rfl); (case hg => rfl); (case hr => first | (go_simp; done) | (go_simp; rfl)); intro gY hgY wY hbox hb0; have hb := (((below_step (by repeat (first | (with_reducible first | exact Below.refl _ _ | apply below_alloc | apply pw_below_drewN | apply below_drew1))) hb0).setCell (p := ⟨gY, 0, none⟩) (by rw [hgY]; exact below_size (by repeat (first | (with_reducible first | exact Below.refl _ _ | apply below_alloc | apply pw_below_drewN | apply below_drew1)))) (.int .i64 0)).setCell (p := ⟨gY, 1, none⟩) (by rw [hgY]; exact below_size (by repeat (first | (with_reducible first | exact Below.refl _ _ | apply below_alloc | apply pw_below_drewN | apply below_drew1)))) (.int .i64 0)); have hc0Y : wY.cell? ⟨gY, 0, none⟩ = some (.int .i64 0) := blk_cell hbox 0; have hf0Y := blk_frozen hbox 0; have hc1Y : wY.cell? ⟨gY, 1, none⟩ = some (.int .i64 0) := blk_cell hbox 1; have hf1Y := blk_frozen hbox 1; (try (have n_ := Aside0.mk (below_step HB.out hb); clear HB; have HB := n_; clear n_)); (try (have n_ := Aside0.mk (OwnB.below O1.out hb); clear O1; have O1 := n_; clear n_)); (try (have n_ := Aside0.mk (OwnB.below O2.out hb); clear O2; have O2 := n_; clear n_)); (try (have n_ := Aside0.mk (blk_below BX.out hb); clear BX; have BX := n_; clear n_)); (try (have n_ := Aside0.mk (blk_below BY.out hb); clear BY; have BY := n_; clear n_)); (try (have n_ := Aside0.mk (ReadsInt.below O5.out hb); clear O5; have O5 := n_; clear n_)); have BY := Aside0.mk (blk_put (blk_put hbox 0 (.int .i64 0) rfl) 1 (.int .i64 0) rfl); clear hbox hb hb0 hgY)
    | ((go_at_call 32); (with_reducible refine (new_calls _).mono ?_); rintro e wN ⟨g, rfl, hgN, hkN, hbN⟩; have HBN := Aside0.mk hbN; have HKN := Aside0.mk hkN; have hgl := blk_lt hkN; have hgne : wN.heap.size ≠ g := (by omega); have HGN := Aside0.mk hgN; clear hbN hkN hgN)
    | ((go_at_call 33); refine (calls_of_args (args' := #[.pointer (some ⟨g, 0, none⟩), .slice (some ⟨wN.heap.size, 0, none⟩) ([84, 87, 69, 61] : List Int).length 4]) rfl ?_); (with_reducible refine (feed_calls _ g St.new (by decide) (some ⟨wN.heap.size, 0, none⟩) 4 [84, 87, 69, 61] _ HGN.out (Nat.le_trans HBN.out.size (by simp)) (blk_alloc HKN.out _) (C_lit (heap_alloc_new wN (.cells #[.int .u8 84, .int .u8 87, .int .u8 69, .int .u8 61] 5 _)) (by decide) rfl) (by intro ad e _; injection e with e; subst e; exact hgne) (by decide) A8.out).mono ?_); rintro e wF ⟨A5', c5, rfl, hr5, hf5, _, _, hb0⟩; have hb := (below_alloc HBN.out _).trans hb0; have hr5' := hr5; rw [A3.out.1] at hr5'; rw [A3.out.1, A3.out.2]; (try (have n_ := Aside0.mk (below_step HB.out hb); clear HB; have HB := n_; clear n_)); (try (have n_ := Aside0.mk (OwnB.below O1.out hb); clear O1; have O1 := n_; clear n_)); (try (have n_ := Aside0.mk (OwnB.below O2.out hb); clear O2; have O2 := n_; clear n_)); (try (have n_ := Aside0.mk (blk_below BX.out hb); clear BX; have BX := n_; clear n_)); (try (have n_ := Aside0.mk (blk_below BY.out hb); clear BY; have BY := n_; clear n_)); (try (have n_ := Aside0.mk (ReadsInt.below O5.out hb); clear O5; have O5 := n_; clear n_)); have O5 := Aside0.mk hr5'; clear hb hb0 hr5 hr5' hf5 HBN HKN HGN)
    | ((go_at_call 19); refine (calls_of_args (args' := #[.slice (some ⟨wF.heap.size, 0, none⟩) ([77, 97] : List Int).length 2]) rfl ?_); (with_reducible refine (code_Base64.calls 5 (fun _ => True) (some ⟨wF.heap.size, 0, none⟩) 2 [77, 97] tTWE _ (V_true (by decide) (C_lit (heap_alloc_new wF (.cells #[.int .u8 77, .int .u8 97] 5 _)) (by decide) rfl)) A4.out).mono ?_); rintro e w6 ⟨rfl, hb0⟩; have hb := below_step (below_alloc (Below.refl wF.heap.size wF) _) hb0; (try (have n_ := Aside0.mk (below_step HB.out hb); clear HB; have HB := n_; clear n_)); (try (have n_ := Aside0.mk (OwnB.below O1.out hb); clear O1; have O1 := n_; clear n_)); (try (have n_ := Aside0.mk (OwnB.below O2.out hb); clear O2; have O2 := n_; clear n_)); (try (have n_ := Aside0.mk (blk_below BX.out hb); clear BX; have BX := n_; clear n_)); (try (have n_ := Aside0.mk (blk_below BY.out hb); clear BY; have BY := n_; clear n_)); (try (have n_ := Aside0.mk (ReadsInt.below O5.out hb); clear O5; have O5 := n_; clear n_)); have hcv1 := own_string (P := Tryd.prog) Tryd.underlying22 Tryd.underlying5 Tryd.underlying9 O1.out; rw [A6.out] at hcv1; have hcx := (blk_cell BX.out 0 : w6.cell? ⟨gX, 0, none⟩ = some (.int .i64 0)); clear hb hb0)
    | ((go_at_call 12); refine (calls_of_args (args' := #[.slice (some ⟨w6.heap.size, 0, none⟩) ([97, 61, 98] : List Int).length 3]) rfl ?_); (with_reducible refine (quote_calls (some ⟨w6.heap.size, 0, none⟩) 3 [97, 61, 98] _ (GOk.of_below HG (below_alloc HB.out _)) (C_lit (heap_alloc_new w6 (.cells #[.int .u8 97, .int .u8 61, .int .u8 98] 5 _)) (by decide) rfl) (by decide) A9.out (by decide)).mono ?_); rintro e w7 ⟨rfl, hb0⟩; rw [A5.out]; have hb := below_step (below_alloc (Below.refl w6.heap.size w6) _) hb0; (try (have n_ := Aside0.mk (below_step HB.out hb); clear HB; have HB := n_; clear n_)); (try (have n_ := Aside0.mk (OwnB.below O1.out hb); clear O1; have O1 := n_; clear n_)); (try (have n_ := Aside0.mk (OwnB.below O2.out hb); clear O2; have O2 := n_; clear n_)); (try (have n_ := Aside0.mk (blk_below BX.out hb); clear BX; have BX := n_; clear n_)); (try (have n_ := Aside0.mk (blk_below BY.out hb); clear BY; have BY := n_; clear n_)); (try (have n_ := Aside0.mk (ReadsInt.below O5.out hb); clear O5; have O5 := n_; clear n_)); have hcv2 := own_string (P := Tryd.prog) Tryd.underlying22 Tryd.underlying5 Tryd.underlying9 O2.out; rw [A7.out] at hcv2; have hcv5 := string_of_row (n := 2) (c := c5) O5.out; rw [A6.out] at hcv5; have hcy := (blk_cell BY.out 0 : w7.cell? ⟨gY, 0, none⟩ = some (.int .i64 0)); clear hb hb0))
  go_ret
  exact ⟨rfl, HB.out⟩
theorem posthornlaw04_wakes.calls (r : Bool) (w : World) (HG : GOk w) (h : posthornlaw04_wakes.f = some r) :
    Calls Tryd.prog 18 #[] w fun e w' => e = .returned (.bool r) ∧ Below w.heap.size w w' := by
  obtain rfl := Option.some.inj h
  exact wakes_calls w HG
end Go.Proofs.YtokgckhhhhigiaaDoor.WK
namespace Go.Proofs.YtokgckhhhhigiaaDoor.CM
set_option linter.unusedVariables false
set_option linter.unusedSimpArgs false
open Go.RowKit Go.Proofs.YtokgckhhhhigiaaDoorW.PrintWords Go.Proofs.YtokgckhhhhigiaaDoorW.PrintLast Go.Proofs.YtokgckhhhhigiaaDoorW.PrintMore Go.Proofs.YtokgckhhhhigiaaDoor.B Go.Proofs.YtokgckhhhhigiaaDoor.M Go.Proofs.YtokgckhhhhigiaaDoor.Turn Go.Proofs.YtokgckhhhhigiaaDoor.Glob Go.Proofs.YtokgckhhhhigiaaDoor.Q Go.Proofs.YtokgckhhhhigiaaDoor.QW Go.Proofs.YtokgckhhhhigiaaDoor.UW Go.Proofs.YtokgckhhhhigiaaDoor.Rd Go.Proofs.YtokgckhhhhigiaaDoor.Fd Go.Proofs.YtokgckhhhhigiaaDoor.FdW Go.Proofs.YtokgckhhhhigiaaDoor.B64

def allB (xs : List Int) : Bool := xs.all fun x => decide (0 ≤ x) && decide (x ≤ 255)
theorem allB_in {xs : List Int} : allB xs = true ↔ InB xs := by
  unfold allB InB
  simp only [List.all_eq_true, Bool.and_eq_true, decide_eq_true_eq]
def code_Unbase64.f (a0 : ByteArray) : Option (List Int × Int × Int) := if a0.size ≤ 40000000000000 then some (unbL (bytesOf a0) St.new [] 0) else none
theorem code_Unbase64.calls (a0 : ByteArray) (r1 : List Int) (r2 r3 : Int) (w : World) (h : code_Unbase64.f a0 = some (r1, r2, r3)) :
    Calls Tryd.prog 20 #[.string a0] w fun e w' => ∃ v0_ : Value, e = .returned (.tuple #[v0_, .agg #[.int .i64 r2, .int .i64 r3]]) ∧ Kd.R (Kd.int .u8) 5 w' w.heap.size (fun _ => True) v0_ r1 ∧ Below w.heap.size w w' := by
  unfold code_Unbase64.f at h
  by_cases hs : a0.size ≤ 40000000000000
  · rw [if_pos hs] at h
    exact unb_calls a0 r1 r2 r3 w hs (Option.some.inj h)
  · rw [if_neg hs] at h; cases h
def code_Base64.f (l0 : List Int) : Option ByteArray := if allB l0 = true ∧ l0.length ≤ 10000000000000 then some (strOfNums (b64 l0)) else none
theorem code_Base64.calls (A0 : Option Addr) (c0 : Nat) (l0 : List Int) (r : ByteArray) (w : World) (hr0 : Kd.C (Kd.int .u8) w A0 l0.length l0) (hc0 : l0.length ≤ c0) (h : code_Base64.f l0 = some r) :
    Calls Tryd.prog 19 #[.slice A0 l0.length c0] w fun e w' => e = .returned (.string r) ∧ Below w.heap.size w w' := by
  unfold code_Base64.f at h
  by_cases hs : allB l0 = true ∧ l0.length ≤ 10000000000000
  · rw [if_pos hs] at h
    obtain rfl := Option.some.inj h
    obtain ⟨k, hk⟩ := Base64_ev l0 (allB_in.1 hs.1) (by omega)
    exact D.code_Base64.calls k (fun _ => True) A0 c0 l0 _ w (Lent.V_true hc0 hr0) (hk k (Nat.le_refl _))
  · rw [if_neg hs] at h; cases h
def code_Rows.f (l0 : List Int) (a1 : Int) : Option (ByteArray × Int) := if allB l0 = true ∧ l0.length ≤ 10000000000000 then some (rowsR l0 a1) else none
theorem code_Rows.calls (A0 : Option Addr) (c0 : Nat) (l0 : List Int) (a1 : Int) (r1 : ByteArray) (r2 : Int) (w : World) (hr0 : Kd.C (Kd.int .u8) w A0 l0.length l0) (hc0 : l0.length ≤ c0) (h : code_Rows.f l0 a1 = some (r1, r2)) :
    Calls Tryd.prog 23 #[.slice A0 l0.length c0, .int .i64 a1] w fun e w' => e = .returned (.tuple #[.string r1, .int .i64 r2]) ∧ Below w.heap.size w w' := by
  unfold code_Rows.f at h
  by_cases hs : allB l0 = true ∧ l0.length ≤ 10000000000000
  · rw [if_pos hs] at h
    obtain ⟨k, hk⟩ := Rows_ev l0 a1 (allB_in.1 hs.1) hs.2
    rw [Option.some.inj h] at hk
    exact D.code_Rows.calls k A0 c0 l0 a1 r1 r2 w hr0 hc0 (hk k (Nat.le_refl _))
  · rw [if_neg hs] at h; cases h
def posthornref04_Unbase64.f (a0 : ByteArray) : Option (List Int × Int × Int) := if a0.size ≤ 40000000000000 then some (unbL (bytesOf a0) St.new [] 0) else none
theorem posthornref04_Unbase64.calls (a0 : ByteArray) (r1 : List Int) (r2 r3 : Int) (w : World) (h : posthornref04_Unbase64.f a0 = some (r1, r2, r3)) :
    Calls Tryd.prog 21 #[.string a0] w fun e w' => ∃ v0_ : Value, e = .returned (.tuple #[v0_, .agg #[.int .i64 r2, .int .i64 r3]]) ∧ Kd.R (Kd.int .u8) 5 w' w.heap.size (fun _ => True) v0_ r1 ∧ Below w.heap.size w w' := by
  unfold posthornref04_Unbase64.f at h
  by_cases hs : a0.size ≤ 40000000000000
  · rw [if_pos hs] at h
    obtain ⟨k, hk⟩ := UnbP.Unbase64_ev a0 hs
    rw [Option.some.inj h] at hk
    exact D.posthornref04_Unbase64.calls k a0 r1 r2 r3 w (hk k (Nat.le_refl _))
  · rw [if_neg hs] at h; cases h
def code_Unquote.f (a0 : ByteArray) : Option (List Int × Int × Int) := if a0.size ≤ 40000000000000 then some (unq (bytesOf a0)) else none
theorem code_Unquote.calls (a0 : ByteArray) (r1 : List Int) (r2 r3 : Int) (w : World) (HG : GOk w) (h : code_Unquote.f a0 = some (r1, r2, r3)) :
    Calls Tryd.prog 16 #[.string a0] w fun e w' => ∃ v0_ : Value, e = .returned (.tuple #[v0_, .agg #[.int .i64 r2, .int .i64 r3]]) ∧ Kd.R (Kd.int .u8) 5 w' w.heap.size (fun _ => True) v0_ r1 ∧ Below w.heap.size w w' := by
  unfold code_Unquote.f at h
  by_cases hs : a0.size ≤ 40000000000000
  · rw [if_pos hs] at h
    exact unq_calls a0 r1 r2 r3 w HG hs (Option.some.inj h)
  · rw [if_neg hs] at h; cases h
def code_Quote.f (l0 : List Int) : Option ByteArray := if allB l0 = true ∧ l0.length ≤ 10000000000000 then some (strOfNums (quo l0)) else none
theorem code_Quote.calls (A0 : Option Addr) (c0 : Nat) (l0 : List Int) (r : ByteArray) (w : World) (hr0 : Kd.C (Kd.int .u8) w A0 l0.length l0) (hc0 : l0.length ≤ c0) (HG : GOk w) (h : code_Quote.f l0 = some r) :
    Calls Tryd.prog 12 #[.slice A0 l0.length c0] w fun e w' => e = .returned (.string r) ∧ Below w.heap.size w w' := by
  unfold code_Quote.f at h
  by_cases hs : allB l0 = true ∧ l0.length ≤ 10000000000000
  · rw [if_pos hs] at h
    obtain rfl := Option.some.inj h
    exact quote_calls A0 c0 l0 w HG hr0 hc0 (allB_in.1 hs.1) hs.2
  · rw [if_neg hs] at h; cases h
def posthornlaw04_fed.f (l0 l1 : List Int) : Option (List Int × Int × Int × Bool) := if allB l0 = true ∧ l0.length ≤ 10000000000000 ∧ l1.length ≤ 10000000000000 then some (fedR l0) else none
theorem posthornlaw04_fed.calls (A0 : Option Addr) (c0 : Nat) (l0 : List Int) (A1 : Option Addr) (c1 : Nat) (l1 : List Int) (r1 : List Int) (r2 r3 : Int) (r4 : Bool) (w : World) (hr0 : Kd.C (Kd.int .u8) w A0 l0.length l0) (hc0 : l0.length ≤ c0) (hr1 : Kd.C (Kd.int .i64) w A1 l1.length l1) (hc1 : l1.length ≤ c1) (h : posthornlaw04_fed.f l0 l1 = some (r1, r2, r3, r4)) :
    Calls Tryd.prog 22 #[.slice A0 l0.length c0, .slice A1 l1.length c1] w fun e w' => ∃ v0_ : Value, e = .returned (.tuple #[v0_, .int .i64 r2, .int .i64 r3, .bool r4]) ∧ Kd.R (Kd.int .u8) 5 w' w.heap.size (fun _ => True) v0_ r1 ∧ Below w.heap.size w w' := by
  unfold posthornlaw04_fed.f at h
  by_cases hs : allB l0 = true ∧ l0.length ≤ 10000000000000 ∧ l1.length ≤ 10000000000000
  · rw [if_pos hs] at h
    have h := Option.some.inj h
    have := fed_calls A0 A1 c0 c1 l0 l1 w hr0 hc0 hr1 (allB_in.1 hs.1) hs.2.1 hs.2.2
    rw [h] at this
    exact this
  · rw [if_neg hs] at h; cases h
def posthornlaw04_wakes.f : Option Bool := some true
theorem posthornlaw04_wakes.calls (r : Bool) (w : World) (HG : GOk w) (h : posthornlaw04_wakes.f = some r) :
    Calls Tryd.prog 18 #[] w fun e w' => e = .returned (.bool r) ∧ Below w.heap.size w w' := by
  obtain rfl := Option.some.inj h
  exact WK.wakes_calls w HG
end Go.Proofs.YtokgckhhhhigiaaDoor.CM
