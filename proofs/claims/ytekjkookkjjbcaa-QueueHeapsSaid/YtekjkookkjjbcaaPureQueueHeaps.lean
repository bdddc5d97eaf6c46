/- QueueHeaps: every script with two heaps by one order (walked by hand). -/
import Derived.Test.YtekjkookkjjbcaaHeapsC
namespace Go.Proofs.Ytekjkookkjjbcaa.Pure
set_option linter.unusedVariables false
set_option linter.unusedSimpArgs false
set_option linter.unusedVariables false
set_option linter.unusedSimpArgs false
open Go.RowKit Go.Proofs.YtekjkookkjjbcaaW.PrintWords Go.Proofs.YtekjkookkjjbcaaW.PrintLast Go.Proofs.YtekjkookkjjbcaaW.PrintMore Go.Proofs.Ytekjkookkjjbcaa.B Go.Proofs.Ytekjkookkjjbcaa.M Go.Proofs.Ytekjkookkjjbcaa.HW Go.Proofs.Ytekjkookkjjbcaa.RH Go.Proofs.Ytekjkookkjjbcaa.HT
/-- What stands before step t. -/
structure TT (w W : World) (t : Nat) (la ma : Nat) : Prop where
  ex : ∃ G R B RB CM PS, TH w W G R B RB CM PS (fun i => (PS i).map th) la ma ∧ ∀ i, i < 2 → 0 ≤ CM i ∧ CM i ≤ (t : Int)
section
variable {w W : World} {g a o t K : Nat} {c : Int → Int → Int} {came : Int} {ps : List T3} {gs : List T2} {b : Option Nat} {cs : Array Value} {v : Value}
theorem HQ_set (h : HQ w W g K c came ps b) (hb : W.heap[a]? = some (.cells cs t (0, 0))) (h1 : 97 ≠ t) (h2 : 101 ≠ t) (ha : w.heap.size ≤ a) : HQ w (W.setCell ⟨a, o, none⟩ v) g K c came ps b := by
  obtain ⟨⟨ci, hci⟩, _⟩ := h.blk
  refine h.kept (below_set h.bl ha) (Below.heap_setCell W ⟨a, o, none⟩ _ g (type_ne hci hb h1)) (fun k hk => ?_)
  obtain ⟨⟨cr, hcr⟩, _⟩ := h.row k hk
  exact Below.heap_setCell W ⟨a, o, none⟩ _ k (type_ne hcr hb h2)
theorem RQ_set (h : RQ w W g gs b) (hb : W.heap[a]? = some (.cells cs t (0, 0))) (h1 : 99 ≠ t) (h2 : 29 ≠ t) (ha : w.heap.size ≤ a) : RQ w (W.setCell ⟨a, o, none⟩ v) g gs b := by
  obtain ⟨⟨ci, hci⟩, _⟩ := h.blk
  refine h.kept (below_set h.bl ha) (Below.heap_setCell W ⟨a, o, none⟩ _ g (type_ne hci hb h1)) (fun k hk => ?_)
  obtain ⟨⟨cr, hcr⟩, _⟩ := h.row k hk
  exact Below.heap_setCell W ⟨a, o, none⟩ _ k (type_ne hcr hb h2)
end
abbrev tL : Nat := 24
abbrev tM : Nat := 26
abbrev ptr (g : Nat) : Value := .pointer (some ⟨g, 0, none⟩)
/-- The two arrays, of which j places are laid. -/
structure L0 (w W : World) (la ma : Nat) (x0 x1 y0 y1 : Value) : Prop where
  bl : Below w.heap.size w W
  al : W.heap[la]? = some (.cells #[x0, x1] tL (0, 0))
  am : W.heap[ma]? = some (.cells #[y0, y1] tM (0, 0))
  lw : w.heap.size ≤ la
  mw : w.heap.size ≤ ma
theorem L0.below {w W W' : World} {la ma : Nat} {x0 x1 y0 y1 : Value} (h : L0 w W la ma x0 x1 y0 y1) (hb : Below W.heap.size W W') : L0 w W' la ma x0 x1 y0 y1 := ⟨below_step h.bl hb, blk_below h.al hb, blk_below h.am hb, h.lw, h.mw⟩
theorem L0.putL {w W : World} {la ma : Nat} {x0 x1 y0 y1 : Value} (h : L0 w W la ma x0 x1 y0 y1) (q : Nat) (v : Value) : L0 w (W.setCell ⟨la, q, none⟩ v) la ma ((#[x0, x1].setIfInBounds q v).getD 0 undef) ((#[x0, x1].setIfInBounds q v).getD 1 undef) y0 y1 := by
  refine ⟨below_set h.bl h.lw, ?_, (Below.heap_setCell W ⟨la, q, none⟩ v ma (type_ne h.am h.al (by decide))).trans h.am, h.lw, h.mw⟩
  rw [blk_set h.al q v]
  match q with
  | 0 => rfl
  | 1 => rfl
  | n + 2 => simp
theorem L0.putM {w W : World} {la ma : Nat} {x0 x1 y0 y1 : Value} (h : L0 w W la ma x0 x1 y0 y1) (q : Nat) (v : Value) : L0 w (W.setCell ⟨ma, q, none⟩ v) la ma x0 x1 ((#[y0, y1].setIfInBounds q v).getD 0 undef) ((#[y0, y1].setIfInBounds q v).getD 1 undef) := by
  refine ⟨below_set h.bl h.mw, (Below.heap_setCell W ⟨ma, q, none⟩ v la (type_ne h.al h.am (by decide))).trans h.al, ?_, h.lw, h.mw⟩
  rw [blk_set h.am q v]
  match q with
  | 0 => rfl
  | 1 => rfl
  | n + 2 => simp
/-- One heap and one of the reference's, laid. -/
structure L1 (w W : World) (la ma g r : Nat) : Prop where
  l : L0 w W la ma (ptr g) (.pointer none) (ptr r) (.pointer none)
  hq : HQ w W g 13 kcmp 0 [] none
  rq : RQ w W r [] none
theorem TT.mk0 {w W : World} {la ma g0 g1 r0 r1 : Nat} (l : L0 w W la ma (ptr g0) (ptr g1) (ptr r0) (ptr r1)) (h0 : HQ w W g0 13 kcmp 0 [] none) (h1 : HQ w W g1 13 kcmp 0 [] none) (q0 : RQ w W r0 [] none) (q1 : RQ w W r1 [] none) (hg : g0 < g1) (hr : r0 < r1) : TT w W 0 la ma := by
  refine ⟨⟨fun i => if i = 0 then g0 else g1, fun i => if i = 0 then r0 else r1, fun _ => none, fun _ => none, fun _ => 0, fun _ => [], ⟨l.bl, fun i hi => ?_, fun i hi => ?_, l.al, l.am, l.lw, l.mw, fun i j hi hj hij => ?_, fun i j hi hj hij => ?_, (fun i j _ _ _ k hk => by cases hk), (fun i j _ _ _ k hk => by cases hk)⟩, fun i hi => ⟨Int.le_refl _, by simp⟩⟩⟩
  · by_cases e : i = 0
    · rw [if_pos e]; exact h0
    · rw [if_neg e]; exact h1
  · by_cases e : i = 0
    · rw [if_pos e]; exact q0
    · rw [if_neg e]; exact q1
  · show (if i = 0 then g0 else g1) ≠ (if j = 0 then g0 else g1)
    split <;> split <;> omega
  · show (if i = 0 then r0 else r1) ≠ (if j = 0 then r0 else r1)
    split <;> split <;> omega
theorem TT.below {w W W' : World} {t la ma : Nat} (h : TT w W t la ma) (hb : Below W.heap.size W W') : TT w W' t la ma := by
  obtain ⟨G, R, B, RB, CM, PS, h1, h2⟩ := h.ex
  exact ⟨G, R, B, RB, CM, PS, h1.below hb, h2⟩
theorem TT.bl {w W : World} {t la ma : Nat} (h : TT w W t la ma) : Below w.heap.size w W := by
  obtain ⟨G, R, B, RB, CM, PS, h1, h2⟩ := h.ex
  exact h1.bl
theorem _root_.Go.Proofs.Ytekjkookkjjbcaa.HT.TH.reP {w W : World} {G R : Nat → Nat} {B RB : Nat → Option Nat} {CM : Nat → Int} {PS : Nat → List T3} {PR PR' : Nat → List T2} {la ma : Nat} (h : TH w W G R B RB CM PS PR la ma) (e : PR = PR') : TH w W G R B RB CM PS PR' la ma := e ▸ h
set_option maxHeartbeats 8000000 in
set_option maxRecDepth 100000 in
theorem heaps_good (a1 : Option Addr) (n cap1 : Nat) (w : World) (who op num : Nat → Int) (hn : n ≤ 8796093022208)
    (h1 : ∀ i, i < n → ∃ x, a1 = some x ∧ w.cell? (x.add (i * 3)) = some (.int .i64 (who i)) ∧ w.cell? ⟨(x.add (i * 3)).block, (x.add (i * 3)).off + 1, none⟩ = some (.int .i64 (op i)) ∧ w.cell? ⟨(x.add (i * 3)).block, (x.add (i * 3)).off + 2, none⟩ = some (.int .i64 (num i))) :
    Calls Try.prog 3 #[.slice a1 n cap1] w fun e w' => e = .returned (.bool true) ∧ Below w.heap.size w w' := by
  have H1 := Aside0.mk h1
  have HN := Aside0.mk hn
  clear h1 hn
  obtain ⟨la, hla⟩ : ∃ la, w.heap.size = la := ⟨_, rfl⟩
  have HLA := Aside0.mk hla
  have hL0 : (w.alloc (.cells #[.pointer none, .pointer none] 24 (0, 0))).heap[la]? = some (.cells #[.pointer none, .pointer none] 24 (0, 0)) := by rw [← hla]; exact heap_alloc_new w _
  go_enter Try.func3, Try.ntmps3
  go_wp2_with (fail)
  have HW0 : Aside0 (L0 w ((w.alloc (.cells #[.pointer none, .pointer none] tL (0, 0))).alloc (.cells #[.pointer none, .pointer none] tM (0, 0))) la (la + 1) (.pointer none) (.pointer none) (.pointer none) (.pointer none)) := by
    refine ⟨⟨below_alloc (below_alloc (Below.refl _ _) _) _, blk_below hL0 (below_alloc (Below.refl _ _) _), ?_, by omega, by omega⟩⟩
    have := heap_alloc_new (w.alloc (.cells #[.pointer none, .pointer none] tL (0, 0))) (.cells #[.pointer none, .pointer none] tM (0, 0))
    rw [World.size_alloc, hla] at this
    exact this
  obtain ⟨ma, hma⟩ : ∃ ma, la + 1 = ma := ⟨_, rfl⟩
  rw [hma] at HW0
  rw [hma]
  clear hL0 hla hma
  generalize (w.alloc (.cells #[.pointer none, .pointer none] tL (0, 0))).alloc (.cells #[.pointer none, .pointer none] tM (0, 0)) = W0 at HW0 ⊢
  go_loopg [19] 3 (fun kq v19 W => ∃ (j : Nat), v19 = .int .i64 (j : Int) ∧ Aside0 (2 - j < kq) ∧ Aside0 ((j = 0 ∧ L0 w W la ma (.pointer none) (.pointer none) (.pointer none) (.pointer none)) ∨ (j = 1 ∧ ∃ g r, L1 w W la ma g r) ∨ (j = 2 ∧ TT w W 0 la ma)))
  case atStart => exact ⟨0, rfl, ⟨by omega⟩, ⟨.inl ⟨rfl, HW0.out⟩⟩⟩
  case round =>
    clear HW0
    obtain ⟨j, rfl, HJ, HS⟩ := hrel
    rcases HS.out with ⟨rfl, h0⟩ | ⟨rfl, g0, r0, h0⟩ | ⟨rfl, h0⟩
    · clear HS
      cases gk with
      | zero => exact absurd HJ.out (Nat.not_lt_zero _)
      | succ k9 =>
      have H0 := Aside0.mk h0
      clear h0
      go_wp2_with (first
        | ((go_at_call 12); (with_reducible refine (newheap_q (w0 := w) H0.out.bl).mono ?_); rintro e w1 ⟨g, rfl, hq, hb, hge⟩; have n0 := Aside0.mk (H0.out.below hb); clear H0; have H0 := n0; clear n0; have c0 := blk_cell H0.out.al 0; have f0 := blk_frozen H0.out.al 0; have n1 := Aside0.mk (And.intro (HQ_set (o := 0) (v := ptr g) hq H0.out.al (by decide) (by decide) H0.out.lw) (H0.out.putL 0 (ptr g))); clear hq hb hge)
        | ((go_at_call 14); (with_reducible refine (rnew_calls w _ n1.out.2.bl).mono ?_); rintro e w2 ⟨r, rfl, hr, hb, hge⟩; have n2 := Aside0.mk (n1.out.2.below hb); have n3 := Aside0.mk (n1.out.1.below hb); have d0 := blk_cell n2.out.am 0; have g0' := blk_frozen n2.out.am 0; have n4 : Aside0 (RQ w w2 r [] none) := ⟨⟨_, hr, rfl⟩⟩; clear hr hb hge))
      go_roundg k9
      case measure => omega
      case rel => exact ⟨1, rfl, ⟨by have h_ := HJ.out; omega⟩, ⟨.inr (.inl ⟨rfl, g, r, n2.out.putM 0 (ptr r), HQ_set n3.out n2.out.am (by decide) (by decide) n2.out.mw, RQ_set n4.out n2.out.am (by decide) (by decide) n2.out.mw⟩)⟩⟩
    · clear HS
      cases gk with
      | zero => exact absurd HJ.out (Nat.not_lt_zero _)
      | succ k9 =>
      have H0 := Aside0.mk h0.l
      have HQ0 := Aside0.mk h0.hq
      have HR0 := Aside0.mk h0.rq
      clear h0
      go_wp2_with (first
        | ((go_at_call 12); (with_reducible refine (newheap_q (w0 := w) H0.out.bl).mono ?_); rintro e w1 ⟨g, rfl, hq, hb, hge⟩; have HGE : Aside0 (g0 < g) := ⟨by obtain ⟨⟨c_, h_⟩, _⟩ := HQ0.out.blk; have := blk_lt h_; omega⟩; have HRG := Aside0.mk (And.intro (HR0.out.blk.1.elim (fun c h => blk_lt h)) hb.size); have n0 := Aside0.mk (H0.out.below hb); clear H0; have H0 := n0; clear n0; have c0 := blk_cell H0.out.al 1; have f0 := blk_frozen H0.out.al 1; have m0 := Aside0.mk (And.intro (HQ_set (o := 1) (v := ptr g) (HQ0.out.below hb) H0.out.al (by decide) (by decide) H0.out.lw) (RQ_set (o := 1) (v := ptr g) (HR0.out.below hb) H0.out.al (by decide) (by decide) H0.out.lw)); have n1 := Aside0.mk (And.intro (HQ_set (o := 1) (v := ptr g) hq H0.out.al (by decide) (by decide) H0.out.lw) (H0.out.putL 1 (ptr g))); clear hq hb hge)
        | ((go_at_call 14); (with_reducible refine (rnew_calls w _ n1.out.2.bl).mono ?_); rintro e w2 ⟨r, rfl, hr, hb, hge⟩; have HGR : Aside0 (r0 < r) := ⟨by obtain ⟨⟨c_, h_⟩, _⟩ := m0.out.2.blk; have := blk_lt h_; omega⟩; have n2 := Aside0.mk (n1.out.2.below hb); have n3 := Aside0.mk (n1.out.1.below hb); have m3 := Aside0.mk (And.intro (m0.out.1.below hb) (m0.out.2.below hb)); have d0 := blk_cell n2.out.am 1; have g0' := blk_frozen n2.out.am 1; have n4 : Aside0 (RQ w w2 r [] none) := ⟨⟨_, hr, rfl⟩⟩; clear hr hb hge))
      go_roundg k9
      case measure => omega
      case rel => exact ⟨2, rfl, ⟨by have h_ := HJ.out; omega⟩, ⟨.inr (.inr ⟨rfl, TT.mk0 (n2.out.putM 1 (ptr r)) (HQ_set m3.out.1 n2.out.am (by decide) (by decide) n2.out.mw) (HQ_set n3.out n2.out.am (by decide) (by decide) n2.out.mw) (RQ_set m3.out.2 n2.out.am (by decide) (by decide) n2.out.mw) (RQ_set n4.out n2.out.am (by decide) (by decide) n2.out.mw) HGE.out HGR.out⟩)⟩⟩
    · clear HS HJ
      have HT := Aside0.mk h0
      clear h0
      go_wp2_with (fail)
      go_loopg [31] (n + 1) (fun kq v31 W => ∃ i : Nat, v31 = .int .i64 (i : Int) ∧ Aside0 (n - i < kq ∧ i ≤ n) ∧ Aside0 (TT w W i la ma))
      case atStart => exact ⟨0, rfl, ⟨by omega, by omega⟩, HT⟩
      case round =>
        clear HT
        obtain ⟨i, rfl, HI, HT⟩ := hrel
        by_cases hlt : i < n
        · have hl2 : decide ((i : Int) < (n : Int)) = true := decide_eq_true (by omega)
          have hl3 : decide (i < n) = true := decide_eq_true hlt
          obtain ⟨x, rfl, x0, x1, x2⟩ := H1.out i hlt
          have c0 := pw_cell_below HT.out.bl x0
          have c1 := pw_cell_below HT.out.bl x1
          have c2 := pw_cell_below HT.out.bl x2
          have p1 := eq_true (show (0 : Int) ≤ (i : Int) by omega)
          have p2 := eq_true (show (i : Int) < (n : Int) by omega)
          have q1 : IntKind.i64.wrap ((i : Int) + 1) = ((i + 1 : Nat) : Int) := by have h_ := HI.out; have h2_ := HN.out; rw [i64_w, wrap_id _ (by omega) (by omega)]; rfl
          cases gk with
          | zero => exact absurd HI.out.1 (Nat.not_lt_zero _)
          | succ k9 =>
          have HI2 := Aside0.mk (show n - (i + 1) < k9 ∧ i + 1 ≤ n from ⟨by have h_ := HI.out; omega, by omega⟩)
          clear x0 x1 x2 hlt
          by_cases hw : who i < 0 ∨ who i > 1
          · have HT3 : Aside0 (TT w (wr.alloc (.cells #[.int .i64 (who i), .int .i64 (op i), .int .i64 (num i)] 33 (0, 0))) (i + 1) la ma) := ⟨(by
              obtain ⟨G, R, B, RB, CM, PS, hT, hC⟩ := HT.out.ex
              exact ⟨G, R, B, RB, CM, PS, hT.below (below_alloc (Below.refl _ _) _), fun j hj => by have := hC j hj; omega⟩)⟩
            generalize who i = wi at *
            by_cases hw1 : wi < 0
            · have w1 : decide (wi < 0) = true := decide_eq_true hw1
              clear hw hw1
              go_wp2_with (fail)
              go_roundg k9
              case measure => omega
              case rel => exact ⟨i + 1, rfl, HI2, HT3⟩
            · have w1 : decide (wi < 0) = false := decide_eq_false hw1
              have w2 : decide (wi > 1) = true := decide_eq_true (by omega)
              have w3 : decide (1 < wi) = true := decide_eq_true (by omega)
              clear hw hw1
              go_wp2_with (fail)
              go_roundg k9
              case measure => omega
              case rel => exact ⟨i + 1, rfl, HI2, HT3⟩
          · obtain ⟨q, hq2, hwq⟩ : ∃ q : Nat, q < 2 ∧ who i = (q : Int) := ⟨(who i).toNat, by omega, by omega⟩
            have w1 : decide ((q : Int) < 0) = false := decide_eq_false (by omega)
            have w2 : decide ((q : Int) > 1) = false := decide_eq_false (by omega)
            have w3 : decide (1 < (q : Int)) = false := decide_eq_false (by omega)
            have w4 : decide (1 < q) = false := decide_eq_false (by omega)
            have p3 := eq_true (show (0 : Int) ≤ (q : Int) by omega)
            have p4 := eq_true (show (q : Int) < 2 by omega)
            have p5 := eq_true (show q < 2 from hq2)
            rw [hwq] at c0
            obtain ⟨d, hd⟩ : ∃ d, op i = d := ⟨_, rfl⟩
            obtain ⟨N, hN⟩ : ∃ N, num i = N := ⟨_, rfl⟩
            rw [hd] at c1
            rw [hN] at c2
            have HQ2 := Aside0.mk hq2
            clear hw hwq hd hN hq2
            obtain ⟨G, R, B, RB, CM, PS, hTH, hCM⟩ := HT.out.ex
            have HCM := Aside0.mk (hCM q HQ2.out)
            have HCM0 := Aside0.mk hCM
            have hTH1 := hTH.below (below_alloc (Below.refl _ _) (.cells #[.int .i64 (q : Int), .int .i64 d, .int .i64 N] 33 (0, 0)))
            have cl := hTH1.cell_l HQ2.out
            have cm := hTH1.cell_m HQ2.out
            have HTH := Aside0.mk hTH1
            have hTHr := hTH
            clear hTH hCM hTH1 HT
            have hbox := Box.new hTHr #[.int .i64 (q : Int), .int .i64 d, .int .i64 N] 33 (by decide) (by decide) (by decide)
            go_upto_block 4 with (fail)
            obtain ⟨ob, hob⟩ : ∃ ob, wr.heap.size = ob := ⟨_, rfl⟩
            rw [hob] at hbox
            rw [hob]
            obtain ⟨V, hV⟩ : ∃ V, wr.alloc (.cells #[.int .i64 (q : Int), .int .i64 d, .int .i64 N] 33 (0, 0)) = V := ⟨_, rfl⟩
            rw [hV] at hbox HTH
            rw [hV]
            have HB := Aside0.mk hbox
            clear hbox hV hob hTHr c0 c1 c2 cl cm w1 w2 w3 w4 p1 p2
            have HE : Aside0 (∀ j, (fun j => (PS j).map th) j = (PS j).map th) := ⟨fun _ => rfl⟩
            generalize hPR : (fun j => (PS j).map th) = PR at HTH HE
            clear hPR
            go_cut [10, 11, 12, 13, 14, 15, 16, 17, 18] from 54 to 116 (fun s10 s11 s12 s13 s14 s15 s16 s17 s18 wx => Aside0 (∃ G R B RB CM PS, TH w wx G R B RB CM PS (fun i => (PS i).map th) la ma ∧ (∀ j, j < 2 → 0 ≤ CM j ∧ CM j ≤ ((i + 1 : Nat) : Int)) ∧ Box wx ob 33 #[.int .i64 (q : Int), .int .i64 d, .int .i64 N] RB))
            case first =>
              have q4 := HQ2.out
              by_cases d0 : d = 0
              · subst d0
                have hvb := Box.new HTH.out #[.int .i64 N, .int .i64 (i : Int)] 29 (by decide) (by decide) (by decide)
                have HB2 := Aside0.mk (HB.out.below (below_alloc (Below.refl _ _) (.cells #[.int .i64 N, .int .i64 (i : Int)] 29 (0, 0))))
                have HT2 := Aside0.mk (HTH.out.below (below_alloc (Below.refl _ _) (.cells #[.int .i64 N, .int .i64 (i : Int)] 29 (0, 0))))
                have b2 := blk_cell HB.out.bk 2
                go_upto_region 18 with (fail)
                obtain ⟨vb, hvbe⟩ : ∃ vb, V.heap.size = vb := ⟨_, rfl⟩
                rw [hvbe] at hvb
                rw [hvbe]
                obtain ⟨V2, hV2⟩ : ∃ V2, V.alloc (.cells #[.int .i64 N, .int .i64 (i : Int)] 29 (0, 0)) = V2 := ⟨_, rfl⟩
                rw [hV2] at hvb HB2 HT2
                rw [hV2]
                have HV2 := Aside0.mk hvb
                have HS : Aside0 (V2.cell? ⟨vb, 0, none⟩ = some (.int .i64 N) ∧ V2.cell? ⟨vb, 1, none⟩ = some (.int .i64 (i : Int))) := ⟨blk_cell hvb.bk 0, blk_cell hvb.bk 1⟩
                clear hvb hvbe hV2 b2
                by_cases hf : (PS q).length < 1048576
                · have hf2 : (PR q).length < 1048576 := by rw [HE.out q, List.length_map]; exact hf
                  have HF := Aside0.mk (And.intro hf hf2)
                  clear hf hf2
                  have hcmq : 0 ≤ CM q ∧ CM q < 4611686018427387904 := by have h_ := HCM.out; have h2_ := HI2.out; have h3_ := HN.out; omega
                  have HCQ := Aside0.mk hcmq
                  clear hcmq
                  have hP1 := Aside0.mk (fun (W2 : World) (hb : Below V2.heap.size V2 W2) => t_push (HT2.out.below hb) HQ2.out HCQ.out HF.out.1 N (i : Int) (HB2.out.below hb) (HV2.out.below hb))
                  go_region_held3 (fun W2 => W2.cell? ⟨vb, 0, none⟩ = some (.int .i64 N) ∧ W2.cell? ⟨vb, 1, none⟩ = some (.int .i64 (i : Int))) (first | assumption | exact HS.out | exact HS3.out | exact HS4.out) (first
                    | ((go_at_call 15); (refine (hP1.out _ (by first | exact Below.refl _ _ | exact (Below.refl _ _).drew | exact pw_below_drewN (Below.refl _ _) _)).mono ?_); rintro e w3 ⟨rfl, b3, hT3, hB3, hV3⟩; have HT3 := Aside0.mk hT3; have HB3 := Aside0.mk hB3; have HS3 : Aside0 (w3.cell? ⟨vb, 0, none⟩ = some (.int .i64 N) ∧ w3.cell? ⟨vb, 1, none⟩ = some (.int .i64 (i : Int))) := ⟨blk_cell hV3.bk 0, blk_cell hV3.bk 1⟩; have HV3 := Aside0.mk hV3; clear hT3 hB3 hV3)
                    | ((go_at_call 16); (refine (t_rpush HT3.out HQ2.out HF.out.2 N (i : Int) HB3.out HV3.out).mono ?_); rintro e w4 ⟨rfl, b4, hT4, hB4, hV4⟩; have HT4 := Aside0.mk hT4; have HB4 := Aside0.mk hB4; have HS4 : Aside0 (w4.cell? ⟨vb, 0, none⟩ = some (.int .i64 N) ∧ w4.cell? ⟨vb, 1, none⟩ = some (.int .i64 (i : Int))) := ⟨blk_cell hV4.bk 0, blk_cell hV4.bk 1⟩; clear hT4 hB4 hV4))
                  go_wp2_with (fail)
                  go_meet
                  exact ⟨G, R, _, _, _, _, HT4.out.reP (by rw [HE.out q, show [((N, (i : Int)) : T2)] = [((N, (i : Int), CM q) : T3)].map th from rfl, ← List.map_append, funext HE.out, upd_map]), fun j hj => by
                    have := HCM0.out j hj
                    have h2 := HCM.out
                    unfold upd
                    split <;> omega, HB4.out⟩
                · have hf2 : 1048576 ≤ (PR q).length := by rw [HE.out q, List.length_map]; omega
                  have HF := Aside0.mk (And.intro (show 1048576 ≤ (PS q).length by omega) hf2)
                  clear hf hf2
                  have hP1 := Aside0.mk (fun (W2 : World) (hb : Below V2.heap.size V2 W2) => hpush_q_full ((HT2.out.hq q HQ2.out).below hb) key_ord.nn HF.out.1 N (i : Int))
                  go_region_held3 (fun W2 => W2.cell? ⟨vb, 0, none⟩ = some (.int .i64 N) ∧ W2.cell? ⟨vb, 1, none⟩ = some (.int .i64 (i : Int))) (first | assumption | exact HS.out | exact HS3.out | exact HS4.out) (first
                    | ((go_at_call 15); (refine (hP1.out _ (by first | exact Below.refl _ _ | exact (Below.refl _ _).drew | exact pw_below_drewN (Below.refl _ _) _)).mono ?_); rintro e w3 ⟨rfl, hb3⟩; have HW3 := Aside0.mk (below_step (pw_below_drewN (Below.refl V2.heap.size V2) 1) hb3); have HT3 := Aside0.mk (HT2.out.below HW3.out); have HB3 := Aside0.mk (HB2.out.below HW3.out); have HV3 := Aside0.mk (HV2.out.below HW3.out); have HS3 : Aside0 (w3.cell? ⟨vb, 0, none⟩ = some (.int .i64 N) ∧ w3.cell? ⟨vb, 1, none⟩ = some (.int .i64 (i : Int))) := ⟨blk_cell HV3.out.bk 0, blk_cell HV3.out.bk 1⟩; clear hb3)
                    | ((go_at_call 16); (refine (t_rfull HT3.out HQ2.out HF.out.2 N (i : Int)).mono ?_); rintro e w4 ⟨rfl, hb4⟩; have HT4 := Aside0.mk (HT3.out.below hb4); have HB4 := Aside0.mk (HB3.out.below hb4); have HS4 : Aside0 (w4.cell? ⟨vb, 0, none⟩ = some (.int .i64 N) ∧ w4.cell? ⟨vb, 1, none⟩ = some (.int .i64 (i : Int))) := ⟨blk_cell (HV3.out.below hb4).bk 0, blk_cell (HV3.out.below hb4).bk 1⟩; clear hb4))
                  go_wp2_with (fail)
                  go_meet
                  exact ⟨G, R, B, RB, CM, PS, HT4.out.reP (funext HE.out), fun j hj => by have := HCM0.out j hj; omega, HB4.out⟩
              · have k0 : (d == 0) = false := beq_eq_false_iff_ne.2 d0
                have k0' : decide (d = 0) = false := decide_eq_false d0
                by_cases d1 : d = 1
                · subst d1
                  clear k0 k0' d0
                  have hlen := (HTH.out.hq q HQ2.out).len
                  have HLEN : Aside0 ((PR q).length ≤ 1048576) := ⟨by rw [HE.out q, List.length_map]; exact hlen⟩
                  clear hlen
                  by_cases hp : PS q = []
                  · have HP := Aside0.mk (And.intro hp (show PR q = [] by rw [HE.out q, hp]; rfl))
                    have h0 := HTH.out.hq q HQ2.out
                    rw [hp] at h0
                    have H0 := Aside0.mk h0
                    clear h0 hp
                    go_wp2_with (first
                      | ((go_at_call 17); (with_reducible refine (hpop_none H0.out).mono ?_); rintro e w3 ⟨rfl, hb⟩; have HT3 := Aside0.mk (HTH.out.below hb); have HB3 := Aside0.mk (HB.out.below hb); clear hb)
                      | ((go_at_call 18); (with_reducible refine (t_rnone (HT3.out.below (below_alloc (Below.refl _ _) _)) HQ2.out HP.out.2).mono ?_); rintro e w4 ⟨rfl, hb⟩; have hz := blk_below (heap_alloc_new w3 _) hb; have z0 := blk_cell hz 0; have z1 := blk_cell hz 1; have zl := blk_lt hz; have HT4 := Aside0.mk ((HT3.out.below (below_alloc (Below.refl _ _) _)).below hb); have HB4 := Aside0.mk ((HB3.out.below (below_alloc (Below.refl _ _) _)).below hb); clear hb hz))
                    go_meet
                    exact ⟨G, R, B, RB, CM, PS, (HT4.out.below (below_alloc (Below.refl _ _) _)).reP (funext HE.out), fun j hj => by have := HCM0.out j hj; omega, HB4.out.below (below_alloc (Below.refl _ _) _)⟩
                  · obtain ⟨x9, hx9⟩ := least_ex key_ord (HTH.out.hq q HQ2.out) hp
                    have HX9 := Aside0.mk hx9
                    have HSO := Aside0.mk (HTH.out.hq q HQ2.out).so
                    clear hx9 hp
                    go_wp2_with (first
                      | ((go_at_call 17); (with_reducible refine (t_pop HTH.out HQ2.out HX9.out HB.out).mono ?_); rintro e w3 ⟨rfl, b3, hT3, hB3⟩; have HT3 := Aside0.mk hT3; have HB3 := Aside0.mk hB3; clear hT3 hB3)
                      | ((go_at_call 18); (with_reducible refine (t_rpop (HT3.out.below (below_alloc (Below.refl _ _) _)) HQ2.out HLEN.out HSO.out HX9.out (HE.out q) (HB3.out.below (below_alloc (Below.refl _ _) _)) (Box.new HT3.out #[.int .i64 x9.1, .int .i64 x9.2.1] 29 (by decide) (by decide) (by decide))).mono ?_); rintro e w4 ⟨rfl, b4, hT4, hB4, hV4⟩; have z0 := blk_cell hV4.bk 0; have z1 := blk_cell hV4.bk 1; have zl := blk_lt hV4.bk; have HT4 := Aside0.mk hT4; have HB4 := Aside0.mk hB4; clear hT4 hB4 hV4))
                    go_meet
                    exact ⟨G, R, _, _, _, _, (HT4.out.below (below_alloc (Below.refl _ _) _)).reP (by rw [funext HE.out, upd_map]), fun j hj => by
                      have := HCM0.out j hj
                      have h2 := HCM.out
                      unfold upd
                      split <;> omega, HB4.out.below (below_alloc (Below.refl _ _) _)⟩
                · have k1 : (d == 1) = false := beq_eq_false_iff_ne.2 d1
                  have k1' : decide (d = 1) = false := decide_eq_false d1
                  by_cases d2 : d = 2
                  · subst d2
                    clear k0 k0' d0 k1 k1' d1
                    have hlen := (HTH.out.hq q HQ2.out).len
                    have HLEN : Aside0 ((PR q).length ≤ 1048576) := ⟨by rw [HE.out q, List.length_map]; exact hlen⟩
                    clear hlen
                    by_cases hp : PS q = []
                    · have HP := Aside0.mk (And.intro hp (show PR q = [] by rw [HE.out q, hp]; rfl))
                      have h0 := HTH.out.hq q HQ2.out
                      rw [hp] at h0
                      have H0 := Aside0.mk h0
                      clear h0 hp
                      go_wp2_with (first
                        | ((go_at_call 19); (with_reducible refine (hpeek_none H0.out).mono ?_); rintro e w3 ⟨rfl, hb⟩; have HT3 := Aside0.mk (HTH.out.below hb); have HB3 := Aside0.mk (HB.out.below hb); clear hb)
                        | ((go_at_call 20); (with_reducible refine (t_rpnone (HT3.out.below (below_alloc (Below.refl _ _) _)) HQ2.out HP.out.2).mono ?_); rintro e w4 ⟨rfl, hb⟩; have hz := blk_below (heap_alloc_new w3 _) hb; have z0 := blk_cell hz 0; have z1 := blk_cell hz 1; have zl := blk_lt hz; have HT4 := Aside0.mk ((HT3.out.below (below_alloc (Below.refl _ _) _)).below hb); have HB4 := Aside0.mk ((HB3.out.below (below_alloc (Below.refl _ _) _)).below hb); clear hb hz))
                      go_meet
                      exact ⟨G, R, B, RB, CM, PS, (HT4.out.below (below_alloc (Below.refl _ _) _)).reP (funext HE.out), fun j hj => by have := HCM0.out j hj; omega, HB4.out.below (below_alloc (Below.refl _ _) _)⟩
                    · obtain ⟨x9, hx9⟩ := least_ex key_ord (HTH.out.hq q HQ2.out) hp
                      have HX9 := Aside0.mk hx9
                      have HSO := Aside0.mk (HTH.out.hq q HQ2.out).so
                      clear hx9 hp
                      go_wp2_with (first
                        | ((go_at_call 19); (with_reducible refine (hpeek_q key_ord (HTH.out.hq q HQ2.out) HX9.out).mono ?_); rintro e w3 ⟨rfl, hb⟩; have HT3 := Aside0.mk (HTH.out.below hb); have HB3 := Aside0.mk (HB.out.below hb); clear hb)
                        | ((go_at_call 20); (with_reducible refine (t_rpeek (HT3.out.below (below_alloc (Below.refl _ _) _)) HQ2.out HLEN.out HSO.out HX9.out (HE.out q)).mono ?_); rintro e w4 ⟨rfl, hb⟩; have hz := blk_below (heap_alloc_new w3 _) hb; have z0 := blk_cell hz 0; have z1 := blk_cell hz 1; have zl := blk_lt hz; have HT4 := Aside0.mk ((HT3.out.below (below_alloc (Below.refl _ _) _)).below hb); have HB4 := Aside0.mk ((HB3.out.below (below_alloc (Below.refl _ _) _)).below hb); clear hb hz))
                      go_meet
                      exact ⟨G, R, B, RB, CM, PS, (HT4.out.below (below_alloc (Below.refl _ _) _)).reP (funext HE.out), fun j hj => by have := HCM0.out j hj; omega, HB4.out.below (below_alloc (Below.refl _ _) _)⟩
                  · have k2 : (d == 2) = false := beq_eq_false_iff_ne.2 d2
                    have k2' : decide (d = 2) = false := decide_eq_false d2
                    by_cases d3 : d = 3
                    · subst d3
                      clear k0 k0' d0 k1 k1' d1 k2 k2' d2
                      have b0 := blk_cell HB.out.bk 0
                      have p3 := eq_true (show (0 : Int) ≤ (q : Int) by omega)
                      have p4 := eq_true (show (q : Int) < 2 by omega)
                      have p5 := eq_true (show q < 2 from q4)
                      go_upto_region 31 with (fail)
                      go_region_law (first
                        | (go_simp; go_at_call 12; refine (newheap_q (w0 := w) (HTH.out.below (pw_below_drewN (Below.refl _ _) 1)).bl).mono ?_; rintro e w3 ⟨g, rfl, hq, hb, hge⟩; have hT3 := (HTH.out.below (pw_below_drewN (Below.refl _ _) 1)).below hb; have hB3 := (HB.out.below (pw_below_drewN (Below.refl _ _) 1)).below hb; have b0' := blk_cell hB3.bk 0; have cl := hT3.cell_l HQ2.out; have fl := blk_frozen hT3.al q; have HT3 := Aside0.mk ((HTH.out.below (pw_below_drewN (Below.refl _ _) 1)).newL HQ2.out hb hq hge); have HB3 := Aside0.mk (hB3.set (b := la) (o := q) (v := .pointer (some ⟨g, 0, none⟩)) hT3.al (by decide)); clear hT3 hB3 hq hb hge))
                      all_goals clear b0 b0' cl fl
                      all_goals (have b0 := blk_cell HB3.out.bk 0)
                      all_goals go_upto_region 32 with (fail)
                      all_goals (go_region_law (first
                        | (go_simp; go_at_call 14; refine (rnew_calls w _ (HT3.out.below (pw_below_drewN (Below.refl _ _) 1)).bl).mono ?_; rintro e w5 ⟨r, rfl, hr, hb, hge⟩; have hT5 := (HT3.out.below (pw_below_drewN (Below.refl _ _) 1)).below hb; have hB5 := (HB3.out.below (pw_below_drewN (Below.refl _ _) 1)).below hb; have b0' := blk_cell hB5.bk 0; have cl := hT5.cell_m HQ2.out; have fl := blk_frozen hT5.am q; have HT5 := Aside0.mk ((HT3.out.below (pw_below_drewN (Below.refl _ _) 1)).newM HQ2.out hb ⟨_, hr, rfl⟩ hge); have HB5 := Aside0.mk ((hB5.set (b := ma) (o := q) (v := .pointer (some ⟨r, 0, none⟩)) hT5.am (by decide)).rb (RB' := upd RB q none) (fun j hj => by unfold upd; split; exact (fun e => by cases e); exact hB5.nr j hj)); clear hT5 hB5 hr hb hge)))
                      all_goals go_wp2_with (fail)
                      all_goals go_meet
                      all_goals exact ⟨_, _, _, _, _, _, HT5.out.reP (by
                        show upd PR q (([] : List T3).map th) = _
                        rw [funext HE.out, upd_map]), fun j hj => by
                        have := HCM0.out j hj
                        unfold upd
                        split <;> omega, HB5.out⟩
                    · have k3 : (d == 3) = false := beq_eq_false_iff_ne.2 d3
                      have k3' : decide (d = 3) = false := decide_eq_false d3
                      clear d0 d1 d2 d3
                      go_wp2_with (fail)
                      go_meet
                      exact ⟨G, R, B, RB, CM, PS, HTH.out.reP (funext HE.out), fun j hj => by have := HCM0.out j hj; omega, HB.out⟩
            case rest =>
              have HX := hcut
              obtain ⟨G, R, B, RB, CM, PS, hT, hC, hB⟩ := HX.out
              have cl := hT.cell_l HQ2.out
              have cm := hT.cell_m HQ2.out
              have b0 := blk_cell hB.bk 0
              have p3 := eq_true (show (0 : Int) ≤ (q : Int) by omega)
              have p4 := eq_true (show (q : Int) < 2 by have h_ := HQ2.out; omega)
              have p5 := eq_true (show q < 2 from HQ2.out)
              have HLA1 := Aside0.mk (fun (nn : Nat) => Calls.quiet_of ((hlen_q ((hT.hq q HQ2.out).below (pw_below_drewN (Below.refl _ _) nn))).mono (fun e W' ⟨h1, h2⟩ => (⟨h1, h2.out⟩ : e = _ ∧ ∃ m, W' = (wc.drewN nn).drewN m))))
              have HLM1 := Aside0.mk (fun (nn : Nat) => Calls.quiet_of ((t_rlen (hT.below (pw_below_drewN (Below.refl _ _) nn)) HQ2.out).mono (fun e W' ⟨h1, h2⟩ => (⟨h1, h2.out⟩ : e = _ ∧ ∃ m, W' = (wc.drewN nn).drewN m))))
              have hlm : ((PS q).map th).length = (PS q).length := List.length_map th
              obtain ⟨ll, hll⟩ : ∃ ll, (PS q).length = ll := ⟨_, rfl⟩
              rw [hlm, hll] at HLM1
              rw [hll] at HLA1
              have HT2 := Aside0.mk hT
              have HC2 := Aside0.mk hC
              clear hT hC hB hlm hll
              go_wp2_with (fail)
              go_quiet (first
                | (go_at_call 21; exact HLA1.out _)
                | (go_at_call 22; exact HLM1.out _))
              go_wp2_with (fail)
              go_roundg k9
              case measure => omega
              case rel => exact ⟨i + 1, rfl, HI2, ⟨⟨G, R, B, RB, CM, PS, HT2.out.below (pw_below_drewN (Below.refl _ _) _), HC2.out⟩⟩⟩
        · have hl2 : decide ((i : Int) < (n : Int)) = false := decide_eq_false (by omega)
          have hl3 : decide (i < n) = false := decide_eq_false hlt
          obtain ⟨G, R, B, RB, CM, PS, hT, hC⟩ := HT.out.ex
          have cl := hT.cell_l (q := 0) (by omega)
          have cl1 := hT.cell_l (q := 1) (by omega)
          clear hT hC hlt
          go_wp2_with (fail)
          go_ret
          exact ⟨rfl, HT.out.bl⟩
theorem QueueHeaps (a1 : Option Addr) (len1 cap1 : Nat) (f : Nat → Int × Int × Int) (w : World)
    (h1 : ∀ i, i < len1 → ∃ x, a1 = some x ∧ w.cell? (x.add (i * 3)) = some (.int .i64 (f i).1) ∧ w.cell? ⟨(x.add (i * 3)).block, (x.add (i * 3)).off + 1, none⟩ = some (.int .i64 (f i).2.1) ∧ w.cell? ⟨(x.add (i * 3)).block, (x.add (i * 3)).off + 2, none⟩ = some (.int .i64 (f i).2.2)) (_y1 : len1 * 24 ≤ 140737488351232) :
    Calls Try.prog 3 #[.slice a1 len1 cap1] w fun e w' => e = .returned (.bool true) ∧ Below w.heap.size w w' :=
  heaps_good a1 len1 cap1 w (fun i => (f i).1) (fun i => (f i).2.1) (fun i => (f i).2.2) (by omega) h1
end Go.Proofs.Ytekjkookkjjbcaa.Pure
