/- CodeReaders: every script with two readers, none, and one that New did not make, answers as the reference's readers do (walked by hand). -/
import Derived.Test.YtokgckhhhhigiaaRdLaw
import Derived.Test.YtokgckhhhhigiaaOpenOpsC
namespace Go.Proofs.Ytokgckhhhhigiaa.Pure
set_option linter.unusedVariables false
set_option linter.unusedSimpArgs false
set_option linter.unusedVariables false
set_option linter.unusedSimpArgs false
open Go.RowKit Go.Proofs.YtokgckhhhhigiaaW.PrintWords Go.Proofs.YtokgckhhhhigiaaW.PrintLast Go.Proofs.YtokgckhhhhigiaaW.PrintMore Go.Proofs.Ytokgckhhhhigiaa.B Go.Proofs.Ytokgckhhhhigiaa.M Go.Proofs.Ytokgckhhhhigiaa.G Go.Proofs.Ytokgckhhhhigiaa.Rd Go.Proofs.Ytokgckhhhhigiaa.Fd Go.Proofs.Ytokgckhhhhigiaa.PA
/-- A table of two: what lies at q, and the other. -/
def tab (q : Nat) (a b : Value) : Array Value := if q = 0 then #[a, b] else #[b, a]
theorem tab_at {q : Nat} (h : q < 2) (a b : Value) : (tab q a b)[q]? = some a := by
  unfold tab
  match q, h with
  | 0, _ => rfl
  | 1, _ => rfl
theorem tab_set {q : Nat} (h : q < 2) (a b c : Value) : (tab q a b).setIfInBounds q c = tab q c b := by
  unfold tab
  match q, h with
  | 0, _ => rfl
  | 1, _ => rfl
abbrev ptr (g : Nat) : Value := .pointer (some ⟨g, 0, none⟩)
/-- Between the rounds, the reader at q ahead. -/
abbrev LL (w : World) (bl bm q g h g1 h1 : Nat) (st st1 : St) (er er1 : Int) (m : Nat) (v6 v7 : Value) (ys : List Int) : Ob w :=
  CC (rd w g st er) (xr w h st er m) (both2 (rd w g1 st1 er1) (xr w h1 st1 er1 m)) (BT w bl bm (tab q (ptr g) (ptr g1)) (tab q (ptr h) (ptr h1))) (full w v6 ys) (row w v7 ys)
section
variable {w W W' : World} {bl bm q g h g1 h1 m m' : Nat} {st st1 : St} {er er1 : Int} {v6 v7 : Value} {ys : List Int}
theorem xr_more {h : Nat} {st : St} {er : Int} (hm : m ≤ m') : Ent (xr w h st er m) (xr w h st er m') := fun W F ⟨h0, hB, hh⟩ => ⟨F, ⟨h0, hB, hh.imp (fun ⟨e, v, T, k1, k2, k3, k4, k5⟩ => ⟨e, v, T, k1, k2, k3, Nat.le_trans k4 hm, k5⟩) id⟩, fun _ h => h⟩
theorem LL.more (hm : m ≤ m') {m2 : Nat} (hm2 : m2 ≤ m') : Ent (CC (rd w g st er) (xr w h st er m2) (both2 (rd w g1 st1 er1) (xr w h1 st1 er1 m)) (BT w bl bm (tab q (ptr g) (ptr g1)) (tab q (ptr h) (ptr h1))) (full w v6 ys) (row w v7 ys)) (LL w bl bm q g h g1 h1 st st1 er er1 m' v6 v7 ys) :=
  ((Ent.refl _).both (xr_more hm2)).both (((Ent.refl _).both (xr_more hm)).both (Ent.refl _))
theorem LL.turn : Ent (LL w bl bm 0 g h g1 h1 st st1 er er1 m v6 v7 ys) (LL w bl bm 1 g1 h1 g h st1 st er1 er m v6 v7 ys) := Ent.turn _ _ _
theorem LL.turn' : Ent (LL w bl bm 1 g1 h1 g h st1 st er1 er m v6 v7 ys) (LL w bl bm 0 g h g1 h1 st st1 er er1 m v6 v7 ys) := Ent.turn _ _ _
theorem nilF : Ent (emp w) (full w (.slice none 0 0) []) := fun W F ⟨hB, e⟩ => ⟨_, full_nil hB, fun i hi => hi.elim⟩
theorem nilR : Ent (emp w) (row w (.slice none 0 0) []) := fun W F ⟨hB, e⟩ => ⟨_, row_nil hB, fun i hi => hi.elim⟩
theorem start0 (w : World) : Has (both2 (CC (emp w) (emp w) (both2 (emp w) (emp w)) (BT w w.heap.size (w.heap.size + 1) #[.pointer none, .pointer none] #[.pointer none, .pointer none]) (full w (.slice none 0 0) []) (row w (.slice none 0 0) [])) (emp w))
    ((w.alloc (.cells #[.pointer none, .pointer none] 38 (0, 0))).alloc (.cells #[.pointer none, .pointer none] 40 (0, 0))) := by
  have h1 := ((emp_has (Below.refl w.heap.size w)).new #[.pointer none, .pointer none] 38).new #[.pointer none, .pointer none] 40
  rw [World.size_alloc] at h1
  refine Ent.has ?_ h1
  refine (Ent.assoc _ _ _).trans (Ent.trans ?_ (Ent.add _))
  refine (Ent.add _).both ?_
  refine ((Ent.add _).trans ((Ent.refl _).both ((Ent.add (emp w)).trans (nilF.both nilR)))).trans ?_
  exact ((Ent.add _).trans (Ent.comm _ _)).trans ((Ent.add (emp w)).both (Ent.refl _))
end
abbrev manL : List Int := [84, 13, 10, 87, 70, 117]
theorem man_feed {w W : World} {g : Nat} (hB : Below w.heap.size w W) (hg : w.heap.size ≤ g) (hk : W.heap[g]? = some (.cells (St.new.cells true 0) 47 (0, 0))) :
    Calls Try.prog 17 #[.pointer (some ⟨g, 0, none⟩), .slice (some ⟨W.heap.size, 0, none⟩) 6 6] (W.alloc (.cells #[.int .u8 84, .int .u8 13, .int .u8 10, .int .u8 87, .int .u8 70, .int .u8 117] 5 (6, 7))) fun e w' => ∃ A c, e = .returned (.tuple #[.slice A 3 c, .int .i64 0]) ∧ ReadsInt w' .u8 A 3 [77, 97, 110] ∧ Below w.heap.size w w' := by
  have hb := below_alloc hB (.cells #[.int .u8 84, .int .u8 13, .int .u8 10, .int .u8 87, .int .u8 70, .int .u8 117] 5 (6, 7))
  have hgl := blk_lt hk
  have he : feedL manL St.new [] = ([77, 97, 110], (feedL manL St.new []).2.1, 0) := by
    have h1 : (feedL manL St.new []).1 = [77, 97, 110] := by decide +kernel
    have h2 : (feedL manL St.new []).2.2 = 0 := by decide +kernel
    rw [← h1, ← h2]
  have h := Fd2.feed_calls w.heap.size g St.new (by decide) (some ⟨W.heap.size, 0, none⟩) 6 manL _ hg hb.size (blk_below hk (below_alloc (Below.refl _ _) (.cells #[.int .u8 84, .int .u8 13, .int .u8 10, .int .u8 87, .int .u8 70, .int .u8 117] 5 (6, 7)))) (Lent.C_lit (xs := manL) (heap_alloc_new W _) (by decide) rfl) (fun ad e _ => by cases e; show W.heap.size ≠ g; omega) (by decide) (show ∀ x ∈ manL, 0 ≤ x ∧ x ≤ 255 by decide)
  refine h.mono ?_
  rintro e w' ⟨v1, rfl, hf, _, _, hb2⟩
  rw [he] at hf ⊢
  have hv : ∃ A n c, v1 = .slice A n c := by
    rcases hf with ⟨rfl, _⟩ | ⟨g9, cur, rfl, _⟩
    · exact ⟨_, _, _, rfl⟩
    · exact ⟨_, _, _, rfl⟩
  obtain ⟨A, n, c, rfl⟩ := hv
  have hr := hf.reads
  obtain rfl : n = 3 := hr.1.symm
  exact ⟨A, c, rfl, hr, hb.trans hb2⟩
set_option maxHeartbeats 16000000 in
set_option maxRecDepth 100000 in
theorem readers_all (a0 : Option Addr) (n cap0 : Nat) (f : Nat → Op.OpB) (w : World) (hn : n ≤ 1048576)
    (h1 : ∀ i, i < n → ∃ x, a0 = some x ∧ w.cell? (x.add (i * 3)) = some (.int .i64 (f i).who) ∧ w.cell? ⟨(x.add (i * 3)).block, (x.add (i * 3)).off + 1, none⟩ = some (.int .i64 (f i).op) ∧ w.cell? ⟨(x.add (i * 3)).block, (x.add (i * 3)).off + 2, none⟩ = some (.slice (f i).A (f i).l.length (f i).c) ∧
      Kd.C (Kd.int .u8) w (f i).A (f i).l.length (f i).l ∧ InB (f i).l ∧ (f i).l.length ≤ 1048576) :
    Calls Try.prog 5 #[.slice a0 n cap0] w fun e w' => e = .returned (.bool true) ∧ Below w.heap.size w w' := by
  have H1 := Aside0.mk h1
  have HN := Aside0.mk hn
  clear h1 hn
  have hs0 := start0 w
  obtain ⟨bl, hbl⟩ : ∃ bl, w.heap.size = bl := ⟨_, rfl⟩
  have HBL := Aside0.mk hbl
  go_enter Try.func5, Try.ntmps5
  go_wp2_with (fail)
  obtain ⟨bm, hbm⟩ : ∃ bm, bl + 1 = bm := ⟨_, rfl⟩
  rw [hbl, hbm] at hs0
  try rw [hbl]
  rw [hbm]
  obtain ⟨W0, hW0⟩ : ∃ W0, (w.alloc (.cells #[.pointer none, .pointer none] 38 (0, 0))).alloc (.cells #[.pointer none, .pointer none] 40 (0, 0)) = W0 := ⟨_, rfl⟩
  rw [hW0] at hs0 ⊢
  have HS0 := Aside0.mk hs0
  clear hs0 hbl hbm hW0
  go_loopg [20] 3 (fun kq v20 W => ∃ (j : Nat), v20 = .int .i64 (j : Int) ∧ Aside0 (2 - j < kq) ∧ Aside0 ((j = 0 ∧ Has (both2 (CC (emp w) (emp w) (both2 (emp w) (emp w)) (BT w bl bm #[.pointer none, .pointer none] #[.pointer none, .pointer none]) (full w (.slice none 0 0) []) (row w (.slice none 0 0) [])) (emp w)) W) ∨ (j = 1 ∧ ∃ g h, Has (both2 (CC (rd w g St.new 0) (xr w h St.new 0 0) (both2 (emp w) (emp w)) (BT w bl bm #[ptr g, .pointer none] #[ptr h, .pointer none]) (full w (.slice none 0 0) []) (row w (.slice none 0 0) [])) (emp w)) W) ∨ (j = 2 ∧ ∃ g h g1 h1, Has (LL w bl bm 0 g h g1 h1 St.new St.new 0 0 0 (.slice none 0 0) (.slice none 0 0) []) W)))
  case atStart => exact ⟨0, rfl, ⟨by omega⟩, ⟨.inl ⟨rfl, HS0.out⟩⟩⟩
  case round =>
    clear HS0
    obtain ⟨j, rfl, HJ, HS⟩ := hrel
    rcases HS.out with ⟨rfl, h0⟩ | ⟨rfl, g0, r0, h0⟩ | ⟨rfl, g0, r0, g1, r1, h0⟩
    · clear HS
      cases gk with
      | zero => exact absurd HJ.out (Nat.not_lt_zero _)
      | succ k9 =>
      have H0 := Aside0.mk h0
      clear h0
      go_wp2_with (first
        | ((go_at_call 15); (with_reducible refine (c_new H0.out).mono ?_); rintro e w1 ⟨g, rfl, h1⟩; have kb := CC.bl_ h1; have k0 := blk_cell kb 0; have k1 := blk_cell kb 1; have kf := blk_frozen kb 0; have kl := blk_lt kb; have HA := Aside0.mk (CC.setl 0 (ptr g) h1); clear h1 kb)
        | ((go_at_call 16); (with_reducible refine (c_xnew 0 HA.out).mono ?_); rintro e w2 ⟨r, rfl, h2⟩; have kb := CC.bm_ h2; have k2 := blk_cell kb 0; have k3 := blk_cell kb 1; have kf2 := blk_frozen kb 0; have kl2 := blk_lt kb; have HB := Aside0.mk (CC.setm 0 (ptr r) h2); clear h2 kb))
      go_roundg k9
      case measure => omega
      case rel => exact ⟨1, rfl, ⟨by have h_ := HJ.out; omega⟩, ⟨.inr (.inl ⟨rfl, g, r, HB.out⟩)⟩⟩
    · clear HS
      cases gk with
      | zero => exact absurd HJ.out (Nat.not_lt_zero _)
      | succ k9 =>
      have H0 : Aside0 (Has (both2 (CC (emp w) (emp w) (both2 (rd w g0 St.new 0) (xr w r0 St.new 0 0)) (BT w bl bm #[ptr g0, .pointer none] #[ptr r0, .pointer none]) (full w (.slice none 0 0) []) (row w (.slice none 0 0) [])) (emp w)) wr) := ⟨Ent.has ((Ent.turn _ _ _).both (Ent.refl _)) h0⟩
      clear h0
      go_wp2_with (first
        | ((go_at_call 15); (with_reducible refine (c_new H0.out).mono ?_); rintro e w1 ⟨g, rfl, h1⟩; have kb := CC.bl_ h1; have k0 := blk_cell kb 0; have k1 := blk_cell kb 1; have kf := blk_frozen kb 1; have kl := blk_lt kb; have HA := Aside0.mk (CC.setl 1 (ptr g) h1); clear h1 kb)
        | ((go_at_call 16); (with_reducible refine (c_xnew 0 HA.out).mono ?_); rintro e w2 ⟨r, rfl, h2⟩; have kb := CC.bm_ h2; have k2 := blk_cell kb 0; have k3 := blk_cell kb 1; have kf2 := blk_frozen kb 1; have kl2 := blk_lt kb; have HB := Aside0.mk (CC.setm 1 (ptr r) h2); clear h2 kb))
      go_roundg k9
      case measure => omega
      case rel => exact ⟨2, rfl, ⟨by have h_ := HJ.out; omega⟩, ⟨.inr (.inr ⟨rfl, g0, r0, g, r, Ent.has ((Ent.fst _ _).trans (Ent.turn _ _ _)) HB.out⟩)⟩⟩
    · clear HS HJ
      have HL := Aside0.mk h0
      clear h0
      go_wp2_with (fail)
      go_loopg [6, 7, 32] (n + 1) (fun kq v6 v7 v32 W => ∃ (i : Nat) (ys : List Int) (g h g1 h1 : Nat) (st st1 : St) (er er1 : Int), v32 = .int .i64 (i : Int) ∧ Aside0 (n - i < kq ∧ i ≤ n) ∧ Aside0 (ys.length ≤ 4194304) ∧ Aside0 (Has (LL w bl bm 0 g h g1 h1 st st1 er er1 (i * 1048576) v6 v7 ys) W))
      case atStart => exact ⟨0, [], g0, r0, g1, r1, St.new, St.new, 0, 0, rfl, ⟨by omega, by omega⟩, ⟨by simp⟩, ⟨by rw [Nat.zero_mul]; exact HL.out⟩⟩
      case round =>
        clear HL
        obtain ⟨i, ys, g, h, g1, h1, st, st1, er, er1, rfl, HI, HY, HL⟩ := hrel
        by_cases hlt : i < n
        · have hl2 : decide ((i : Int) < (n : Int)) = true := decide_eq_true (by omega)
          have hl3 : decide (i < n) = true := decide_eq_true hlt
          obtain ⟨x, rfl, x0, x1, x2, xC, xI, xL⟩ := H1.out i hlt
          have c0 := pw_cell_below HL.out.bl x0
          have c1 := pw_cell_below HL.out.bl x1
          have c2 := pw_cell_below HL.out.bl x2
          have p1 := eq_true (show (0 : Int) ≤ (i : Int) by omega)
          have p2 := eq_true (show (i : Int) < (n : Int) by omega)
          have q1 : IntKind.i64.wrap ((i : Int) + 1) = ((i + 1 : Nat) : Int) := by have h_ := HI.out; have h2_ := HN.out; rw [i64_w, wrap_id _ (by omega) (by omega)]; rfl
          cases gk with
          | zero => exact absurd HI.out.1 (Nat.not_lt_zero _)
          | succ k9 =>
          have HI2 := Aside0.mk (show n - (i + 1) < k9 ∧ i + 1 ≤ n ∧ i ≤ 1048576 from ⟨by have h_ := HI.out; omega, by have h_ := HI.out; omega, by have h_ := HN.out; omega⟩)
          obtain ⟨qv, hq⟩ : ∃ qv, (f i).who = qv := ⟨_, rfl⟩
          obtain ⟨d, hd⟩ : ∃ d, (f i).op = d := ⟨_, rfl⟩
          rw [hq] at c0
          rw [hd] at c1
          obtain ⟨⟨o1, o2, A, cA, l⟩, hf⟩ : ∃ o, f i = o := ⟨_, rfl⟩
          rw [hf] at c2 xC xI xL
          dsimp only at c2 xC xI xL
          have HC := Aside0.mk (And.intro xC (And.intro xI xL))
          have h5 := HL.out.new #[.int .i64 qv, .int .i64 d, .slice A l.length cA] 44
          clear x0 x1 x2 xC xI xL hlt hd hq hf HL
          go_upto_region 13 with (fail)
          obtain ⟨ob, hob⟩ : ∃ ob, wr.heap.size = ob := ⟨_, rfl⟩
          rw [hob] at h5
          rw [hob]
          obtain ⟨V, hV⟩ : ∃ V, wr.alloc (.cells #[.int .i64 qv, .int .i64 d, .slice A l.length cA] 44 (0, 0)) = V := ⟨_, rfl⟩
          rw [hV] at h5
          rw [hV]
          have H5 := Aside0.mk h5
          clear h5 hV hob c0 c1 c2 p1 p2 hl2 hl3
          have c0 : V.cell? ⟨ob, 0, none⟩ = some (.int .i64 qv) := blk_cell H5.out.snd.box 0
          have c1 : V.cell? ⟨ob, 1, none⟩ = some (.int .i64 d) := blk_cell H5.out.snd.box 1
          have c2 : V.cell? ⟨ob, 2, none⟩ = some (.slice A l.length cA) := blk_cell H5.out.snd.box 2
          have kl : ob < V.heap.size := blk_lt H5.out.snd.box
          by_cases hw : qv < 0 ∨ qv > 1
          · by_cases hlow : qv < 0
            · have w1 : decide (qv < 0) = true := decide_eq_true hlow
              have w5 : decide (qv = 2) = false := decide_eq_false (by omega)
              have w6 : (qv == 2) = false := beq_eq_false_iff_ne.2 (by omega)
              have w7 : (qv != 2) = true := bne_iff_ne.2 (by omega)
              clear hw hlow
              have hz := Has.new H5.out #[.bool false, .int .u8 0, .int .u8 0, .int .u8 0, .int .u8 0, .int .i64 0, .bool false, .int .i64 0] 47
              have hz0 := Ent.has (Ent.add _) hz
              have HZ0 := Aside0.mk hz0
              have c2z := blk_cell hz.fst.snd.box 2
              clear hz hz0
              go_wp2_with (first
                | ((go_at_call 6); (refine (((s_lent A cA l HC.out.1 (by have h_ := HC.out.2.2; omega)).r _).has HZ0.out).mono ?_); rintro e w3 ⟨vz, rfl, h3⟩; have HX3 := Aside0.mk h3; clear h3)
                | ((go_at_call 17); (refine (feed_zero HX3.out.fst.snd.box rfl vz).mono ?_); rintro e w4 ⟨rfl, hb4⟩; have HX4 := Aside0.mk (HX3.out.below hb4); clear hb4)
                | ((go_at_call 18); (refine (close_zero HX4.out.fst.snd.box rfl).mono ?_); rintro e w6 ⟨rfl, hb6⟩; have HX6 := Aside0.mk (HX4.out.below hb6); clear hb6))
              obtain ⟨gx, hx, gx1, hx1, sx, sx1, ex, ex1, hfin⟩ : ∃ (g h g1 h1 : Nat) (st st1 : St) (er er1 : Int), Has (LL w bl bm 0 g h g1 h1 st st1 er er1 ((i + 1) * 1048576) u6 u7 ys) w6 := ⟨_, _, _, _, _, _, _, _, Ent.has (((Ent.fst _ _).trans ((Ent.fst _ _).trans (Ent.fst _ _))).trans (LL.more (by omega) (by omega))) HX6.out⟩
              go_roundg k9
              case measure => omega
              case rel => exact ⟨i + 1, ys, gx, hx, gx1, hx1, sx, sx1, ex, ex1, rfl, ⟨HI2.out.1, HI2.out.2.1⟩, HY, ⟨hfin⟩⟩
            · have w1 : decide (qv < 0) = false := decide_eq_false hlow
              have w2 : decide (qv > 1) = true := decide_eq_true (by omega)
              have w3 : decide (1 < qv) = true := decide_eq_true (by omega)
              by_cases h2 : qv = 2
              · subst h2
                clear hw hlow
                have HZ0 := Aside0.mk (Ent.has (Ent.add _) H5.out)
                go_wp2_with (first
                  | ((go_at_call 6); (refine (((s_lent A cA l HC.out.1 (by have h_ := HC.out.2.2; omega)).r _).has HZ0.out).mono ?_); rintro e w3 ⟨vz, rfl, h3⟩; have HX3 := Aside0.mk h3; clear h3)
                  | ((go_at_call 17); (refine (feed_nil _ vz).mono ?_); rintro e w4 ⟨rfl, hb4⟩; have HX4 := Aside0.mk (HX3.out.below hb4); clear hb4)
                  | ((go_at_call 18); (refine (close_nil _).mono ?_); rintro e w6 ⟨rfl, hb6⟩; have HX6 := Aside0.mk (HX4.out.below hb6); clear hb6))
                obtain ⟨gx, hx, gx1, hx1, sx, sx1, ex, ex1, hfin⟩ : ∃ (g h g1 h1 : Nat) (st st1 : St) (er er1 : Int), Has (LL w bl bm 0 g h g1 h1 st st1 er er1 ((i + 1) * 1048576) u6 u7 ys) w6 := ⟨_, _, _, _, _, _, _, _, Ent.has (((Ent.fst _ _).trans (Ent.fst _ _)).trans (LL.more (by omega) (by omega))) HX6.out⟩
                go_roundg k9
                case measure => omega
                case rel => exact ⟨i + 1, ys, gx, hx, gx1, hx1, sx, sx1, ex, ex1, rfl, ⟨HI2.out.1, HI2.out.2.1⟩, HY, ⟨hfin⟩⟩
              · have w5 : decide (qv = 2) = false := decide_eq_false h2
                have w6 : (qv == 2) = false := beq_eq_false_iff_ne.2 h2
                have w7 : (qv != 2) = true := bne_iff_ne.2 h2
                clear hw hlow h2
                have hz := Has.new H5.out #[.bool false, .int .u8 0, .int .u8 0, .int .u8 0, .int .u8 0, .int .i64 0, .bool false, .int .i64 0] 47
                have hz0 := Ent.has (Ent.add _) hz
                have HZ0 := Aside0.mk hz0
                have c2z := blk_cell hz.fst.snd.box 2
                clear hz hz0
                go_wp2_with (first
                  | ((go_at_call 6); (refine (((s_lent A cA l HC.out.1 (by have h_ := HC.out.2.2; omega)).r _).has HZ0.out).mono ?_); rintro e w3 ⟨vz, rfl, h3⟩; have HX3 := Aside0.mk h3; clear h3)
                  | ((go_at_call 17); (refine (feed_zero HX3.out.fst.snd.box rfl vz).mono ?_); rintro e w4 ⟨rfl, hb4⟩; have HX4 := Aside0.mk (HX3.out.below hb4); clear hb4)
                  | ((go_at_call 18); (refine (close_zero HX4.out.fst.snd.box rfl).mono ?_); rintro e w6 ⟨rfl, hb6⟩; have HX6 := Aside0.mk (HX4.out.below hb6); clear hb6))
                obtain ⟨gx, hx, gx1, hx1, sx, sx1, ex, ex1, hfin⟩ : ∃ (g h g1 h1 : Nat) (st st1 : St) (er er1 : Int), Has (LL w bl bm 0 g h g1 h1 st st1 er er1 ((i + 1) * 1048576) u6 u7 ys) w6 := ⟨_, _, _, _, _, _, _, _, Ent.has (((Ent.fst _ _).trans ((Ent.fst _ _).trans (Ent.fst _ _))).trans (LL.more (by omega) (by omega))) HX6.out⟩
                go_roundg k9
                case measure => omega
                case rel => exact ⟨i + 1, ys, gx, hx, gx1, hx1, sx, sx1, ex, ex1, rfl, ⟨HI2.out.1, HI2.out.2.1⟩, HY, ⟨hfin⟩⟩
          · obtain ⟨q, hq2, rfl⟩ : ∃ q : Nat, q < 2 ∧ qv = (q : Int) := ⟨qv.toNat, by omega, by omega⟩
            obtain ⟨ga, ha, gb, hb, sa, sb, ea, eb, hLL, hBack⟩ : ∃ (ga ha gb hb : Nat) (sa sb : St) (ea eb : Int), Has (both2 (LL w bl bm q ga ha gb hb sa sb ea eb (i * 1048576) u6 u7 ys) (box w ob 44 #[.int .i64 (q : Int), .int .i64 d, .slice A l.length cA])) V ∧
                (∀ (W : World) (g2 h2 : Nat) (s2 : St) (e2 : Int) (v6 v7 : Value) (zs : List Int), Has (LL w bl bm q g2 h2 gb hb s2 sb e2 eb ((i + 1) * 1048576) v6 v7 zs) W → ∃ (g h g1 h1 : Nat) (st st1 : St) (er er1 : Int), Has (LL w bl bm 0 g h g1 h1 st st1 er er1 ((i + 1) * 1048576) v6 v7 zs) W) := by
              match q, hq2 with
              | 0, _ => exact ⟨g, h, g1, h1, st, st1, er, er1, H5.out, fun W g2 h2 s2 e2 v6 v7 zs hh => ⟨_, _, _, _, _, _, _, _, hh⟩⟩
              | 1, _ => exact ⟨g1, h1, g, h, st1, st, er1, er, Ent.has (LL.turn.both (Ent.refl _)) H5.out, fun W g2 h2 s2 e2 v6 v7 zs hh => ⟨_, _, _, _, _, _, _, _, Ent.has LL.turn' hh⟩⟩
            have HQ2 := Aside0.mk hq2
            have HBK := Aside0.mk hBack
            have HL5 := Aside0.mk hLL
            have w1 : decide ((q : Int) < 0) = false := decide_eq_false (by omega)
            have w2 : decide ((q : Int) > 1) = false := decide_eq_false (by omega)
            have w3 : decide (1 < (q : Int)) = false := decide_eq_false (by omega)
            have w4 : decide (1 < q) = false := decide_eq_false (by omega)
            have p3 := eq_true (show (0 : Int) ≤ (q : Int) by omega)
            have p4 := eq_true (show (q : Int) < 2 by omega)
            have p5 := eq_true (show q < 2 from hq2)
            clear hw hq2 hBack hLL H5
            by_cases d0 : d = 0
            · subst d0
              have ht := CC.tt.has HL5.out
              have HT := Aside0.mk ht
              obtain ⟨fo, fs, fe, hfe⟩ : ∃ fo fs fe, feedA l sa ea = (fo, fs, fe) := ⟨_, _, _, rfl⟩
              have HFL : Aside0 (fo.length ≤ 3145728) := ⟨by have h_ := feedA_len l sa ea; rw [hfe] at h_; dsimp only at h_; have h2_ := HC.out.2.2; omega⟩
              have HLM : Aside0 (i * 1048576 + l.length ≤ 10000000000000 ∧ l.length ≤ 1048576) := ⟨by have h_ := HI2.out.2.2; have h2_ := HC.out.2.2; omega⟩
              have P2 := Aside0.mk (fun (W2 : World) (L F La Wa O : Ob w) (hh : Has (TT (rd w ga sa ea) L F (xr w ha sa ea (i * 1048576)) (emp w) La Wa O) W2) => t_xfeed A cA l HC.out.1 HC.out.2.1 HLM.out.1 hh)
              have P3 := Aside0.mk (fun (W2 : World) (vin : Value) (X Wt La Wa O : Ob w) (hh : Has (TT (rd w ga sa ea) (lentO w vin l) (emp w) X Wt La Wa O) W2) => t_feed vin l (by have h_ := HLM.out.2; omega) HC.out.2.1 hh)
              rw [hfe] at P2 P3
              clear hfe ht
              go_upto_region 23 with (first
                | ((go_at_call 6); (refine (t_lent A cA l HC.out.1 (by have h_ := HLM.out.2; omega) HT.out).mono ?_); rintro e w3 ⟨vin, rfl, h3⟩; have kb := TT.ob_ h3; have c0 := blk_cell kb 0; have c2 := blk_cell kb 2; have kl := blk_lt kb; have HT3 := Aside0.mk h3; clear h3 kb))
              have HS0 : Aside0 (w3.cell? ⟨ob, 0, none⟩ = some (.int .i64 (q : Int)) ∧ w3.cell? ⟨ob, 2, none⟩ = some (.slice A l.length cA) ∧ w3.cell? ⟨bm, q, none⟩ = some (ptr ha)) := ⟨c0, c2, (blk_cell (TT.bm_ HT3.out) q).trans (tab_at HQ2.out _ _)⟩
              go_region_held3 (fun W2 => W2.cell? ⟨ob, 0, none⟩ = some (.int .i64 (q : Int)) ∧ W2.cell? ⟨ob, 2, none⟩ = some (.slice A l.length cA) ∧ W2.cell? ⟨bm, q, none⟩ = some (ptr ha)) (first | assumption | exact HS0.out | exact HS1.out) (first
                | ((go_at_call 19); (refine (P2.out _ _ _ _ _ _ (HT3.out.below (by first | exact Below.refl _ _ | exact (Below.refl _ _).drew | exact pw_below_drewN (Below.refl _ _) _))).mono ?_); rintro e w4 ⟨v14, rfl, h4⟩; have HS1 : Aside0 (w4.cell? ⟨ob, 0, none⟩ = some (.int .i64 (q : Int)) ∧ w4.cell? ⟨ob, 2, none⟩ = some (.slice A l.length cA) ∧ w4.cell? ⟨bm, q, none⟩ = some (ptr ha)) := ⟨blk_cell (TT.ob_ h4) 0, blk_cell (TT.ob_ h4) 2, (blk_cell (TT.bm_ h4) q).trans (tab_at HQ2.out _ _)⟩; have HT4 := Aside0.mk h4; clear h4))
              have e0 : w4.cell? ⟨ob, 0, none⟩ = some (.int .i64 (q : Int)) := HS1.out.1
              have e2 : w4.cell? ⟨ob, 2, none⟩ = some (.slice A l.length cA) := HS1.out.2.1
              have e3 : w4.cell? ⟨bl, q, none⟩ = some (ptr ga) := (blk_cell (TT.bl_ HT4.out) q).trans (tab_at HQ2.out _ _)
              have kl4 := blk_lt (TT.ob_ HT4.out)
              obtain ⟨S1, hS1⟩ : ∃ S1, strOfNums fo = S1 := ⟨_, rfl⟩
              obtain ⟨S2, hS2⟩ : ∃ S2, strOfNums ys = S2 := ⟨_, rfl⟩
              have HSS := Aside0.mk (And.intro hS1 hS2)
              clear hS1 hS2 c0 c1 c2
              clear HS0 HS1
              go_wp2_with (first
                | ((go_at_call 17); (with_reducible refine (P3.out _ vin _ _ _ _ _ HT4.out).mono ?_); rintro e w5 ⟨v16, rfl, h5⟩; have v1 := (TT.F_ h5).strF; have v2 := (TT.Wt_ h5).str; rw [HSS.out.1] at v1 v2; have e5 := blk_cell (TT.ob_ h5) 2; have kl5 := blk_lt (TT.ob_ h5); have HT5 := Aside0.mk h5; clear h5 HT4)
                | ((go_at_call 11); (with_reducible refine (t_kept vin A cA l HC.out.1 (by have h_ := HLM.out.2; omega) HT5.out).mono ?_); rintro e w6 ⟨rfl, h6⟩; have v3 := (TT.La_ h6).strF; have v4 := (TT.Wa_ h6).str; rw [HSS.out.2] at v3 v4; have HT6 := Aside0.mk h6; clear h6 HT5)
                | ((go_at_call 14); (with_reducible refine (t_spoil vin l (by have h_ := HLM.out.2; omega) HT6.out).mono ?_); rintro e w7 ⟨rfl, h7⟩; have HT7 := Aside0.mk h7; clear h7 HT6)
                | ((go_at_call 14); (with_reducible refine (t_spoilLa u6 ys (by have h_ := HY.out; omega) HT7.out).mono ?_); rintro e w8 ⟨rfl, h8⟩; have v5 := (TT.F_ h8).strF; have v6 := (TT.Wt_ h8).str; rw [HSS.out.1] at v5 v6; have HT8 := Aside0.mk h8; clear h8))
              obtain ⟨ga', ha', gb', hb', sa', sb', ea', eb', hfin⟩ := HBK.out _ _ _ _ _ _ _ _ (Ent.has (TT.cc.trans (LL.more (m2 := i * 1048576 + l.length) (by omega) (by have h_ := HLM.out.2; omega))) HT8.out)
              go_roundg k9
              case measure => omega
              case rel => exact ⟨i + 1, fo, ga', ha', gb', hb', sa', sb', ea', eb', rfl, ⟨HI2.out.1, HI2.out.2.1⟩, ⟨by have h_ := HFL.out; omega⟩, ⟨hfin⟩⟩
            · have k0 : (d == 0) = false := beq_eq_false_iff_ne.2 d0
              have k0' : decide (d = 0) = false := decide_eq_false d0
              by_cases d1 : d = 1
              · subst d1
                clear k0 k0' d0
                obtain ⟨cc, hcc⟩ : ∃ cc, closeV sa ea = cc := ⟨_, rfl⟩
                have P1 := Aside0.mk (fun (W2 : World) (hb : Below V.heap.size V W2) => c_close (HL5.out.below hb))
                have P2 := Aside0.mk (fun (W2 : World) (hh : Has (both2 (LL w bl bm q ga ha gb hb sa sb ea eb (i * 1048576) u6 u7 ys) (box w ob 44 #[.int .i64 (q : Int), .int .i64 1, .slice A l.length cA])) W2) => c_xclose hh)
                rw [hcc] at P1 P2
                have HS0 : Aside0 (V.cell? ⟨ob, 0, none⟩ = some (.int .i64 (q : Int)) ∧ V.cell? ⟨bl, q, none⟩ = some (ptr ga) ∧ V.cell? ⟨bm, q, none⟩ = some (ptr ha)) := ⟨c0, (blk_cell (CC.bl_ HL5.out) q).trans (tab_at HQ2.out _ _), (blk_cell (CC.bm_ HL5.out) q).trans (tab_at HQ2.out _ _)⟩
                have HSF := Aside0.mk (fun (W2 : World) (hh : Has (both2 (LL w bl bm q ga ha gb hb sa sb ea eb (i * 1048576) u6 u7 ys) (box w ob 44 #[.int .i64 (q : Int), .int .i64 1, .slice A l.length cA])) W2) => (show W2.cell? ⟨ob, 0, none⟩ = some (.int .i64 (q : Int)) ∧ W2.cell? ⟨bl, q, none⟩ = some (ptr ga) ∧ W2.cell? ⟨bm, q, none⟩ = some (ptr ha) from ⟨blk_cell hh.snd.box 0, (blk_cell (CC.bl_ hh) q).trans (tab_at HQ2.out _ _), (blk_cell (CC.bm_ hh) q).trans (tab_at HQ2.out _ _)⟩))
                clear hcc
                go_upto_region 34 with (fail)
                go_region_held3 (fun W2 => W2.cell? ⟨ob, 0, none⟩ = some (.int .i64 (q : Int)) ∧ W2.cell? ⟨bl, q, none⟩ = some (ptr ga) ∧ W2.cell? ⟨bm, q, none⟩ = some (ptr ha)) (first | assumption | exact HS0.out | exact HS1.out | exact HS2.out) (first
                  | ((go_at_call 18); (refine (P1.out _ (by first | exact Below.refl _ _ | exact (Below.refl _ _).drew | exact pw_below_drewN (Below.refl _ _) _)).mono ?_); rintro e w3 ⟨rfl, h3⟩; have HS1 := Aside0.mk (HSF.out _ h3); have HA := Aside0.mk h3; clear h3)
                  | ((go_at_call 20); (refine (P2.out _ (by first | exact HA.out | exact HA.out.below (Below.refl _ _).drew | exact HA.out.below (pw_below_drewN (Below.refl _ _) _))).mono ?_); rintro e w4 ⟨rfl, h4⟩; have HS2 := Aside0.mk (HSF.out _ h4); have HB := Aside0.mk h4; clear h4))
                go_wp2_with (fail)
                obtain ⟨ga', ha', gb', hb', sa', sb', ea', eb', hfin⟩ := HBK.out _ _ _ _ _ _ _ _ (Ent.has ((Ent.fst _ _).trans (LL.more (m2 := i * 1048576) (by omega) (by omega))) (HB.out.below (by first | exact Below.refl _ _ | exact (Below.refl _ _).drew | exact pw_below_drewN (Below.refl _ _) _)))
                go_roundg k9
                case measure => omega
                case rel => exact ⟨i + 1, ys, ga', ha', gb', hb', sa', sb', ea', eb', rfl, ⟨HI2.out.1, HI2.out.2.1⟩, HY, ⟨hfin⟩⟩
              · have k1 : (d == 1) = false := beq_eq_false_iff_ne.2 d1
                have k1' : decide (d = 1) = false := decide_eq_false d1
                by_cases d2 : d = 2
                · subst d2
                  clear k0 k0' d0 k1 k1' d1
                  have hb0 := CC.bl_ HL5.out
                  have kq := (blk_cell hb0 q).trans (tab_at HQ2.out _ _)
                  have kfq := blk_frozen hb0 q
                  have klq := blk_lt hb0
                  clear hb0
                  go_upto_region 37 with (fail)
                  go_region_law (first
                    | (go_simp; go_at_call 15; refine (c_new (HL5.out.below (pw_below_drewN (Below.refl _ _) 1))).mono ?_; rintro e w3 ⟨gn, rfl, h3⟩; have kb := CC.bl_ h3; have kq' := (blk_cell kb q).trans (tab_at HQ2.out _ _); have kfq' := blk_frozen kb q; have klq' := blk_lt kb; have kow := blk_cell h3.snd.box 0; have kol := blk_lt h3.snd.box; have hs3 := CC.setl q (ptr gn) h3; rw [tab_set HQ2.out] at hs3; have HA := Aside0.mk hs3; clear h3 kb hs3))
                  all_goals clear kq' kfq' klq' kow kol kq kfq klq c0 c1 c2 kl
                  all_goals (have kbm := CC.bm_ HA.out; have kq := (blk_cell kbm q).trans (tab_at HQ2.out _ _); have kfq := blk_frozen kbm q; have klq := blk_lt kbm; have c0 := blk_cell HA.out.snd.box 0; have kl := blk_lt HA.out.snd.box; clear kbm)
                  all_goals go_upto_region 38 with (fail)
                  all_goals (go_region_law (first
                    | (go_simp; go_at_call 16; refine (c_xnew 0 (HA.out.below (pw_below_drewN (Below.refl _ _) 1))).mono ?_; rintro e w4 ⟨hn9, rfl, h4⟩; have kb := CC.bm_ h4; have kq' := (blk_cell kb q).trans (tab_at HQ2.out _ _); have kfq' := blk_frozen kb q; have klq' := blk_lt kb; have kow := blk_cell h4.snd.box 0; have kol := blk_lt h4.snd.box; have hs4 := CC.setm q (ptr hn9) h4; rw [tab_set HQ2.out] at hs4; have HB := Aside0.mk hs4; clear h4 kb hs4)))
                  all_goals go_wp2_with (fail)
                  all_goals obtain ⟨ga', ha', gb', hb', sa', sb', ea', eb', hfin⟩ := HBK.out _ _ _ _ _ _ _ _ (Ent.has ((Ent.fst _ _).trans (LL.more (m2 := 0) (by omega) (Nat.zero_le _))) HB.out)
                  all_goals go_roundg k9
                  all_goals first
                    | omega
                    | exact ⟨i + 1, ys, ga', ha', gb', hb', sa', sb', ea', eb', rfl, ⟨HI2.out.1, HI2.out.2.1⟩, HY, ⟨hfin⟩⟩
                · have k2 : (d == 2) = false := beq_eq_false_iff_ne.2 d2
                  have k2' : decide (d = 2) = false := decide_eq_false d2
                  clear d0 d1 d2
                  go_wp2_with (fail)
                  obtain ⟨ga', ha', gb', hb', sa', sb', ea', eb', hfin⟩ := HBK.out V _ _ _ _ _ _ _ (Ent.has ((Ent.fst _ _).trans (LL.more (by omega) (by omega))) HL5.out)
                  go_roundg k9
                  case measure => omega
                  case rel => exact ⟨i + 1, ys, ga', ha', gb', hb', sa', sb', ea', eb', rfl, ⟨HI2.out.1, HI2.out.2.1⟩, HY, ⟨hfin⟩⟩
        · have hl2 : decide ((i : Int) < (n : Int)) = false := decide_eq_false (by omega)
          have hl3 : decide (i < n) = false := decide_eq_false hlt
          clear hlt
          have kc := fun (w : World) (C : Array Value) (n c : Nat) => Lib.run_convert_bytes_const (P := Try.prog) w 22 5 C n c Try.underlying22 Try.underlying5
          go_wp2_with (first
            | ((go_at_call 15); (with_reducible refine (Rd.new_calls wr).mono ?_); rintro e w5 ⟨g5, rfl, hg5, hk5, hb5⟩; have HB5 := Aside0.mk (below_step HL.out.bl hb5); have HG5 := Aside0.mk (And.intro (Nat.le_trans HL.out.bl.size hg5) hk5); clear hg5 hk5 hb5)
            | ((go_at_call 17); (with_reducible refine (man_feed HB5.out HG5.out.1 HG5.out.2).mono ?_); rintro e w6 ⟨A6, c6, rfl, hr6, hb6⟩; have hcv := string_of_reads (P := Try.prog) (c := c6) Try.underlying22 Try.underlying5 Try.underlying9 hr6; have HB6 := Aside0.mk hb6; clear hr6 hb6))
          go_ret
          exact ⟨by first | rfl | (simp; decide +kernel) | decide +kernel, HB6.out⟩
theorem CodeReaders (a0 : Option Addr) (len0 cap0 : Nat) (f : Nat → Op.OpB) (w : World)
    (w0 : len0 ≤ 1048576 ∧ ∀ i, i < len0 → ∃ x, a0 = some x ∧ w.cell? (x.add (i * 3)) = some (.int .i64 (f i).who) ∧ w.cell? ⟨(x.add (i * 3)).block, (x.add (i * 3)).off + 1, none⟩ = some (.int .i64 (f i).op) ∧ w.cell? ⟨(x.add (i * 3)).block, (x.add (i * 3)).off + 2, none⟩ = some (.slice (f i).A (f i).l.length (f i).c) ∧
      Kd.C (Kd.int .u8) w (f i).A (f i).l.length (f i).l ∧ InB (f i).l ∧ (f i).l.length ≤ 1048576) :
    Calls Try.prog 5 #[.slice a0 len0 cap0] w fun e w' => e = .returned (.bool true) ∧ Below w.heap.size w w' :=
  readers_all a0 len0 cap0 f w w0.1 w0.2
end Go.Proofs.Ytokgckhhhhigiaa.Pure
