/- The reference's heap: NewHeap, Len, least, Peek (walked by hand). -/
import Derived.Test.YtekjkookkjjbcaaFifo
import Derived.Deep.LoopGhost
namespace Go.Proofs.Ytekjkookkjjbcaa.RH
set_option linter.unusedVariables false
set_option linter.unusedSimpArgs false
set_option linter.unusedVariables false
set_option linter.unusedSimpArgs false
open Go.RowKit Go.Proofs.YtekjkookkjjbcaaW.PrintWords Go.Proofs.YtekjkookkjjbcaaW.PrintLast Go.Proofs.YtekjkookkjjbcaaW.PrintMore Go.Proofs.Ytekjkookkjjbcaa.B Go.Proofs.Ytekjkookkjjbcaa.M
theorem infoT : (Try.prog.info? 29).map (fun i => (i.zero, i.size, i.bytes)) = some (some (.agg #[.int .i64 0, .int .i64 0]), 2, 16) := by kernel_rfl
/-- A thing: its key and its number. -/
abbrev T2 := Int × Int
abbrev d2 : T2 := (0, 0)
def enc2 (x : T2) : List Value := [.int .i64 x.1, .int .i64 x.2]
abbrev kT : Kd T2 := Kd.pair (Kd.int .i64) (Kd.int .i64)
theorem kT_open {w : World} {x : T2} {cs : List Value} (h : kT.K w x cs) : cs = enc2 x := by
  obtain ⟨_, _, rfl, h1, h2⟩ := h
  have h1 : _ = [Value.int .i64 x.1] := h1
  have h2 : _ = [Value.int .i64 x.2] := h2
  rw [h1, h2]
  rfl
theorem kT_mk (w : World) (x : T2) : kT.K w x (enc2 x) := ⟨[.int .i64 x.1], [.int .i64 x.2], rfl, rfl, rfl⟩
theorem kT_mk' {w w' : World} {base : Nat} {ok : Nat → Prop} {x : T2} {cs : List Value} (h : kT.K w x cs) : kT.M w' base ok x cs := by
  obtain ⟨_, _, rfl, h1, h2⟩ := h
  exact ⟨_, _, rfl, h1, h2⟩
abbrev RT (w0 W : World) (v : Value) (gs : List T2) : Prop := Kd.R kT 29 W w0.heap.size (fun _ => True) v gs
theorem C_cells {W : World} {g9 n : Nat} {gs : List T2} (h : kT.C W (some ⟨g9, 0, none⟩) n gs) (i : Nat) (hi : i < n) : W.cell? ⟨g9, i * 2, none⟩ = some (.int .i64 (gs.getD i d2).1) ∧ W.cell? ⟨g9, i * 2 + 1, none⟩ = some (.int .i64 (gs.getD i d2).2) := by
  obtain ⟨ad, c, e, _, hK, hc⟩ := Kd.C_get h d2 (i : Int) (by omega) (by omega)
  injection e with e
  subst e
  have ha : ∀ j, (Addr.add ⟨g9, 0, none⟩ j) = (⟨g9, j, none⟩ : Addr) := fun j => by unfold Addr.add; simp; intro h; exact h.symm
  rw [Int.toNat_natCast] at hK hc
  rw [kT_open hK] at hc
  have h0 := hc 0 _ rfl
  have h1 := hc 1 _ rfl
  rw [ha] at h0 h1
  exact ⟨h0, h1⟩
/-- A heap of the reference's. -/
structure HR (w0 W : World) (g : Nat) (v : Value) (gs : List T2) : Prop where
  bk : W.heap[g]? = some (.cells #[v] 99 (0, 0))
  gg : w0.heap.size ≤ g
  bl : Below w0.heap.size w0 W
  ow : RT w0 W v gs
theorem HR.below {w0 W W' : World} {g : Nat} {v : Value} {gs : List T2} (h : HR w0 W g v gs) (hb : Below W.heap.size W W') : HR w0 W' g v gs :=
  ⟨blk_below h.bk hb, h.gg, below_step h.bl hb, Kd.R_below h.ow hb⟩
theorem rnew_calls (w0 W : World) (hB : Below w0.heap.size w0 W) :
    Calls Try.prog 14 #[] W fun e W' => ∃ g, e = .returned (.pointer (some ⟨g, 0, none⟩)) ∧ HR w0 W' g (.slice none 0 0) [] ∧ Below W.heap.size W W' ∧ W.heap.size ≤ g := by
  go_enter Try.func14, Try.ntmps14
  go_wp2
  go_ret
  have hb := below_alloc (Below.refl W.heap.size W) (.cells #[.slice none 0 0] 99 (0, 0))
  exact ⟨W.heap.size, rfl, ⟨heap_alloc_new W _, below_size hB, below_step hB hb, Kd.R_nil _ _ _ _ _⟩, hb, Nat.le_refl _⟩
theorem rlen_calls {w0 W : World} {g : Nat} {v : Value} {gs : List T2} (h : HR w0 W g v gs) :
    Calls Try.prog 22 #[.pointer (some ⟨g, 0, none⟩)] W fun e W' => e = .returned (.int .i64 (gs.length : Int)) ∧ Drawn0 W W' := by
  obtain ⟨A, cc, rfl⟩ := Kd.R_slice h.ow
  have c1 : W.cell? ⟨g, 0, none⟩ = some (.slice A gs.length cc) := blk_cell h.bk 0
  clear h
  go_enter Try.func22, Try.ntmps22
  go_wp2
  go_ret
  exact ⟨rfl, Drawn0.refl _⟩
/-- The place of the first one than which none has a lesser key. -/
def IsLeast (gs : List T2) (n m : Nat) : Prop := m < n ∧ (∀ j, j < n → (gs.getD m d2).1 ≤ (gs.getD j d2).1) ∧ ∀ j, j < m → (gs.getD m d2).1 < (gs.getD j d2).1
def AtLeast (gs : List T2) (n : Nat) (at_ : Int) : Prop := (n = 0 ∧ at_ = -1) ∨ ∃ m : Nat, at_ = (m : Int) ∧ IsLeast gs n m
theorem least_first (gs : List T2) : IsLeast gs 1 0 := by
  refine ⟨by omega, ?_, ?_⟩
  · intro j h
    have e : j = 0 := by omega
    rw [e]
    exact Int.le_refl _
  · intro j h
    omega
theorem least_stay {gs : List T2} {i m : Nat} (h : IsLeast gs i m) (hl : ¬ (gs.getD i d2).1 < (gs.getD m d2).1) : IsLeast gs (i + 1) m :=
  ⟨by have := h.1; omega, fun j hj => by
    by_cases e : j = i
    · subst e; omega
    · exact h.2.1 j (by omega), h.2.2⟩
theorem least_new {gs : List T2} {i m : Nat} (h : IsLeast gs i m) (hl : (gs.getD i d2).1 < (gs.getD m d2).1) : IsLeast gs (i + 1) i :=
  ⟨by omega, fun j hj => by
    by_cases e : j = i
    · subst e; omega
    · have := h.2.1 j (by omega); omega, fun j hj => by have := h.2.1 j hj; omega⟩
set_option maxHeartbeats 8000000 in
set_option maxRecDepth 100000 in
theorem rleast_calls {w0 W : World} {g : Nat} {v : Value} {gs : List T2} (h : HR w0 W g v gs) (hl : gs.length ≤ 1048576) :
    Calls Try.prog 72 #[.pointer (some ⟨g, 0, none⟩)] W fun e W' => ∃ at_ : Int, e = .returned (.int .i64 at_) ∧ AtLeast gs gs.length at_ ∧ Drawn0 W W' := by
  obtain ⟨A, cc, rfl⟩ := Kd.R_slice h.ow
  have HH := Aside0.mk h
  have HLL := Aside0.mk hl
  obtain ⟨n, hn⟩ : ∃ n, gs.length = n := ⟨_, rfl⟩
  have HN := Aside0.mk hn
  clear h hl
  rw [hn] at HH ⊢
  clear hn
  go_enter Try.func72, Try.ntmps72
  go_wp2_with (fail)
  go_loopg [3, 4] (n + 1) (fun kq v3 v4 W2 => ∃ (a : Int) (i : Nat), v3 = .int .i64 a ∧ v4 = .int .i64 (i : Int) ∧ Aside0 (n - i < kq ∧ i ≤ n) ∧ Aside0 (AtLeast gs i a ∧ Drawn0 W W2))
  case atStart => exact ⟨-1, 0, rfl, rfl, ⟨by omega, Nat.zero_le _⟩, ⟨.inl ⟨rfl, rfl⟩, Drawn0.refl _⟩⟩
  case round =>
    obtain ⟨a, i, rfl, rfl, HI, HA⟩ := hrel
    have hR := HH.out.below HA.out.2.below
    have c1 : wr.cell? ⟨g, 0, none⟩ = some (.slice A n cc) := blk_cell hR.bk 0
    cases gk with
    | zero => exact absurd HI.out.1 (Nat.not_lt_zero _)
    | succ k9 =>
    by_cases hlt : i < n
    · have hl2 : decide ((i : Int) < (n : Int)) = true := decide_eq_true (by omega)
      have q1 : IntKind.i64.wrap ((i : Int) + 1) = ((i + 1 : Nat) : Int) := by have h_ := HLL.out; have h2_ := HN.out; rw [i64_w, wrap_id _ (by omega) (by omega)]; rfl
      have HI2 := Aside0.mk (show n - (i + 1) < k9 ∧ i + 1 ≤ n from ⟨by have h_ := HI.out; omega, by omega⟩)
      obtain ⟨g9, c9, hv, _⟩ := Kd.R_form hR.ow (by rw [HN.out]; omega)
      injection hv with hv1 hv2 hv3
      subst hv1
      have hcl := Kd.R_reads' hR.ow
      have hcells := C_cells hcl.2.2
      have i1 := (hcells i (by rw [HN.out]; exact hlt)).1
      have p1 : (0 : Int) ≤ (i : Int) := by omega
      have p2 : (i : Int) < (n : Int) := by omega
      have p3 : (i < n) = True := eq_true hlt
      rcases HA.out.1 with ⟨h0, ha⟩ | ⟨m, ha, hm⟩
      · subst ha
        have HM := Aside0.mk (show AtLeast gs (i + 1) (i : Int) from .inr ⟨i, rfl, by rw [h0]; exact least_first gs⟩)
        clear hR hcl hcells hlt h0 hv3 hv2
        go_wp2_with (fail)
        go_quiet (fail)
        go_wp2_with (fail)
        go_roundg k9
        case measure => omega
        case rel => exact ⟨(i : Int), i + 1, rfl, rfl, HI2, ⟨HM.out, Drawn0.step HA.out.2 _⟩⟩
      · subst ha
        have m1 := (hcells m (by rw [HN.out]; have := hm.1; omega)).1
        have hmi := hm.1
        have k1 : decide ((m : Int) < 0) = false := decide_eq_false (by omega)
        have p4 : (0 : Int) ≤ (m : Int) := by omega
        have p5 : (m : Int) < (n : Int) := by omega
        have p6 : (m < n) = True := eq_true (by omega)
        have HM := Aside0.mk hm
        by_cases hc : (gs.getD i d2).1 < (gs.getD m d2).1
        · have HC := Aside0.mk (least_new hm hc)
          have k2 : decide ((gs.getD i d2).1 < (gs.getD m d2).1) = true := decide_eq_true hc
          clear hR hcl hcells hlt hm hmi hc hv3 hv2
          generalize (gs.getD i d2).1 = ki at *
          generalize (gs.getD m d2).1 = km at *
          go_wp2_with (fail)
          go_quiet (fail)
          go_wp2_with (fail)
          go_roundg k9
          case measure => omega
          case rel => exact ⟨(i : Int), i + 1, rfl, rfl, HI2, ⟨.inr ⟨i, rfl, HC.out⟩, Drawn0.step HA.out.2 _⟩⟩
        · have HC := Aside0.mk (least_stay hm hc)
          have k2 : decide ((gs.getD i d2).1 < (gs.getD m d2).1) = false := decide_eq_false hc
          clear hR hcl hcells hlt hm hmi hc hv3 hv2
          generalize (gs.getD i d2).1 = ki at *
          generalize (gs.getD m d2).1 = km at *
          go_wp2_with (fail)
          go_quiet (fail)
          go_wp2_with (fail)
          go_roundg k9
          case measure => omega
          case rel => exact ⟨(m : Int), i + 1, rfl, rfl, HI2, ⟨.inr ⟨m, rfl, HC.out⟩, Drawn0.step HA.out.2 _⟩⟩
    · have hl2 : decide ((i : Int) < (n : Int)) = false := decide_eq_false (by omega)
      have e : i = n := by have h_ := HI.out; omega
      clear hR hlt
      go_wp2_with (fail)
      go_ret
      exact ⟨a, rfl, by rw [← e]; exact HA.out.1, HA.out.2⟩
/-- What the least is, where there is one. -/
theorem rpeek_none {w0 W : World} {g : Nat} {v : Value} (h : HR w0 W g v []) :
    Calls Try.prog 20 #[.pointer (some ⟨g, 0, none⟩)] W fun e W' => e = .returned (.tuple #[.agg #[.int .i64 0, .int .i64 0], .bool false]) ∧ Below W.heap.size W W' := by
  have HH := Aside0.mk h
  clear h
  go_enter Try.func20, Try.ntmps20
  go_wp2_with (first
    | ((go_at_call 72); (with_reducible refine (rleast_calls (HH.out.below (below_alloc (Below.refl _ _) _)) (by simp)).mono ?_); rintro e w1 ⟨a, rfl, h2, ⟨nd, rfl⟩⟩; obtain rfl : a = -1 := (by rcases h2 with h2 | ⟨m, h2, h3⟩; exact h2.2; exact absurd h3.1 (Nat.not_lt_zero _)); clear h2))
  exact bodyPost_ret (v := .tuple #[.agg #[.int .i64 0, .int .i64 0], .bool false]) (by simp [results, Try.results20, go_sem]) rfl ⟨rfl, (by repeat (first | exact Below.refl _ _ | exact Nat.le_refl _ | exact Nat.le_succ _ | (refine below_alloc ?_ _) | (refine below_set ?_ ?_) | (refine pw_below_drewN ?_ _)))⟩
theorem rpeek_calls {w0 W : World} {g : Nat} {v : Value} {gs : List T2} (h : HR w0 W g v gs) (hl : gs.length ≤ 1048576) (hp : 0 < gs.length) :
    Calls Try.prog 20 #[.pointer (some ⟨g, 0, none⟩)] W fun e W' => ∃ m : Nat, e = .returned (.tuple #[.agg #[.int .i64 (gs.getD m d2).1, .int .i64 (gs.getD m d2).2], .bool true]) ∧ IsLeast gs gs.length m ∧ Below W.heap.size W W' := by
  have HH := Aside0.mk h
  obtain ⟨g9, c9, hv, _, hg9, _⟩ := Kd.R_form h.ow hp
  subst hv
  have hcl := Aside0.mk (C_cells (Kd.R_reads' h.ow).2.2)
  have c1 : W.cell? ⟨g, 0, none⟩ = some (.slice (some ⟨g9, 0, none⟩) gs.length c9) := blk_cell h.bk 0
  have hg : g < W.heap.size := blk_lt h.bk
  have HLL := Aside0.mk (And.intro hl hp)
  clear h hl hp
  go_enter Try.func20, Try.ntmps20
  go_wp2_with (first
    | ((go_at_call 72); (with_reducible refine (rleast_calls (HH.out.below (below_alloc (Below.refl _ _) _)) HLL.out.1).mono ?_); rintro e w1 ⟨a, rfl, h2, ⟨nd, rfl⟩⟩; obtain ⟨m, rfl, hm⟩ : ∃ m : Nat, a = (m : Int) ∧ IsLeast gs gs.length m := (by rcases h2 with h2 | h2; exact absurd h2.1 (Nat.ne_of_gt HLL.out.2); exact h2); have i1 := (hcl.out m hm.1).1; have i2 := (hcl.out m hm.1).2; have p4 : (0 : Int) ≤ (m : Int) := Int.natCast_nonneg m; have p5 : (m : Int) < (gs.length : Int) := Int.ofNat_lt.2 hm.1; have p6 : (m < gs.length) = True := eq_true hm.1; have k1 : decide ((m : Int) < 0) = false := decide_eq_false (by omega); obtain ⟨y, hy⟩ : ∃ y, gs.getD m d2 = y := ⟨_, rfl⟩; rw [hy] at i1 i2; have HY := Aside0.mk hy; have HM := Aside0.mk hm; clear h2 hm hy))
  exact bodyPost_ret (v := .tuple #[.agg #[.int .i64 y.1, .int .i64 y.2], .bool true]) (by simp [results, Try.results20, go_sem]) rfl ⟨m, by rw [HY.out], HM.out, (by repeat (first | exact Below.refl _ _ | exact Nat.le_refl _ | exact Nat.le_succ _ | (refine below_alloc ?_ _) | (refine below_set ?_ ?_) | (refine pw_below_drewN ?_ _)))⟩
theorem keep_trans {V W W' : World} {g : Nat} {b : Option Nat} (h : KeepBut V W g b) (hb : Below W.heap.size W W') : KeepBut V W' g b :=
  ⟨Nat.le_trans h.1 hb.size, fun i hi h1 h2 => (hb.block i (Nat.lt_of_lt_of_le hi h.1)).trans (h.2 i hi h1 h2)⟩
/-- The row's block stays, or is new. -/
def MovedR (W : World) (b b' : Option Nat) : Prop := b' = b ∨ ∃ j, b' = some j ∧ W.heap.size ≤ j
theorem HR.stored {w0 V w7 : World} {g : Nat} {v v1 : Value} {gs gs1 : List T2} (h : HR w0 V g v gs) (hb7 : Below w0.heap.size w0 w7) (hs : V.heap.size ≤ w7.heap.size) (hk : ∀ i, i < V.heap.size → some i ≠ v.ownBlock → w7.heap[i]? = V.heap[i]?) (ho : RT w0 w7 v1 gs1) :
    HR w0 (w7.setCell ⟨g, 0, none⟩ v1) g v1 gs1 ∧ KeepBut V (w7.setCell ⟨g, 0, none⟩ v1) g v.ownBlock := by
  have hne : some g ≠ v.ownBlock := Kd.R_ne h.ow h.bk (by decide)
  have b7 : w7.heap[g]? = some (.cells #[v] 99 (0, 0)) := (hk g (blk_lt h.bk) hne).trans h.bk
  refine ⟨⟨blk_put b7 0 _ rfl, h.gg, below_set hb7 h.gg, Kd.R_set ho b7 (by decide) 0 v1⟩, Nat.le_trans hs (by simp [World.setCell]), fun i hi h1 h2 => ?_⟩
  rw [Below.heap_setCell _ ⟨g, 0, none⟩ _ i h1]
  exact hk i hi h2
theorem HR.drew {w0 W : World} {g : Nat} {v : Value} {gs : List T2} (h : HR w0 W g v gs) : HR w0 W.drew g v gs := h.below (pw_below_drewN (Below.refl _ _) 1)
theorem lit2_own (W : World) (x : T2) : ReadsRow (kT.K W) 2 (W.alloc (.cells #[.int .i64 x.1, .int .i64 x.2] 29 (0, 0))) (some ⟨W.heap.size, 0, none⟩) 1 [x] := by
  refine ⟨rfl, by decide, fun _ => ⟨_, rfl, fun j p hj => ?_⟩⟩
  have hh := heap_alloc_new W (.cells #[.int .i64 x.1, .int .i64 x.2] 29 (0, 0))
  cases j with
  | succ j => simp at hj
  | zero =>
    obtain rfl : x = p := by simpa using hj
    refine ⟨enc2 x, rfl, kT_mk _ _, fun i u hu => ?_⟩
    rw [Nat.zero_mul, Nat.zero_add]
    have := cell_of_row _ W.heap.size i _ _ (0, 0) hh
    show World.cell? _ (Addr.add ⟨W.heap.size, 0, none⟩ i) = _
    rw [show (Addr.add ⟨W.heap.size, 0, none⟩ i) = (⟨W.heap.size, i, none⟩ : Addr) by unfold Addr.add; simp; intro h; exact h.symm]
    rw [this]
    unfold enc2 at hu
    rw [← hu, ← Array.getElem?_toList]
set_option maxHeartbeats 8000000 in
set_option maxRecDepth 100000 in
theorem rpush_calls {w0 W : World} {g : Nat} {v : Value} {gs : List T2} (h : HR w0 W g v gs) (hl : gs.length < 1048576) (a b : Int) :
    Calls Try.prog 16 #[.pointer (some ⟨g, 0, none⟩), .agg #[.int .i64 a, .int .i64 b]] W fun e W' => e = .returned (.int .i64 0) ∧ ∃ v', HR w0 W' g v' (gs ++ [(a, b)]) ∧ KeepBut W W' g v.ownBlock ∧ MovedR W v.ownBlock v'.ownBlock := by
  obtain ⟨A, cc, rfl⟩ := Kd.R_slice h.ow
  have HH := Aside0.mk h
  have HLL := Aside0.mk hl
  have c0 : W.cell? ⟨g, 0, none⟩ = some (.slice A gs.length cc) := blk_cell h.bk 0
  have hg : g < W.heap.size := blk_lt h.bk
  have k1 : decide ((gs.length : Int) ≥ 1048576) = false := decide_eq_false (by omega)
  have k2 : decide ((1048576 : Int) ≤ (gs.length : Int)) = false := decide_eq_false (by omega)
  have k3 : decide (1048576 ≤ gs.length) = false := decide_eq_false (by omega)
  obtain ⟨ys, hys⟩ : ∃ ys, gs ++ [((a, b) : T2)] = ys := ⟨_, rfl⟩
  have HY := Aside0.mk hys
  rw [hys]
  clear hys
  obtain ⟨N, hN⟩ : ∃ N, gs.length = N := ⟨_, rfl⟩
  rw [hN] at c0 k1 k2 k3
  have HN := Aside0.mk hN
  clear h hl hN
  go_enter Try.func16, Try.ntmps16
  go_upto_region 5 with (fail)
  clear k1 k2 k3
  have HW := Aside0.mk (below_alloc (Below.refl W.heap.size W) (.cells #[.int .i64 a, .int .i64 b] 29 (0, 0)))
  have HN' := Aside0.mk (heap_alloc_new W (.cells #[.int .i64 a, .int .i64 b] 29 (0, 0)))
  obtain ⟨WB, hWB⟩ : ∃ WB, W.alloc (.cells #[.int .i64 a, .int .i64 b] 29 (0, 0)) = WB := ⟨_, rfl⟩
  rw [hWB] at HW HN'
  rw [hWB]
  obtain ⟨pb, hpb⟩ : ∃ pb, W.heap.size = pb := ⟨_, rfl⟩
  rw [hpb] at HN'
  rw [hpb]
  have b0 : WB.cell? ⟨pb, 0, none⟩ = some (.int .i64 a) := blk_cell HN'.out 0
  have b1 : WB.cell? ⟨pb, 1, none⟩ = some (.int .i64 b) := blk_cell HN'.out 1
  replace c0 := pw_cell_below HW.out c0
  clear hWB hg hpb
  have hpb : pb < WB.heap.size := blk_lt HN'.out
  have hg : g < WB.heap.size := by have h_ := HW.out.size; have h2_ := blk_lt HH.out.bk; omega
  go_cut [] from 13 to 22 (fun wx => ∃ v1, Aside0 (HR w0 wx g v1 ys ∧ KeepBut W wx g (Value.slice A gs.length cc).ownBlock ∧ MovedR W (Value.slice A gs.length cc).ownBlock v1.ownBlock))
  case first =>
    go_region_law (first
      | (refine Kd.R_append_rows_step kT (Rr := kT.K WB) (w0 := w0) w0.heap.size (by kernel_rfl) (.tmp 17) (.tmp 19) 55 29 (.agg #[.int .i64 0, .int .i64 0]) 16 rfl Try.underlying55 infoT rfl (by decide) (by omega) (.slice A N cc) gs [(a, b)] (some ⟨WB.heap.size, 0, none⟩) 1 1 (fun _ => True) (fun _ => False) (by kernel_rfl) (by kernel_rfl) ?aO ?aR ?aM (fun _ h => h.elim) (fun _ _ => trivial) ?aB ?aS ?aL ?_; (case aO => rw [← HN.out]; exact Kd.R_below HH.out.ow (below_alloc (pw_below_drewN HW.out _) _)); (case aR => exact lit2_own (WB.drewN _) (a, b)); (case aM => exact fun x cs hx => kT_mk' hx); (case aB => exact below_step HH.out.bl (below_alloc (pw_below_drewN HW.out _) _)); (case aS => exact below_size (below_step HH.out.bl (below_alloc (pw_below_drewN HW.out _) _))); (case aL => have h_ := HN.out; have h2_ := HLL.out; omega); intro v7 w7 ho7 hb7 hg7 hat7; rw [HY.out] at ho7; obtain ⟨A7, c7, rfl⟩ := Kd.R_slice ho7; rw [← HN.out] at hg7 hat7; have hx := HR.stored HH.out hb7 (Nat.le_trans (below_alloc (pw_below_drewN HW.out _) _).size hg7.size) (fun i hi hne => (hg7.block i (Nat.lt_of_lt_of_le hi (below_alloc (pw_below_drewN HW.out _) _).size) hne).trans ((below_alloc (pw_below_drewN HW.out _) _).block i hi)) ho7; have hm : MovedR W (Value.slice A gs.length cc).ownBlock (Value.slice A7 ys.length c7).ownBlock := hat7.imp id (fun ⟨b, h1, h2⟩ => ⟨b, h1, Nat.le_trans (below_alloc (pw_below_drewN HW.out _) _).size h2⟩); have HX := Aside0.mk (And.intro hx.1 (And.intro hx.2 hm)); have hb := (hg7.block g (Nat.lt_of_lt_of_le (blk_lt HH.out.bk) (below_alloc (pw_below_drewN HW.out _) _).size) (Kd.R_ne HH.out.ow HH.out.bk (by decide))).trans (blk_below HH.out.bk (below_alloc (pw_below_drewN HW.out _) _)); have c0' := blk_cell hb 0; have f0' := blk_frozen hb 0; clear c0 ho7 hb7 hg7 hat7 hx hm hb))
    all_goals go_wp2_with (fail)
    all_goals go_meet
    all_goals first
      | exact ⟨_, HX⟩
      | exact ⟨_, ⟨HX.out.1.drew, keep_trans HX.out.2.1 (pw_below_drewN (Below.refl _ _) 1), HX.out.2.2⟩⟩
  case rest =>
    obtain ⟨v1, HX⟩ := hcut
    go_wp2_with (fail)
    go_ret
    exact ⟨rfl, v1, HX.out⟩
theorem rpush_full {w0 W : World} {g : Nat} {v : Value} {gs : List T2} (h : HR w0 W g v gs) (hl : 1048576 ≤ gs.length) (a b : Int) :
    Calls Try.prog 16 #[.pointer (some ⟨g, 0, none⟩), .agg #[.int .i64 a, .int .i64 b]] W fun e W' => e = .returned (.int .i64 4) ∧ Below W.heap.size W W' := by
  obtain ⟨A, cc, rfl⟩ := Kd.R_slice h.ow
  have c0 : W.cell? ⟨g, 0, none⟩ = some (.slice A gs.length cc) := blk_cell h.bk 0
  have hg : g < W.heap.size := blk_lt h.bk
  have k1 : decide ((gs.length : Int) ≥ 1048576) = true := decide_eq_true (by omega)
  have k2 : decide ((1048576 : Int) ≤ (gs.length : Int)) = true := decide_eq_true (by omega)
  have k3 : decide (1048576 ≤ gs.length) = true := decide_eq_true (by omega)
  generalize gs.length = N at *
  clear h hl
  go_enter Try.func16, Try.ntmps16
  go_wp2_with (fail)
  go_ret
  exact ⟨rfl, (by repeat (first | exact Below.refl _ _ | exact Nat.le_refl _ | exact Nat.le_succ _ | (refine below_alloc ?_ _) | (refine below_set ?_ ?_) | (refine pw_below_drewN ?_ _)))⟩
end Go.Proofs.Ytekjkookkjjbcaa.RH
