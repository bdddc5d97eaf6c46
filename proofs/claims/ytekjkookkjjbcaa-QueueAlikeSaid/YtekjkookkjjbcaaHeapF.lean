/- The heap of things: Pop (walked by hand). -/
import Derived.Test.YtekjkookkjjbcaaHeapE
namespace Go.Proofs.Ytekjkookkjjbcaa.HW
set_option linter.unusedVariables false
set_option linter.unusedSimpArgs false
set_option linter.unusedVariables false
set_option linter.unusedSimpArgs false
open Go.RowKit Go.Proofs.YtekjkookkjjbcaaW.PrintWords Go.Proofs.YtekjkookkjjbcaaW.PrintLast Go.Proofs.YtekjkookkjjbcaaW.PrintMore Go.Proofs.Ytekjkookkjjbcaa.B Go.Proofs.Ytekjkookkjjbcaa.M Go.Proofs.Ytekjkookkjjbcaa.HeapP
theorem swap_zero (W : World) (g g9 c9 base : Nat) (cmp : Value) (came : Int) (xs : List T3) (k : Nat) (h : HB W g cmp (.slice (some ⟨g9, 0, none⟩) xs.length c9) came) (ho : O3 W base g9 c9 xs) (hk : k < xs.length) (hne : g ≠ g9) :
    Calls Try.prog 71 #[.pointer (some ⟨g, 0, none⟩), .int .i64 0, .int .i64 (k : Int)] W fun e W' => (∃ v, e = .returned v) ∧ O3 W' base g9 c9 (swp d3 xs 0 k) ∧ W.grownBy W' (some g9) :=
  swap_calls W g g9 c9 base cmp came xs 0 k h ho (by omega) hk hne
theorem clear_last {W : World} {base g9 c9 n : Nat} {xs : List T3} (ho : O3 W base g9 c9 xs) (hl : xs.length = n + 1) :
    ∃ w1, (Builtin.clear_ #[95] 0 #[.slice (some ⟨g9, n * 3, none⟩) 1 (c9 - n)]).run Try.prog W = .ok (.tuple #[]) w1 ∧ O3 w1 base g9 c9 (xs.take n) ∧ W.grownBy w1 (some g9) := by
  obtain ⟨i0, hi, hzz⟩ := Option.map_eq_some_iff.1 infoW
  simp only [Prod.mk.injEq] at hzz
  obtain ⟨hz0, hz1, hz2⟩ := hzz
  obtain ⟨cur, hh, hb, hle, hm, hs, ht⟩ := ho.blk
  have hr := run_storeCells_at (P := Try.prog) g9 (n * 3) 101 [Value.int .i64 0, Value.int .i64 0, Value.int .i64 0] 0 cur W hh (by simp; omega) (by intro u hu; simp at hu; subst hu; rfl)
  have hg := RI.set_row_grown W g9 (cur.toList.take (n * 3 + 0) ++ [Value.int .i64 0, Value.int .i64 0, Value.int .i64 0] ++ cur.toList.drop (n * 3 + 0 + ([Value.int .i64 0, Value.int .i64 0, Value.int .i64 0] : List Value).length)).toArray
  have hx := setRow_heap W g9 cur (cur.toList.take (n * 3 + 0) ++ [Value.int .i64 0, Value.int .i64 0, Value.int .i64 0] ++ cur.toList.drop (n * 3 + 0 + ([Value.int .i64 0, Value.int .i64 0, Value.int .i64 0] : List Value).length)).toArray 101 (0, 0) hh
  refine ⟨_, ?_, ?_, hg⟩
  · have hzc : (Builtin.zeroCells (Value.agg #[.int .i64 0, .int .i64 0, .int .i64 0]).cells 1).toList = [Value.int .i64 0, Value.int .i64 0, Value.int .i64 0] := by kernel_rfl
    simp only [Nat.add_zero] at hr
    simp [Builtin.clear_, run_underlying Try.underlying95, zeroValue, typeInfo, hi, hz0, hzc]
    simp at hr
    rw [hr]
    simp [Result.andThen]
  · refine O3.of hx hb (by rw [List.length_take]; omega) hm ?_ ?_
    · simp only [List.size_toArray, List.length_append, List.length_take, List.length_drop, Array.length_toList, List.length_cons, List.length_nil]
      omega
    · rw [List.length_take, Nat.min_eq_left (by omega), cells3_take, ← ht]
      simp only [Nat.add_zero]
      rw [List.take_take, Nat.min_eq_left (by omega), List.append_assoc, List.take_append_of_le_length (by rw [List.length_take, Array.length_toList]; omega), List.take_take, Nat.min_eq_left (by omega)]
theorem keep_same (W : World) (g : Nat) (b : Option Nat) : KeepBut W W g b := ⟨Nat.le_refl _, fun _ _ _ _ => rfl⟩
theorem box_at {W w1 : World} {cs : Array Value} {t rb : Nat} (hb : Below (W.alloc (.cells cs t (0, 0))).heap.size (W.alloc (.cells cs t (0, 0))) w1) (hr : W.heap.size = rb) : w1.heap[rb]? = some (.cells cs t (0, 0)) := by
  rw [← hr]
  exact blk_below (heap_alloc_new W _) hb
theorem pw_c1 {w0 V W W' : World} {g K : Nat} {came : Int} {g9 c9 : Nat} {b0 : Option Nat} {xs : List T3} (h : HL w0 V W g K came g9 c9 b0 xs) (hg : W.grownBy W' (some g9)) : W'.cell? ⟨g, 1, none⟩ = some (.slice (some ⟨g9, 0, none⟩) xs.length c9) :=
  blk_cell ((hg.block g (blk_lt h.bk) (fun e => h.ne (Option.some.inj e))).trans h.bk) 1
theorem pw_f1 {w0 V W W' : World} {g K : Nat} {came : Int} {g9 c9 : Nat} {b0 : Option Nat} {xs : List T3} (h : HL w0 V W g K came g9 c9 b0 xs) (hg : W.grownBy W' (some g9)) : W'.frozen? ⟨g, 1, none⟩ = false :=
  blk_frozen ((hg.block g (blk_lt h.bk) (fun e => h.ne (Option.some.inj e))).trans h.bk) 1
section
variable {w0 V W W' : World} {g K rb vb : Nat} {came : Int} {g9 c9 n : Nat} {b0 : Option Nat} {xs zs : List T3} {c : Int → Int → Int}
theorem HL.cut (h : HL w0 V W g K came g9 c9 b0 xs) (ho : O3 W' w0.heap.size g9 c9 (xs.take n)) (hg : W.grownBy W' (some g9)) (hn : n ≤ xs.length) : HL w0 V (W'.setCell ⟨g, 1, none⟩ (.slice (some ⟨g9, 0, none⟩) n c9)) g K came g9 c9 b0 (xs.take n) := by
  have hl : (xs.take n).length = n := by rw [List.length_take]; omega
  have b7 : HB W' g (.func (.func K) #[] #[]) (.slice (some ⟨g9, 0, none⟩) xs.length c9) came := (hg.block g (blk_lt h.bk) (fun e => h.ne (Option.some.inj e))).trans h.bk
  obtain ⟨cur, hh, hb9, _⟩ := h.ow.blk
  have hb' : Below w0.heap.size w0 W' := pw_below_grown h.bl _ (below_size h.bl) hg (fun k hk => by injection hk with hk; rw [← hk]; exact hb9)
  have k1 := keep_row h.kp hg h.at9
  refine ⟨by rw [hl]; exact blk_put b7 1 _ rfl, h.gg, below_set hb' h.gg, ho.keep (Below.heap_setCell _ ⟨g, 1, none⟩ _ g9 (fun e => h.ne e.symm)), ⟨Nat.le_trans k1.1 (by simp [World.setCell]), fun i hi h1 h2 => ?_⟩, h.at9⟩
  rw [Below.heap_setCell _ ⟨g, 1, none⟩ _ i h1]
  exact k1.2 i hi h1 h2
/-- A box that the call has made, beside the heap. -/
structure Bx (w0 W V : World) (g g9 rb : Nat) (cs : Array Value) : Prop where
  a : rb ≠ g
  b : rb ≠ g9
  d : W.heap.size ≤ rb
  e : w0.heap.size ≤ W.heap.size
  f : V.heap[rb]? = some (.cells cs 29 (0, 0))
theorem Bx.at_ {W0 : World} {cs : Array Value} (h : HL w0 V W g K came g9 c9 (some g9) xs) (hb : Bx w0 W0 V g g9 rb cs) : W.heap[rb]? = some (.cells cs 29 (0, 0)) :=
  (h.kp.2 rb (blk_lt hb.f) hb.a (fun e => hb.b (Option.some.inj e))).trans hb.f
theorem HL.fin {W0 : World} {cs : Array Value} {a b : Value} (h : HL w0 V W g K came g9 c9 (some g9) zs) (hb : Bx w0 W0 V g g9 rb cs) (hm : zs.length ≤ 1048576) (hp : IsHeap (leW c) d3 zs) : HG w0 ((W.setCell ⟨rb, 0, none⟩ a).setCell ⟨rb, 1, none⟩ b) g K c came (.slice (some ⟨g9, 0, none⟩) zs.length c9) zs := by
  have e := Nat.le_trans hb.e hb.d
  refine ⟨?_, h.gg, below_set (below_set h.bl e) e, RW.of ((h.ow.keep (Below.heap_setCell _ ⟨rb, 0, none⟩ _ g9 hb.b.symm)).keep (Below.heap_setCell _ ⟨rb, 1, none⟩ _ g9 hb.b.symm)), hm, hp⟩
  exact ((Below.heap_setCell _ ⟨rb, 1, none⟩ _ g hb.a.symm).trans (Below.heap_setCell _ ⟨rb, 0, none⟩ _ g hb.a.symm)).trans h.bk
theorem HL.finK {W0 : World} {cs : Array Value} {a b : Value} (h : HL w0 V W g K came g9 c9 (some g9) zs) (hb : Bx w0 W0 V g g9 rb cs) (hB : Below W0.heap.size W0 V) : KeepBut W0 ((W.setCell ⟨rb, 0, none⟩ a).setCell ⟨rb, 1, none⟩ b) g (some g9) := by
  refine ⟨Nat.le_trans (Nat.le_trans hB.size h.kp.1) (by simp [World.setCell]), fun i hi h1 h2 => ?_⟩
  have := hb.d
  rw [Below.heap_setCell _ ⟨rb, 1, none⟩ _ i (show i ≠ rb by omega), Below.heap_setCell _ ⟨rb, 0, none⟩ _ i (show i ≠ rb by omega)]
  exact (h.kp.2 i (Nat.lt_of_lt_of_le hi hB.size) h1 h2).trans (hB.block i hi)
end
theorem pop_none_h {w0 W : World} {g K : Nat} {c : Int → Int → Int} {came : Int} {v : Value} (h : HG w0 W g K c came v []) :
    Calls Try.prog 17 #[.pointer (some ⟨g, 0, none⟩)] W fun e W' => e = .returned (.tuple #[.agg #[.int .i64 0, .int .i64 0], .bool false]) ∧ Below W.heap.size W W' := by
  have HG' := Aside0.mk h
  clear h
  obtain ⟨rb, hrb⟩ : ∃ rb, W.heap.size = rb := ⟨_, rfl⟩
  go_enter Try.func17, Try.ntmps17
  go_wp2_with (first
    | ((go_at_call 19); (with_reducible refine (peek_none (HG'.out.below (below_alloc (Below.refl _ _) _))).mono ?_); rintro e w1 ⟨rfl, hb⟩; have HB := Aside0.mk hb; have hbx := box_at hb hrb; have r0 := blk_cell hbx 0; have r1 := blk_cell hbx 1; have fr := blk_frozen hbx; have hlt := blk_lt hbx; have HX := Aside0.mk hbx; clear hb hbx))
  refine bodyPost_ret (results_ct rfl _ _ rb 29 #[.int .i64 0, .int .i64 0] (0, 0) _ rfl (blk_below (by refine blk_put (cs := #[.int .i64 0, .int .i64 0]) ?_ 1 _ rfl; refine blk_put (cs := #[.int .i64 0, .int .i64 0]) ?_ 0 _ rfl; exact HX.out) (below_alloc (Below.refl _ _) _)) Try.underlying29 rfl (by kernel_rfl)) rfl ?_
  exact ⟨rfl, below_alloc (below_set (below_set (below_step (below_alloc (Below.refl _ _) _) HB.out) (by omega)) (by omega)) _⟩
set_option maxHeartbeats 8000000 in
set_option maxRecDepth 100000 in
theorem pop_h {w0 W : World} {g K : Nat} {c : Int → Int → Int} {came : Int} {v : Value} {x : T3} {rest : List T3} (h : HG w0 W g K c came v (x :: rest)) (hA : AheadBy K c) (hO : Orders c) :
    Calls Try.prog 17 #[.pointer (some ⟨g, 0, none⟩)] W fun e W' => e = .returned (.tuple #[.agg #[.int .i64 x.1, .int .i64 x.2.1], .bool true]) ∧ ∃ v' zs, HG w0 W' g K c came v' zs ∧ zs.Perm rest ∧ KeepBut W W' g v.ownBlock ∧ MovedH W v.ownBlock v'.ownBlock := by
  obtain ⟨g9, c9, rfl, ho⟩ := RW.o3 h.ow (by simp)
  have HG' := Aside0.mk h
  have HAB := Aside0.mk (fun W g g9 c9 base came xs i k h1 h2 h3 h4 => hA W g g9 c9 base came xs i k h1 h2 h3 h4)
  have HO := Aside0.mk hO
  have HL0 : Aside0 (HL w0 W W g K came g9 c9 (some g9) (x :: rest)) := ⟨⟨h.bk, h.gg, h.bl, ho, keep_same W g _, .inl rfl⟩⟩
  have hc9 : (x :: rest).length ≤ c9 := by obtain ⟨_, _, _, h2, _⟩ := ho.blk; exact h2
  have hml := h.ml
  rw [List.length_cons] at hc9 hml
  obtain ⟨n, hn⟩ : ∃ n, rest.length = n := ⟨_, rfl⟩
  rw [hn] at hc9 hml
  have hxl : (x :: rest).length = n + 1 := by rw [List.length_cons, hn]
  have HXL := Aside0.mk hxl
  have HN := Aside0.mk (show n + 1 ≤ c9 ∧ n + 1 ≤ 1048576 from ⟨hc9, hml⟩)
  have q1 : IntKind.i64.wrap (((n + 1 : Nat) : Int) - 1) = (n : Int) := by rw [i64_w, wrap_id _ (by omega) (by omega)]; omega
  have q1c : wrap64 (n : Int) = (n : Int) := wrap_id _ (by omega) (by omega)
  have q1b : IntKind.i64.wrap ((n : Int) + 1 - 1) = (n : Int) := by rw [i64_w, wrap_id _ (by omega) (by omega)]; omega
  have SW := Aside0.mk (fun (V1 : World) (h1 : HL w0 W V1 g K came g9 c9 (some g9) (x :: rest)) => (swap_zero V1 g g9 c9 w0.heap.size _ came (x :: rest) n h1.bk h1.ow (by rw [HXL.out]; exact Nat.lt_succ_self n) h1.ne).mono (R' := fun e W' => (∃ v, e = .returned v) ∧ HL w0 V1 W' g K came g9 c9 (some g9) (swp d3 (x :: rest) 0 n)) (fun e W' ⟨h2, h3, h4⟩ => ⟨h2, (⟨h1.bk, h1.gg, h1.bl, h1.ow, keep_same _ _ _, .inl rfl⟩ : HL w0 V1 V1 g K came g9 c9 (some g9) (x :: rest)).row h3 h4 (swp_len d3 _ 0 n)⟩))
  have s3 : (c9 = n) = False := eq_false (by omega)
  have s4 : (n ≤ c9) = True := eq_true (by omega)
  clear h hA hO ho hc9 hml hn hxl
  obtain ⟨rb, hrb⟩ : ∃ rb, W.heap.size = rb := ⟨_, rfl⟩
  go_enter Try.func17, Try.ntmps17
  go_wp2_with (first
    | ((go_at_call 19); (with_reducible refine (peek_calls (HG'.out.below (below_alloc (Below.refl _ _) _))).mono ?_); rintro e w1 ⟨rfl, hb⟩; have HB := Aside0.mk hb; have hz1 := hb.size; have n0 := Aside0.mk ((HL0.out.below (below_alloc (Below.refl _ _) _)).below hb); clear HL0 hb; have HL0 := n0; clear n0; have c1 := blk_cell HL0.out.bk 1; rw [HXL.out] at c1; have hbx := box_at HB.out hrb; have r0 := blk_cell hbx 0; have r1 := blk_cell hbx 1; have fr := blk_frozen hbx; have hlt := blk_lt hbx; have hg := blk_lt HL0.out.bk; clear hbx)
    | ((go_at_call 71); (with_reducible refine (SW.out _ (HL0.out.below (below_alloc (Below.refl _ _) _))).mono ?_); rintro e w4 ⟨⟨v4, rfl⟩, hL4⟩; have HL4 := Aside0.mk hL4; have c1' := blk_cell hL4.bk 1; rw [swp_len, HXL.out] at c1'; obtain ⟨z1, z2, z3⟩ := hL4.ow.cell n (by rw [swp_len, HXL.out]; exact Nat.lt_succ_self n); have fz1 := hL4.ow.frozen (n * 3); have fz2 := hL4.ow.frozen (n * 3 + 1); have fz3 := hL4.ow.frozen (n * 3 + 2); obtain ⟨w5, hcl, ho5, hg5⟩ := clear_last hL4.ow (n := n) (by rw [swp_len, HXL.out]); have c1 := pw_c1 hL4 hg5; rw [swp_len, HXL.out] at c1; have f1' := pw_f1 hL4 hg5; have HO5 := Aside0.mk ho5; have HG5 := Aside0.mk hg5; clear hL4 ho5 hg5))
  clear c1 c1' z1 z2 z3 fz1 fz2 fz3 hcl f1' r0 r1 fr hlt hg q1 q1b q1c s3 s4
  have hbx := box_at HB.out hrb
  have hv := heap_alloc_new w1 (.cells #[.int .i64 x.1, .int .i64 x.2.1] 29 (0, 0))
  have hg9 : g9 < w1.heap.size := by obtain ⟨cur, hh, _⟩ := HL0.out.ow.blk; exact blk_lt hh
  have hg8 : g < w1.heap.size := blk_lt HL0.out.bk
  have hne := HL0.out.ne
  have hg7 : g < W.heap.size ∧ g9 < W.heap.size := ⟨blk_lt HG'.out.bk, Kd.R_lt HG'.out.ow g9 rfl⟩
  have hv1 := Aside0.mk (below_step (below_step (below_alloc (Below.refl W.heap.size W) _) HB.out) (below_alloc (Below.refl _ _) (.cells #[.int .i64 x.1, .int .i64 x.2.1] 29 (0, 0))))
  have HBR : Aside0 (Bx w0 W (w1.alloc (.cells #[.int .i64 x.1, .int .i64 x.2.1] 29 (0, 0))) g g9 rb #[.int .i64 0, .int .i64 0]) := ⟨⟨by omega, by omega, by omega, below_size HG'.out.bl, blk_below hbx (below_alloc (Below.refl _ _) _)⟩⟩
  have HBV : Aside0 (Bx w0 W (w1.alloc (.cells #[.int .i64 x.1, .int .i64 x.2.1] 29 (0, 0))) g g9 w1.heap.size #[.int .i64 x.1, .int .i64 x.2.1]) := ⟨⟨by omega, by omega, below_size (below_step (below_alloc (Below.refl W.heap.size W) _) HB.out), below_size HG'.out.bl, hv⟩⟩
  have HL6 := Aside0.mk (HL4.out.cut HO5.out HG5.out (by rw [swp_len, HXL.out]; exact Nat.le_succ n))
  obtain ⟨V1, hV1⟩ : ∃ V1, w1.alloc (.cells #[.int .i64 x.1, .int .i64 x.2.1] 29 (0, 0)) = V1 := ⟨_, rfl⟩
  rw [hV1] at HL6 HBR HBV hv1
  obtain ⟨vb, hvb⟩ : ∃ vb, w1.heap.size = vb := ⟨_, rfl⟩
  rw [hvb] at HBV
  rw [hvb]
  have hD := down_start (leW c) d3 HG'.out.hp (by simp)
  have hP := take_swp_perm d3 (xs := x :: rest) (by simp)
  rw [show (x :: rest).length - 1 = n by rw [HXL.out]; rfl] at hD hP
  have hzl : ((swp d3 (x :: rest) 0 n).take n).length = n := by rw [List.length_take, swp_len, HXL.out]; omega
  have HNN := Aside0.mk (show n + 1 ≤ c9 ∧ n + 1 ≤ 1048576 from HN.out)
  clear hbx hv hg9 hg8 hne hg7 hV1 hvb HL0 HL4 HO5 HG5 HB hz1
  generalize hzs0 : (swp d3 (x :: rest) 0 n).take n = zs0 at hD hP hzl HL6
  have HS := Aside0.mk (And.intro hD (And.intro hP hzl))
  clear hD hP hzl hzs0
  go_loopg [7] (n + 1) (fun kq v7 W2 => ∃ (i : Nat) (zs : List T3), v7 = .int .i64 (i : Int) ∧ Aside0 (n - i < kq ∧ zs.length = n ∧ i ≤ n) ∧ Aside0 (HL w0 V1 W2 g K came g9 c9 (some g9) zs) ∧ Aside0 (zs.Perm zs0 ∧ DownInv (leW c) d3 zs i))
  case atStart => exact ⟨0, zs0, rfl, ⟨by omega, HS.out.2.2, Nat.zero_le _⟩, HL6, ⟨List.Perm.refl _, HS.out.1⟩⟩
  case round =>
    clear HL6
    obtain ⟨i, zs, rfl, HI, HLo, HU⟩ := hrel
    cases gk with
    | zero => exact absurd HI.out.1 (Nat.not_lt_zero _)
    | succ k7 =>
    obtain ⟨a, ha⟩ : ∃ a, 2 * i = a := ⟨_, rfl⟩
    obtain ⟨b, hb⟩ : ∃ b, a + 1 = b := ⟨_, rfl⟩
    obtain ⟨d, hd⟩ : ∃ d, a + 2 = d := ⟨_, rfl⟩
    have hin : i ≤ 1048576 := by have h_ := HI.out; have h2_ := HNN.out; omega
    have q7 : IntKind.i64.wrap (2 * (i : Int)) = (a : Int) := by rw [i64_w, wrap_id _ (by omega) (by omega)]; omega
    have q8 : IntKind.i64.wrap ((a : Int) + 1) = (b : Int) := by rw [i64_w, wrap_id _ (by omega) (by omega)]; omega
    have q9 : IntKind.i64.wrap ((a : Int) + 2) = (d : Int) := by rw [i64_w, wrap_id _ (by omega) (by omega)]; omega
    have HA := Aside0.mk (And.intro ha (And.intro hb (And.intro hd hin)))
    clear ha hb hd hin
    go_wp2_with (fail)
    go_loopg [8, 9] 4 (fun kq v8 v9 W3 => ∃ m k : Nat, v8 = .int .i64 (m : Int) ∧ v9 = .int .i64 (k : Int) ∧ Aside0 (b ≤ k ∧ k ≤ d + 1 ∧ d + 1 - k < kq ∧ (m = i ∨ (b ≤ m ∧ m < k ∧ m < n))) ∧ Aside0 (leW c (zs.getD m d3) (zs.getD i d3) ∧ ∀ k', b ≤ k' → k' < k → k' < n → leW c (zs.getD m d3) (zs.getD k' d3)) ∧ Aside0 (HL w0 V1 W3 g K came g9 c9 (some g9) zs))
    case atStart => exact ⟨i, b, rfl, rfl, ⟨Nat.le_refl _, by have h_ := HA.out; omega, by have h_ := HA.out; omega, .inl rfl⟩, ⟨HO.out.rf _, fun k' h1 h2 => by omega⟩, HLo⟩
    case round =>
      clear HLo
      obtain ⟨m, k, rfl, rfl, HK, HM, HLo⟩ := hrel
      have hmk : m < n ∨ m = i := by have h_ := HK.out; omega
      by_cases hk : k ≤ d ∧ k < n
      · have hkn : k < zs.length ∧ m < zs.length := by have h_ := HI.out; have h2_ := HK.out; have h3_ := HA.out; omega
        have HKN := Aside0.mk hkn
        have k1 : decide ((k : Int) ≤ (d : Int)) = true := decide_eq_true (by omega)
        have k2 : decide (k ≤ d) = true := decide_eq_true hk.1
        have k3 : decide ((k : Int) < (n : Int)) = true := decide_eq_true (by omega)
        have k4 : decide (k < n) = true := decide_eq_true hk.2
        have q5 : IntKind.i64.wrap ((k : Int) + 1) = ((k + 1 : Nat) : Int) := by have h_ := HA.out; rw [i64_w, wrap_id _ (by omega) (by omega)]; rfl
        have HKD := Aside0.mk hk
        obtain ⟨t, ht⟩ : ∃ t, aheadB c (zs.getD k d3) (zs.getD m d3) = t := ⟨_, rfl⟩
        have HT := Aside0.mk ht
        clear hk hkn hmk ht
        cases gk with
        | zero => exact absurd HK.out.2.2.1 (Nat.not_lt_zero _)
        | succ k9 =>
        cases t with
        | false =>
          go_wp2_with (first
            | ((go_at_call 70); (with_reducible refine (HAB.out _ _ _ _ _ _ zs k m HLo.out.bk HLo.out.ow HKN.out.1 HKN.out.2).mono ?_); rw [HT.out]; rintro e w3 ⟨rfl, hb⟩; have n0 := Aside0.mk (HLo.out.below hb); clear HLo hb; have HLo := n0; clear n0))
          go_roundg k9
          case measure => omega
          case rel => exact ⟨m, k + 1, rfl, rfl, ⟨by have h_ := HK.out; omega, by have h_ := HKD.out; omega, by have h_ := HK.out; have h2_ := HKD.out; omega, by have h_ := HK.out; omega⟩, ⟨HM.out.1, fun k' h1 h2 h3 => by
            by_cases e : k' = k
            · subst e; exact HT.out
            · exact HM.out.2 k' h1 (by omega) h3⟩, HLo⟩
        | true =>
          go_wp2_with (first
            | ((go_at_call 70); (with_reducible refine (HAB.out _ _ _ _ _ _ zs k m HLo.out.bk HLo.out.ow HKN.out.1 HKN.out.2).mono ?_); rw [HT.out]; rintro e w3 ⟨rfl, hb⟩; have n0 := Aside0.mk (HLo.out.below hb); clear HLo hb; have HLo := n0; clear n0))
          go_roundg k9
          case measure => omega
          case rel => exact ⟨k, k + 1, rfl, rfl, ⟨by have h_ := HK.out; omega, by have h_ := HKD.out; omega, by have h_ := HK.out; have h2_ := HKD.out; omega, .inr ⟨HK.out.1, Nat.lt_succ_self k, HKD.out.2⟩⟩, ⟨HO.out.tr _ _ _ (HO.out.tot _ _ HT.out) HM.out.1, fun k' h1 h2 h3 => by
            by_cases e : k' = k
            · subst e; exact HO.out.rf _
            · exact HO.out.tr _ _ _ (HO.out.tot _ _ HT.out) (HM.out.2 k' h1 (by omega) h3)⟩, HLo⟩
      · have HKX := Aside0.mk hk
        by_cases hkd : k ≤ d
        · have k1 : decide ((k : Int) ≤ (d : Int)) = true := decide_eq_true (by omega)
          have k2 : decide (k ≤ d) = true := decide_eq_true hkd
          have k3 : decide ((k : Int) < (n : Int)) = false := decide_eq_false (by omega)
          have k4 : decide (k < n) = false := decide_eq_false (by omega)
          have HALL : Aside0 (∀ k', b ≤ k' → k' ≤ d → k' < n → leW c (zs.getD m d3) (zs.getD k' d3)) := ⟨fun k' h1 h2 h3 => HM.out.2 k' h1 (by have h_ := HKX.out; omega) h3⟩
          have hml := HK.out.2.2.2
          have HML := Aside0.mk hml
          by_cases hmi : m = i
          · subst hmi
            have hv0 := HBV.out.at_ HLo.out
            have hr0 := HBR.out.at_ HLo.out
            have v0 := blk_cell hv0 0
            have v1 := blk_cell hv0 1
            have r0 := blk_cell hr0 0
            have r1 := blk_cell hr0 1
            have fr := blk_frozen hr0
            have HR0 := Aside0.mk hr0
            clear hv0 hr0 hmk hml
            clear hk hkd
            go_wp2_with (fail)
            refine bodyPost_ret (results_ct rfl _ _ rb 29 #[.int .i64 x.1, .int .i64 x.2.1] (0, 0) _ rfl (by refine blk_put (cs := #[.int .i64 x.1, .int .i64 0]) ?_ 1 _ rfl; refine blk_put (cs := #[.int .i64 0, .int .i64 0]) ?_ 0 _ rfl; exact HR0.out) Try.underlying29 rfl (by kernel_rfl)) rfl ?_
            refine ⟨rfl, _, zs, HLo.out.fin HBR.out (by have h_ := HI.out; have h2_ := HNN.out; omega) (down_done (leW c) d3 HU.out.2 (fun k' h1 h2 h3 => HALL.out k' (by have h_ := HA.out; omega) (by have h_ := HA.out; omega) (by rw [← HI.out.2.1]; exact h3))), ?_, HLo.out.finK HBR.out hv1.out, .inl rfl⟩
            exact (List.perm_cons x).1 ((HU.out.1.cons x).trans HS.out.2.1)
          · have e1 : ((m : Int) == (i : Int)) = false := beq_eq_false_iff_ne.2 (by omega)
            have e2 : decide (m = i) = false := decide_eq_false hmi
            have e3 : (m == i) = false := beq_eq_false_iff_ne.2 hmi
            have hmn : b ≤ m ∧ m < n ∧ i < n ∧ i < m := by have h_ := HA.out; omega
            have HMN := Aside0.mk hmn
            have hzz : i < zs.length ∧ m < zs.length := by have h_ := HI.out; omega
            have HZZ := Aside0.mk hzz
            clear hmi hmn hzz hmk hml
            clear hk hkd
            go_wp2_with (first
              | ((go_at_call 71); (with_reducible refine (swap_calls _ g g9 c9 _ _ _ zs i m HLo.out.bk HLo.out.ow HZZ.out.1 HZZ.out.2 HLo.out.ne).mono ?_); rintro e w4 ⟨⟨v4, rfl⟩, ho4, hg4⟩; have n0 := Aside0.mk (HLo.out.row ho4 hg4 (swp_len d3 zs i m)); clear HLo ho4 hg4; have HLo := n0; clear n0))
            go_roundg k7
            case measure => omega
            case rel => exact ⟨m, swp d3 zs i m, rfl, ⟨by have h_ := HI.out; have h2_ := HMN.out; omega, by rw [swp_len]; exact HI.out.2.1, by have h2_ := HMN.out; omega⟩, HLo, ⟨(swp_perm d3 zs i m HZZ.out.1 HZZ.out.2).trans HU.out.1, down_step (leW c) d3 HO.out.tr HU.out.2 HZZ.out.1 HZZ.out.2 (by have h_ := HA.out; have h2_ := HML.out; have h3_ := HMN.out; have h4_ := HK.out; have h5_ := HKX.out; omega) HM.out.1 (fun k' h1 h2 h3 => HALL.out k' (by have h_ := HA.out; omega) (by have h_ := HA.out; omega) (by rw [← HI.out.2.1]; exact h3))⟩⟩
        · have k1 : decide ((k : Int) ≤ (d : Int)) = false := decide_eq_false (by omega)
          have k2 : decide (k ≤ d) = false := decide_eq_false hkd
          have HALL : Aside0 (∀ k', b ≤ k' → k' ≤ d → k' < n → leW c (zs.getD m d3) (zs.getD k' d3)) := ⟨fun k' h1 h2 h3 => HM.out.2 k' h1 (by have h_ := HKX.out; omega) h3⟩
          have hml := HK.out.2.2.2
          have HML := Aside0.mk hml
          by_cases hmi : m = i
          · subst hmi
            have hv0 := HBV.out.at_ HLo.out
            have hr0 := HBR.out.at_ HLo.out
            have v0 := blk_cell hv0 0
            have v1 := blk_cell hv0 1
            have r0 := blk_cell hr0 0
            have r1 := blk_cell hr0 1
            have fr := blk_frozen hr0
            have HR0 := Aside0.mk hr0
            clear hv0 hr0 hmk hml
            clear hk hkd
            go_wp2_with (fail)
            refine bodyPost_ret (results_ct rfl _ _ rb 29 #[.int .i64 x.1, .int .i64 x.2.1] (0, 0) _ rfl (by refine blk_put (cs := #[.int .i64 x.1, .int .i64 0]) ?_ 1 _ rfl; refine blk_put (cs := #[.int .i64 0, .int .i64 0]) ?_ 0 _ rfl; exact HR0.out) Try.underlying29 rfl (by kernel_rfl)) rfl ?_
            refine ⟨rfl, _, zs, HLo.out.fin HBR.out (by have h_ := HI.out; have h2_ := HNN.out; omega) (down_done (leW c) d3 HU.out.2 (fun k' h1 h2 h3 => HALL.out k' (by have h_ := HA.out; omega) (by have h_ := HA.out; omega) (by rw [← HI.out.2.1]; exact h3))), ?_, HLo.out.finK HBR.out hv1.out, .inl rfl⟩
            exact (List.perm_cons x).1 ((HU.out.1.cons x).trans HS.out.2.1)
          · have e1 : ((m : Int) == (i : Int)) = false := beq_eq_false_iff_ne.2 (by omega)
            have e2 : decide (m = i) = false := decide_eq_false hmi
            have e3 : (m == i) = false := beq_eq_false_iff_ne.2 hmi
            have hmn : b ≤ m ∧ m < n ∧ i < n ∧ i < m := by have h_ := HA.out; omega
            have HMN := Aside0.mk hmn
            have hzz : i < zs.length ∧ m < zs.length := by have h_ := HI.out; omega
            have HZZ := Aside0.mk hzz
            clear hmi hmn hzz hmk hml
            clear hk hkd
            go_wp2_with (first
              | ((go_at_call 71); (with_reducible refine (swap_calls _ g g9 c9 _ _ _ zs i m HLo.out.bk HLo.out.ow HZZ.out.1 HZZ.out.2 HLo.out.ne).mono ?_); rintro e w4 ⟨⟨v4, rfl⟩, ho4, hg4⟩; have n0 := Aside0.mk (HLo.out.row ho4 hg4 (swp_len d3 zs i m)); clear HLo ho4 hg4; have HLo := n0; clear n0))
            go_roundg k7
            case measure => omega
            case rel => exact ⟨m, swp d3 zs i m, rfl, ⟨by have h_ := HI.out; have h2_ := HMN.out; omega, by rw [swp_len]; exact HI.out.2.1, by have h2_ := HMN.out; omega⟩, HLo, ⟨(swp_perm d3 zs i m HZZ.out.1 HZZ.out.2).trans HU.out.1, down_step (leW c) d3 HO.out.tr HU.out.2 HZZ.out.1 HZZ.out.2 (by have h_ := HA.out; have h2_ := HML.out; have h3_ := HMN.out; have h4_ := HK.out; have h5_ := HKX.out; omega) HM.out.1 (fun k' h1 h2 h3 => HALL.out k' (by have h_ := HA.out; omega) (by have h_ := HA.out; omega) (by rw [← HI.out.2.1]; exact h3))⟩⟩
end Go.Proofs.Ytekjkookkjjbcaa.HW
