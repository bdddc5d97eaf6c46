/- The reference's heap: Pop (walked by hand). -/
import Derived.Test.YtekjkookkjjbcaaRefH
namespace Go.Proofs.Ytekjkookkjjbcaa.RH
set_option linter.unusedVariables false
set_option linter.unusedSimpArgs false
set_option linter.unusedVariables false
set_option linter.unusedSimpArgs false
open Go.RowKit Go.Proofs.YtekjkookkjjbcaaW.PrintWords Go.Proofs.YtekjkookkjjbcaaW.PrintLast Go.Proofs.YtekjkookkjjbcaaW.PrintMore Go.Proofs.Ytekjkookkjjbcaa.B Go.Proofs.Ytekjkookkjjbcaa.M
theorem cutT {i : TypeInfo} (hi : Try.prog.info? 29 = some i) (hsz : i.size = 2) (A : Option Addr) (n c j : Nat) (h : j ≤ n) : ∀ W : World, (Instr.slice 55 (.slice A n c) (some (.int .i64 (j : Int))) none none).run Try.prog W = .ok (.slice (if c = j then A else A.map (·.add (j * 2))) (n - j) (c - j)) W :=
  cut_from (P := Try.prog) 55 29 .i64 Try.underlying55 hi 2 hsz A n c (j : Int) (by omega) (by omega)
theorem empty_own (W : World) (w0 : World) (h : w0.heap.size ≤ W.heap.size) : RT w0 (W.alloc (.cells #[] 29 (0, 0))) (.slice (some ⟨W.heap.size, 0, none⟩) 0 0) [] :=
  ⟨fun _ _ => trivial, [], ⟨rfl, .inr ⟨W.heap.size, 0, #[], rfl, h, heap_alloc_new W _, Nat.le_refl 0, by decide, rfl, rfl⟩⟩, Reps.none _ _⟩
theorem kT_any {w w' : World} {x : T2} {cs : List Value} (h : kT.K w x cs) : kT.K w' x cs := by
  obtain ⟨_, _, rfl, h1, h2⟩ := h
  exact ⟨_, _, rfl, h1, h2⟩
theorem pop_stored {w0 V w6 w7 : World} {g : Nat} {v v6 v7 : Value} {gs gs1 : List T2} (h : HR w0 V g v gs) (hB : Below V.heap.size V w6) (hb7 : Below w0.heap.size w0 w7) (hg : w6.grownBy w7 v6.ownBlock) (hat6 : ∃ k, v6.ownBlock = some k ∧ V.heap.size ≤ k) (hat7 : v7.ownBlock = v6.ownBlock ∨ ∃ b, v7.ownBlock = some b ∧ w6.heap.size ≤ b) (ho : RT w0 w7 v7 gs1) :
    HR w0 (w7.setCell ⟨g, 0, none⟩ v7) g v7 gs1 ∧ KeepBut V (w7.setCell ⟨g, 0, none⟩ v7) g v.ownBlock ∧ MovedR V v.ownBlock v7.ownBlock := by
  obtain ⟨k, hk1, hk2⟩ := hat6
  have hx := HR.stored h hb7 (Nat.le_trans hB.size hg.size) (fun i hi _ => (hg.block i (Nat.lt_of_lt_of_le hi hB.size) (fun e => by rw [hk1] at e; injection e with e; omega)).trans (hB.block i hi)) ho
  refine ⟨hx.1, hx.2, ?_⟩
  rcases hat7 with h7 | ⟨b, h7, h8⟩
  · exact .inr ⟨k, h7.trans hk1, hk2⟩
  · exact .inr ⟨b, h7, Nat.le_trans hB.size h8⟩
theorem HR.far2 {w0 W : World} {g rb : Nat} {v a b : Value} {gs : List T2} (h : HR w0 W g v gs) (h1 : rb ≠ g) (h2 : w0.heap.size ≤ rb) (h3 : v.ownBlock ≠ some rb) : HR w0 ((W.setCell ⟨rb, 0, none⟩ a).setCell ⟨rb, 1, none⟩ b) g v gs := by
  have hk : ∀ i, i ≠ rb → ((W.setCell ⟨rb, 0, none⟩ a).setCell ⟨rb, 1, none⟩ b).heap[i]? = W.heap[i]? := fun i hi => (Below.heap_setCell _ ⟨rb, 1, none⟩ _ i hi).trans (Below.heap_setCell _ ⟨rb, 0, none⟩ _ i hi)
  exact ⟨(hk g h1.symm).trans h.bk, h.gg, below_set (below_set h.bl h2) h2, Kd.R_mono (Kd.R_kept (S := fun j => j = rb) (Kd.R_tight rfl h.ow) ⟨by simp [World.setCell], fun i _ hn => hk i hn⟩ (fun j hj e => h3 (by rw [← e]; exact hj.symm))) (fun _ _ => trivial)⟩
theorem keep_far2 {W V W' : World} {g rb : Nat} {b0 : Option Nat} {a b : Value} (hb : Below W.heap.size W V) (hk : KeepBut V W' g b0) (hr : W.heap.size ≤ rb) : KeepBut W ((W'.setCell ⟨rb, 0, none⟩ a).setCell ⟨rb, 1, none⟩ b) g b0 := by
  refine ⟨Nat.le_trans (Nat.le_trans hb.size hk.1) (by simp [World.setCell]), fun i hi h1 h2 => ?_⟩
  rw [Below.heap_setCell _ ⟨rb, 1, none⟩ _ i (show i ≠ rb by omega), Below.heap_setCell _ ⟨rb, 0, none⟩ _ i (show i ≠ rb by omega)]
  exact (hk.2 i (Nat.lt_of_lt_of_le hi hb.size) h1 h2).trans (hb.block i hi)
theorem rpop_none {w0 W : World} {g : Nat} {v : Value} (h : HR w0 W g v []) :
    Calls Try.prog 18 #[.pointer (some ⟨g, 0, none⟩)] W fun e W' => e = .returned (.tuple #[.agg #[.int .i64 0, .int .i64 0], .bool false]) ∧ Below W.heap.size W W' := by
  have HH := Aside0.mk h
  clear h
  go_enter Try.func18, Try.ntmps18
  go_wp2_with (first
    | ((go_at_call 72); (with_reducible refine (rleast_calls (HH.out.below (below_alloc (Below.refl _ _) _)) (by simp)).mono ?_); rintro e w1 ⟨a, rfl, h2, ⟨nd, rfl⟩⟩; obtain rfl : a = -1 := (by rcases h2 with h2 | ⟨m, h2, h3⟩; exact h2.2; exact absurd h3.1 (Nat.not_lt_zero _)); clear h2))
  exact bodyPost_ret (v := .tuple #[.agg #[.int .i64 0, .int .i64 0], .bool false]) (by simp [results, Try.results18, go_sem]) rfl ⟨rfl, (by repeat (first | exact Below.refl _ _ | exact Nat.le_refl _ | exact Nat.le_succ _ | (refine below_alloc ?_ _) | (refine below_set ?_ ?_) | (refine pw_below_drewN ?_ _)))⟩
set_option maxHeartbeats 8000000 in
set_option maxRecDepth 100000 in
theorem rpop_calls {w0 W : World} {g : Nat} {v : Value} {gs : List T2} (h : HR w0 W g v gs) (hl : gs.length ≤ 1048576) (hp : 0 < gs.length) :
    Calls Try.prog 18 #[.pointer (some ⟨g, 0, none⟩)] W fun e W' => ∃ m : Nat, e = .returned (.tuple #[.agg #[.int .i64 (gs.getD m d2).1, .int .i64 (gs.getD m d2).2], .bool true]) ∧ IsLeast gs gs.length m ∧ ∃ v', HR w0 W' g v' (gs.take m ++ gs.drop (m + 1)) ∧ KeepBut W W' g v.ownBlock ∧ MovedR W v.ownBlock v'.ownBlock := by
  have HH := Aside0.mk h
  obtain ⟨g9, c9, hv, hb9, hg9, _⟩ := Kd.R_form h.ow hp
  subst hv
  have hcr := Kd.R_reads' h.ow
  have hcl := Aside0.mk (C_cells hcr.2.2)
  have HCR := Aside0.mk hcr
  have c1 : W.cell? ⟨g, 0, none⟩ = some (.slice (some ⟨g9, 0, none⟩) gs.length c9) := blk_cell h.bk 0
  have hg : g < W.heap.size := blk_lt h.bk
  have HLL := Aside0.mk (And.intro hl (And.intro hp hcr.2.1))
  have HG9 := Aside0.mk (And.intro hb9 hg9)
  obtain ⟨i0, hi, hzz⟩ := Option.map_eq_some_iff.1 infoT
  simp only [Prod.mk.injEq] at hzz
  have HCU := Aside0.mk (fun (j : Nat) (hj : j ≤ gs.length) => cutT hi hzz.2.1 (some ⟨g9, 0, none⟩) gs.length c9 j hj)
  obtain ⟨rb, hrb⟩ : ∃ rb, W.heap.size = rb := ⟨_, rfl⟩
  rw [hrb] at hg hg9
  clear h hl hp hcr hb9 hi hzz
  go_enter Try.func18, Try.ntmps18
  go_upto_region 5 with (first
    | ((go_at_call 72); (with_reducible refine (rleast_calls (HH.out.below (below_alloc (Below.refl _ _) _)) HLL.out.1).mono ?_); rintro e w1 ⟨a, rfl, h2, ⟨nd, rfl⟩⟩; obtain ⟨m, rfl, hm⟩ : ∃ m : Nat, a = (m : Int) ∧ IsLeast gs gs.length m := (by rcases h2 with h2 | h2; exact absurd h2.1 (Nat.ne_of_gt HLL.out.2.1); exact h2); have i1 := (hcl.out m hm.1).1; have i2 := (hcl.out m hm.1).2; have p4 : (0 : Int) ≤ (m : Int) := Int.natCast_nonneg m; have p5 : (m : Int) < (gs.length : Int) := Int.ofNat_lt.2 hm.1; have p6 : (m < gs.length) = True := eq_true hm.1; have k1 : decide ((m : Int) < 0) = false := decide_eq_false (by omega); obtain ⟨y, hy⟩ : ∃ y, gs.getD m d2 = y := ⟨_, rfl⟩; rw [hy] at i1 i2; have HY := Aside0.mk hy; have HM := Aside0.mk hm; clear h2 hm hy))
  clear i1 i2 k1
  obtain ⟨V, hV⟩ : ∃ V, ((W.alloc (.cells #[.int .i64 0, .int .i64 0] 29 (0, 0))).drewN nd).alloc (.cells #[.int .i64 y.1, .int .i64 y.2] 29 (0, 0)) = V := ⟨_, rfl⟩
  have HB := Aside0.mk (show Below W.heap.size W V from hV ▸ below_alloc (pw_below_drewN (below_alloc (Below.refl W.heap.size W) _) nd) _)
  have hbr : V.heap[rb]? = some (.cells #[.int .i64 0, .int .i64 0] 29 (0, 0)) := by
    rw [← hV, ← hrb]
    exact blk_below (w := (W.alloc (.cells #[.int .i64 0, .int .i64 0] 29 (0, 0))).drewN nd) (heap_alloc_new W _) (below_alloc (Below.refl _ _) _)
  have hbv : V.heap[rb + 1]? = some (.cells #[.int .i64 y.1, .int .i64 y.2] 29 (0, 0)) := by
    have := heap_alloc_new ((W.alloc (.cells #[.int .i64 0, .int .i64 0] 29 (0, 0))).drewN nd) (.cells #[.int .i64 y.1, .int .i64 y.2] 29 (0, 0))
    rw [hV] at this
    rw [← hrb, ← this]
    congr 1
    exact (World.size_alloc _ _).symm
  rw [hV]
  have HBR := Aside0.mk (And.intro hbr hbv)
  have HRB := Aside0.mk (And.intro hrb (And.intro hg hg9))
  have HHV := Aside0.mk (HH.out.below HB.out)
  have c0 : V.cell? ⟨g, 0, none⟩ = some (.slice (some ⟨g9, 0, none⟩) gs.length c9) := blk_cell HHV.out.bk 0
  have hgV : g < V.heap.size := blk_lt HHV.out.bk
  obtain ⟨m1, hm1⟩ : ∃ m1, m + 1 = m1 := ⟨_, rfl⟩
  have hml : m1 ≤ gs.length := by have h_ := HM.out.1; omega
  have HML := Aside0.mk (And.intro hml hm1)
  have q1 : IntKind.i64.wrap ((m : Int) + 1) = (m1 : Int) := by have h_ := HLL.out.1; rw [i64_w, wrap_id _ (by omega) (by omega)]; omega
  have hcu := HCU.out m1 hml
  obtain ⟨A2, hA2⟩ : ∃ A2 : Option Addr, (if c9 = m1 then some ⟨g9, 0, none⟩ else (some ⟨g9, 0, none⟩ : Option Addr).map (·.add (m1 * 2))) = A2 := ⟨_, rfl⟩
  rw [hA2] at hcu
  have HA2 := Aside0.mk hA2
  have s1 := eq_true (show (0 : Int) ≤ (m : Int) by omega)
  have s2 : (m ≤ c9) = True := eq_true (by have h_ := HM.out.1; have h2_ := HLL.out; omega)
  obtain ⟨N, hN⟩ : ∃ N, gs.length = N := ⟨_, rfl⟩
  rw [hN] at c0 hcu
  have HN := Aside0.mk hN
  obtain ⟨N2, hN2⟩ : ∃ N2, N - m1 = N2 := ⟨_, rfl⟩
  obtain ⟨c2, hc2⟩ : ∃ c2, c9 - m1 = c2 := ⟨_, rfl⟩
  rw [hN2, hc2] at hcu
  have HN2 := Aside0.mk hN2
  have HR2 : Aside0 (kT.C W A2 N2 (gs.drop m1)) := ⟨by
    have h_ := Kd.C_drop HCR.out.2.2 hml HCR.out.2.1
    rw [show m1 * kT.sz = m1 * 2 from rfl, HA2.out, List.length_drop, HN.out, hN2] at h_
    exact h_⟩
  have HR1 : Aside0 (kT.C W (some ⟨g9, 0, none⟩) m (gs.take m)) := ⟨by
    have h_ := (Kd.R_reads' (Kd.R_take HH.out.ow (Nat.le_of_lt HM.out.1))).2.2
    rw [List.length_take, Nat.min_eq_left (Nat.le_of_lt HM.out.1)] at h_
    exact h_⟩
  clear hV hbr hbv hg hg9 hm1 hml hA2 hN hN2 hc2 p4 p5 p6 c1 hrb
  obtain ⟨ts, hts⟩ : ∃ ts, gs.take m = ts := ⟨_, rfl⟩
  have HTS := Aside0.mk hts
  rw [hts] at HR1
  obtain ⟨ys, hys⟩ : ∃ ys, ts ++ gs.drop m1 = ys := ⟨_, rfl⟩
  have HYS := Aside0.mk hys
  clear hys hts
  have HC0 := Aside0.mk c0
  go_cut [] from 18 to 36 (fun wx => ∃ v1, Aside0 (HR w0 wx g v1 ys ∧ KeepBut V wx g (Value.slice (some ⟨g9, 0, none⟩) gs.length c9).ownBlock ∧ MovedR V (Value.slice (some ⟨g9, 0, none⟩) gs.length c9).ownBlock v1.ownBlock))
  case first =>
    go_region_law (first
      | (refine Kd.R_append_rows_step kT (Rr := kT.K V) (w0 := w0) w0.heap.size (by kernel_rfl) (.tmp 19) (.tmp 25) 55 29 (.agg #[.int .i64 0, .int .i64 0]) 16 rfl Try.underlying55 infoT rfl (by decide) (by omega) (.slice (some ⟨V.heap.size, 0, none⟩) 0 0) [] ts (some ⟨g9, 0, none⟩) m c9 (fun _ => True) (fun _ => False) (by kernel_rfl) (by kernel_rfl) ?aO ?aR ?aM (fun _ h => h.elim) (fun _ _ => trivial) ?aB ?aS ?aL ?_; (case aO => exact empty_own (V.drewN _) w0 (below_size (pw_below_drewN HHV.out.bl _))); (case aR => exact (Kd.C_below HR1.out (below_step HB.out (below_alloc (pw_below_drewN (Below.refl _ _) _) _))).imp_ (Below.refl _ _) (fun _ _ hp => kT_any hp)); (case aM => exact fun x cs hx => kT_mk' hx); (case aB => exact below_step HHV.out.bl (below_alloc (pw_below_drewN (Below.refl _ _) _) _)); (case aS => exact below_size (below_step HHV.out.bl (below_alloc (pw_below_drewN (Below.refl _ _) _) _))); (case aL => have h_ := HM.out.1; have h2_ := HLL.out.1; simp only [List.length_nil]; omega); intro v6 w6 ho6 hb6 hg6 hat6; rw [List.nil_append] at ho6; obtain ⟨A6, c6, rfl⟩ := Kd.R_slice ho6; have HB6 := Aside0.mk (pw_below_grown (below_alloc (pw_below_drewN (Below.refl V.heap.size V) _) _) _ (Nat.le_trans (Nat.le_refl _) (below_alloc (pw_below_drewN (Below.refl V.heap.size V) _) _).size) hg6 (fun k hk => by cases hk; exact Nat.le_refl _)); have HO6 := Aside0.mk ho6; have HW6 := Aside0.mk hb6; have HAT6 : Aside0 (∃ k, (Value.slice A6 ts.length c6).ownBlock = some k ∧ V.heap.size ≤ k) := ⟨by rcases hat6 with h_ | ⟨k, h_, h2_⟩; exact ⟨V.heap.size, h_, Nat.le_refl _⟩; exact ⟨k, h_, Nat.le_trans (below_alloc (pw_below_drewN (Below.refl V.heap.size V) _) _).size h2_⟩⟩; have c06 := pw_cell_below HB6.out HC0.out; clear ho6 hb6 hg6 hat6)
      | (refine Kd.R_append_rows_step kT (Rr := kT.K V) (w0 := w0) w0.heap.size (by kernel_rfl) (.tmp 26) (.tmp 33) 55 29 (.agg #[.int .i64 0, .int .i64 0]) 16 rfl Try.underlying55 infoT rfl (by decide) (by omega) (.slice A6 ts.length c6) ts (gs.drop m1) A2 N2 c2 (fun _ => True) (fun _ => False) (by kernel_rfl) (by kernel_rfl) ?aO ?aR ?aM (fun _ h => h.elim) (fun _ _ => trivial) ?aB ?aS ?aL ?_; (case aO => exact HO6.out); (case aR => exact (Kd.C_below HR2.out (below_step HB.out HB6.out)).imp_ (Below.refl _ _) (fun _ _ hp => kT_any hp)); (case aM => exact fun x cs hx => kT_mk' hx); (case aB => exact HW6.out); (case aS => exact below_size HW6.out); (case aL => have h_ := HM.out.1; have h2_ := HLL.out.1; have h3_ := HTS.out; have h4_ := HN.out; have h5_ := HN2.out; have h6_ := HML.out; rw [← h3_, List.length_take]; omega); intro v7 w7 ho7 hb7 hg7 hat7; rw [HYS.out] at ho7; obtain ⟨A7, c7, rfl⟩ := Kd.R_slice ho7; have HX := Aside0.mk (pop_stored HHV.out HB6.out hb7 hg7 HAT6.out hat7 ho7); have hb := (hg7.block g (Nat.lt_of_lt_of_le (blk_lt HHV.out.bk) HB6.out.size) (fun e => by obtain ⟨k, h_, h2_⟩ := HAT6.out; rw [h_] at e; injection e with e; have := blk_lt HHV.out.bk; omega)).trans (blk_below HHV.out.bk HB6.out); have c07 := blk_cell hb 0; have f07 := blk_frozen hb 0; clear c06 ho7 hb7 hg7 hat7 hb))
    all_goals go_wp2_with (fail)
    all_goals go_meet
    all_goals first
      | exact ⟨_, HX⟩
      | exact ⟨_, ⟨HX.out.1.drew, keep_trans HX.out.2.1 (pw_below_drewN (Below.refl _ _) 1), HX.out.2.2⟩⟩
  case rest =>
    obtain ⟨v1, HX⟩ := hcut
    have hne1 : rb ≠ g ∧ some rb ≠ (Value.slice (some ⟨g9, 0, none⟩) gs.length c9).ownBlock ∧ rb + 1 ≠ g ∧ some (rb + 1) ≠ (Value.slice (some ⟨g9, 0, none⟩) gs.length c9).ownBlock := by
      have h_ := HRB.out
      refine ⟨by omega, fun e => ?_, by omega, fun e => ?_⟩
      · have e : some rb = some g9 := e
        injection e with e; omega
      · have e : some (rb + 1) = some g9 := e
        injection e with e; omega
    have x0 := (HX.out.2.1.2 rb (blk_lt HBR.out.1) hne1.1 hne1.2.1).trans HBR.out.1
    have x1 := (HX.out.2.1.2 (rb + 1) (blk_lt HBR.out.2) hne1.2.2.1 hne1.2.2.2).trans HBR.out.2
    have v0 := blk_cell x1 0
    have v1' := blk_cell x1 1
    have r0 := blk_cell x0 0
    have r1 := blk_cell x0 1
    have fr := blk_frozen x0
    have HR0 := Aside0.mk x0
    clear hne1 x0 x1
    go_wp2_with (fail)
    refine bodyPost_ret (results_ct rfl _ _ rb 29 #[.int .i64 y.1, .int .i64 y.2] (0, 0) _ rfl (by refine blk_put (cs := #[.int .i64 y.1, .int .i64 0]) ?_ 1 _ rfl; refine blk_put (cs := #[.int .i64 0, .int .i64 0]) ?_ 0 _ rfl; exact HR0.out) Try.underlying29 rfl (by kernel_rfl)) rfl ?_
    refine ⟨m, by rw [HY.out]; rfl, HM.out, v1, ?_, ?_, ?_⟩
    · rw [HML.out.2, HTS.out, HYS.out]
      exact HR.far2 HX.out.1 (by have h_ := HRB.out; omega) (by have h_ := HRB.out; have h2_ := below_size HH.out.bl; omega) (fun e => by
        have h_ := HRB.out
        have hv := blk_lt HBR.out.1
        rcases HX.out.2.2 with h3 | ⟨j, h3, h4⟩
        · rw [e] at h3
          have h3 : some rb = some g9 := h3
          injection h3 with h3; omega
        · rw [e] at h3
          injection h3 with h3; omega)
    · exact keep_far2 HB.out HX.out.2.1 (by have h_ := HRB.out; omega)
    · exact HX.out.2.2.imp id (fun ⟨j, h1, h2⟩ => ⟨j, h1, Nat.le_trans HB.out.size h2⟩)
end Go.Proofs.Ytekjkookkjjbcaa.RH
