/- code.Unquote (walked by hand). -/
import Derived.Test.YtokgckhhhhigiaaDoorQuoW
import Derived.Test.YtokgckhhhhigiaaDoorDA
namespace Go.Proofs.YtokgckhhhhigiaaDoor.UW
set_option linter.unusedVariables false
set_option linter.unusedSimpArgs false
open Go.RowKit Go.Proofs.YtokgckhhhhigiaaDoorW.PrintWords Go.Proofs.YtokgckhhhhigiaaDoorW.PrintLast Go.Proofs.YtokgckhhhhigiaaDoorW.PrintMore Go.Proofs.YtokgckhhhhigiaaDoor.B Go.Proofs.YtokgckhhhhigiaaDoor.M Go.Proofs.YtokgckhhhhigiaaDoor.D Go.Proofs.YtokgckhhhhigiaaDoor.Turn Go.Proofs.YtokgckhhhhigiaaDoor.Glob Go.Proofs.YtokgckhhhhigiaaDoor.Q Go.Proofs.YtokgckhhhhigiaaDoor.QW

set_option maxHeartbeats 8000000 in
set_option maxRecDepth 100000 in
theorem bad_calls (n : Int) (w : World) :
    Calls Tryd.prog 30 #[.int .i64 n] w fun e w' => e = .returned (.tuple #[.slice none 0 0, .agg #[.int .i64 42, .int .i64 n]]) ∧ Below w.heap.size w w' := by
  go_enter Tryd.func30, Tryd.ntmps30
  go_wp2_with (first
    | ((with_reducible refine gate_dst (N := 3) rfl ?_); (try (refine gate_guard (by rfl) ?_; dsimp only)); refine box_event ?hg (N := 3) ?hd (cs := #[.int .i64 0, .int .i64 0]) (t := 29) ?hr ?_; (case hd => rfl); (case hg => rfl); (case hr => first | (go_simp; done) | (go_simp; rfl)); intro gW hgW wbW hbox hb; have HXW : Aside0 (Below w.heap.size w wbW) := ⟨below_step (by repeat (first | (with_reducible first | exact Below.refl _ _ | apply below_alloc | apply pw_below_drewN | apply below_drew1))) hb⟩; have hgsW : w.heap.size ≤ gW := (by rw [hgW]; exact below_size ((by repeat (first | (with_reducible first | exact Below.refl _ _ | apply below_alloc | apply pw_below_drewN | apply below_drew1))) : Below w.heap.size w _)); have BXW := Aside0.mk hbox; have hczW_0 : wbW.cell? ⟨gW, 0, none⟩ = some (.int .i64 0) := (blk_cell hbox 0).trans rfl; have hfzW_0 := blk_frozen hbox 0; have hczW_1 : wbW.cell? ⟨gW, 1, none⟩ = some (.int .i64 0) := (blk_cell hbox 1).trans rfl; have hfzW_1 := blk_frozen hbox 1; clear hbox hb hgW)
    | ((with_reducible refine gate_store (t := 29) (p := 3) rfl ?_); refine store_event (t := 29) (p := 3) (v := ?vo_3) (w1 := ((wbW).setCell ⟨gW, 0, none⟩ (.int .i64 42)).setCell ⟨gW, 1, none⟩ (.int .i64 n)) ?hg ?ho ?hn ?hr ?_; (case ho => rfl); (case hg => rfl); (case hn => rfl); (case hr => first | (go_simp; done) | (go_simp; rfl)); intro wsW hw; have BKW : Aside0 (wsW.heap[gW]? = some (.cells #[.int .i64 42, .int .i64 n] 29 (0, 0)) ∧ Below w.heap.size w wsW) := ⟨by rw [hw]; exact ⟨blk_put (blk_put BXW.out 0 _ rfl) 1 _ rfl, ((HXW.out).setCell hgsW _).setCell hgsW _⟩⟩; clear hw HXW BXW hczW_0 hfzW_0 hczW_1 hfzW_1))
  refine bodyPost_ret (results_tc rfl _ _ gW 29 #[.int .i64 42, .int .i64 n] (0, 0) _ rfl BKW.out.1 Tryd.underlying29 rfl (by kernel_rfl)) rfl ?_
  exact ⟨rfl, BKW.out.2⟩
-- the walk of Unquote
/-- What stands in Unquote: the row that is made, the place that is told. -/
structure Uq (w : World) (g3 : Nat) (v : Value) (out : List Int) (W : World) : Prop where
  hq : Hq w v out W
  bk : W.heap[g3]? = some (.cells #[.int .i64 0, .int .i64 0] 29 (0, 0))
theorem Uq.step {w W W' : World} {g3 : Nat} {v : Value} {out : List Int} (h : Uq w g3 v out W) (hb : Below W.heap.size W W') : Uq w g3 v out W' := ⟨h.hq.step hb, blk_below h.bk hb⟩
theorem spot_ne {w W : World} {g3 : Nat} {v : Value} {out : List Int} (h : Uq w g3 v out W) : some g3 ≠ v.ownBlock := by
  intro hq
  obtain ⟨cs', hcs⟩ := own_typed h.hq.own g3 hq.symm
  have := h.bk
  rw [hcs] at this
  injection this with hk
  injection hk with _ h3
  exact absurd h3 (by decide)
theorem Uq.app {w W W' : World} {g3 : Nat} {v v' : Value} {out out' : List Int} (h : Uq w g3 v out W) (ho : W'.ownsRow w.heap.size 5 1 v' out'.length (nums .u8 out')) (hb : Below w.heap.size w W') (hg : W.grownBy W' v.ownBlock) : Uq w g3 v' out' W' :=
  ⟨⟨ho, hb⟩, by rw [hg.block g3 (blk_lt h.bk) (spot_ne h)]; exact h.bk⟩
theorem bt_nat (s : ByteArray) (n : Nat) (h : n < s.size) : ((s[n]'h).toNat : Int) = bt s (n : Int) := by simp [bt, h]
theorem Uq.set {w W : World} {g3 g : Nat} {v : Value} {out : List Int} {cs : Array Value} (h : Uq w g3 v out W) (hk : W.heap[g]? = some (.cells cs 29 (0, 0))) (hg : w.heap.size ≤ g) (hne : g3 ≠ g) (j : Nat) (u : Value) : Uq w g3 v out (W.setCell ⟨g, j, none⟩ u) := by
  refine ⟨⟨own_move h.hq.own (fun q hq => Below.heap_setCell _ _ _ _ ?_), h.hq.below.setCell (p := ⟨g, j, none⟩) hg u⟩, by rw [Below.heap_setCell _ _ _ _ hne]; exact h.bk⟩
  rintro rfl
  obtain ⟨cs', hcs⟩ := own_typed h.hq.own _ hq
  rw [hcs] at hk
  injection hk with hk
  injection hk with _ h3
  exact absurd h3 (by decide)
theorem Uq.fin {w W W' : World} {g3 : Nat} {v : Value} {out : List Int} (h : Uq w g3 v out W) (hg : w.heap.size ≤ g3) (a b : Int) (hw : W' = (W.setCell ⟨g3, 0, none⟩ (.int .i64 a)).setCell ⟨g3, 1, none⟩ (.int .i64 b)) :
    W'.heap[g3]? = some (.cells #[.int .i64 a, .int .i64 b] 29 (0, 0)) ∧ Below w.heap.size w W' := by
  subst hw
  exact ⟨blk_put (blk_put h.bk 0 _ rfl) 1 _ rfl, (h.hq.below.setCell hg _).setCell hg _⟩

theorem ext_bytes (s : ByteArray) (a b : Nat) : bytesOf (s.extract a b) = ((bytesOf s).drop a).take (b - a) := by
  unfold bytesOf
  rw [Lib.extract_data, List.map_take, List.map_drop]
def dg (i : Nat) : Int := [48, 49, 50, 51, 52, 53, 54, 55, 56, 57, 65, 66, 67, 68, 69, 70, 97, 98, 99, 100, 101, 102].getD i 0
theorem unhex_fin : ∀ a b : Fin 22, octet_Unhex.f 8 (strOfNums [dg a.val, dg b.val]) = some ([16 * hval (dg a.val) + hval (dg b.val)], 0, 0) := by decide +kernel
theorem hexblank_fin : ∀ c : Fin 256, isB 4 (c.val : Int) = true → blankB (c.val : Int) = false := by decide +kernel
theorem nblank (s : ByteArray) (i : Nat) (f : Int) (hf : f = bt s ((i + 2 : Nat) : Int)) (h : isB 4 f = true) : blankB (bt s (((i + 3 : Nat) : Int) - 1)) = false := by
  rw [show ((i + 3 : Nat) : Int) - 1 = ((i + 2 : Nat) : Int) by omega, ← hf]
  have hr : 0 ≤ f ∧ f ≤ 255 := by rw [hf]; exact bt_range _ _
  exact Q.of_fin (n := 256) (p := fun c => isB 4 c = true → blankB c = false) hexblank_fin f (by omega) h
theorem dg_fin : ∀ c : Fin 256, isB 4 (c.val : Int) = true → ∃ i : Fin 22, dg i.val = (c.val : Int) := by decide +kernel
theorem unhex_two (a b : Int) (ha : 0 ≤ a ∧ a ≤ 255) (hb : 0 ≤ b ∧ b ≤ 255) (h4 : isB 4 a = true) (h5 : isB 4 b = true) : octet_Unhex.f 8 (strOfNums [a, b]) = some ([16 * hval a + hval b], 0, 0) := by
  obtain ⟨x, rfl⟩ := Q.of_fin (n := 256) (p := fun c => isB 4 c = true → ∃ i : Fin 22, dg i.val = c) dg_fin a (by omega) h4
  obtain ⟨y, rfl⟩ := Q.of_fin (n := 256) (p := fun c => isB 4 c = true → ∃ i : Fin 22, dg i.val = c) dg_fin b (by omega) h5
  exact unhex_fin x y
set_option maxHeartbeats 8000000 in
set_option maxRecDepth 100000 in
theorem unq_calls (s : ByteArray) (r1 : List Int) (r2 r3 : Int) (w : World) (HG : GOk w) (hs : s.size ≤ 40000000000000) (h : unq (bytesOf s) = (r1, r2, r3)) :
    Calls Tryd.prog 16 #[.string s] w fun e w' => ∃ v0_ : Value, e = .returned (.tuple #[v0_, .agg #[.int .i64 r2, .int .i64 r3]]) ∧ Kd.R (Kd.int .u8) 5 w' w.heap.size (fun _ => True) v0_ r1 ∧ Below w.heap.size w w' := by
  have H0 := Aside0.mk h
  clear h
  go_enter Tryd.func16, Tryd.ntmps16
  go_wp2_with (first
    | ((with_reducible refine gate_dst (N := 3) rfl ?_); (try (refine gate_guard (by rfl) ?_; dsimp only)); refine box_event ?hg (N := 3) ?hd (cs := #[.int .i64 0, .int .i64 0]) (t := 29) ?hr ?_; (case hd => rfl); (case hg => rfl); (case hr => first | (go_simp; done) | (go_simp; rfl)); intro g3 hg3 w3 hbox hb; have hg3' : w.heap.size ≤ g3 := (by rw [hg3]; exact below_size ((by repeat (first | (with_reducible first | exact Below.refl _ _ | apply below_alloc | apply pw_below_drewN | apply below_drew1))) : Below w.heap.size w _)); have HB3 : Aside0 (Below w.heap.size w w3) := ⟨below_step (by repeat (first | (with_reducible first | exact Below.refl _ _ | apply below_alloc | apply pw_below_drewN | apply below_drew1))) hb⟩; have BK3 := Aside0.mk hbox; clear hbox hb hg3)
    | ((with_reducible refine gate_dst (N := 13) rfl ?_); refine Kd.R_lit (Kd.int .u8) _ 5 ?hg (N := 13) ?hd (xs := ([] : List Int)) (inner := []) (ok := fun _ => True) (okp := fun _ => True) ?hr ?hp (fun _ hk => hk) trivial (Below.refl _ _) (Nat.le_refl _) (by simp) ?_; (case hd => rfl); (case hg => rfl); (case hr => first | (go_simp; done) | (go_simp; rfl)); (case hp => exact (Reps.none _ _)); intro v4 w4 ho1 hb hg_ hnew_; clear hg_ hnew_; have HU0 : Aside0 (Uq w g3 v4 [] w4) := ⟨⟨⟨own_less (Kd.own_of_R ho1) HB3.out.size, below_step HB3.out hb⟩, blk_below BK3.out hb⟩⟩; clear hb ho1 HB3 BK3))
  go_loopg [4, 5, 7, 8, 9, 10, 11] s.size (fun gk v4 v5 v7 v8 v9 v10 v11 wr => ∃ (i ro m : Nat) (bl : Bool) (out : List Int), v5 = .int .i64 ro ∧ v7 = .int .i64 i ∧ Aside0 (gk = s.size - i) ∧ i ≤ s.size ∧ ro ≤ i ∧ Aside0 (s.size - i ≤ m) ∧ Aside0 (uqL m ((bytesOf s).drop i) (i - ro) i bl out = (r1, r2, r3)) ∧ Aside0 (bl = (decide (ro < i) && blankB (bt s ((i : Int) - 1)))) ∧ Aside0 (Uq w g3 v4 out wr) ∧ Aside0 (out.length ≤ 2 * i))
  case atStart => exact ⟨0, 0, s.size, false, [], rfl, rfl, ⟨rfl⟩, by omega, by omega, ⟨by omega⟩, ⟨by have := H0.out; unfold unq at this; rw [bytesOf_len] at this; exact this⟩, ⟨rfl⟩, HU0, ⟨by simp⟩⟩
  case round =>
    clear HU0 H0
    obtain ⟨i, ro, m, bl, out, rfl, rfl, HGK, hi, hro, HM, HQ, HBL, HU, HL⟩ := hrel
    by_cases hlt : i < s.size
    · have hil : i < (bytesOf s).length := by rw [bytesOf_len]; exact hlt
      obtain ⟨c, hcc⟩ : ∃ c, c = bt s (i : Int) := ⟨_, rfl⟩
      have hd : (bytesOf s).drop i = c :: (bytesOf s).drop (i + 1) := by rw [drop_cons _ i hil, hcc, bt_bytes s i hil]
      obtain ⟨m', rfl⟩ : ∃ m', m = m' + 1 := ⟨m - 1, by have := HM.out; omega⟩
      have hq := HQ.out
      rw [hd, uqL] at hq
      have HQ1 := Aside0.mk hq
      have hci : 0 ≤ c ∧ c ≤ 255 := by rw [hcc]; exact bt_range _ _
      have HCI := Aside0.mk hci
      have HCC := Aside0.mk hcc
      have HIL := Aside0.mk hil
      have hx20 : ∀ h : i < s.size, ((s[i]'h).toNat : Int) = c := fun h => by rw [hcc]; simp [bt, h]
      have p20 : (0 ≤ (i : Int)) = True := eq_true (by omega)
      have q20 : ((i : Int) < (s.size : Int)) = True := eq_true (by omega)
      have HLT := Aside0.mk hlt
      clear hq HQ hd hci hcc hil
      go_upto_region 7 with (fail)
      go_cut [9] from 14 to 200 (fun s9 wx => s9 = .bool (blankB c) ∧ Aside0 (Uq w g3 u4 out wx))
      case first =>
        as_aux_lemma =>
          cases h32 : (c == 32)
          · cases h9 : (c == 9)
            · have HS : Aside0 (false = blankB c) := ⟨by unfold blankB; rw [h32, h9]; rfl⟩
              go_wp2_with (fail)
              go_meet
              exact ⟨congrArg Value.bool HS.out, HU⟩
            · have HS : Aside0 (true = blankB c) := ⟨by unfold blankB; rw [h32, h9]; rfl⟩
              go_wp2_with (fail)
              go_meet
              exact ⟨congrArg Value.bool HS.out, HU⟩
          · have HS : Aside0 (true = blankB c) := ⟨by unfold blankB; rw [h32]; rfl⟩
            go_wp2_with (fail)
            go_meet
            exact ⟨congrArg Value.bool HS.out, HU⟩
      case rest =>
        as_aux_lemma =>
          obtain ⟨rfl, HUA⟩ := hcut
          clear HU
          have HU := HUA
          clear HUA
          cases h13 : (c == 13)
          · have hq := HQ1.out
            rw [if_neg (by intro h; rw [h] at h13; cases h13)] at hq
            obtain ⟨col, hcol⟩ : ∃ col, col = i - ro := ⟨_, rfl⟩
            rw [← hcol] at hq
            have HQ2 := Aside0.mk hq
            have hcI : (i : Int) - (ro : Int) = (col : Int) := by omega
            have HCOL := Aside0.mk hcol
            have hcb : (col : Int) ≤ 40000000000000 := by omega
            clear hq HQ1 hcol
            obtain ⟨bb, hbb⟩ : ∃ bb, bb = blankB c := ⟨_, rfl⟩
            have HBB := Aside0.mk hbb
            rw [← hbb]
            obtain ⟨ib, hib⟩ : ∃ ib, ib = isB 12 c := ⟨_, rfl⟩
            have HIB := Aside0.mk hib
            have HIF : Aside0 (octet_Is.f 12 c = some ib) := ⟨congrArg some hib.symm⟩
            have hq := HQ2.out
            rw [← hib, ← hbb] at hq
            have HQ3 := Aside0.mk hq
            clear hq HQ2 hbb hib
            have HGW : Aside0 (GOk wc) := ⟨GOk.of_below HG HU.out.hq.below⟩
            go_upto_region 23 with (fail)
            go_cut [9, 129] from 14 to 200 (fun s9 s129 wx => s9 = .bool bb ∧ s129 = .bool (decide (76 ≤ col ∨ ib = false ∨ (bb = true ∧ col = 75))) ∧ Aside0 (Uq w g3 u4 out wx))
            case first =>
              as_aux_lemma =>
                by_cases h76 : 76 ≤ col
                · have hb76 : decide ((col : Int) ≥ 76) = true := decide_eq_true (by omega)
                  have hb77 : decide ((76 : Int) ≤ (col : Int)) = true := decide_eq_true (by omega)
                  have hb78 : (76 : Int) ≤ (col : Int) := by omega
                  have HS : Aside0 (true = decide (76 ≤ col ∨ ib = false ∨ (bb = true ∧ col = 75))) := ⟨(decide_eq_true (.inl h76)).symm⟩
                  clear h76
                  go_wp2_with (fail)
                  go_meet
                  exact ⟨rfl, congrArg Value.bool HS.out, HU⟩
                · have hb76 : decide ((col : Int) ≥ 76) = false := decide_eq_false (by omega)
                  have hb77 : decide ((76 : Int) ≤ (col : Int)) = false := decide_eq_false (by omega)
                  have hb78 : (col : Int) < 76 := by omega
                  have H76 := Aside0.mk h76
                  clear h76
                  cases ib
                  · have HS : Aside0 (true = decide (76 ≤ col ∨ false = false ∨ (bb = true ∧ col = 75))) := ⟨(decide_eq_true (.inr (.inl rfl))).symm⟩
                    go_wp2_with (first
                      | ((go_at_call 25); (with_reducible refine (octet_Is.calls 12 c false _ (GOk.of_below HGW.out (by repeat (first | (with_reducible first | exact Below.refl _ _ | apply below_alloc | apply pw_below_drewN | apply below_drew1)))) HIF.out).mono ?_); rintro e wI ⟨rfl, hb⟩; have HIwI := Aside0.mk (below_step (by repeat (first | (with_reducible first | exact Below.refl _ _ | apply below_alloc | apply pw_below_drewN | apply below_drew1))) hb); clear hb))
                    go_meet
                    exact ⟨rfl, congrArg Value.bool HS.out, ⟨HU.out.step HIwI.out⟩⟩
                  · cases bb
                    · have HS : Aside0 (false = decide (76 ≤ col ∨ true = false ∨ (false = true ∧ col = 75))) := ⟨(decide_eq_false (by rintro (h | h | ⟨h, _⟩); exact H76.out h; cases h; cases h)).symm⟩
                      go_wp2_with (first
                        | ((go_at_call 25); (with_reducible refine (octet_Is.calls 12 c true _ (GOk.of_below HGW.out (by repeat (first | (with_reducible first | exact Below.refl _ _ | apply below_alloc | apply pw_below_drewN | apply below_drew1)))) HIF.out).mono ?_); rintro e wI ⟨rfl, hb⟩; have HIwI := Aside0.mk (below_step (by repeat (first | (with_reducible first | exact Below.refl _ _ | apply below_alloc | apply pw_below_drewN | apply below_drew1))) hb); clear hb))
                      go_meet
                      exact ⟨rfl, congrArg Value.bool HS.out, ⟨HU.out.step HIwI.out⟩⟩
                    · by_cases h75 : col = 75
                      · have HS : Aside0 (true = decide (76 ≤ col ∨ true = false ∨ (true = true ∧ col = 75))) := ⟨(decide_eq_true (.inr (.inr ⟨rfl, h75⟩))).symm⟩
                        have hb75 : ((col : Int) == 75) = true := beq_iff_eq.2 (by omega)
                        have hp75 : ((col : Int) = 75) = True := eq_true (by omega)
                        clear h75
                        go_wp2_with (first
                          | ((go_at_call 25); (with_reducible refine (octet_Is.calls 12 c true _ (GOk.of_below HGW.out (by repeat (first | (with_reducible first | exact Below.refl _ _ | apply below_alloc | apply pw_below_drewN | apply below_drew1)))) HIF.out).mono ?_); rintro e wI ⟨rfl, hb⟩; have HIwI := Aside0.mk (below_step (by repeat (first | (with_reducible first | exact Below.refl _ _ | apply below_alloc | apply pw_below_drewN | apply below_drew1))) hb); clear hb))
                        go_meet
                        exact ⟨rfl, congrArg Value.bool HS.out, ⟨HU.out.step HIwI.out⟩⟩
                      · have HS : Aside0 (false = decide (76 ≤ col ∨ true = false ∨ (true = true ∧ col = 75))) := ⟨(decide_eq_false (by rintro (h | h | ⟨_, h⟩); exact H76.out h; cases h; exact h75 h)).symm⟩
                        have hb75 : ((col : Int) == 75) = false := beq_eq_false_iff_ne.2 (by omega)
                        have hp75 : ((col : Int) = 75) = False := eq_false (by omega)
                        clear h75
                        go_wp2_with (first
                          | ((go_at_call 25); (with_reducible refine (octet_Is.calls 12 c true _ (GOk.of_below HGW.out (by repeat (first | (with_reducible first | exact Below.refl _ _ | apply below_alloc | apply pw_below_drewN | apply below_drew1)))) HIF.out).mono ?_); rintro e wI ⟨rfl, hb⟩; have HIwI := Aside0.mk (below_step (by repeat (first | (with_reducible first | exact Below.refl _ _ | apply below_alloc | apply pw_below_drewN | apply below_drew1))) hb); clear hb))
                        go_meet
                        exact ⟨rfl, congrArg Value.bool HS.out, ⟨HU.out.step HIwI.out⟩⟩
            case rest =>
              as_aux_lemma =>
                obtain ⟨rfl, rfl, HUX⟩ := hcut
                clear HU
                by_cases hbad : 76 ≤ col ∨ ib = false ∨ (bb = true ∧ col = 75)
                · rw [decide_eq_true hbad]
                  have hq := HQ3.out
                  rw [if_pos hbad] at hq
                  simp only [Prod.mk.injEq] at hq
                  obtain ⟨rfl, rfl, rfl⟩ := hq
                  clear HQ3 hbad
                  go_wp2_with ((go_at_call 30); (with_reducible refine (bad_calls ((i : Int)) _).mono ?_); rintro e wB ⟨rfl, hb⟩; have HUB := Aside0.mk (HUX.out.step (below_step (by repeat (first | (with_reducible first | exact Below.refl _ _ | apply below_alloc | apply pw_below_drewN | apply below_drew1))) hb)); have zc0 : wB.cell? ⟨g3, 0, none⟩ = some (.int .i64 0) := blk_cell HUB.out.bk 0; have zf0 := blk_frozen HUB.out.bk 0; have zc1 : wB.cell? ⟨g3, 1, none⟩ = some (.int .i64 0) := blk_cell HUB.out.bk 1; have zf1 := blk_frozen HUB.out.bk 1; clear hb)
                  have BKS := HUB.out.fin hg3' 42 ((i : Int)) rfl
                  refine bodyPost_ret (results_tc rfl _ _ g3 29 #[.int .i64 42, .int .i64 ((i : Int))] (0, 0) _ rfl BKS.1 Tryd.underlying29 rfl (by kernel_rfl)) rfl ?_
                  exact ⟨_, rfl, Kd.R_nil _ _ _ _ _, BKS.2⟩
                · rw [decide_eq_false hbad]
                  have hq := HQ3.out
                  rw [if_neg hbad] at hq
                  have HQ4 := Aside0.mk hq
                  have hlow : col ≤ 75 := by omega
                  have HLOW := Aside0.mk hlow
                  clear hq HQ3 hbad hlow
                  have HGX : Aside0 (GOk wc) := ⟨GOk.of_below HG HUX.out.hq.below⟩
                  cases h61 : (c == 61)
                  · have hn61 : (c != 61) = true := by simp [bne, h61]
                    have hq := HQ4.out
                    rw [if_pos (by intro h; rw [h] at h61; cases h61)] at hq
                    have HQ5 := Aside0.mk hq
                    clear hq HQ4
                    go_wp2_with (at_builtin; refine print_append_row (w0 := w) w.heap.size rfl (.tmp 156) (.tmp 158) 22 5 .u8 1 rfl Tryd.underlying22 info5 (by decide) u4 out [c] _ 1 1 rfl rfl ?aO ?aR ?aB ?aS ?aL ?_; (case aO => exact (HUX.out.hq.alloc _).own); (case aR => exact own_reads' (own_lit wc 0 5 .u8 [c] (Nat.zero_le _) (by simp))); (case aB => exact (HUX.out.hq.alloc _).below); (case aS => exact (HUX.out.hq.alloc (.cells #[.int .u8 c] 5)).below.size); (case aL => have := HL.out; omega); intro v1 w1 ho hb hg hat; have HU1 := Aside0.mk ((HUX.out.step (below_alloc (Below.refl _ _) _)).app ho hb hg); clear ho hb hg hat)
                    go_roundg (s.size - (i + 1))
                    case measure => have := HGK.out; have := HLT.out; omega
                    case rel => exact ⟨i + 1, ro, m', bb, out ++ [c], by go_num, by go_num, ⟨rfl⟩, by have := HLT.out; omega, by omega, ⟨by have := HM.out; omega⟩, ⟨by have := HQ5.out; rw [show i + 1 - ro = col + 1 by have := HCOL.out; omega]; exact this⟩, ⟨by rw [decide_eq_true (by omega), Bool.true_and, HBB.out, HCC.out]; congr 2; omega⟩, HU1, ⟨by have := HL.out; rw [List.length_append]; simp; omega⟩⟩
                  · have hn61 : (c != 61) = false := by simp [bne, h61]
                    have hq := HQ4.out
                    rw [if_neg (by intro h; exact h (beq_iff_eq.1 h61))] at hq
                    have HQ5 := Aside0.mk hq
                    clear hq HQ4
                    by_cases h1 : i + 1 = s.size
                    · have hb1 : ((i : Int) + 1 == (s.size : Int)) = true := beq_iff_eq.2 (by omega)
                      have hp1 : ((i : Int) + 1 = (s.size : Int)) = True := eq_true (by omega)
                      have hq := HQ5.out
                      rw [List.drop_eq_nil_of_le (by rw [bytesOf_len]; omega)] at hq
                      rw [if_neg (by decide), if_pos (.inr (by decide +kernel))] at hq
                      simp only [Prod.mk.injEq] at hq
                      obtain ⟨rfl, rfl, h3⟩ := hq
                      obtain rfl : r3 = (i : Int) + 1 := by rw [← h3]; omega
                      clear h3 h1 HQ5
                      go_wp2_with ((go_at_call 30); (with_reducible refine (bad_calls ((i : Int) + 1) _).mono ?_); rintro e wB ⟨rfl, hb⟩; have HUB := Aside0.mk (HUX.out.step (below_step (by repeat (first | (with_reducible first | exact Below.refl _ _ | apply below_alloc | apply pw_below_drewN | apply below_drew1))) hb)); have zc0 : wB.cell? ⟨g3, 0, none⟩ = some (.int .i64 0) := blk_cell HUB.out.bk 0; have zf0 := blk_frozen HUB.out.bk 0; have zc1 : wB.cell? ⟨g3, 1, none⟩ = some (.int .i64 0) := blk_cell HUB.out.bk 1; have zf1 := blk_frozen HUB.out.bk 1; clear hb)
                      have BKS := HUB.out.fin hg3' 42 ((i : Int) + 1) rfl
                      refine bodyPost_ret (results_tc rfl _ _ g3 29 #[.int .i64 42, .int .i64 ((i : Int) + 1)] (0, 0) _ rfl BKS.1 Tryd.underlying29 rfl (by kernel_rfl)) rfl ?_
                      exact ⟨_, rfl, Kd.R_nil _ _ _ _ _, BKS.2⟩
                    · have hb1 : ((i : Int) + 1 == (s.size : Int)) = false := beq_eq_false_iff_ne.2 (by omega)
                      have hp1 : ((i : Int) + 1 = (s.size : Int)) = False := eq_false (by omega)
                      have h2 : i + 1 < (bytesOf s).length := by rw [bytesOf_len]; omega
                      obtain ⟨d, hdd⟩ : ∃ d, d = bt s ((i + 1 : Nat) : Int) := ⟨_, rfl⟩
                      have hx1 : ∀ h : i + 1 < s.size, ((s[i + 1]'h).toNat : Int) = d := fun h => by rw [hdd]; exact bt_nat s (i + 1) h
                      have q1 : ((i : Int) + 1 < (s.size : Int)) = True := eq_true (by omega)
                      have p1 : (0 ≤ (i : Int) + 1) = True := eq_true (by omega)
                      have hd1 : (bytesOf s).drop (i + 1) = d :: (bytesOf s).drop (i + 2) := by rw [drop_cons _ _ h2, hdd, bt_bytes s _ h2]
                      have hdi : 0 ≤ d ∧ d ≤ 255 := by rw [hdd]; exact bt_range _ _
                      have hq := HQ5.out
                      rw [hd1] at hq
                      simp only [List.headD_cons, List.drop_succ_cons, List.drop_zero] at hq
                      have HQ6 := Aside0.mk hq
                      have H1 : Aside0 (i + 2 ≤ s.size) := ⟨by omega⟩
                      have HD1 := Aside0.mk hd1
                      have HDD := Aside0.mk hdd
                      have HDI := Aside0.mk hdi
                      have hw2 : wrap64 ((i : Int) + 2) = (i : Int) + 2 := wrap_id _ (by omega) (by omega)
                      have hw3 : wrap64 ((i : Int) + 3) = (i : Int) + 3 := wrap_id _ (by omega) (by omega)
                      clear hq HQ5 h1 h2 hdd hd1 hdi
                      cases hd13 : (d == 13)
                      · -- a byte by its digits
                        have hq := HQ6.out
                        rw [if_neg (by intro h; rw [h] at hd13; cases hd13)] at hq
                        have HQ7 := Aside0.mk hq
                        clear hq HQ6
                        by_cases h73 : 73 < col ∨ isB 4 d = false
                        · have hq := HQ7.out
                          rw [if_pos h73] at hq
                          simp only [Prod.mk.injEq] at hq
                          obtain ⟨rfl, rfl, h3⟩ := hq
                          obtain rfl : r3 = (i : Int) + 1 := by rw [← h3]; omega
                          clear h3 HQ7
                          have hcj : (i : Int) + 3 - (ro : Int) = (col : Int) + 3 := by omega
                          by_cases h74 : 73 < col
                          · have hb1' : decide ((col : Int) + 3 > 76) = true := decide_eq_true (by omega)
                            have hb2' : decide ((76 : Int) < (col : Int) + 3) = true := decide_eq_true (by omega)
                            have hb3' : (76 : Int) < (col : Int) + 3 := by omega
                            clear h73 h74
                            go_wp2_with ((go_at_call 30); (with_reducible refine (bad_calls ((i : Int) + 1) _).mono ?_); rintro e wB ⟨rfl, hb⟩; have HUB := Aside0.mk (HUX.out.step (below_step (by repeat (first | (with_reducible first | exact Below.refl _ _ | apply below_alloc | apply pw_below_drewN | apply below_drew1))) hb)); have zc0 : wB.cell? ⟨g3, 0, none⟩ = some (.int .i64 0) := blk_cell HUB.out.bk 0; have zf0 := blk_frozen HUB.out.bk 0; have zc1 : wB.cell? ⟨g3, 1, none⟩ = some (.int .i64 0) := blk_cell HUB.out.bk 1; have zf1 := blk_frozen HUB.out.bk 1; clear hb)
                            have BKS := HUB.out.fin hg3' 42 ((i : Int) + 1) rfl
                            refine bodyPost_ret (results_tc rfl _ _ g3 29 #[.int .i64 42, .int .i64 ((i : Int) + 1)] (0, 0) _ rfl BKS.1 Tryd.underlying29 rfl (by kernel_rfl)) rfl ?_
                            exact ⟨_, rfl, Kd.R_nil _ _ _ _ _, BKS.2⟩
                          · have hb1' : decide ((col : Int) + 3 > 76) = false := decide_eq_false (by omega)
                            have hb2' : decide ((76 : Int) < (col : Int) + 3) = false := decide_eq_false (by omega)
                            have hb3' : (col : Int) + 3 ≤ 76 := by omega
                            have hf4 : isB 4 d = false := by rcases h73 with h | h; exact absurd h h74; exact h
                            have HIF4 : Aside0 (octet_Is.f 4 d = some false) := ⟨congrArg some hf4⟩
                            clear h73 h74 hf4
                            go_wp2_with (first
                              | ((go_at_call 25); (with_reducible refine (octet_Is.calls 4 d false _ (GOk.of_below HGX.out (by repeat (first | (with_reducible first | exact Below.refl _ _ | apply below_alloc | apply pw_below_drewN | apply below_drew1)))) HIF4.out).mono ?_); rintro e wI ⟨rfl, hb⟩; have HIwI := Aside0.mk (below_step (by repeat (first | (with_reducible first | exact Below.refl _ _ | apply below_alloc | apply pw_below_drewN | apply below_drew1))) hb); clear hb))
                            have HUY := Aside0.mk (HUX.out.step HIwI.out)
                            go_wp2_with ((go_at_call 30); (with_reducible refine (bad_calls ((i : Int) + 1) _).mono ?_); rintro e wB ⟨rfl, hb⟩; have HUB := Aside0.mk (HUY.out.step (below_step (by repeat (first | (with_reducible first | exact Below.refl _ _ | apply below_alloc | apply pw_below_drewN | apply below_drew1))) hb)); have zc0 : wB.cell? ⟨g3, 0, none⟩ = some (.int .i64 0) := blk_cell HUB.out.bk 0; have zf0 := blk_frozen HUB.out.bk 0; have zc1 : wB.cell? ⟨g3, 1, none⟩ = some (.int .i64 0) := blk_cell HUB.out.bk 1; have zf1 := blk_frozen HUB.out.bk 1; clear hb)
                            have BKS := HUB.out.fin hg3' 42 ((i : Int) + 1) rfl
                            refine bodyPost_ret (results_tc rfl _ _ g3 29 #[.int .i64 42, .int .i64 ((i : Int) + 1)] (0, 0) _ rfl BKS.1 Tryd.underlying29 rfl (by kernel_rfl)) rfl ?_
                            exact ⟨_, rfl, Kd.R_nil _ _ _ _ _, BKS.2⟩
                        · have hcj : (i : Int) + 3 - (ro : Int) = (col : Int) + 3 := by omega
                          have hb1' : decide ((col : Int) + 3 > 76) = false := decide_eq_false (by omega)
                          have hb2' : decide ((76 : Int) < (col : Int) + 3) = false := decide_eq_false (by omega)
                          have hb3' : (col : Int) + 3 ≤ 76 := by omega
                          have hf4 : isB 4 d = true := by
                            cases h : isB 4 d
                            · exact absurd (.inr h) h73
                            · rfl
                          have HIF4 : Aside0 (octet_Is.f 4 d = some true) := ⟨congrArg some hf4⟩
                          have HX4 := Aside0.mk hf4
                          have hq := HQ7.out
                          rw [if_neg h73] at hq
                          have HQ8 := Aside0.mk hq
                          clear hq HQ7 h73 hf4
                          by_cases h22 : i + 2 = s.size
                          · have hb2 : ((i : Int) + 2 == (s.size : Int)) = true := beq_iff_eq.2 (by omega)
                            have hp2 : ((i : Int) + 2 = (s.size : Int)) = True := eq_true (by omega)
                            have hq := HQ8.out
                            rw [List.drop_eq_nil_of_le (by rw [bytesOf_len]; omega), if_neg (by decide +kernel)] at hq
                            simp only [Prod.mk.injEq] at hq
                            obtain ⟨rfl, rfl, h3⟩ := hq
                            obtain rfl : r3 = (i : Int) + 2 := by rw [← h3]; omega
                            clear h3 h22 HQ8
                            go_wp2_with (first
                              | ((go_at_call 25); (with_reducible refine (octet_Is.calls 4 d true _ (GOk.of_below HGX.out (by repeat (first | (with_reducible first | exact Below.refl _ _ | apply below_alloc | apply pw_below_drewN | apply below_drew1)))) HIF4.out).mono ?_); rintro e wI ⟨rfl, hb⟩; have HIwI := Aside0.mk (below_step (by repeat (first | (with_reducible first | exact Below.refl _ _ | apply below_alloc | apply pw_below_drewN | apply below_drew1))) hb); clear hb))
                            have HUY := Aside0.mk (HUX.out.step HIwI.out)
                            go_wp2_with ((go_at_call 30); (with_reducible refine (bad_calls ((i : Int) + 2) _).mono ?_); rintro e wB ⟨rfl, hb⟩; have HUB := Aside0.mk (HUY.out.step (below_step (by repeat (first | (with_reducible first | exact Below.refl _ _ | apply below_alloc | apply pw_below_drewN | apply below_drew1))) hb)); have zc0 : wB.cell? ⟨g3, 0, none⟩ = some (.int .i64 0) := blk_cell HUB.out.bk 0; have zf0 := blk_frozen HUB.out.bk 0; have zc1 : wB.cell? ⟨g3, 1, none⟩ = some (.int .i64 0) := blk_cell HUB.out.bk 1; have zf1 := blk_frozen HUB.out.bk 1; clear hb)
                            have BKS := HUB.out.fin hg3' 42 ((i : Int) + 2) rfl
                            refine bodyPost_ret (results_tc rfl _ _ g3 29 #[.int .i64 42, .int .i64 ((i : Int) + 2)] (0, 0) _ rfl BKS.1 Tryd.underlying29 rfl (by kernel_rfl)) rfl ?_
                            exact ⟨_, rfl, Kd.R_nil _ _ _ _ _, BKS.2⟩
                          · have hb2 : ((i : Int) + 2 == (s.size : Int)) = false := beq_eq_false_iff_ne.2 (by omega)
                            have hp2 : ((i : Int) + 2 = (s.size : Int)) = False := eq_false (by omega)
                            have h23 : i + 2 < (bytesOf s).length := by rw [bytesOf_len]; have := H1.out; omega
                            obtain ⟨f', hff⟩ : ∃ f', f' = bt s ((i + 2 : Nat) : Int) := ⟨_, rfl⟩
                            have hx2 : ∀ h : i + 2 < s.size, ((s[i + 2]'h).toNat : Int) = f' := fun h => by rw [hff]; exact bt_nat s (i + 2) h
                            have q2 : ((i : Int) + 2 < (s.size : Int)) = True := eq_true (by have := H1.out; omega)
                            have p2 : (0 ≤ (i : Int) + 2) = True := eq_true (by omega)
                            have hd2 : (bytesOf s).drop (i + 2) = f' :: (bytesOf s).drop (i + 3) := by rw [drop_cons _ _ h23, hff, bt_bytes s _ h23]
                            have hfi : 0 ≤ f' ∧ f' ≤ 255 := by rw [hff]; exact bt_range _ _
                            have HFI := Aside0.mk hfi
                            have hq := HQ8.out
                            rw [hd2] at hq
                            simp only [List.headD_cons, List.drop_succ_cons, List.drop_zero] at hq
                            have HQ9 := Aside0.mk hq
                            have H2 : Aside0 (i + 3 ≤ s.size) := ⟨by have := H1.out; omega⟩
                            have HEX : Aside0 (s.extract (i + 1) (i + 3) = strOfNums [d, f']) := ⟨by
                              refine bytesOf_inj ?_
                              rw [bytesOf_strOfNums _ (fun x hx => by rcases List.mem_cons.1 hx with rfl | hx; exact HDI.out; obtain rfl := List.mem_singleton.1 hx; exact HFI.out), ext_bytes, HD1.out, hd2, show i + 3 - (i + 1) = 2 by omega]
                              rfl⟩
                            have HFF := Aside0.mk hff
                            clear hq HQ8 h22 h23 hff hd2 hfi
                            cases hf5 : isB 4 f'
                            · have hq := HQ9.out
                              rw [if_neg (by rw [hf5]; decide)] at hq
                              simp only [Prod.mk.injEq] at hq
                              obtain ⟨rfl, rfl, h3⟩ := hq
                              obtain rfl : r3 = (i : Int) + 2 := by rw [← h3]; omega
                              have HIF5 : Aside0 (octet_Is.f 4 f' = some false) := ⟨congrArg some hf5⟩
                              clear h3 HQ9 hf5
                              go_wp2_with (first
                                | ((go_at_call 25); (with_reducible refine (octet_Is.calls 4 d true _ (GOk.of_below HGX.out (by repeat (first | (with_reducible first | exact Below.refl _ _ | apply below_alloc | apply pw_below_drewN | apply below_drew1)))) HIF4.out).mono ?_); rintro e wI ⟨rfl, hb⟩; have HIwI := Aside0.mk (below_step (by repeat (first | (with_reducible first | exact Below.refl _ _ | apply below_alloc | apply pw_below_drewN | apply below_drew1))) hb); clear hb))
                              have HUY := Aside0.mk (HUX.out.step HIwI.out)
                              have HGY : Aside0 (GOk wI) := ⟨GOk.of_below HG HUY.out.hq.below⟩
                              go_wp2_with (first
                                | ((go_at_call 25); (with_reducible refine (octet_Is.calls 4 f' false _ (GOk.of_below HGY.out (by repeat (first | (with_reducible first | exact Below.refl _ _ | apply below_alloc | apply pw_below_drewN | apply below_drew1)))) HIF5.out).mono ?_); rintro e wJ ⟨rfl, hb⟩; have HIwJ := Aside0.mk (below_step (by repeat (first | (with_reducible first | exact Below.refl _ _ | apply below_alloc | apply pw_below_drewN | apply below_drew1))) hb); clear hb))
                              have HUZ := Aside0.mk (HUY.out.step HIwJ.out)
                              go_wp2_with ((go_at_call 30); (with_reducible refine (bad_calls ((i : Int) + 2) _).mono ?_); rintro e wB ⟨rfl, hb⟩; have HUB := Aside0.mk (HUZ.out.step (below_step (by repeat (first | (with_reducible first | exact Below.refl _ _ | apply below_alloc | apply pw_below_drewN | apply below_drew1))) hb)); have zc0 : wB.cell? ⟨g3, 0, none⟩ = some (.int .i64 0) := blk_cell HUB.out.bk 0; have zf0 := blk_frozen HUB.out.bk 0; have zc1 : wB.cell? ⟨g3, 1, none⟩ = some (.int .i64 0) := blk_cell HUB.out.bk 1; have zf1 := blk_frozen HUB.out.bk 1; clear hb)
                              have BKS := HUB.out.fin hg3' 42 ((i : Int) + 2) rfl
                              refine bodyPost_ret (results_tc rfl _ _ g3 29 #[.int .i64 42, .int .i64 ((i : Int) + 2)] (0, 0) _ rfl BKS.1 Tryd.underlying29 rfl (by kernel_rfl)) rfl ?_
                              exact ⟨_, rfl, Kd.R_nil _ _ _ _ _, BKS.2⟩
                            · have hq := HQ9.out
                              rw [if_pos hf5] at hq
                              have HQA := Aside0.mk hq
                              have HIF5 : Aside0 (octet_Is.f 4 f' = some true) := ⟨congrArg some hf5⟩
                              have HUN : Aside0 (octet_Unhex.f 8 (s.extract (i + 1) (i + 3)) = some ([16 * hval d + hval f'], 0, 0)) := ⟨by rw [HEX.out]; exact unhex_two d f' HDI.out HFI.out HX4.out hf5⟩
                              have h3s := H2.out
                              have p3 : (0 ≤ (i : Int) + 3) = True := eq_true (by omega)
                              have q3 : ((i : Int) + 3 ≤ (s.size : Int)) = True := eq_true (by omega)
                              have p4 : ((i : Int) + 1 ≤ (i : Int) + 3) = True := eq_true (by omega)
                              have HX5 := Aside0.mk hf5
                              clear hq HQ9 hf5
                              go_wp2_with (first
                                | ((go_at_call 25); (with_reducible refine (octet_Is.calls 4 d true _ (GOk.of_below HGX.out (by repeat (first | (with_reducible first | exact Below.refl _ _ | apply below_alloc | apply pw_below_drewN | apply below_drew1)))) HIF4.out).mono ?_); rintro e wI ⟨rfl, hb⟩; have HIwI := Aside0.mk (below_step (by repeat (first | (with_reducible first | exact Below.refl _ _ | apply below_alloc | apply pw_below_drewN | apply below_drew1))) hb); clear hb))
                              have HUY := Aside0.mk (HUX.out.step HIwI.out)
                              have HGY : Aside0 (GOk wI) := ⟨GOk.of_below HG HUY.out.hq.below⟩
                              go_wp2_with (first
                                | ((go_at_call 25); (with_reducible refine (octet_Is.calls 4 f' true _ (GOk.of_below HGY.out (by repeat (first | (with_reducible first | exact Below.refl _ _ | apply below_alloc | apply pw_below_drewN | apply below_drew1)))) HIF5.out).mono ?_); rintro e wJ ⟨rfl, hb⟩; have HIwJ := Aside0.mk (below_step (by repeat (first | (with_reducible first | exact Below.refl _ _ | apply below_alloc | apply pw_below_drewN | apply below_drew1))) hb); clear hb))
                              have HUZ := Aside0.mk (HUY.out.step HIwJ.out)
                              have HGZ : Aside0 (GOk wJ) := ⟨GOk.of_below HG HUZ.out.hq.below⟩
                              go_wp2_with (first
                                | ((go_at_call 31); (with_reducible refine (octet_Unhex.calls 8 (s.extract (i + 1) (i + 3)) _ 0 0 _ HGZ.out HUN.out).mono ?_); rintro e wH ⟨v9, rfl, ho9, hb⟩; have HUH := Aside0.mk (HUZ.out.step hb); obtain ⟨A9, c9, rfl⟩ := own_slice (Kd.own_of_R ho9); have HO9 : Aside0 (wH.ownsRow wJ.heap.size 5 1 (.slice A9 1 c9) 1 (nums .u8 [16 * hval d + hval f'])) := ⟨Kd.own_of_R ho9⟩; clear hb ho9)
                                | ((with_reducible refine gate_dst (N := 11) rfl ?_); (try (refine gate_guard (by rfl) ?_; dsimp only)); refine box_event ?hg (N := 11) ?hd (cs := #[.int .i64 0, .int .i64 0]) (t := 29) ?hr ?_; (case hd => rfl); (case hg => rfl); (case hr => first | (go_simp; done) | (go_simp; rfl)); intro gX hgX wX hbox hb; have HUV0 := Aside0.mk (HUH.out.step (below_step (by repeat (first | (with_reducible first | exact Below.refl _ _ | apply below_alloc | apply pw_below_drewN | apply below_drew1))) hb)); have hgx : wH.heap.size ≤ gX := (by rw [hgX]; exact below_size ((by repeat (first | (with_reducible first | exact Below.refl _ _ | apply below_alloc | apply pw_below_drewN | apply below_drew1))) : Below wH.heap.size wH _)); have hcx0 : wX.cell? ⟨gX, 0, none⟩ = some (.int .i64 0) := blk_cell hbox 0; have hfx0 := blk_frozen hbox 0; have hcx1 : wX.cell? ⟨gX, 1, none⟩ = some (.int .i64 0) := blk_cell hbox 1; have hfx1 := blk_frozen hbox 1; have HUV := Aside0.mk ((HUV0.out.set hbox (Nat.le_trans HUH.out.hq.below.size hgx) (by have := blk_lt HUH.out.bk; omega) 0 (.int .i64 0)).set (blk_put hbox 0 (.int .i64 0) rfl) (Nat.le_trans HUH.out.hq.below.size hgx) (by have := blk_lt HUH.out.bk; omega) 1 (.int .i64 0)); have HOV : Aside0 (((wX.setCell ⟨gX, 0, none⟩ (.int .i64 0)).setCell ⟨gX, 1, none⟩ (.int .i64 0)).ownsRow wJ.heap.size 5 1 (.slice A9 1 c9) 1 (nums .u8 [16 * hval d + hval f'])) := ⟨own_move HO9.out (fun q hq => by have := own_lt HO9.out q hq; rw [Below.heap_setCell _ _ _ _ (by rintro rfl; omega), Below.heap_setCell _ _ _ _ (by rintro rfl; omega)]; exact (below_step (by repeat (first | (with_reducible first | exact Below.refl _ _ | apply below_alloc | apply pw_below_drewN | apply below_drew1))) hb).block q this)⟩; clear hbox hb hgX)
                                | (at_builtin; refine print_append_row (w0 := w) w.heap.size rfl (.tmp 75) (.tmp 76) 22 5 .u8 1 rfl Tryd.underlying22 info5 (by decide) u4 out [16 * hval d + hval f'] _ 1 c9 rfl rfl ?aO ?aR ?aB ?aS ?aL ?_; (case aO => exact HUV.out.hq.own); (case aR => exact own_reads' HOV.out); (case aB => exact HUV.out.hq.below); (case aS => exact HUV.out.hq.below.size); (case aL => have := HL.out; omega); intro v1 w1 ho hb hg hat; have HU1 := Aside0.mk (HUV.out.app ho hb hg); clear ho hb hg hat))
                              go_roundg (s.size - (i + 3))
                              case measure => have := HGK.out; omega
                              case rel => exact ⟨i + 3, ro, m', false, out ++ [16 * hval d + hval f'], by go_num, by go_num, ⟨rfl⟩, by omega, by omega, ⟨by have := HM.out; omega⟩, ⟨by have := HQA.out; rw [show i + 3 - ro = col + 3 by have := HCOL.out; omega]; exact this⟩, ⟨by rw [nblank s i f' HFF.out HX5.out, Bool.and_false]⟩, HU1, ⟨by have := HL.out; rw [List.length_append]; simp; omega⟩⟩
                      · -- a soft end
                        have hq := HQ6.out
                        rw [if_pos (beq_iff_eq.1 hd13)] at hq
                        have HQ7 := Aside0.mk hq
                        clear hq HQ6
                        by_cases h22 : i + 2 = s.size
                        · have hb2 : ((i : Int) + 2 == (s.size : Int)) = true := beq_iff_eq.2 (by omega)
                          have hp2 : ((i : Int) + 2 = (s.size : Int)) = True := eq_true (by omega)
                          have hq := HQ7.out
                          rw [List.drop_eq_nil_of_le (by rw [bytesOf_len]; omega), if_neg (by decide)] at hq
                          simp only [Prod.mk.injEq] at hq
                          obtain ⟨rfl, rfl, h3⟩ := hq
                          obtain rfl : r3 = (i : Int) + 2 := by rw [← h3]; omega
                          clear h3 h22 HQ7
                          go_wp2_with ((go_at_call 30); (with_reducible refine (bad_calls ((i : Int) + 2) _).mono ?_); rintro e wB ⟨rfl, hb⟩; have HUB := Aside0.mk (HUX.out.step (below_step (by repeat (first | (with_reducible first | exact Below.refl _ _ | apply below_alloc | apply pw_below_drewN | apply below_drew1))) hb)); have zc0 : wB.cell? ⟨g3, 0, none⟩ = some (.int .i64 0) := blk_cell HUB.out.bk 0; have zf0 := blk_frozen HUB.out.bk 0; have zc1 : wB.cell? ⟨g3, 1, none⟩ = some (.int .i64 0) := blk_cell HUB.out.bk 1; have zf1 := blk_frozen HUB.out.bk 1; clear hb)
                          have BKS := HUB.out.fin hg3' 42 ((i : Int) + 2) rfl
                          refine bodyPost_ret (results_tc rfl _ _ g3 29 #[.int .i64 42, .int .i64 ((i : Int) + 2)] (0, 0) _ rfl BKS.1 Tryd.underlying29 rfl (by kernel_rfl)) rfl ?_
                          exact ⟨_, rfl, Kd.R_nil _ _ _ _ _, BKS.2⟩
                        · have hb2 : ((i : Int) + 2 == (s.size : Int)) = false := beq_eq_false_iff_ne.2 (by omega)
                          have hp2 : ((i : Int) + 2 = (s.size : Int)) = False := eq_false (by omega)
                          have h23 : i + 2 < (bytesOf s).length := by rw [bytesOf_len]; have := H1.out; omega
                          obtain ⟨f', hff⟩ : ∃ f', f' = bt s ((i + 2 : Nat) : Int) := ⟨_, rfl⟩
                          have hx2 : ∀ h : i + 2 < s.size, ((s[i + 2]'h).toNat : Int) = f' := fun h => by rw [hff]; exact bt_nat s (i + 2) h
                          have q2 : ((i : Int) + 2 < (s.size : Int)) = True := eq_true (by have := H1.out; omega)
                          have p2 : (0 ≤ (i : Int) + 2) = True := eq_true (by omega)
                          have hd2 : (bytesOf s).drop (i + 2) = f' :: (bytesOf s).drop (i + 3) := by rw [drop_cons _ _ h23, hff, bt_bytes s _ h23]
                          have hq := HQ7.out
                          rw [hd2] at hq
                          simp only [List.headD_cons, List.drop_succ_cons, List.drop_zero] at hq
                          have HQ8 := Aside0.mk hq
                          have H2 : Aside0 (i + 3 ≤ s.size) := ⟨by have := H1.out; omega⟩
                          clear hq HQ7 h22 h23 hff hd2
                          cases h10 : (f' == 10)
                          · have hn10 : (f' != 10) = true := by simp [bne, h10]
                            have hq := HQ8.out
                            rw [if_neg (by intro h; rw [h] at h10; cases h10)] at hq
                            simp only [Prod.mk.injEq] at hq
                            obtain ⟨rfl, rfl, h3⟩ := hq
                            obtain rfl : r3 = (i : Int) + 2 := by rw [← h3]; omega
                            clear h3 HQ8
                            go_wp2_with ((go_at_call 30); (with_reducible refine (bad_calls ((i : Int) + 2) _).mono ?_); rintro e wB ⟨rfl, hb⟩; have HUB := Aside0.mk (HUX.out.step (below_step (by repeat (first | (with_reducible first | exact Below.refl _ _ | apply below_alloc | apply pw_below_drewN | apply below_drew1))) hb)); have zc0 : wB.cell? ⟨g3, 0, none⟩ = some (.int .i64 0) := blk_cell HUB.out.bk 0; have zf0 := blk_frozen HUB.out.bk 0; have zc1 : wB.cell? ⟨g3, 1, none⟩ = some (.int .i64 0) := blk_cell HUB.out.bk 1; have zf1 := blk_frozen HUB.out.bk 1; clear hb)
                            have BKS := HUB.out.fin hg3' 42 ((i : Int) + 2) rfl
                            refine bodyPost_ret (results_tc rfl _ _ g3 29 #[.int .i64 42, .int .i64 ((i : Int) + 2)] (0, 0) _ rfl BKS.1 Tryd.underlying29 rfl (by kernel_rfl)) rfl ?_
                            exact ⟨_, rfl, Kd.R_nil _ _ _ _ _, BKS.2⟩
                          · have hn10 : (f' != 10) = false := by simp [bne, h10]
                            have hq := HQ8.out
                            rw [if_pos (beq_iff_eq.1 h10)] at hq
                            have HQ9 := Aside0.mk hq
                            clear hq HQ8
                            go_wp2_with (fail)
                            go_roundg (s.size - (i + 3))
                            case measure => have := HGK.out; have := H2.out; omega
                            case rel => exact ⟨i + 3, i + 3, m', false, out, by go_num, by go_num, ⟨rfl⟩, H2.out, by omega, ⟨by have := HM.out; omega⟩, ⟨by have := HQ9.out; rw [Nat.sub_self]; exact this⟩, ⟨by rw [decide_eq_false (by omega)]; rfl⟩, HUX, ⟨by have := HL.out; omega⟩⟩
          · have hq := HQ1.out
            rw [if_pos (beq_iff_eq.1 h13)] at hq
            have HQ2 := Aside0.mk hq
            clear hq HQ1
            go_upto_region 16 with (fail)
            go_cut [99] from 14 to 200 (fun sx wx => sx = .bool bl ∧ Aside0 (Uq w g3 u4 out wx))
            case first =>
              as_aux_lemma =>
                have hbl := HBL.out
                obtain ⟨pc, hpc⟩ : ∃ pc, pc = bt s ((i : Int) - 1) := ⟨_, rfl⟩
                rw [← hpc] at hbl
                have HPC := Aside0.mk hpc
                clear hpc
                by_cases hr : ro < i
                · have hr1 : decide ((i : Int) > (ro : Int)) = true := decide_eq_true (by omega)
                  have hr2 : decide ((ro : Int) < (i : Int)) = true := decide_eq_true (by omega)
                  have hr3 : ((ro : Int) < (i : Int)) = True := eq_true (by omega)
                  have p1 : (1 ≤ (i : Int)) = True := eq_true (by omega)
                  have q1 : ((i : Int) - 1 < (s.size : Int)) = True := eq_true (by omega)
                  have hx1 : ∀ h : i - 1 < s.size, ((s[i - 1]'h).toNat : Int) = pc := fun h => by
                    rw [HPC.out, show (i : Int) - 1 = ((i - 1 : Nat) : Int) by omega]
                    simp [bt, h]
                  rw [decide_eq_true hr, Bool.true_and] at hbl
                  clear hr
                  cases h32 : (pc == 32)
                  · cases h9 : (pc == 9)
                    · have HS : Aside0 (false = bl) := ⟨by rw [hbl]; unfold blankB; rw [h32, h9]; rfl⟩
                      clear hbl
                      go_wp2_with (fail)
                      go_meet
                      exact ⟨congrArg Value.bool HS.out, HU⟩
                    · have HS : Aside0 (true = bl) := ⟨by rw [hbl]; unfold blankB; rw [h32, h9]; rfl⟩
                      clear hbl
                      go_wp2_with (fail)
                      go_meet
                      exact ⟨congrArg Value.bool HS.out, HU⟩
                  · have HS : Aside0 (true = bl) := ⟨by rw [hbl]; unfold blankB; rw [h32]; rfl⟩
                    clear hbl
                    go_wp2_with (fail)
                    go_meet
                    exact ⟨congrArg Value.bool HS.out, HU⟩
                · have hr1 : decide ((i : Int) > (ro : Int)) = false := decide_eq_false (by omega)
                  have hr2 : decide ((ro : Int) < (i : Int)) = false := decide_eq_false (by omega)
                  have hr3 : ((ro : Int) < (i : Int)) = False := eq_false (by omega)
                  have HS : Aside0 (false = bl) := ⟨by rw [hbl, decide_eq_false hr]; rfl⟩
                  clear hr hbl
                  go_wp2_with (fail)
                  go_meet
                  exact ⟨congrArg Value.bool HS.out, HU⟩
            case rest =>
              as_aux_lemma =>
                obtain ⟨rfl, HUX⟩ := hcut
                clear HU
                cases bl
                · have hq := HQ2.out
                  rw [if_neg (by decide)] at hq
                  have HQ3 := Aside0.mk hq
                  clear hq HQ2
                  by_cases h1 : i + 1 = s.size
                  · have hb1 : ((i : Int) + 1 == (s.size : Int)) = true := beq_iff_eq.2 (by omega)
                    have hp1 : ((i : Int) + 1 = (s.size : Int)) = True := eq_true (by omega)
                    have hq := HQ3.out
                    rw [List.drop_eq_nil_of_le (by rw [bytesOf_len]; omega), if_neg (by decide)] at hq
                    simp only [Prod.mk.injEq] at hq
                    obtain ⟨rfl, rfl, h3⟩ := hq
                    obtain rfl : r3 = (i : Int) + 1 := by rw [← h3]; omega
                    clear h3 h1 HQ3
                    go_wp2_with ((go_at_call 30); (with_reducible refine (bad_calls ((i : Int) + 1) _).mono ?_); rintro e wB ⟨rfl, hb⟩; have HUB := Aside0.mk (HUX.out.step (below_step (by repeat (first | (with_reducible first | exact Below.refl _ _ | apply below_alloc | apply pw_below_drewN | apply below_drew1))) hb)); have zc0 : wB.cell? ⟨g3, 0, none⟩ = some (.int .i64 0) := blk_cell HUB.out.bk 0; have zf0 := blk_frozen HUB.out.bk 0; have zc1 : wB.cell? ⟨g3, 1, none⟩ = some (.int .i64 0) := blk_cell HUB.out.bk 1; have zf1 := blk_frozen HUB.out.bk 1; clear hb)
                    have BKS := HUB.out.fin hg3' 42 ((i : Int) + 1) rfl
                    refine bodyPost_ret (results_tc rfl _ _ g3 29 #[.int .i64 42, .int .i64 ((i : Int) + 1)] (0, 0) _ rfl BKS.1 Tryd.underlying29 rfl (by kernel_rfl)) rfl ?_
                    exact ⟨_, rfl, Kd.R_nil _ _ _ _ _, BKS.2⟩
                  · have hb1 : ((i : Int) + 1 == (s.size : Int)) = false := beq_eq_false_iff_ne.2 (by omega)
                    have hp1 : ((i : Int) + 1 = (s.size : Int)) = False := eq_false (by omega)
                    have h2 : i + 1 < (bytesOf s).length := by rw [bytesOf_len]; omega
                    obtain ⟨d, hdd⟩ : ∃ d, d = bt s ((i + 1 : Nat) : Int) := ⟨_, rfl⟩
                    have hx1 : ∀ h : i + 1 < s.size, ((s[i + 1]'h).toNat : Int) = d := fun h => by rw [hdd]; exact bt_nat s (i + 1) h
                    have q1 : ((i : Int) + 1 < (s.size : Int)) = True := eq_true (by omega)
                    have p1 : (0 ≤ (i : Int) + 1) = True := eq_true (by omega)
                    have hd1 : (bytesOf s).drop (i + 1) = d :: (bytesOf s).drop (i + 2) := by rw [drop_cons _ _ h2, hdd, bt_bytes s _ h2]
                    have hq := HQ3.out
                    rw [hd1] at hq
                    simp only [List.headD_cons, List.drop_succ_cons, List.drop_zero] at hq
                    have HQ4 := Aside0.mk hq
                    have H1 : Aside0 (i + 2 ≤ s.size) := ⟨by omega⟩
                    clear hq HQ3 h1 h2 hdd hd1
                    cases h10 : (d == 10)
                    · have hn10 : (d != 10) = true := by simp [bne, h10]
                      have hq := HQ4.out
                      rw [if_neg (by intro h; rw [h] at h10; cases h10)] at hq
                      simp only [Prod.mk.injEq] at hq
                      obtain ⟨rfl, rfl, h3⟩ := hq
                      obtain rfl : r3 = (i : Int) + 1 := by rw [← h3]; omega
                      clear h3 HQ4
                      go_wp2_with ((go_at_call 30); (with_reducible refine (bad_calls ((i : Int) + 1) _).mono ?_); rintro e wB ⟨rfl, hb⟩; have HUB := Aside0.mk (HUX.out.step (below_step (by repeat (first | (with_reducible first | exact Below.refl _ _ | apply below_alloc | apply pw_below_drewN | apply below_drew1))) hb)); have zc0 : wB.cell? ⟨g3, 0, none⟩ = some (.int .i64 0) := blk_cell HUB.out.bk 0; have zf0 := blk_frozen HUB.out.bk 0; have zc1 : wB.cell? ⟨g3, 1, none⟩ = some (.int .i64 0) := blk_cell HUB.out.bk 1; have zf1 := blk_frozen HUB.out.bk 1; clear hb)
                      have BKS := HUB.out.fin hg3' 42 ((i : Int) + 1) rfl
                      refine bodyPost_ret (results_tc rfl _ _ g3 29 #[.int .i64 42, .int .i64 ((i : Int) + 1)] (0, 0) _ rfl BKS.1 Tryd.underlying29 rfl (by kernel_rfl)) rfl ?_
                      exact ⟨_, rfl, Kd.R_nil _ _ _ _ _, BKS.2⟩
                    · have hn10 : (d != 10) = false := by simp [bne, h10]
                      have hq := HQ4.out
                      rw [if_pos (beq_iff_eq.1 h10)] at hq
                      have HQ5 := Aside0.mk hq
                      clear hq HQ4
                      have hw2 : wrap64 ((i : Int) + 2) = (i : Int) + 2 := wrap_id _ (by omega) (by omega)
                      go_wp2_with (at_builtin; refine print_append_row (w0 := w) w.heap.size rfl (.tmp 123) (.tmp 124) 22 5 .u8 1 rfl Tryd.underlying22 info5 (by decide) u4 out [13, 10] _ 2 2 rfl rfl ?aO ?aR ?aB ?aS ?aL ?_; (case aO => exact (HUX.out.hq.alloc _).own); (case aR => exact own_reads' (own_lit wc 0 5 .u8 [13, 10] (Nat.zero_le _) (by decide))); (case aB => exact (HUX.out.hq.alloc _).below); (case aS => exact (HUX.out.hq.alloc (.cells #[.int .u8 13, .int .u8 10] 5)).below.size); (case aL => have := HL.out; omega); intro v1 w1 ho hb hg hat; have HU1 := Aside0.mk ((HUX.out.step (below_alloc (Below.refl _ _) _)).app ho hb hg); clear ho hb hg hat)
                      go_roundg (s.size - (i + 2))
                      case measure => have := HGK.out; have := H1.out; omega
                      case rel => exact ⟨i + 2, i + 2, m', false, out ++ [13, 10], by go_num, by go_num, ⟨rfl⟩, H1.out, by omega, ⟨by have := HM.out; omega⟩, ⟨by have := HQ5.out; rw [Nat.sub_self]; exact this⟩, ⟨by rw [decide_eq_false (by omega)]; rfl⟩, HU1, ⟨by have := HL.out; rw [List.length_append]; simp; omega⟩⟩
                · have hq := HQ2.out
                  rw [if_pos rfl] at hq
                  simp only [Prod.mk.injEq] at hq
                  obtain ⟨rfl, rfl, rfl⟩ := hq
                  clear HQ2
                  go_wp2_with ((go_at_call 30); (with_reducible refine (bad_calls ((i : Int)) _).mono ?_); rintro e wB ⟨rfl, hb⟩; have HUB := Aside0.mk (HUX.out.step (below_step (by repeat (first | (with_reducible first | exact Below.refl _ _ | apply below_alloc | apply pw_below_drewN | apply below_drew1))) hb)); have zc0 : wB.cell? ⟨g3, 0, none⟩ = some (.int .i64 0) := blk_cell HUB.out.bk 0; have zf0 := blk_frozen HUB.out.bk 0; have zc1 : wB.cell? ⟨g3, 1, none⟩ = some (.int .i64 0) := blk_cell HUB.out.bk 1; have zf1 := blk_frozen HUB.out.bk 1; clear hb)
                  have BKS := HUB.out.fin hg3' 42 ((i : Int)) rfl
                  refine bodyPost_ret (results_tc rfl _ _ g3 29 #[.int .i64 42, .int .i64 ((i : Int))] (0, 0) _ rfl BKS.1 Tryd.underlying29 rfl (by kernel_rfl)) rfl ?_
                  exact ⟨_, rfl, Kd.R_nil _ _ _ _ _, BKS.2⟩
    · obtain rfl : i = s.size := by omega
      have hq := HQ.out
      rw [List.drop_eq_nil_of_le (by rw [bytesOf_len]; omega)] at hq
      have hq2 : (if bl = true then (([] : List Int), (42 : Int), (s.size : Int)) else (out, 0, 0)) = (r1, r2, r3) := by
        cases m <;> exact hq
      have HQ2 := Aside0.mk hq2
      clear hq hq2 hlt HQ
      go_upto_region 36 with (fail)
      go_cut [219] from 203 to 219 (fun sx wx => sx = .bool bl ∧ Aside0 (Uq w g3 u4 out wx))
      case first =>
        as_aux_lemma =>
          have hbl := HBL.out
          obtain ⟨pc, hpc⟩ : ∃ pc, pc = bt s ((s.size : Int) - 1) := ⟨_, rfl⟩
          rw [← hpc] at hbl
          have HPC := Aside0.mk hpc
          clear hpc
          by_cases hr : ro < s.size
          · have hr1 : decide ((s.size : Int) > (ro : Int)) = true := decide_eq_true (by omega)
            have hr2 : decide ((ro : Int) < (s.size : Int)) = true := decide_eq_true (by omega)
            have hr3 : ((ro : Int) < (s.size : Int)) = True := eq_true (by omega)
            have p1 : (1 ≤ (s.size : Int)) = True := eq_true (by omega)
            have q1 : ((s.size : Int) - 1 < (s.size : Int)) = True := eq_true (by omega)
            have hx1 : ∀ h : s.size - 1 < s.size, ((s[s.size - 1]'h).toNat : Int) = pc := fun h => by
              rw [HPC.out, show (s.size : Int) - 1 = ((s.size - 1 : Nat) : Int) by omega]
              simp [bt, h]
            rw [decide_eq_true hr, Bool.true_and] at hbl
            clear hr
            cases h32 : (pc == 32)
            · cases h9 : (pc == 9)
              · have HS : Aside0 (false = bl) := ⟨by rw [hbl]; unfold blankB; rw [h32, h9]; rfl⟩
                clear hbl
                go_wp2_with (fail)
                go_meet
                exact ⟨congrArg Value.bool HS.out, HU⟩
              · have HS : Aside0 (true = bl) := ⟨by rw [hbl]; unfold blankB; rw [h32, h9]; rfl⟩
                clear hbl
                go_wp2_with (fail)
                go_meet
                exact ⟨congrArg Value.bool HS.out, HU⟩
            · have HS : Aside0 (true = bl) := ⟨by rw [hbl]; unfold blankB; rw [h32]; rfl⟩
              clear hbl
              go_wp2_with (fail)
              go_meet
              exact ⟨congrArg Value.bool HS.out, HU⟩
          · have hr1 : decide ((s.size : Int) > (ro : Int)) = false := decide_eq_false (by omega)
            have hr2 : decide ((ro : Int) < (s.size : Int)) = false := decide_eq_false (by omega)
            have hr3 : ((ro : Int) < (s.size : Int)) = False := eq_false (by omega)
            have HS : Aside0 (false = bl) := ⟨by rw [hbl, decide_eq_false hr]; rfl⟩
            clear hr hbl
            go_wp2_with (fail)
            go_meet
            exact ⟨congrArg Value.bool HS.out, HU⟩
      case rest =>
        as_aux_lemma =>
          obtain ⟨rfl, HUX⟩ := hcut
          cases bl
          · have hq := HQ2.out
            rw [if_neg (by decide)] at hq
            simp only [Prod.mk.injEq] at hq
            obtain ⟨rfl, rfl, rfl⟩ := hq
            have zc0 : wc.cell? ⟨g3, 0, none⟩ = some (.int .i64 0) := blk_cell HUX.out.bk 0
            have zf0 := blk_frozen HUX.out.bk 0
            have zc1 : wc.cell? ⟨g3, 1, none⟩ = some (.int .i64 0) := blk_cell HUX.out.bk 1
            have zf1 := blk_frozen HUX.out.bk 1
            go_wp2_with (fail)
            have BKS := HUX.out.fin hg3' 0 0 rfl
            have HOS : ((wc.setCell ⟨g3, 0, none⟩ (.int .i64 0)).setCell ⟨g3, 1, none⟩ (.int .i64 0)).ownsRow w.heap.size 5 1 u4 out.length (nums .u8 out) := own_move HUX.out.hq.own (fun q hq => by rw [Below.heap_setCell _ _ _ _ (by rintro rfl; exact spot_ne HUX.out hq.symm), Below.heap_setCell _ _ _ _ (by rintro rfl; exact spot_ne HUX.out hq.symm)])
            refine bodyPost_ret (results_tc rfl _ _ g3 29 #[.int .i64 0, .int .i64 0] (0, 0) _ rfl BKS.1 Tryd.underlying29 rfl (by kernel_rfl)) rfl ?_
            exact ⟨u4, rfl, Kd.R_of_own (h1 := fun _ => rfl) (ok := fun _ => True) HOS (fun _ _ => trivial), BKS.2⟩
          · have hq := HQ2.out
            rw [if_pos rfl] at hq
            simp only [Prod.mk.injEq] at hq
            obtain ⟨rfl, rfl, rfl⟩ := hq
            go_wp2_with ((go_at_call 30); (with_reducible refine (bad_calls ((s.size : Int)) _).mono ?_); rintro e wB ⟨rfl, hb⟩; have HUB := Aside0.mk (HUX.out.step (below_step (by repeat (first | (with_reducible first | exact Below.refl _ _ | apply below_alloc | apply pw_below_drewN | apply below_drew1))) hb)); have zc0 : wB.cell? ⟨g3, 0, none⟩ = some (.int .i64 0) := blk_cell HUB.out.bk 0; have zf0 := blk_frozen HUB.out.bk 0; have zc1 : wB.cell? ⟨g3, 1, none⟩ = some (.int .i64 0) := blk_cell HUB.out.bk 1; have zf1 := blk_frozen HUB.out.bk 1; clear hb)
            have BKS := HUB.out.fin hg3' 42 ((s.size : Int)) rfl
            refine bodyPost_ret (results_tc rfl _ _ g3 29 #[.int .i64 42, .int .i64 ((s.size : Int))] (0, 0) _ rfl BKS.1 Tryd.underlying29 rfl (by kernel_rfl)) rfl ?_
            exact ⟨_, rfl, Kd.R_nil _ _ _ _ _, BKS.2⟩
end Go.Proofs.YtokgckhhhhigiaaDoor.UW
