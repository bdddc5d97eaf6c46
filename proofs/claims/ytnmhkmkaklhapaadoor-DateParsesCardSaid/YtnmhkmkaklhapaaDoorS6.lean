-- Printed by wip/tools/gprint.py (this session's program) out of the translation. Not trusted: Lean checks it.
import Derived.Test.YtnmhkmkaklhapaaDoorS0
import Derived.Test.YtnmhkmkaklhapaaDoorS4
import Derived.Test.YtnmhkmkaklhapaaDoorRA
namespace Go.Proofs.YtnmhkmkaklhapaaDoor.S
open Go.RowKit Go.Proofs.YtnmhkmkaklhapaaDoor.Glob Go.Proofs.YtnmhkmkaklhapaaDoor.M Go.Proofs.YtnmhkmkaklhapaaDoor.MN Go.Proofs.YtnmhkmkaklhapaaDoor.T Go.Proofs.YtnmhkmkaklhapaaDoor.MR Go.Proofs.YtnmhkmkaklhapaaDoorW.PrintWords Go.Proofs.YtnmhkmkaklhapaaDoorW.PrintLast Go.Proofs.YtnmhkmkaklhapaaDoorW.PrintMore
attribute [local go_sem] max2_int min2_int max_two min_two max_three min_three max_four min_four   -- for this text's walks alone
set_option linter.unusedVariables false
set_option linter.unusedSimpArgs false

/-- The reader's cells, while a region reads them. -/
def Held4 (g : Nat) (a : ByteArray) (b c d : Int) (W : World) : Prop := W.cell? ⟨g, 0, none⟩ = some (.string a) ∧ W.cell? ⟨g, 1, none⟩ = some (.int .i64 b) ∧ W.cell? ⟨g, 2, none⟩ = some (.int .i64 c) ∧ W.cell? ⟨g, 3, none⟩ = some (.int .i64 d)
theorem Held4.far {g p o : Nat} {a : ByteArray} {b c d : Int} {W : World} {v : Value} (hn : g ≠ p) (h : Held4 g a b c d W) : Held4 g a b c d (W.setCell ⟨p, o, none⟩ v) :=
 ⟨(cell_far (p := ⟨p, o, none⟩) hn _).trans h.1, (cell_far (p := ⟨p, o, none⟩) hn _).trans h.2.1, (cell_far (p := ⟨p, o, none⟩) hn _).trans h.2.2.1, (cell_far (p := ⟨p, o, none⟩) hn _).trans h.2.2.2⟩
theorem seven {B0 W : World} {g1 g2 : Nat} {cs2 : Array Value} {t2 : TypeId} (h1 : W.heap[g1]? = some (.cells #[.int .i16 0, .int .i8 0, .int .i8 0, .int .i8 0, .int .i8 0, .int .i8 0, .int .i16 0] 30 (0, 0))) (h2 : W.heap[g2]? = some (.cells cs2 t2 (0, 0))) (hb : Below B0.heap.size B0 W) (hge : B0.heap.size ≤ g1) (hne : g2 ≠ g1) :
  ∃ x, x.heap[g1]? = some (.cells #[.int .i16 0, .int .i8 0, .int .i8 0, .int .i8 0, .int .i8 0, .int .i8 0, .int .i16 0] 30 (0, 0)) ∧ x.heap[g2]? = some (.cells cs2 t2 (0, 0)) ∧ Below B0.heap.size B0 x ∧
   (((((((W.setCell ⟨g1, 0, none⟩ (.int .i16 0)).setCell ⟨g1, 1, none⟩ (.int .i8 0)).setCell ⟨g1, 2, none⟩ (.int .i8 0)).setCell ⟨g1, 3, none⟩ (.int .i8 0)).setCell ⟨g1, 4, none⟩ (.int .i8 0)).setCell ⟨g1, 5, none⟩ (.int .i8 0)).setCell ⟨g1, 6, none⟩ (.int .i16 0)) = x := by
 refine ⟨(((((((W.setCell ⟨g1, 0, none⟩ (.int .i16 0)).setCell ⟨g1, 1, none⟩ (.int .i8 0)).setCell ⟨g1, 2, none⟩ (.int .i8 0)).setCell ⟨g1, 3, none⟩ (.int .i8 0)).setCell ⟨g1, 4, none⟩ (.int .i8 0)).setCell ⟨g1, 5, none⟩ (.int .i8 0)).setCell ⟨g1, 6, none⟩ (.int .i16 0)), ?_, ?_, ?_, rfl⟩
 ·iterate 7 refine blk_put (cs := #[.int .i16 0, .int .i8 0, .int .i8 0, .int .i8 0, .int .i8 0, .int .i8 0, .int .i16 0]) ?_ _ _ rfl
  exact h1
 ·iterate 7 refine blk_far ?_ hne _
  exact h2
 ·iterate 7 refine below_set ?_ hge
  exact hb
set_option maxHeartbeats 40000000 in
set_option maxRecDepth 100000 in
theorem posthornref06_Parse.calls (k : Nat) (a0 : ByteArray) (r1 : Int) (r2 : Int) (r3 : Int) (r4 : Int) (r5 : Int) (r6 : Int) (r7 : Int) (r8 : Int) (r9 : Int) (w : World) (h : posthornref06_Parse.f k a0 = some (r1, r2, r3, r4, r5, r6, r7, r8, r9)) :
  Calls Tryd.prog 16 #[.string a0] w fun e w' => e = .returned (.tuple #[.agg #[.int .i16 r1, .int .i8 r2, .int .i8 r3, .int .i8 r4, .int .i8 r5, .int .i8 r6, .int .i16 r7], .agg #[.int .i64 r8, .int .i64 r9]]) ∧ Below w.heap.size w w' := by
 have hu30 := Tryd.underlying30
 have hu32 := Tryd.underlying32
 have hu67 := Tryd.underlying67
 have HB := Aside0.mk (Below.refl w.heap.size w)
 have H : ((posthornref06_reader_gap.f a0 0 0 0 true).bind fun bt104 => ((posthornref06_reader_is.f bt104.1 bt104.2.1 bt104.2.2.1 bt104.2.2.2 (⟨#[65, 66, 67, 68, 69, 70, 71, 72, 73, 74, 75, 76, 77, 78, 79, 80, 81, 82, 83, 84, 85, 86, 87, 88, 89, 90, 97, 98, 99, 100, 101, 102, 103, 104, 105, 106, 107, 108, 109, 110, 111, 112, 113, 114, 115, 116, 117, 118, 119, 120, 121, 122]⟩ : ByteArray)).bind fun bt108 => (if bt108.1 = true then ((posthornref06_reader_name.f bt108.2.1 bt108.2.2.1 bt108.2.2.2.1 bt108.2.2.2.2 (⟨#[83, 85, 78, 77, 79, 78, 84, 85, 69, 87, 69, 68, 84, 72, 85, 70, 82, 73, 83, 65, 84]⟩ : ByteArray)).bind fun bt113 => ((posthornref06_reader_mark.f bt113.2.1 bt113.2.2.1 bt113.2.2.2.1 bt113.2.2.2.2 (⟨#[44]⟩ : ByteArray)).bind fun bt118 => ((posthornref06_reader_gap.f bt118.1 bt118.2.1 bt118.2.2.1 bt118.2.2.2 true).bind fun bt122 => (posthornref06_Parse.j0 k a0 bt113.1 bt122.1 bt122.2.1 bt122.2.2.1 bt122.2.2.2)))) else (posthornref06_Parse.j0 k a0 (-1) bt108.2.1 bt108.2.2.1 bt108.2.2.2.1 bt108.2.2.2.2)))) = some (r1, r2, r3, r4, r5, r6, r7, r8, r9) := h
 clear h
 replace H := Option.bind_eq_some_iff.mp H
 obtain ⟨⟨t104, t105, t106, t107⟩, A20, H⟩ := H
 replace H : ((posthornref06_reader_is.f t104 t105 t106 t107 (⟨#[65, 66, 67, 68, 69, 70, 71, 72, 73, 74, 75, 76, 77, 78, 79, 80, 81, 82, 83, 84, 85, 86, 87, 88, 89, 90, 97, 98, 99, 100, 101, 102, 103, 104, 105, 106, 107, 108, 109, 110, 111, 112, 113, 114, 115, 116, 117, 118, 119, 120, 121, 122]⟩ : ByteArray)).bind fun bt108 => (if bt108.1 = true then ((posthornref06_reader_name.f bt108.2.1 bt108.2.2.1 bt108.2.2.2.1 bt108.2.2.2.2 (⟨#[83, 85, 78, 77, 79, 78, 84, 85, 69, 87, 69, 68, 84, 72, 85, 70, 82, 73, 83, 65, 84]⟩ : ByteArray)).bind fun bt113 => ((posthornref06_reader_mark.f bt113.2.1 bt113.2.2.1 bt113.2.2.2.1 bt113.2.2.2.2 (⟨#[44]⟩ : ByteArray)).bind fun bt118 => ((posthornref06_reader_gap.f bt118.1 bt118.2.1 bt118.2.2.1 bt118.2.2.2 true).bind fun bt122 => (posthornref06_Parse.j0 k a0 bt113.1 bt122.1 bt122.2.1 bt122.2.2.1 bt122.2.2.2)))) else (posthornref06_Parse.j0 k a0 (-1) bt108.2.1 bt108.2.2.1 bt108.2.2.2.1 bt108.2.2.2.2))) = some (r1, r2, r3, r4, r5, r6, r7, r8, r9) := H
 have A2 := Aside0.mk A20
 clear A20
 replace H := Option.bind_eq_some_iff.mp H
 obtain ⟨⟨t108, t109, t110, t111, t112⟩, A30, H⟩ := H
 replace H : (if t108 = true then ((posthornref06_reader_name.f t109 t110 t111 t112 (⟨#[83, 85, 78, 77, 79, 78, 84, 85, 69, 87, 69, 68, 84, 72, 85, 70, 82, 73, 83, 65, 84]⟩ : ByteArray)).bind fun bt113 => ((posthornref06_reader_mark.f bt113.2.1 bt113.2.2.1 bt113.2.2.2.1 bt113.2.2.2.2 (⟨#[44]⟩ : ByteArray)).bind fun bt118 => ((posthornref06_reader_gap.f bt118.1 bt118.2.1 bt118.2.2.1 bt118.2.2.2 true).bind fun bt122 => (posthornref06_Parse.j0 k a0 bt113.1 bt122.1 bt122.2.1 bt122.2.2.1 bt122.2.2.2)))) else (posthornref06_Parse.j0 k a0 (-1) t109 t110 t111 t112)) = some (r1, r2, r3, r4, r5, r6, r7, r8, r9) := H
 have A3 := Aside0.mk A30
 clear A30
 have HC4 := Aside0.mk H
 clear H
 go_enter Tryd.func16, Tryd.ntmps16
 go_upto_if 29 with (first | ((with_reducible refine gate_dst (N := 2) rfl ?_); refine box_event ?hg (N := 2) ?hd (cs := #[.int .i16 0, .int .i8 0, .int .i8 0, .int .i8 0, .int .i8 0, .int .i8 0, .int .i16 0]) (t := 30) ?hr ?_; (case hd => rfl); (case hg => rfl); (case hr => first | (go_simp; done) | (go_simp; rfl)); intro gb101 hg w5 hbox hb; have n0_ := Aside0.mk (below_step (by repeat (first | (with_reducible first | exact HB.out | apply below_alloc | apply pw_below_drewN | apply below_drew1) | exact HB.out)) hb); have n1_ := Aside0.mk (hbox); have n2_ := Aside0.mk ((by rw [hg]; exact (below_size (by repeat (first | (with_reducible first | exact HB.out | apply below_alloc | apply pw_below_drewN | apply below_drew1) | exact HB.out))) : w.heap.size ≤ gb101)); have n3_ := Aside0.mk ((by rw [hg]; exact (below_size (by repeat (first | (with_reducible first | exact HB.out | apply below_alloc | apply pw_below_drewN | apply below_drew1) | exact HB.out))) : w.heap.size ≤ gb101)); clear HB; have HB := n0_; have BK101 := n1_; have GW101 := n2_; have GE101 := n3_; clear n0_ n1_ n2_ n3_; clear hb hbox hg) | ((with_reducible refine gate_dst (N := 3) rfl ?_); refine box_event ?hg (N := 3) ?hd (cs := #[.int .i64 0, .int .i64 0]) (t := 32) ?hr ?_; (case hd => rfl); (case hg => rfl); (case hr => first | (go_simp; done) | (go_simp; rfl)); intro gb102 hg w6 hbox hb; have n0_ := Aside0.mk (blk_below (g := gb101) (o := .cells #[.int .i16 0, .int .i8 0, .int .i8 0, .int .i8 0, .int .i8 0, .int .i8 0, .int .i16 0] 30 (0, 0)) (by (with_reducible repeat (first | refine blk_drewN ?_ _ | refine blk_drew ?_ | refine blk_alloc ?_ _)); exact BK101.out) hb); have n1_ := Aside0.mk (below_step (by repeat (first | (with_reducible first | exact HB.out | apply below_alloc | apply pw_below_drewN | apply below_drew1 | refine below_set ?_ GE101.out) | exact HB.out)) hb); have n2_ := Aside0.mk (hbox); have n3_ := Aside0.mk ((by rw [hg]; exact (below_size (by repeat (first | (with_reducible first | exact HB.out | apply below_alloc | apply pw_below_drewN | apply below_drew1 | refine below_set ?_ GE101.out) | exact HB.out))) : w.heap.size ≤ gb102)); have n4_ := Aside0.mk ((by rw [hg]; exact (below_size (by repeat (first | (with_reducible first | exact HB.out | apply below_alloc | apply pw_below_drewN | apply below_drew1 | refine below_set ?_ GE101.out) | exact HB.out))) : w.heap.size ≤ gb102)); have n5_ := Aside0.mk ((by rw [hg]; exact Nat.ne_of_lt (blk_lt (g := gb101) (o := .cells #[.int .i16 0, .int .i8 0, .int .i8 0, .int .i8 0, .int .i8 0, .int .i8 0, .int .i16 0] 30 (0, 0)) (by (with_reducible repeat (first | refine blk_drewN ?_ _ | refine blk_drew ?_ | refine blk_alloc ?_ _)); exact BK101.out)) : gb101 ≠ gb102)); have n6_ := Aside0.mk ((by rw [hg]; exact Nat.ne_of_gt (blk_lt (g := gb101) (o := .cells #[.int .i16 0, .int .i8 0, .int .i8 0, .int .i8 0, .int .i8 0, .int .i8 0, .int .i16 0] 30 (0, 0)) (by (with_reducible repeat (first | refine blk_drewN ?_ _ | refine blk_drew ?_ | refine blk_alloc ?_ _)); exact BK101.out)) : gb102 ≠ gb101)); clear BK101; clear HB; have BK101 := n0_; have HB := n1_; have BK102 := n2_; have GW102 := n3_; have GE102 := n4_; have NB101_102 := n5_; have NB102_101 := n6_; clear n0_ n1_ n2_ n3_ n4_ n5_ n6_; clear hb hbox hg) | ((with_reducible refine gate_dst (N := 25) rfl ?_); refine box_event ?hg (N := 25) ?hd (cs := #[.string a0, .int .i64 0, .int .i64 0, .int .i64 0]) (t := 67) ?hr ?_; (case hd => rfl); (case hg => rfl); (case hr => first | (go_simp; done) | (go_simp; rfl)); intro gb103 hg w7 hbox hb; have n0_ := Aside0.mk (blk_below (g := gb101) (o := .cells #[.int .i16 0, .int .i8 0, .int .i8 0, .int .i8 0, .int .i8 0, .int .i8 0, .int .i16 0] 30 (0, 0)) (by (with_reducible repeat (first | refine blk_drewN ?_ _ | refine blk_drew ?_ | refine blk_alloc ?_ _)); exact BK101.out) hb); have n1_ := Aside0.mk (blk_below (g := gb102) (o := .cells #[.int .i64 0, .int .i64 0] 32 (0, 0)) (by (with_reducible repeat (first | refine blk_drewN ?_ _ | refine blk_drew ?_ | refine blk_alloc ?_ _)); exact BK102.out) hb); have n2_ := Aside0.mk (below_step (by repeat (first | (with_reducible first | exact HB.out | apply below_alloc | apply pw_below_drewN | apply below_drew1 | refine below_set ?_ GE101.out | refine below_set ?_ GE102.out) | exact HB.out)) hb); have n3_ := Aside0.mk ((⟨hbox, by rw [hg]; exact (below_size (by repeat (first | (with_reducible first | exact HB.out | apply below_alloc | apply pw_below_drewN | apply below_drew1 | refine below_set ?_ GE101.out | refine below_set ?_ GE102.out) | exact HB.out)))⟩ : Q.IsS67 w w7 gb103 a0 0 0 0)); have n4_ := Aside0.mk ((by rw [hg]; exact (below_size (by repeat (first | (with_reducible first | exact HB.out | apply below_alloc | apply pw_below_drewN | apply below_drew1 | refine below_set ?_ GE101.out | refine below_set ?_ GE102.out) | exact HB.out))) : w.heap.size ≤ gb103)); have n5_ := Aside0.mk ((by rw [hg]; exact (below_size (by repeat (first | (with_reducible first | exact HB.out | apply below_alloc | apply pw_below_drewN | apply below_drew1 | refine below_set ?_ GE101.out | refine below_set ?_ GE102.out) | exact HB.out))) : w.heap.size ≤ gb103)); have n6_ := Aside0.mk ((by rw [hg]; exact Nat.ne_of_lt (blk_lt (g := gb101) (o := .cells #[.int .i16 0, .int .i8 0, .int .i8 0, .int .i8 0, .int .i8 0, .int .i8 0, .int .i16 0] 30 (0, 0)) (by (with_reducible repeat (first | refine blk_drewN ?_ _ | refine blk_drew ?_ | refine blk_alloc ?_ _)); exact BK101.out)) : gb101 ≠ gb103)); have n7_ := Aside0.mk ((by rw [hg]; exact Nat.ne_of_gt (blk_lt (g := gb101) (o := .cells #[.int .i16 0, .int .i8 0, .int .i8 0, .int .i8 0, .int .i8 0, .int .i8 0, .int .i16 0] 30 (0, 0)) (by (with_reducible repeat (first | refine blk_drewN ?_ _ | refine blk_drew ?_ | refine blk_alloc ?_ _)); exact BK101.out)) : gb103 ≠ gb101)); have n8_ := Aside0.mk ((by rw [hg]; exact Nat.ne_of_lt (blk_lt (g := gb102) (o := .cells #[.int .i64 0, .int .i64 0] 32 (0, 0)) (by (with_reducible repeat (first | refine blk_drewN ?_ _ | refine blk_drew ?_ | refine blk_alloc ?_ _)); exact BK102.out)) : gb102 ≠ gb103)); have n9_ := Aside0.mk ((by rw [hg]; exact Nat.ne_of_gt (blk_lt (g := gb102) (o := .cells #[.int .i64 0, .int .i64 0] 32 (0, 0)) (by (with_reducible repeat (first | refine blk_drewN ?_ _ | refine blk_drew ?_ | refine blk_alloc ?_ _)); exact BK102.out)) : gb103 ≠ gb102)); clear BK101; clear BK102; clear HB; have BK101 := n0_; have BK102 := n1_; have HB := n2_; have HI103 := n3_; have GW103 := n4_; have GE103 := n5_; have NB101_103 := n6_; have NB103_101 := n7_; have NB102_103 := n8_; have NB103_102 := n9_; clear n0_ n1_ n2_ n3_ n4_ n5_ n6_ n7_ n8_ n9_; clear hb hbox hg) | ((with_reducible refine gate_callee (f := 38) rfl ?_); refine goesL_ (some 27) rfl rfl Tryd.func38 (by kernel_rfl) rfl #[.pointer (some ⟨gb103, 0, none⟩), .bool true] rfl (by (try simp only [List.map_toArray, List.map_cons, List.map_nil]); first | done | rfl | (simp only [List.length_drop, List.length_take]; rfl)) ?_; (with_reducible refine (posthornref06_reader_gap.calls gb103 a0 0 0 0 true t104 t105 t106 t107 w _ ?side1 ?side2 A2.out).mono ?_); (case side1 => repeat (first | (with_reducible first | exact HI103.out | apply Q.IsS67.alloc | apply Q.IsS67.drewN | apply Q.IsS67.drew | apply Q.IsS67.set_0 | apply Q.IsS67.set_1 | apply Q.IsS67.set_2 | apply Q.IsS67.set_3 | refine Q.IsS67.far ?_ NB103_101.out _ | refine Q.IsS67.far ?_ NB103_102.out _) | exact HI103.out)); (case side2 => repeat (first | (with_reducible first | exact HB.out | apply below_alloc | apply pw_below_drewN | apply below_drew1 | refine below_set ?_ (Q.IsS67.ge HI103.out) | refine below_set ?_ GE101.out | refine below_set ?_ GE102.out) | exact HB.out)); rintro e w8 ⟨rfl, hi, hb, hk⟩; refine ⟨_, rfl, ?_⟩; have n0_ := Aside0.mk (KeepBut.blk hk (g' := gb101) (o := .cells #[.int .i16 0, .int .i8 0, .int .i8 0, .int .i8 0, .int .i8 0, .int .i8 0, .int .i16 0] 30 (0, 0)) (by (with_reducible repeat (first | refine blk_drewN ?_ _ | refine blk_drew ?_ | refine blk_alloc ?_ _)); exact BK101.out) NB101_103.out (by simp)); have n1_ := Aside0.mk (KeepBut.blk hk (g' := gb102) (o := .cells #[.int .i64 0, .int .i64 0] 32 (0, 0)) (by (with_reducible repeat (first | refine blk_drewN ?_ _ | refine blk_drew ?_ | refine blk_alloc ?_ _)); exact BK102.out) NB102_103.out (by simp)); have n2_ := Aside0.mk (hb); have n3_ := Aside0.mk (hi); clear BK101; clear BK102; clear HB; clear HI103; have BK101 := n0_; have BK102 := n1_; have HB := n2_; have HI103 := n3_; clear n0_ n1_ n2_ n3_; (try clear hb); (try clear hb2); (try clear hk); (try clear hi)) | ((with_reducible refine gate_callee (f := 39) rfl ?_); refine goesL_ (some 29) rfl rfl Tryd.func39 (by kernel_rfl) rfl #[.pointer (some ⟨gb103, 0, none⟩), .string (⟨#[65, 66, 67, 68, 69, 70, 71, 72, 73, 74, 75, 76, 77, 78, 79, 80, 81, 82, 83, 84, 85, 86, 87, 88, 89, 90, 97, 98, 99, 100, 101, 102, 103, 104, 105, 106, 107, 108, 109, 110, 111, 112, 113, 114, 115, 116, 117, 118, 119, 120, 121, 122]⟩ : ByteArray)] rfl (by (try simp only [List.map_toArray, List.map_cons, List.map_nil]); first | done | rfl | (simp only [List.length_drop, List.length_take]; rfl)) ?_; (with_reducible refine (posthornref06_reader_is.calls gb103 t104 t105 t106 t107 (⟨#[65, 66, 67, 68, 69, 70, 71, 72, 73, 74, 75, 76, 77, 78, 79, 80, 81, 82, 83, 84, 85, 86, 87, 88, 89, 90, 97, 98, 99, 100, 101, 102, 103, 104, 105, 106, 107, 108, 109, 110, 111, 112, 113, 114, 115, 116, 117, 118, 119, 120, 121, 122]⟩ : ByteArray) t108 t109 t110 t111 t112 w _ ?side1 ?side2 A3.out).mono ?_); (case side1 => repeat (first | (with_reducible first | exact HI103.out | apply Q.IsS67.alloc | apply Q.IsS67.drewN | apply Q.IsS67.drew | apply Q.IsS67.set_0 | apply Q.IsS67.set_1 | apply Q.IsS67.set_2 | apply Q.IsS67.set_3 | refine Q.IsS67.far ?_ NB103_101.out _ | refine Q.IsS67.far ?_ NB103_102.out _) | exact HI103.out)); (case side2 => repeat (first | (with_reducible first | exact HB.out | apply below_alloc | apply pw_below_drewN | apply below_drew1 | refine below_set ?_ (Q.IsS67.ge HI103.out) | refine below_set ?_ GE101.out | refine below_set ?_ GE102.out) | exact HB.out)); rintro e w9 ⟨rfl, hi, hb, hk⟩; refine ⟨_, rfl, ?_⟩; have n0_ := Aside0.mk (KeepBut.blk hk (g' := gb101) (o := .cells #[.int .i16 0, .int .i8 0, .int .i8 0, .int .i8 0, .int .i8 0, .int .i8 0, .int .i16 0] 30 (0, 0)) (by (with_reducible repeat (first | refine blk_drewN ?_ _ | refine blk_drew ?_ | refine blk_alloc ?_ _)); exact BK101.out) NB101_103.out (by simp)); have n1_ := Aside0.mk (KeepBut.blk hk (g' := gb102) (o := .cells #[.int .i64 0, .int .i64 0] 32 (0, 0)) (by (with_reducible repeat (first | refine blk_drewN ?_ _ | refine blk_drew ?_ | refine blk_alloc ?_ _)); exact BK102.out) NB102_103.out (by simp)); have n2_ := Aside0.mk (hb); have n3_ := Aside0.mk (hi); clear BK101; clear BK102; clear HB; clear HI103; have BK101 := n0_; have BK102 := n1_; have HB := n2_; have HI103 := n3_; clear n0_ n1_ n2_ n3_; (try clear hb); (try clear hb2); (try clear hk); (try clear hi)))
 (try simp only [Act.put, List.setIfInBounds_toArray, List.set_cons_zero, List.set_cons_succ])
 go_cut [5] (fun v5 wc => ∃ (kq : Nat) (x5_3 : Int) (x104000_3 : ByteArray) (x104001_3 : Int) (x104002_3 : Int) (x104003_3 : Int), v5 = .int .i64 x5_3 ∧ Aside0 (posthornref06_Parse.j0 kq a0 x5_3 x104000_3 x104001_3 x104002_3 x104003_3 = some (r1, r2, r3, r4, r5, r6, r7, r8, r9)) ∧ Aside0 (kq ≤ k) ∧ Aside0 (wc.heap[gb101]? = some (.cells #[.int .i16 0, .int .i8 0, .int .i8 0, .int .i8 0, .int .i8 0, .int .i8 0, .int .i16 0] 30 (0, 0))) ∧ Aside0 (wc.heap[gb102]? = some (.cells #[.int .i64 0, .int .i64 0] 32 (0, 0))) ∧ Aside0 (Q.IsS67 w wc gb103 x104000_3 x104001_3 x104002_3 x104003_3) ∧ Aside0 (Below w.heap.size w wc))
 case first =>
  as_aux_lemma =>
   have H := HC4.out
   clear HC4
   by_cases c10 : t108 = true
   ·subst c10
    have H1 : ((posthornref06_reader_name.f t109 t110 t111 t112 (⟨#[83, 85, 78, 77, 79, 78, 84, 85, 69, 87, 69, 68, 84, 72, 85, 70, 82, 73, 83, 65, 84]⟩ : ByteArray)).bind fun bt113 => ((posthornref06_reader_mark.f bt113.2.1 bt113.2.2.1 bt113.2.2.2.1 bt113.2.2.2.2 (⟨#[44]⟩ : ByteArray)).bind fun bt118 => ((posthornref06_reader_gap.f bt118.1 bt118.2.1 bt118.2.2.1 bt118.2.2.2 true).bind fun bt122 => (posthornref06_Parse.j0 k a0 bt113.1 bt122.1 bt122.2.1 bt122.2.2.1 bt122.2.2.2)))) = some (r1, r2, r3, r4, r5, r6, r7, r8, r9) := by rw [if_pos rfl] at H; exact H
    clear H
    have H := H1
    clear H1
    replace H := Option.bind_eq_some_iff.mp H
    obtain ⟨⟨t113, t114, t115, t116, t117⟩, A110, H⟩ := H
    replace H : ((posthornref06_reader_mark.f t114 t115 t116 t117 (⟨#[44]⟩ : ByteArray)).bind fun bt118 => ((posthornref06_reader_gap.f bt118.1 bt118.2.1 bt118.2.2.1 bt118.2.2.2 true).bind fun bt122 => (posthornref06_Parse.j0 k a0 t113 bt122.1 bt122.2.1 bt122.2.2.1 bt122.2.2.2))) = some (r1, r2, r3, r4, r5, r6, r7, r8, r9) := H
    have A11 := Aside0.mk A110
    clear A110
    replace H := Option.bind_eq_some_iff.mp H
    obtain ⟨⟨t118, t119, t120, t121⟩, A120, H⟩ := H
    replace H : ((posthornref06_reader_gap.f t118 t119 t120 t121 true).bind fun bt122 => (posthornref06_Parse.j0 k a0 t113 bt122.1 bt122.2.1 bt122.2.2.1 bt122.2.2.2)) = some (r1, r2, r3, r4, r5, r6, r7, r8, r9) := H
    have A12 := Aside0.mk A120
    clear A120
    replace H := Option.bind_eq_some_iff.mp H
    obtain ⟨⟨t122, t123, t124, t125⟩, A130, H⟩ := H
    replace H : (posthornref06_Parse.j0 k a0 t113 t122 t123 t124 t125) = some (r1, r2, r3, r4, r5, r6, r7, r8, r9) := H
    have A13 := Aside0.mk A130
    clear A130
    have H' := Aside0.mk H
    clear H
    go_wp2_with (first | ((with_reducible refine gate_callee (f := 40) rfl ?_); refine goesL_ (some 31) rfl rfl Tryd.func40 (by kernel_rfl) rfl #[.pointer (some ⟨gb103, 0, none⟩), .string (⟨#[83, 85, 78, 77, 79, 78, 84, 85, 69, 87, 69, 68, 84, 72, 85, 70, 82, 73, 83, 65, 84]⟩ : ByteArray)] rfl (by (try simp only [List.map_toArray, List.map_cons, List.map_nil]); first | done | rfl | (simp only [List.length_drop, List.length_take]; rfl)) ?_; (with_reducible refine (posthornref06_reader_name.calls gb103 t109 t110 t111 t112 (⟨#[83, 85, 78, 77, 79, 78, 84, 85, 69, 87, 69, 68, 84, 72, 85, 70, 82, 73, 83, 65, 84]⟩ : ByteArray) t113 t114 t115 t116 t117 w _ ?side1 ?side2 A11.out).mono ?_); (case side1 => repeat (first | (with_reducible first | exact HI103.out | apply Q.IsS67.alloc | apply Q.IsS67.drewN | apply Q.IsS67.drew | apply Q.IsS67.set_0 | apply Q.IsS67.set_1 | apply Q.IsS67.set_2 | apply Q.IsS67.set_3 | refine Q.IsS67.far ?_ NB103_101.out _ | refine Q.IsS67.far ?_ NB103_102.out _) | exact HI103.out)); (case side2 => repeat (first | (with_reducible first | exact HB.out | apply below_alloc | apply pw_below_drewN | apply below_drew1 | refine below_set ?_ (Q.IsS67.ge HI103.out) | refine below_set ?_ GE101.out | refine below_set ?_ GE102.out) | exact HB.out)); rintro e w14 ⟨rfl, hi, hb, hk⟩; refine ⟨_, rfl, ?_⟩; have n0_ := Aside0.mk (KeepBut.blk hk (g' := gb101) (o := .cells #[.int .i16 0, .int .i8 0, .int .i8 0, .int .i8 0, .int .i8 0, .int .i8 0, .int .i16 0] 30 (0, 0)) (by (with_reducible repeat (first | refine blk_drewN ?_ _ | refine blk_drew ?_ | refine blk_alloc ?_ _)); exact BK101.out) NB101_103.out (by simp)); have n1_ := Aside0.mk (KeepBut.blk hk (g' := gb102) (o := .cells #[.int .i64 0, .int .i64 0] 32 (0, 0)) (by (with_reducible repeat (first | refine blk_drewN ?_ _ | refine blk_drew ?_ | refine blk_alloc ?_ _)); exact BK102.out) NB102_103.out (by simp)); have n2_ := Aside0.mk (hb); have n3_ := Aside0.mk (hi); clear BK101; clear BK102; clear HB; clear HI103; have BK101 := n0_; have BK102 := n1_; have HB := n2_; have HI103 := n3_; clear n0_ n1_ n2_ n3_; (try clear hb); (try clear hb2); (try clear hk); (try clear hi)) | ((with_reducible refine gate_callee (f := 41) rfl ?_); refine goesL_ (some 33) rfl rfl Tryd.func41 (by kernel_rfl) rfl #[.pointer (some ⟨gb103, 0, none⟩), .string (⟨#[44]⟩ : ByteArray)] rfl (by (try simp only [List.map_toArray, List.map_cons, List.map_nil]); first | done | rfl | (simp only [List.length_drop, List.length_take]; rfl)) ?_; (with_reducible refine (posthornref06_reader_mark.calls gb103 t114 t115 t116 t117 (⟨#[44]⟩ : ByteArray) t118 t119 t120 t121 w _ ?side1 ?side2 A12.out).mono ?_); (case side1 => repeat (first | (with_reducible first | exact HI103.out | apply Q.IsS67.alloc | apply Q.IsS67.drewN | apply Q.IsS67.drew | apply Q.IsS67.set_0 | apply Q.IsS67.set_1 | apply Q.IsS67.set_2 | apply Q.IsS67.set_3 | refine Q.IsS67.far ?_ NB103_101.out _ | refine Q.IsS67.far ?_ NB103_102.out _) | exact HI103.out)); (case side2 => repeat (first | (with_reducible first | exact HB.out | apply below_alloc | apply pw_below_drewN | apply below_drew1 | refine below_set ?_ (Q.IsS67.ge HI103.out) | refine below_set ?_ GE101.out | refine below_set ?_ GE102.out) | exact HB.out)); rintro e w15 ⟨rfl, hi, hb, hk⟩; refine ⟨_, rfl, ?_⟩; have n0_ := Aside0.mk (KeepBut.blk hk (g' := gb101) (o := .cells #[.int .i16 0, .int .i8 0, .int .i8 0, .int .i8 0, .int .i8 0, .int .i8 0, .int .i16 0] 30 (0, 0)) (by (with_reducible repeat (first | refine blk_drewN ?_ _ | refine blk_drew ?_ | refine blk_alloc ?_ _)); exact BK101.out) NB101_103.out (by simp)); have n1_ := Aside0.mk (KeepBut.blk hk (g' := gb102) (o := .cells #[.int .i64 0, .int .i64 0] 32 (0, 0)) (by (with_reducible repeat (first | refine blk_drewN ?_ _ | refine blk_drew ?_ | refine blk_alloc ?_ _)); exact BK102.out) NB102_103.out (by simp)); have n2_ := Aside0.mk (hb); have n3_ := Aside0.mk (hi); clear BK101; clear BK102; clear HB; clear HI103; have BK101 := n0_; have BK102 := n1_; have HB := n2_; have HI103 := n3_; clear n0_ n1_ n2_ n3_; (try clear hb); (try clear hb2); (try clear hk); (try clear hi)) | ((with_reducible refine gate_callee (f := 38) rfl ?_); refine goesL_ (some 35) rfl rfl Tryd.func38 (by kernel_rfl) rfl #[.pointer (some ⟨gb103, 0, none⟩), .bool true] rfl (by (try simp only [List.map_toArray, List.map_cons, List.map_nil]); first | done | rfl | (simp only [List.length_drop, List.length_take]; rfl)) ?_; (with_reducible refine (posthornref06_reader_gap.calls gb103 t118 t119 t120 t121 true t122 t123 t124 t125 w _ ?side1 ?side2 A13.out).mono ?_); (case side1 => repeat (first | (with_reducible first | exact HI103.out | apply Q.IsS67.alloc | apply Q.IsS67.drewN | apply Q.IsS67.drew | apply Q.IsS67.set_0 | apply Q.IsS67.set_1 | apply Q.IsS67.set_2 | apply Q.IsS67.set_3 | refine Q.IsS67.far ?_ NB103_101.out _ | refine Q.IsS67.far ?_ NB103_102.out _) | exact HI103.out)); (case side2 => repeat (first | (with_reducible first | exact HB.out | apply below_alloc | apply pw_below_drewN | apply below_drew1 | refine below_set ?_ (Q.IsS67.ge HI103.out) | refine below_set ?_ GE101.out | refine below_set ?_ GE102.out) | exact HB.out)); rintro e w16 ⟨rfl, hi, hb, hk⟩; refine ⟨_, rfl, ?_⟩; have n0_ := Aside0.mk (KeepBut.blk hk (g' := gb101) (o := .cells #[.int .i16 0, .int .i8 0, .int .i8 0, .int .i8 0, .int .i8 0, .int .i8 0, .int .i16 0] 30 (0, 0)) (by (with_reducible repeat (first | refine blk_drewN ?_ _ | refine blk_drew ?_ | refine blk_alloc ?_ _)); exact BK101.out) NB101_103.out (by simp)); have n1_ := Aside0.mk (KeepBut.blk hk (g' := gb102) (o := .cells #[.int .i64 0, .int .i64 0] 32 (0, 0)) (by (with_reducible repeat (first | refine blk_drewN ?_ _ | refine blk_drew ?_ | refine blk_alloc ?_ _)); exact BK102.out) NB102_103.out (by simp)); have n2_ := Aside0.mk (hb); have n3_ := Aside0.mk (hi); clear BK101; clear BK102; clear HB; clear HI103; have BK101 := n0_; have BK102 := n1_; have HB := n2_; have HI103 := n3_; clear n0_ n1_ n2_ n3_; (try clear hb); (try clear hb2); (try clear hk); (try clear hi)))
    go_meet
    case rel => exact ⟨_, (t113), (t122), (t123), (t124), (t125), (by first | rfl | (simp; done) | (simp [*]; done)), H', ⟨by first | omega | exact Nat.le_refl _⟩, ⟨by (with_reducible repeat (first | refine blk_drewN ?_ _ | refine blk_drew ?_ | refine blk_alloc ?_ _)); exact BK101.out⟩, ⟨by (with_reducible repeat (first | refine blk_drewN ?_ _ | refine blk_drew ?_ | refine blk_alloc ?_ _)); exact BK102.out⟩, ⟨by repeat (first | (with_reducible first | exact HI103.out | apply Q.IsS67.alloc | apply Q.IsS67.drewN | apply Q.IsS67.drew | apply Q.IsS67.set_0 | apply Q.IsS67.set_1 | apply Q.IsS67.set_2 | apply Q.IsS67.set_3 | refine Q.IsS67.far ?_ NB103_101.out _ | refine Q.IsS67.far ?_ NB103_102.out _) | exact HI103.out)⟩, ⟨by repeat (first | (with_reducible first | exact HB.out | apply below_alloc | apply pw_below_drewN | apply below_drew1 | refine below_set ?_ (Q.IsS67.ge HI103.out) | refine below_set ?_ GE101.out | refine below_set ?_ GE102.out) | exact HB.out)⟩⟩
   ·replace c10 := Bool.eq_false_iff.mpr c10
    subst c10
    have H1 : (posthornref06_Parse.j0 k a0 (-1) t109 t110 t111 t112) = some (r1, r2, r3, r4, r5, r6, r7, r8, r9) := by rw [if_neg (show ¬ (false = true) by decide)] at H; exact H
    clear H
    have H := H1
    clear H1
    have H' := Aside0.mk H
    clear H
    go_wp2
    go_meet
    case rel => exact ⟨_, ((-1)), (t109), (t110), (t111), (t112), (by first | rfl | (simp; done) | (simp [*]; done)), H', ⟨by first | omega | exact Nat.le_refl _⟩, ⟨by (with_reducible repeat (first | refine blk_drewN ?_ _ | refine blk_drew ?_ | refine blk_alloc ?_ _)); exact BK101.out⟩, ⟨by (with_reducible repeat (first | refine blk_drewN ?_ _ | refine blk_drew ?_ | refine blk_alloc ?_ _)); exact BK102.out⟩, ⟨by repeat (first | (with_reducible first | exact HI103.out | apply Q.IsS67.alloc | apply Q.IsS67.drewN | apply Q.IsS67.drew | apply Q.IsS67.set_0 | apply Q.IsS67.set_1 | apply Q.IsS67.set_2 | apply Q.IsS67.set_3 | refine Q.IsS67.far ?_ NB103_101.out _ | refine Q.IsS67.far ?_ NB103_102.out _) | exact HI103.out)⟩, ⟨by repeat (first | (with_reducible first | exact HB.out | apply below_alloc | apply pw_below_drewN | apply below_drew1 | refine below_set ?_ (Q.IsS67.ge HI103.out) | refine below_set ?_ GE101.out | refine below_set ?_ GE102.out) | exact HB.out)⟩⟩
 case rest =>
  clear HC4
  try clear c1
  try clear p2
  try clear c3
  try clear c4
  try clear c10
  try clear c16
  obtain ⟨kq, x5_3, x104000_3, x104001_3, x104002_3, x104003_3, rfl, HA, HJ3, BK101, BK102, HI103, HB⟩ := hcut
  cases kq with
  | zero => exact absurd HA.out (by simp [posthornref06_Parse.j0])
  | succ kj3 =>
   have H := HA.out
   clear HA
   simp only [posthornref06_Parse.j0] at H
   replace H := Option.bind_eq_some_iff.mp H
   obtain ⟨⟨t126, t127, t128, t129, t130, t131⟩, A170, H⟩ := H
   replace H : ((posthornref06_reader_gap.f t128 t129 t130 t131 false).bind fun bt132 => ((posthornref06_reader_name.f bt132.1 bt132.2.1 bt132.2.2.1 bt132.2.2.2 (⟨#[74, 65, 78, 70, 69, 66, 77, 65, 82, 65, 80, 82, 77, 65, 89, 74, 85, 78, 74, 85, 76, 65, 85, 71, 83, 69, 80, 79, 67, 84, 78, 79, 86, 68, 69, 67]⟩ : ByteArray)).bind fun bt136 => ((posthornref06_reader_gap.f bt136.2.1 bt136.2.2.1 bt136.2.2.2.1 bt136.2.2.2.2 false).bind fun bt141 => ((posthornref06_reader_number.f bt141.1 bt141.2.1 bt141.2.2.1 bt141.2.2.2 2 4).bind fun bt145 => (if bt145.2.1 = 2 then (posthornref06_Parse.j1 kj3 a0 x5_3 x104001_3 t126 bt136.1 bt145.1 bt145.2.1 (decide (bt145.1 < 50)) bt145.2.2.1 bt145.2.2.2.1 bt145.2.2.2.2.1 bt145.2.2.2.2.2) else (posthornref06_Parse.j1 kj3 a0 x5_3 x104001_3 t126 bt136.1 bt145.1 bt145.2.1 false bt145.2.2.1 bt145.2.2.2.1 bt145.2.2.2.2.1 bt145.2.2.2.2.2)))))) = some (r1, r2, r3, r4, r5, r6, r7, r8, r9) := H
   have A17 := Aside0.mk A170
   clear A170
   replace H := Option.bind_eq_some_iff.mp H
   obtain ⟨⟨t132, t133, t134, t135⟩, A180, H⟩ := H
   replace H : ((posthornref06_reader_name.f t132 t133 t134 t135 (⟨#[74, 65, 78, 70, 69, 66, 77, 65, 82, 65, 80, 82, 77, 65, 89, 74, 85, 78, 74, 85, 76, 65, 85, 71, 83, 69, 80, 79, 67, 84, 78, 79, 86, 68, 69, 67]⟩ : ByteArray)).bind fun bt136 => ((posthornref06_reader_gap.f bt136.2.1 bt136.2.2.1 bt136.2.2.2.1 bt136.2.2.2.2 false).bind fun bt141 => ((posthornref06_reader_number.f bt141.1 bt141.2.1 bt141.2.2.1 bt141.2.2.2 2 4).bind fun bt145 => (if bt145.2.1 = 2 then (posthornref06_Parse.j1 kj3 a0 x5_3 x104001_3 t126 bt136.1 bt145.1 bt145.2.1 (decide (bt145.1 < 50)) bt145.2.2.1 bt145.2.2.2.1 bt145.2.2.2.2.1 bt145.2.2.2.2.2) else (posthornref06_Parse.j1 kj3 a0 x5_3 x104001_3 t126 bt136.1 bt145.1 bt145.2.1 false bt145.2.2.1 bt145.2.2.2.1 bt145.2.2.2.2.1 bt145.2.2.2.2.2))))) = some (r1, r2, r3, r4, r5, r6, r7, r8, r9) := H
   have A18 := Aside0.mk A180
   clear A180
   replace H := Option.bind_eq_some_iff.mp H
   obtain ⟨⟨t136, t137, t138, t139, t140⟩, A190, H⟩ := H
   replace H : ((posthornref06_reader_gap.f t137 t138 t139 t140 false).bind fun bt141 => ((posthornref06_reader_number.f bt141.1 bt141.2.1 bt141.2.2.1 bt141.2.2.2 2 4).bind fun bt145 => (if bt145.2.1 = 2 then (posthornref06_Parse.j1 kj3 a0 x5_3 x104001_3 t126 t136 bt145.1 bt145.2.1 (decide (bt145.1 < 50)) bt145.2.2.1 bt145.2.2.2.1 bt145.2.2.2.2.1 bt145.2.2.2.2.2) else (posthornref06_Parse.j1 kj3 a0 x5_3 x104001_3 t126 t136 bt145.1 bt145.2.1 false bt145.2.2.1 bt145.2.2.2.1 bt145.2.2.2.2.1 bt145.2.2.2.2.2)))) = some (r1, r2, r3, r4, r5, r6, r7, r8, r9) := H
   have A19 := Aside0.mk A190
   clear A190
   replace H := Option.bind_eq_some_iff.mp H
   obtain ⟨⟨t141, t142, t143, t144⟩, A200, H⟩ := H
   replace H : ((posthornref06_reader_number.f t141 t142 t143 t144 2 4).bind fun bt145 => (if bt145.2.1 = 2 then (posthornref06_Parse.j1 kj3 a0 x5_3 x104001_3 t126 t136 bt145.1 bt145.2.1 (decide (bt145.1 < 50)) bt145.2.2.1 bt145.2.2.2.1 bt145.2.2.2.2.1 bt145.2.2.2.2.2) else (posthornref06_Parse.j1 kj3 a0 x5_3 x104001_3 t126 t136 bt145.1 bt145.2.1 false bt145.2.2.1 bt145.2.2.2.1 bt145.2.2.2.2.1 bt145.2.2.2.2.2))) = some (r1, r2, r3, r4, r5, r6, r7, r8, r9) := H
   have A20 := Aside0.mk A200
   clear A200
   replace H := Option.bind_eq_some_iff.mp H
   obtain ⟨⟨t145, t146, t147, t148, t149, t150⟩, A210, H⟩ := H
   replace H : (if t146 = 2 then (posthornref06_Parse.j1 kj3 a0 x5_3 x104001_3 t126 t136 t145 t146 (decide (t145 < 50)) t147 t148 t149 t150) else (posthornref06_Parse.j1 kj3 a0 x5_3 x104001_3 t126 t136 t145 t146 false t147 t148 t149 t150)) = some (r1, r2, r3, r4, r5, r6, r7, r8, r9) := H
   have A21 := Aside0.mk A210
   clear A210
   have HC22 := Aside0.mk H
   clear H
   obtain ⟨HGz23, hgz23⟩ := HI103.out
   have hcz23_0 := Q.cellS67_0 HGz23
   have hcz23_1 := Q.cellS67_1 HGz23
   have hcz23_2 := Q.cellS67_2 HGz23
   have hcz23_3 := Q.cellS67_3 HGz23
   have hfz23_0 := blk_frozen HGz23 0
   have hfz23_1 := blk_frozen HGz23 1
   have hfz23_2 := blk_frozen HGz23 2
   have hfz23_3 := blk_frozen HGz23 3
   clear HGz23 hgz23
   go_upto_region 14 with (first | ((with_reducible refine gate_callee (f := 42) rfl ?_); refine goesL_ (some 42) rfl rfl Tryd.func42 (by kernel_rfl) rfl #[.pointer (some ⟨gb103, 0, none⟩), .int .i64 1, .int .i64 2] rfl (by (try simp only [List.map_toArray, List.map_cons, List.map_nil]); first | done | rfl | (simp only [List.length_drop, List.length_take]; rfl)) ?_; (with_reducible refine (posthornref06_reader_number.calls gb103 x104000_3 x104001_3 x104002_3 x104003_3 1 2 t126 t127 t128 t129 t130 t131 w _ ?side1 ?side2 A17.out).mono ?_); (case side1 => repeat (first | (with_reducible first | exact HI103.out | apply Q.IsS67.alloc | apply Q.IsS67.drewN | apply Q.IsS67.drew | apply Q.IsS67.set_0 | apply Q.IsS67.set_1 | apply Q.IsS67.set_2 | apply Q.IsS67.set_3 | refine Q.IsS67.far ?_ NB103_101.out _ | refine Q.IsS67.far ?_ NB103_102.out _) | exact HI103.out)); (case side2 => repeat (first | (with_reducible first | exact HB.out | apply below_alloc | apply pw_below_drewN | apply below_drew1 | refine below_set ?_ (Q.IsS67.ge HI103.out) | refine below_set ?_ GE101.out | refine below_set ?_ GE102.out) | exact HB.out)); rintro e w24 ⟨rfl, hi, hb, hk⟩; refine ⟨_, rfl, ?_⟩; have n0_ := Aside0.mk (KeepBut.blk hk (g' := gb101) (o := .cells #[.int .i16 0, .int .i8 0, .int .i8 0, .int .i8 0, .int .i8 0, .int .i8 0, .int .i16 0] 30 (0, 0)) (by (with_reducible repeat (first | refine blk_drewN ?_ _ | refine blk_drew ?_ | refine blk_alloc ?_ _)); exact BK101.out) NB101_103.out (by simp)); have n1_ := Aside0.mk (KeepBut.blk hk (g' := gb102) (o := .cells #[.int .i64 0, .int .i64 0] 32 (0, 0)) (by (with_reducible repeat (first | refine blk_drewN ?_ _ | refine blk_drew ?_ | refine blk_alloc ?_ _)); exact BK102.out) NB102_103.out (by simp)); have n2_ := Aside0.mk (hb); have n3_ := Aside0.mk (hi); clear BK101; clear BK102; clear HB; clear HI103; have BK101 := n0_; have BK102 := n1_; have HB := n2_; have HI103 := n3_; clear n0_ n1_ n2_ n3_; (try clear hb); (try clear hb2); (try clear hk); (try clear hi)) | ((with_reducible refine gate_callee (f := 38) rfl ?_); refine goesL_ (some 46) rfl rfl Tryd.func38 (by kernel_rfl) rfl #[.pointer (some ⟨gb103, 0, none⟩), .bool false] rfl (by (try simp only [List.map_toArray, List.map_cons, List.map_nil]); first | done | rfl | (simp only [List.length_drop, List.length_take]; rfl)) ?_; (with_reducible refine (posthornref06_reader_gap.calls gb103 t128 t129 t130 t131 false t132 t133 t134 t135 w _ ?side1 ?side2 A18.out).mono ?_); (case side1 => repeat (first | (with_reducible first | exact HI103.out | apply Q.IsS67.alloc | apply Q.IsS67.drewN | apply Q.IsS67.drew | apply Q.IsS67.set_0 | apply Q.IsS67.set_1 | apply Q.IsS67.set_2 | apply Q.IsS67.set_3 | refine Q.IsS67.far ?_ NB103_101.out _ | refine Q.IsS67.far ?_ NB103_102.out _) | exact HI103.out)); (case side2 => repeat (first | (with_reducible first | exact HB.out | apply below_alloc | apply pw_below_drewN | apply below_drew1 | refine below_set ?_ (Q.IsS67.ge HI103.out) | refine below_set ?_ GE101.out | refine below_set ?_ GE102.out) | exact HB.out)); rintro e w25 ⟨rfl, hi, hb, hk⟩; refine ⟨_, rfl, ?_⟩; have n0_ := Aside0.mk (KeepBut.blk hk (g' := gb101) (o := .cells #[.int .i16 0, .int .i8 0, .int .i8 0, .int .i8 0, .int .i8 0, .int .i8 0, .int .i16 0] 30 (0, 0)) (by (with_reducible repeat (first | refine blk_drewN ?_ _ | refine blk_drew ?_ | refine blk_alloc ?_ _)); exact BK101.out) NB101_103.out (by simp)); have n1_ := Aside0.mk (KeepBut.blk hk (g' := gb102) (o := .cells #[.int .i64 0, .int .i64 0] 32 (0, 0)) (by (with_reducible repeat (first | refine blk_drewN ?_ _ | refine blk_drew ?_ | refine blk_alloc ?_ _)); exact BK102.out) NB102_103.out (by simp)); have n2_ := Aside0.mk (hb); have n3_ := Aside0.mk (hi); clear BK101; clear BK102; clear HB; clear HI103; have BK101 := n0_; have BK102 := n1_; have HB := n2_; have HI103 := n3_; clear n0_ n1_ n2_ n3_; (try clear hb); (try clear hb2); (try clear hk); (try clear hi)) | ((with_reducible refine gate_callee (f := 40) rfl ?_); refine goesL_ (some 48) rfl rfl Tryd.func40 (by kernel_rfl) rfl #[.pointer (some ⟨gb103, 0, none⟩), .string (⟨#[74, 65, 78, 70, 69, 66, 77, 65, 82, 65, 80, 82, 77, 65, 89, 74, 85, 78, 74, 85, 76, 65, 85, 71, 83, 69, 80, 79, 67, 84, 78, 79, 86, 68, 69, 67]⟩ : ByteArray)] rfl (by (try simp only [List.map_toArray, List.map_cons, List.map_nil]); first | done | rfl | (simp only [List.length_drop, List.length_take]; rfl)) ?_; (with_reducible refine (posthornref06_reader_name.calls gb103 t132 t133 t134 t135 (⟨#[74, 65, 78, 70, 69, 66, 77, 65, 82, 65, 80, 82, 77, 65, 89, 74, 85, 78, 74, 85, 76, 65, 85, 71, 83, 69, 80, 79, 67, 84, 78, 79, 86, 68, 69, 67]⟩ : ByteArray) t136 t137 t138 t139 t140 w _ ?side1 ?side2 A19.out).mono ?_); (case side1 => repeat (first | (with_reducible first | exact HI103.out | apply Q.IsS67.alloc | apply Q.IsS67.drewN | apply Q.IsS67.drew | apply Q.IsS67.set_0 | apply Q.IsS67.set_1 | apply Q.IsS67.set_2 | apply Q.IsS67.set_3 | refine Q.IsS67.far ?_ NB103_101.out _ | refine Q.IsS67.far ?_ NB103_102.out _) | exact HI103.out)); (case side2 => repeat (first | (with_reducible first | exact HB.out | apply below_alloc | apply pw_below_drewN | apply below_drew1 | refine below_set ?_ (Q.IsS67.ge HI103.out) | refine below_set ?_ GE101.out | refine below_set ?_ GE102.out) | exact HB.out)); rintro e w26 ⟨rfl, hi, hb, hk⟩; refine ⟨_, rfl, ?_⟩; have n0_ := Aside0.mk (KeepBut.blk hk (g' := gb101) (o := .cells #[.int .i16 0, .int .i8 0, .int .i8 0, .int .i8 0, .int .i8 0, .int .i8 0, .int .i16 0] 30 (0, 0)) (by (with_reducible repeat (first | refine blk_drewN ?_ _ | refine blk_drew ?_ | refine blk_alloc ?_ _)); exact BK101.out) NB101_103.out (by simp)); have n1_ := Aside0.mk (KeepBut.blk hk (g' := gb102) (o := .cells #[.int .i64 0, .int .i64 0] 32 (0, 0)) (by (with_reducible repeat (first | refine blk_drewN ?_ _ | refine blk_drew ?_ | refine blk_alloc ?_ _)); exact BK102.out) NB102_103.out (by simp)); have n2_ := Aside0.mk (hb); have n3_ := Aside0.mk (hi); clear BK101; clear BK102; clear HB; clear HI103; have BK101 := n0_; have BK102 := n1_; have HB := n2_; have HI103 := n3_; clear n0_ n1_ n2_ n3_; (try clear hb); (try clear hb2); (try clear hk); (try clear hi)) | ((with_reducible refine gate_callee (f := 38) rfl ?_); refine goesL_ (some 50) rfl rfl Tryd.func38 (by kernel_rfl) rfl #[.pointer (some ⟨gb103, 0, none⟩), .bool false] rfl (by (try simp only [List.map_toArray, List.map_cons, List.map_nil]); first | done | rfl | (simp only [List.length_drop, List.length_take]; rfl)) ?_; (with_reducible refine (posthornref06_reader_gap.calls gb103 t137 t138 t139 t140 false t141 t142 t143 t144 w _ ?side1 ?side2 A20.out).mono ?_); (case side1 => repeat (first | (with_reducible first | exact HI103.out | apply Q.IsS67.alloc | apply Q.IsS67.drewN | apply Q.IsS67.drew | apply Q.IsS67.set_0 | apply Q.IsS67.set_1 | apply Q.IsS67.set_2 | apply Q.IsS67.set_3 | refine Q.IsS67.far ?_ NB103_101.out _ | refine Q.IsS67.far ?_ NB103_102.out _) | exact HI103.out)); (case side2 => repeat (first | (with_reducible first | exact HB.out | apply below_alloc | apply pw_below_drewN | apply below_drew1 | refine below_set ?_ (Q.IsS67.ge HI103.out) | refine below_set ?_ GE101.out | refine below_set ?_ GE102.out) | exact HB.out)); rintro e w27 ⟨rfl, hi, hb, hk⟩; refine ⟨_, rfl, ?_⟩; have n0_ := Aside0.mk (KeepBut.blk hk (g' := gb101) (o := .cells #[.int .i16 0, .int .i8 0, .int .i8 0, .int .i8 0, .int .i8 0, .int .i8 0, .int .i16 0] 30 (0, 0)) (by (with_reducible repeat (first | refine blk_drewN ?_ _ | refine blk_drew ?_ | refine blk_alloc ?_ _)); exact BK101.out) NB101_103.out (by simp)); have n1_ := Aside0.mk (KeepBut.blk hk (g' := gb102) (o := .cells #[.int .i64 0, .int .i64 0] 32 (0, 0)) (by (with_reducible repeat (first | refine blk_drewN ?_ _ | refine blk_drew ?_ | refine blk_alloc ?_ _)); exact BK102.out) NB102_103.out (by simp)); have n2_ := Aside0.mk (hb); have n3_ := Aside0.mk (hi); clear BK101; clear BK102; clear HB; clear HI103; have BK101 := n0_; have BK102 := n1_; have HB := n2_; have HI103 := n3_; clear n0_ n1_ n2_ n3_; (try clear hb); (try clear hb2); (try clear hk); (try clear hi)) | ((with_reducible refine gate_callee (f := 42) rfl ?_); refine goesL_ (some 53) rfl rfl Tryd.func42 (by kernel_rfl) rfl #[.pointer (some ⟨gb103, 0, none⟩), .int .i64 2, .int .i64 4] rfl (by (try simp only [List.map_toArray, List.map_cons, List.map_nil]); first | done | rfl | (simp only [List.length_drop, List.length_take]; rfl)) ?_; (with_reducible refine (posthornref06_reader_number.calls gb103 t141 t142 t143 t144 2 4 t145 t146 t147 t148 t149 t150 w _ ?side1 ?side2 A21.out).mono ?_); (case side1 => repeat (first | (with_reducible first | exact HI103.out | apply Q.IsS67.alloc | apply Q.IsS67.drewN | apply Q.IsS67.drew | apply Q.IsS67.set_0 | apply Q.IsS67.set_1 | apply Q.IsS67.set_2 | apply Q.IsS67.set_3 | refine Q.IsS67.far ?_ NB103_101.out _ | refine Q.IsS67.far ?_ NB103_102.out _) | exact HI103.out)); (case side2 => repeat (first | (with_reducible first | exact HB.out | apply below_alloc | apply pw_below_drewN | apply below_drew1 | refine below_set ?_ (Q.IsS67.ge HI103.out) | refine below_set ?_ GE101.out | refine below_set ?_ GE102.out) | exact HB.out)); rintro e w28 ⟨rfl, hi, hb, hk⟩; refine ⟨_, rfl, ?_⟩; have n0_ := Aside0.mk (KeepBut.blk hk (g' := gb101) (o := .cells #[.int .i16 0, .int .i8 0, .int .i8 0, .int .i8 0, .int .i8 0, .int .i8 0, .int .i16 0] 30 (0, 0)) (by (with_reducible repeat (first | refine blk_drewN ?_ _ | refine blk_drew ?_ | refine blk_alloc ?_ _)); exact BK101.out) NB101_103.out (by simp)); have n1_ := Aside0.mk (KeepBut.blk hk (g' := gb102) (o := .cells #[.int .i64 0, .int .i64 0] 32 (0, 0)) (by (with_reducible repeat (first | refine blk_drewN ?_ _ | refine blk_drew ?_ | refine blk_alloc ?_ _)); exact BK102.out) NB102_103.out (by simp)); have n2_ := Aside0.mk (hb); have n3_ := Aside0.mk (hi); clear BK101; clear BK102; clear HB; clear HI103; have BK101 := n0_; have BK102 := n1_; have HB := n2_; have HI103 := n3_; clear n0_ n1_ n2_ n3_; (try clear hb); (try clear hb2); (try clear hk); (try clear hi)))
   (try simp only [Act.put, List.setIfInBounds_toArray, List.set_cons_zero, List.set_cons_succ])
   go_cut [61] (fun v61 wc => ∃ (kq : Nat) (x61_21 : Bool), v61 = .bool x61_21 ∧ Aside0 (posthornref06_Parse.j1 kq a0 x5_3 x104001_3 t126 t136 t145 t146 x61_21 t147 t148 t149 t150 = some (r1, r2, r3, r4, r5, r6, r7, r8, r9)) ∧ Aside0 (kq ≤ kj3) ∧ Aside0 (wc.heap[gb101]? = some (.cells #[.int .i16 0, .int .i8 0, .int .i8 0, .int .i8 0, .int .i8 0, .int .i8 0, .int .i16 0] 30 (0, 0))) ∧ Aside0 (wc.heap[gb102]? = some (.cells #[.int .i64 0, .int .i64 0] 32 (0, 0))) ∧ Aside0 (Q.IsS67 w wc gb103 t147 t148 t149 t150) ∧ Aside0 (Below w.heap.size w wc))
   case first =>
    as_aux_lemma =>
     have H := HC22.out
     clear HC22
     by_cases c29 : t146 = 2
     ·rw [if_pos c29] at H
      have c29b0 : (t146 == 2) = true := beq_iff_eq.mpr c29
      have c29b1 : (t146 != 2) = false := bne_eq_false_iff_eq.mpr c29
      clear c29
      (first | rw [c29b0] | (simp only [i64_w, i32_w]; rw [c29b0]) | skip)
      have H' := Aside0.mk H
      clear H
      go_wp2
      go_meet
      case rel => exact ⟨_, (decide (t145 < 50)), (by first | rfl | (simp; done) | (simp [*]; done)), H', ⟨by have := HJ3.out; first | omega | exact Nat.le_refl _⟩, ⟨by (with_reducible repeat (first | refine blk_drewN ?_ _ | refine blk_drew ?_ | refine blk_alloc ?_ _)); exact BK101.out⟩, ⟨by (with_reducible repeat (first | refine blk_drewN ?_ _ | refine blk_drew ?_ | refine blk_alloc ?_ _)); exact BK102.out⟩, ⟨by repeat (first | (with_reducible first | exact HI103.out | apply Q.IsS67.alloc | apply Q.IsS67.drewN | apply Q.IsS67.drew | apply Q.IsS67.set_0 | apply Q.IsS67.set_1 | apply Q.IsS67.set_2 | apply Q.IsS67.set_3 | refine Q.IsS67.far ?_ NB103_101.out _ | refine Q.IsS67.far ?_ NB103_102.out _) | exact HI103.out)⟩, ⟨by repeat (first | (with_reducible first | exact HB.out | apply below_alloc | apply pw_below_drewN | apply below_drew1 | refine below_set ?_ (Q.IsS67.ge HI103.out) | refine below_set ?_ GE101.out | refine below_set ?_ GE102.out) | exact HB.out)⟩⟩
     ·rw [if_neg c29] at H
      have c29b0 : (t146 == 2) = false := beq_eq_false_iff_ne.mpr c29
      have c29b1 : (t146 != 2) = true := bne_iff_ne.mpr c29
      (first | rw [c29b0] | (simp only [i64_w, i32_w]; rw [c29b0]) | skip)
      have H' := Aside0.mk H
      clear H
      go_wp2
      go_meet
      case rel => exact ⟨_, (false), (by first | rfl | (simp; done) | (simp [*]; done)), H', ⟨by have := HJ3.out; first | omega | exact Nat.le_refl _⟩, ⟨by (with_reducible repeat (first | refine blk_drewN ?_ _ | refine blk_drew ?_ | refine blk_alloc ?_ _)); exact BK101.out⟩, ⟨by (with_reducible repeat (first | refine blk_drewN ?_ _ | refine blk_drew ?_ | refine blk_alloc ?_ _)); exact BK102.out⟩, ⟨by repeat (first | (with_reducible first | exact HI103.out | apply Q.IsS67.alloc | apply Q.IsS67.drewN | apply Q.IsS67.drew | apply Q.IsS67.set_0 | apply Q.IsS67.set_1 | apply Q.IsS67.set_2 | apply Q.IsS67.set_3 | refine Q.IsS67.far ?_ NB103_101.out _ | refine Q.IsS67.far ?_ NB103_102.out _) | exact HI103.out)⟩, ⟨by repeat (first | (with_reducible first | exact HB.out | apply below_alloc | apply pw_below_drewN | apply below_drew1 | refine below_set ?_ (Q.IsS67.ge HI103.out) | refine below_set ?_ GE101.out | refine below_set ?_ GE102.out) | exact HB.out)⟩⟩
   case rest =>
    clear HC22
    try clear c1
    try clear c2
    try clear p2
    try clear c3
    try clear c4
    try clear c10
    try clear c16
    try clear c29
    try clear c29b0
    try clear c29b1
    try clear hcz23_0
    try clear hcz23_1
    try clear hcz23_2
    try clear hcz23_3
    try clear hfz23_0
    try clear hfz23_1
    try clear hfz23_2
    try clear hfz23_3
    try clear p2
    obtain ⟨kq, x61_21, rfl, HA, HJ21, BK101, BK102, HI103, HB⟩ := hcut
    cases kq with
    | zero => exact absurd HA.out (by simp [posthornref06_Parse.j1])
    | succ kj21 =>
     have H := HA.out
     clear HA
     simp only [posthornref06_Parse.j1] at H
     have HC30 := Aside0.mk H
     clear H
     go_upto_if 61 with (fail)
     go_cut [10] (fun v10 wc => ∃ (kq : Nat) (x10_29 : Int), v10 = .int .i64 x10_29 ∧ Aside0 (posthornref06_Parse.j2 kq a0 x5_3 x104001_3 t126 t136 x10_29 t147 t148 t149 t150 = some (r1, r2, r3, r4, r5, r6, r7, r8, r9)) ∧ Aside0 (kq ≤ kj21) ∧ Aside0 (wc.heap[gb101]? = some (.cells #[.int .i16 0, .int .i8 0, .int .i8 0, .int .i8 0, .int .i8 0, .int .i8 0, .int .i16 0] 30 (0, 0))) ∧ Aside0 (wc.heap[gb102]? = some (.cells #[.int .i64 0, .int .i64 0] 32 (0, 0))) ∧ Aside0 (Q.IsS67 w wc gb103 t147 t148 t149 t150) ∧ Aside0 (Below w.heap.size w wc))
     case first =>
      as_aux_lemma =>
       have H := HC30.out
       clear HC30
       by_cases c31 : x61_21 = true
       ·subst c31
        have H1 : (posthornref06_Parse.j2 kj21 a0 x5_3 x104001_3 t126 t136 (wrap64 (t145 + 2000)) t147 t148 t149 t150) = some (r1, r2, r3, r4, r5, r6, r7, r8, r9) := by rw [if_pos rfl] at H; exact H
        clear H
        have H := H1
        clear H1
        have H' := Aside0.mk H
        clear H
        go_wp2
        go_meet
        case rel => exact ⟨_, (wrap64 (t145 + 2000)), (by first | rfl | (simp; done) | (simp [*]; done)), H', ⟨by have := HJ3.out; have := HJ21.out; first | omega | exact Nat.le_refl _⟩, ⟨by (with_reducible repeat (first | refine blk_drewN ?_ _ | refine blk_drew ?_ | refine blk_alloc ?_ _)); exact BK101.out⟩, ⟨by (with_reducible repeat (first | refine blk_drewN ?_ _ | refine blk_drew ?_ | refine blk_alloc ?_ _)); exact BK102.out⟩, ⟨by repeat (first | (with_reducible first | exact HI103.out | apply Q.IsS67.alloc | apply Q.IsS67.drewN | apply Q.IsS67.drew | apply Q.IsS67.set_0 | apply Q.IsS67.set_1 | apply Q.IsS67.set_2 | apply Q.IsS67.set_3 | refine Q.IsS67.far ?_ NB103_101.out _ | refine Q.IsS67.far ?_ NB103_102.out _) | exact HI103.out)⟩, ⟨by repeat (first | (with_reducible first | exact HB.out | apply below_alloc | apply pw_below_drewN | apply below_drew1 | refine below_set ?_ (Q.IsS67.ge HI103.out) | refine below_set ?_ GE101.out | refine below_set ?_ GE102.out) | exact HB.out)⟩⟩
       ·replace c31 := Bool.eq_false_iff.mpr c31
        subst c31
        have H1 : (if t146 < 4 then (posthornref06_Parse.j2 kj21 a0 x5_3 x104001_3 t126 t136 (wrap64 (t145 + 1900)) t147 t148 t149 t150) else (posthornref06_Parse.j2 kj21 a0 x5_3 x104001_3 t126 t136 t145 t147 t148 t149 t150)) = some (r1, r2, r3, r4, r5, r6, r7, r8, r9) := by rw [if_neg (show ¬ (false = true) by decide)] at H; exact H
        clear H
        have H := H1
        clear H1
        by_cases c32 : t146 < 4
        ·rw [if_pos c32] at H
         have c32b0 : decide (t146 < 4) = true := decide_eq_true c32
         clear c32
         (first | rw [c32b0] | (simp only [i64_w, i32_w]; rw [c32b0]) | skip)
         have H' := Aside0.mk H
         clear H
         go_wp2
         go_meet
         case rel => exact ⟨_, (wrap64 (t145 + 1900)), (by first | rfl | (simp; done) | (simp [*]; done)), H', ⟨by have := HJ3.out; have := HJ21.out; first | omega | exact Nat.le_refl _⟩, ⟨by (with_reducible repeat (first | refine blk_drewN ?_ _ | refine blk_drew ?_ | refine blk_alloc ?_ _)); exact BK101.out⟩, ⟨by (with_reducible repeat (first | refine blk_drewN ?_ _ | refine blk_drew ?_ | refine blk_alloc ?_ _)); exact BK102.out⟩, ⟨by repeat (first | (with_reducible first | exact HI103.out | apply Q.IsS67.alloc | apply Q.IsS67.drewN | apply Q.IsS67.drew | apply Q.IsS67.set_0 | apply Q.IsS67.set_1 | apply Q.IsS67.set_2 | apply Q.IsS67.set_3 | refine Q.IsS67.far ?_ NB103_101.out _ | refine Q.IsS67.far ?_ NB103_102.out _) | exact HI103.out)⟩, ⟨by repeat (first | (with_reducible first | exact HB.out | apply below_alloc | apply pw_below_drewN | apply below_drew1 | refine below_set ?_ (Q.IsS67.ge HI103.out) | refine below_set ?_ GE101.out | refine below_set ?_ GE102.out) | exact HB.out)⟩⟩
        ·rw [if_neg c32] at H
         have c32b0 : decide (t146 < 4) = false := decide_eq_false c32
         clear c32
         (first | rw [c32b0] | (simp only [i64_w, i32_w]; rw [c32b0]) | skip)
         have H' := Aside0.mk H
         clear H
         go_wp2
         go_meet
         case rel => exact ⟨_, (t145), (by first | rfl | (simp; done) | (simp [*]; done)), H', ⟨by have := HJ3.out; have := HJ21.out; first | omega | exact Nat.le_refl _⟩, ⟨by (with_reducible repeat (first | refine blk_drewN ?_ _ | refine blk_drew ?_ | refine blk_alloc ?_ _)); exact BK101.out⟩, ⟨by (with_reducible repeat (first | refine blk_drewN ?_ _ | refine blk_drew ?_ | refine blk_alloc ?_ _)); exact BK102.out⟩, ⟨by repeat (first | (with_reducible first | exact HI103.out | apply Q.IsS67.alloc | apply Q.IsS67.drewN | apply Q.IsS67.drew | apply Q.IsS67.set_0 | apply Q.IsS67.set_1 | apply Q.IsS67.set_2 | apply Q.IsS67.set_3 | refine Q.IsS67.far ?_ NB103_101.out _ | refine Q.IsS67.far ?_ NB103_102.out _) | exact HI103.out)⟩, ⟨by repeat (first | (with_reducible first | exact HB.out | apply below_alloc | apply pw_below_drewN | apply below_drew1 | refine below_set ?_ (Q.IsS67.ge HI103.out) | refine below_set ?_ GE101.out | refine below_set ?_ GE102.out) | exact HB.out)⟩⟩
     case rest =>
      clear HC30
      try clear c1
      try clear c2
      try clear p2
      try clear c3
      try clear c4
      try clear p6
      try clear c10
      try clear c16
      try clear c29
      try clear c29b0
      try clear c29b1
      try clear c31
      try clear c32
      try clear c32b0
      try clear hcz23_0
      try clear hcz23_1
      try clear hcz23_2
      try clear hcz23_3
      try clear hfz23_0
      try clear hfz23_1
      try clear hfz23_2
      try clear hfz23_3
      try clear p2
      obtain ⟨kq, x10_29, rfl, HA, HJ29, BK101, BK102, HI103, HB⟩ := hcut
      cases kq with
      | zero => exact absurd HA.out (by simp [posthornref06_Parse.j2])
      | succ kj29 =>
       have H := HA.out
       clear HA
       simp only [posthornref06_Parse.j2] at H
       replace H := Option.bind_eq_some_iff.mp H
       obtain ⟨⟨t151, t152, t153, t154⟩, A330, H⟩ := H
       replace H : ((posthornref06_reader_number.f t151 t152 t153 t154 2 2).bind fun bt155 => ((posthornref06_reader_mark.f bt155.2.2.1 bt155.2.2.2.1 bt155.2.2.2.2.1 bt155.2.2.2.2.2 (⟨#[58]⟩ : ByteArray)).bind fun bt161 => ((posthornref06_reader_number.f bt161.1 bt161.2.1 bt161.2.2.1 bt161.2.2.2 2 2).bind fun bt165 => ((posthornref06_reader_is.f bt165.2.2.1 bt165.2.2.2.1 bt165.2.2.2.2.1 bt165.2.2.2.2.2 (⟨#[58]⟩ : ByteArray)).bind fun bt171 => (if bt171.1 = true then ((posthornref06_reader_number.f bt171.2.1 (wrap64 (bt171.2.2.1 + 1)) bt171.2.2.2.1 bt171.2.2.2.2 2 2).bind fun bt176 => (posthornref06_Parse.j3 kj29 a0 x5_3 x104001_3 t126 t136 x10_29 bt155.1 bt165.1 bt176.1 bt176.2.2.1 bt176.2.2.2.1 bt176.2.2.2.2.1 bt176.2.2.2.2.2)) else (posthornref06_Parse.j3 kj29 a0 x5_3 x104001_3 t126 t136 x10_29 bt155.1 bt165.1 0 bt171.2.1 bt171.2.2.1 bt171.2.2.2.1 bt171.2.2.2.2)))))) = some (r1, r2, r3, r4, r5, r6, r7, r8, r9) := H
       have A33 := Aside0.mk A330
       clear A330
       replace H := Option.bind_eq_some_iff.mp H
       obtain ⟨⟨t155, t156, t157, t158, t159, t160⟩, A340, H⟩ := H
       replace H : ((posthornref06_reader_mark.f t157 t158 t159 t160 (⟨#[58]⟩ : ByteArray)).bind fun bt161 => ((posthornref06_reader_number.f bt161.1 bt161.2.1 bt161.2.2.1 bt161.2.2.2 2 2).bind fun bt165 => ((posthornref06_reader_is.f bt165.2.2.1 bt165.2.2.2.1 bt165.2.2.2.2.1 bt165.2.2.2.2.2 (⟨#[58]⟩ : ByteArray)).bind fun bt171 => (if bt171.1 = true then ((posthornref06_reader_number.f bt171.2.1 (wrap64 (bt171.2.2.1 + 1)) bt171.2.2.2.1 bt171.2.2.2.2 2 2).bind fun bt176 => (posthornref06_Parse.j3 kj29 a0 x5_3 x104001_3 t126 t136 x10_29 t155 bt165.1 bt176.1 bt176.2.2.1 bt176.2.2.2.1 bt176.2.2.2.2.1 bt176.2.2.2.2.2)) else (posthornref06_Parse.j3 kj29 a0 x5_3 x104001_3 t126 t136 x10_29 t155 bt165.1 0 bt171.2.1 bt171.2.2.1 bt171.2.2.2.1 bt171.2.2.2.2))))) = some (r1, r2, r3, r4, r5, r6, r7, r8, r9) := H
       have A34 := Aside0.mk A340
       clear A340
       replace H := Option.bind_eq_some_iff.mp H
       obtain ⟨⟨t161, t162, t163, t164⟩, A350, H⟩ := H
       replace H : ((posthornref06_reader_number.f t161 t162 t163 t164 2 2).bind fun bt165 => ((posthornref06_reader_is.f bt165.2.2.1 bt165.2.2.2.1 bt165.2.2.2.2.1 bt165.2.2.2.2.2 (⟨#[58]⟩ : ByteArray)).bind fun bt171 => (if bt171.1 = true then ((posthornref06_reader_number.f bt171.2.1 (wrap64 (bt171.2.2.1 + 1)) bt171.2.2.2.1 bt171.2.2.2.2 2 2).bind fun bt176 => (posthornref06_Parse.j3 kj29 a0 x5_3 x104001_3 t126 t136 x10_29 t155 bt165.1 bt176.1 bt176.2.2.1 bt176.2.2.2.1 bt176.2.2.2.2.1 bt176.2.2.2.2.2)) else (posthornref06_Parse.j3 kj29 a0 x5_3 x104001_3 t126 t136 x10_29 t155 bt165.1 0 bt171.2.1 bt171.2.2.1 bt171.2.2.2.1 bt171.2.2.2.2)))) = some (r1, r2, r3, r4, r5, r6, r7, r8, r9) := H
       have A35 := Aside0.mk A350
       clear A350
       replace H := Option.bind_eq_some_iff.mp H
       obtain ⟨⟨t165, t166, t167, t168, t169, t170⟩, A360, H⟩ := H
       replace H : ((posthornref06_reader_is.f t167 t168 t169 t170 (⟨#[58]⟩ : ByteArray)).bind fun bt171 => (if bt171.1 = true then ((posthornref06_reader_number.f bt171.2.1 (wrap64 (bt171.2.2.1 + 1)) bt171.2.2.2.1 bt171.2.2.2.2 2 2).bind fun bt176 => (posthornref06_Parse.j3 kj29 a0 x5_3 x104001_3 t126 t136 x10_29 t155 t165 bt176.1 bt176.2.2.1 bt176.2.2.2.1 bt176.2.2.2.2.1 bt176.2.2.2.2.2)) else (posthornref06_Parse.j3 kj29 a0 x5_3 x104001_3 t126 t136 x10_29 t155 t165 0 bt171.2.1 bt171.2.2.1 bt171.2.2.2.1 bt171.2.2.2.2))) = some (r1, r2, r3, r4, r5, r6, r7, r8, r9) := H
       have A36 := Aside0.mk A360
       clear A360
       replace H := Option.bind_eq_some_iff.mp H
       obtain ⟨⟨t171, t172, t173, t174, t175⟩, A370, H⟩ := H
       replace H : (if t171 = true then ((posthornref06_reader_number.f t172 (wrap64 (t173 + 1)) t174 t175 2 2).bind fun bt176 => (posthornref06_Parse.j3 kj29 a0 x5_3 x104001_3 t126 t136 x10_29 t155 t165 bt176.1 bt176.2.2.1 bt176.2.2.2.1 bt176.2.2.2.2.1 bt176.2.2.2.2.2)) else (posthornref06_Parse.j3 kj29 a0 x5_3 x104001_3 t126 t136 x10_29 t155 t165 0 t172 t173 t174 t175)) = some (r1, r2, r3, r4, r5, r6, r7, r8, r9) := H
       have A37 := Aside0.mk A370
       clear A370
       have HC38 := Aside0.mk H
       clear H
       go_upto_if 83 with (first | ((with_reducible refine gate_callee (f := 38) rfl ?_); refine goesL_ (some 69) rfl rfl Tryd.func38 (by kernel_rfl) rfl #[.pointer (some ⟨gb103, 0, none⟩), .bool false] rfl (by (try simp only [List.map_toArray, List.map_cons, List.map_nil]); first | done | rfl | (simp only [List.length_drop, List.length_take]; rfl)) ?_; (with_reducible refine (posthornref06_reader_gap.calls gb103 t147 t148 t149 t150 false t151 t152 t153 t154 w _ ?side1 ?side2 A33.out).mono ?_); (case side1 => repeat (first | (with_reducible first | exact HI103.out | apply Q.IsS67.alloc | apply Q.IsS67.drewN | apply Q.IsS67.drew | apply Q.IsS67.set_0 | apply Q.IsS67.set_1 | apply Q.IsS67.set_2 | apply Q.IsS67.set_3 | refine Q.IsS67.far ?_ NB103_101.out _ | refine Q.IsS67.far ?_ NB103_102.out _) | exact HI103.out)); (case side2 => repeat (first | (with_reducible first | exact HB.out | apply below_alloc | apply pw_below_drewN | apply below_drew1 | refine below_set ?_ (Q.IsS67.ge HI103.out) | refine below_set ?_ GE101.out | refine below_set ?_ GE102.out) | exact HB.out)); rintro e w39 ⟨rfl, hi, hb, hk⟩; refine ⟨_, rfl, ?_⟩; have n0_ := Aside0.mk (KeepBut.blk hk (g' := gb101) (o := .cells #[.int .i16 0, .int .i8 0, .int .i8 0, .int .i8 0, .int .i8 0, .int .i8 0, .int .i16 0] 30 (0, 0)) (by (with_reducible repeat (first | refine blk_drewN ?_ _ | refine blk_drew ?_ | refine blk_alloc ?_ _)); exact BK101.out) NB101_103.out (by simp)); have n1_ := Aside0.mk (KeepBut.blk hk (g' := gb102) (o := .cells #[.int .i64 0, .int .i64 0] 32 (0, 0)) (by (with_reducible repeat (first | refine blk_drewN ?_ _ | refine blk_drew ?_ | refine blk_alloc ?_ _)); exact BK102.out) NB102_103.out (by simp)); have n2_ := Aside0.mk (hb); have n3_ := Aside0.mk (hi); clear BK101; clear BK102; clear HB; clear HI103; have BK101 := n0_; have BK102 := n1_; have HB := n2_; have HI103 := n3_; clear n0_ n1_ n2_ n3_; (try clear hb); (try clear hb2); (try clear hk); (try clear hi)) | ((with_reducible refine gate_callee (f := 42) rfl ?_); refine goesL_ (some 72) rfl rfl Tryd.func42 (by kernel_rfl) rfl #[.pointer (some ⟨gb103, 0, none⟩), .int .i64 2, .int .i64 2] rfl (by (try simp only [List.map_toArray, List.map_cons, List.map_nil]); first | done | rfl | (simp only [List.length_drop, List.length_take]; rfl)) ?_; (with_reducible refine (posthornref06_reader_number.calls gb103 t151 t152 t153 t154 2 2 t155 t156 t157 t158 t159 t160 w _ ?side1 ?side2 A34.out).mono ?_); (case side1 => repeat (first | (with_reducible first | exact HI103.out | apply Q.IsS67.alloc | apply Q.IsS67.drewN | apply Q.IsS67.drew | apply Q.IsS67.set_0 | apply Q.IsS67.set_1 | apply Q.IsS67.set_2 | apply Q.IsS67.set_3 | refine Q.IsS67.far ?_ NB103_101.out _ | refine Q.IsS67.far ?_ NB103_102.out _) | exact HI103.out)); (case side2 => repeat (first | (with_reducible first | exact HB.out | apply below_alloc | apply pw_below_drewN | apply below_drew1 | refine below_set ?_ (Q.IsS67.ge HI103.out) | refine below_set ?_ GE101.out | refine below_set ?_ GE102.out) | exact HB.out)); rintro e w40 ⟨rfl, hi, hb, hk⟩; refine ⟨_, rfl, ?_⟩; have n0_ := Aside0.mk (KeepBut.blk hk (g' := gb101) (o := .cells #[.int .i16 0, .int .i8 0, .int .i8 0, .int .i8 0, .int .i8 0, .int .i8 0, .int .i16 0] 30 (0, 0)) (by (with_reducible repeat (first | refine blk_drewN ?_ _ | refine blk_drew ?_ | refine blk_alloc ?_ _)); exact BK101.out) NB101_103.out (by simp)); have n1_ := Aside0.mk (KeepBut.blk hk (g' := gb102) (o := .cells #[.int .i64 0, .int .i64 0] 32 (0, 0)) (by (with_reducible repeat (first | refine blk_drewN ?_ _ | refine blk_drew ?_ | refine blk_alloc ?_ _)); exact BK102.out) NB102_103.out (by simp)); have n2_ := Aside0.mk (hb); have n3_ := Aside0.mk (hi); clear BK101; clear BK102; clear HB; clear HI103; have BK101 := n0_; have BK102 := n1_; have HB := n2_; have HI103 := n3_; clear n0_ n1_ n2_ n3_; (try clear hb); (try clear hb2); (try clear hk); (try clear hi)) | ((with_reducible refine gate_callee (f := 41) rfl ?_); refine goesL_ (some 76) rfl rfl Tryd.func41 (by kernel_rfl) rfl #[.pointer (some ⟨gb103, 0, none⟩), .string (⟨#[58]⟩ : ByteArray)] rfl (by (try simp only [List.map_toArray, List.map_cons, List.map_nil]); first | done | rfl | (simp only [List.length_drop, List.length_take]; rfl)) ?_; (with_reducible refine (posthornref06_reader_mark.calls gb103 t157 t158 t159 t160 (⟨#[58]⟩ : ByteArray) t161 t162 t163 t164 w _ ?side1 ?side2 A35.out).mono ?_); (case side1 => repeat (first | (with_reducible first | exact HI103.out | apply Q.IsS67.alloc | apply Q.IsS67.drewN | apply Q.IsS67.drew | apply Q.IsS67.set_0 | apply Q.IsS67.set_1 | apply Q.IsS67.set_2 | apply Q.IsS67.set_3 | refine Q.IsS67.far ?_ NB103_101.out _ | refine Q.IsS67.far ?_ NB103_102.out _) | exact HI103.out)); (case side2 => repeat (first | (with_reducible first | exact HB.out | apply below_alloc | apply pw_below_drewN | apply below_drew1 | refine below_set ?_ (Q.IsS67.ge HI103.out) | refine below_set ?_ GE101.out | refine below_set ?_ GE102.out) | exact HB.out)); rintro e w41 ⟨rfl, hi, hb, hk⟩; refine ⟨_, rfl, ?_⟩; have n0_ := Aside0.mk (KeepBut.blk hk (g' := gb101) (o := .cells #[.int .i16 0, .int .i8 0, .int .i8 0, .int .i8 0, .int .i8 0, .int .i8 0, .int .i16 0] 30 (0, 0)) (by (with_reducible repeat (first | refine blk_drewN ?_ _ | refine blk_drew ?_ | refine blk_alloc ?_ _)); exact BK101.out) NB101_103.out (by simp)); have n1_ := Aside0.mk (KeepBut.blk hk (g' := gb102) (o := .cells #[.int .i64 0, .int .i64 0] 32 (0, 0)) (by (with_reducible repeat (first | refine blk_drewN ?_ _ | refine blk_drew ?_ | refine blk_alloc ?_ _)); exact BK102.out) NB102_103.out (by simp)); have n2_ := Aside0.mk (hb); have n3_ := Aside0.mk (hi); clear BK101; clear BK102; clear HB; clear HI103; have BK101 := n0_; have BK102 := n1_; have HB := n2_; have HI103 := n3_; clear n0_ n1_ n2_ n3_; (try clear hb); (try clear hb2); (try clear hk); (try clear hi)) | ((with_reducible refine gate_callee (f := 42) rfl ?_); refine goesL_ (some 79) rfl rfl Tryd.func42 (by kernel_rfl) rfl #[.pointer (some ⟨gb103, 0, none⟩), .int .i64 2, .int .i64 2] rfl (by (try simp only [List.map_toArray, List.map_cons, List.map_nil]); first | done | rfl | (simp only [List.length_drop, List.length_take]; rfl)) ?_; (with_reducible refine (posthornref06_reader_number.calls gb103 t161 t162 t163 t164 2 2 t165 t166 t167 t168 t169 t170 w _ ?side1 ?side2 A36.out).mono ?_); (case side1 => repeat (first | (with_reducible first | exact HI103.out | apply Q.IsS67.alloc | apply Q.IsS67.drewN | apply Q.IsS67.drew | apply Q.IsS67.set_0 | apply Q.IsS67.set_1 | apply Q.IsS67.set_2 | apply Q.IsS67.set_3 | refine Q.IsS67.far ?_ NB103_101.out _ | refine Q.IsS67.far ?_ NB103_102.out _) | exact HI103.out)); (case side2 => repeat (first | (with_reducible first | exact HB.out | apply below_alloc | apply pw_below_drewN | apply below_drew1 | refine below_set ?_ (Q.IsS67.ge HI103.out) | refine below_set ?_ GE101.out | refine below_set ?_ GE102.out) | exact HB.out)); rintro e w42 ⟨rfl, hi, hb, hk⟩; refine ⟨_, rfl, ?_⟩; have n0_ := Aside0.mk (KeepBut.blk hk (g' := gb101) (o := .cells #[.int .i16 0, .int .i8 0, .int .i8 0, .int .i8 0, .int .i8 0, .int .i8 0, .int .i16 0] 30 (0, 0)) (by (with_reducible repeat (first | refine blk_drewN ?_ _ | refine blk_drew ?_ | refine blk_alloc ?_ _)); exact BK101.out) NB101_103.out (by simp)); have n1_ := Aside0.mk (KeepBut.blk hk (g' := gb102) (o := .cells #[.int .i64 0, .int .i64 0] 32 (0, 0)) (by (with_reducible repeat (first | refine blk_drewN ?_ _ | refine blk_drew ?_ | refine blk_alloc ?_ _)); exact BK102.out) NB102_103.out (by simp)); have n2_ := Aside0.mk (hb); have n3_ := Aside0.mk (hi); clear BK101; clear BK102; clear HB; clear HI103; have BK101 := n0_; have BK102 := n1_; have HB := n2_; have HI103 := n3_; clear n0_ n1_ n2_ n3_; (try clear hb); (try clear hb2); (try clear hk); (try clear hi)) | ((with_reducible refine gate_callee (f := 39) rfl ?_); refine goesL_ (some 83) rfl rfl Tryd.func39 (by kernel_rfl) rfl #[.pointer (some ⟨gb103, 0, none⟩), .string (⟨#[58]⟩ : ByteArray)] rfl (by (try simp only [List.map_toArray, List.map_cons, List.map_nil]); first | done | rfl | (simp only [List.length_drop, List.length_take]; rfl)) ?_; (with_reducible refine (posthornref06_reader_is.calls gb103 t167 t168 t169 t170 (⟨#[58]⟩ : ByteArray) t171 t172 t173 t174 t175 w _ ?side1 ?side2 A37.out).mono ?_); (case side1 => repeat (first | (with_reducible first | exact HI103.out | apply Q.IsS67.alloc | apply Q.IsS67.drewN | apply Q.IsS67.drew | apply Q.IsS67.set_0 | apply Q.IsS67.set_1 | apply Q.IsS67.set_2 | apply Q.IsS67.set_3 | refine Q.IsS67.far ?_ NB103_101.out _ | refine Q.IsS67.far ?_ NB103_102.out _) | exact HI103.out)); (case side2 => repeat (first | (with_reducible first | exact HB.out | apply below_alloc | apply pw_below_drewN | apply below_drew1 | refine below_set ?_ (Q.IsS67.ge HI103.out) | refine below_set ?_ GE101.out | refine below_set ?_ GE102.out) | exact HB.out)); rintro e w43 ⟨rfl, hi, hb, hk⟩; refine ⟨_, rfl, ?_⟩; have n0_ := Aside0.mk (KeepBut.blk hk (g' := gb101) (o := .cells #[.int .i16 0, .int .i8 0, .int .i8 0, .int .i8 0, .int .i8 0, .int .i8 0, .int .i16 0] 30 (0, 0)) (by (with_reducible repeat (first | refine blk_drewN ?_ _ | refine blk_drew ?_ | refine blk_alloc ?_ _)); exact BK101.out) NB101_103.out (by simp)); have n1_ := Aside0.mk (KeepBut.blk hk (g' := gb102) (o := .cells #[.int .i64 0, .int .i64 0] 32 (0, 0)) (by (with_reducible repeat (first | refine blk_drewN ?_ _ | refine blk_drew ?_ | refine blk_alloc ?_ _)); exact BK102.out) NB102_103.out (by simp)); have n2_ := Aside0.mk (hb); have n3_ := Aside0.mk (hi); clear BK101; clear BK102; clear HB; clear HI103; have BK101 := n0_; have BK102 := n1_; have HB := n2_; have HI103 := n3_; clear n0_ n1_ n2_ n3_; (try clear hb); (try clear hb2); (try clear hk); (try clear hi)))
       (try simp only [Act.put, List.setIfInBounds_toArray, List.set_cons_zero, List.set_cons_succ])
       go_cut [16] (fun v16 wc => ∃ (kq : Nat) (x16_37 : Int) (x104000_37 : ByteArray) (x104001_37 : Int) (x104002_37 : Int) (x104003_37 : Int), v16 = .int .i64 x16_37 ∧ Aside0 (posthornref06_Parse.j3 kq a0 x5_3 x104001_3 t126 t136 x10_29 t155 t165 x16_37 x104000_37 x104001_37 x104002_37 x104003_37 = some (r1, r2, r3, r4, r5, r6, r7, r8, r9)) ∧ Aside0 (kq ≤ kj29) ∧ Aside0 (wc.heap[gb101]? = some (.cells #[.int .i16 0, .int .i8 0, .int .i8 0, .int .i8 0, .int .i8 0, .int .i8 0, .int .i16 0] 30 (0, 0))) ∧ Aside0 (wc.heap[gb102]? = some (.cells #[.int .i64 0, .int .i64 0] 32 (0, 0))) ∧ Aside0 (Q.IsS67 w wc gb103 x104000_37 x104001_37 x104002_37 x104003_37) ∧ Aside0 (Below w.heap.size w wc))
       case first =>
        as_aux_lemma =>
         have H := HC38.out
         clear HC38
         by_cases c44 : t171 = true
         ·subst c44
          have H1 : ((posthornref06_reader_number.f t172 (wrap64 (t173 + 1)) t174 t175 2 2).bind fun bt176 => (posthornref06_Parse.j3 kj29 a0 x5_3 x104001_3 t126 t136 x10_29 t155 t165 bt176.1 bt176.2.2.1 bt176.2.2.2.1 bt176.2.2.2.2.1 bt176.2.2.2.2.2)) = some (r1, r2, r3, r4, r5, r6, r7, r8, r9) := by rw [if_pos rfl] at H; exact H
          clear H
          have H := H1
          clear H1
          replace H := Option.bind_eq_some_iff.mp H
          obtain ⟨⟨t176, t177, t178, t179, t180, t181⟩, A450, H⟩ := H
          replace H : (posthornref06_Parse.j3 kj29 a0 x5_3 x104001_3 t126 t136 x10_29 t155 t165 t176 t178 t179 t180 t181) = some (r1, r2, r3, r4, r5, r6, r7, r8, r9) := H
          have A45 := Aside0.mk A450
          clear A450
          have H' := Aside0.mk H
          clear H
          obtain ⟨HGz46, hgz46⟩ := HI103.out
          have hcz46_0 := Q.cellS67_0 HGz46
          have hcz46_1 := Q.cellS67_1 HGz46
          have hcz46_2 := Q.cellS67_2 HGz46
          have hcz46_3 := Q.cellS67_3 HGz46
          have hfz46_0 := blk_frozen HGz46 0
          have hfz46_1 := blk_frozen HGz46 1
          have hfz46_2 := blk_frozen HGz46 2
          have hfz46_3 := blk_frozen HGz46 3
          clear HGz46 hgz46
          go_wp2_with (first | ((with_reducible refine gate_callee (f := 42) rfl ?_); refine goesL_ (some 93) rfl rfl Tryd.func42 (by kernel_rfl) rfl #[.pointer (some ⟨gb103, 0, none⟩), .int .i64 2, .int .i64 2] rfl (by (try simp only [List.map_toArray, List.map_cons, List.map_nil]); first | done | rfl | (simp only [List.length_drop, List.length_take]; rfl)) ?_; (with_reducible refine (posthornref06_reader_number.calls gb103 t172 (wrap64 (t173 + 1)) t174 t175 2 2 t176 t177 t178 t179 t180 t181 w _ ?side1 ?side2 A45.out).mono ?_); (case side1 => repeat (first | (with_reducible first | exact HI103.out | apply Q.IsS67.alloc | apply Q.IsS67.drewN | apply Q.IsS67.drew | apply Q.IsS67.set_0 | apply Q.IsS67.set_1 | apply Q.IsS67.set_2 | apply Q.IsS67.set_3 | refine Q.IsS67.far ?_ NB103_101.out _ | refine Q.IsS67.far ?_ NB103_102.out _) | exact HI103.out)); (case side2 => repeat (first | (with_reducible first | exact HB.out | apply below_alloc | apply pw_below_drewN | apply below_drew1 | refine below_set ?_ (Q.IsS67.ge HI103.out) | refine below_set ?_ GE101.out | refine below_set ?_ GE102.out) | exact HB.out)); rintro e w47 ⟨rfl, hi, hb, hk⟩; refine ⟨_, rfl, ?_⟩; have n0_ := Aside0.mk (KeepBut.blk hk (g' := gb101) (o := .cells #[.int .i16 0, .int .i8 0, .int .i8 0, .int .i8 0, .int .i8 0, .int .i8 0, .int .i16 0] 30 (0, 0)) (by (with_reducible repeat (first | refine blk_drewN ?_ _ | refine blk_drew ?_ | refine blk_alloc ?_ _)); refine blk_far ?_ NB101_103.out _; (with_reducible repeat (first | refine blk_drewN ?_ _ | refine blk_drew ?_ | refine blk_alloc ?_ _)); exact BK101.out) NB101_103.out (by simp)); have n1_ := Aside0.mk (KeepBut.blk hk (g' := gb102) (o := .cells #[.int .i64 0, .int .i64 0] 32 (0, 0)) (by (with_reducible repeat (first | refine blk_drewN ?_ _ | refine blk_drew ?_ | refine blk_alloc ?_ _)); refine blk_far ?_ NB102_103.out _; (with_reducible repeat (first | refine blk_drewN ?_ _ | refine blk_drew ?_ | refine blk_alloc ?_ _)); exact BK102.out) NB102_103.out (by simp)); have n2_ := Aside0.mk (hb); have n3_ := Aside0.mk (hi); clear BK101; clear BK102; clear HB; clear HI103; have BK101 := n0_; have BK102 := n1_; have HB := n2_; have HI103 := n3_; clear n0_ n1_ n2_ n3_; (try clear hb); (try clear hb2); (try clear hk); (try clear hi)))
          go_meet
          case rel => exact ⟨_, (t176), (t178), (t179), (t180), (t181), (by first | rfl | (simp; done) | (simp [*]; done)), H', ⟨by have := HJ3.out; have := HJ21.out; have := HJ29.out; first | omega | exact Nat.le_refl _⟩, ⟨by (with_reducible repeat (first | refine blk_drewN ?_ _ | refine blk_drew ?_ | refine blk_alloc ?_ _)); exact BK101.out⟩, ⟨by (with_reducible repeat (first | refine blk_drewN ?_ _ | refine blk_drew ?_ | refine blk_alloc ?_ _)); exact BK102.out⟩, ⟨by repeat (first | (with_reducible first | exact HI103.out | apply Q.IsS67.alloc | apply Q.IsS67.drewN | apply Q.IsS67.drew | apply Q.IsS67.set_0 | apply Q.IsS67.set_1 | apply Q.IsS67.set_2 | apply Q.IsS67.set_3 | refine Q.IsS67.far ?_ NB103_101.out _ | refine Q.IsS67.far ?_ NB103_102.out _) | exact HI103.out)⟩, ⟨by repeat (first | (with_reducible first | exact HB.out | apply below_alloc | apply pw_below_drewN | apply below_drew1 | refine below_set ?_ (Q.IsS67.ge HI103.out) | refine below_set ?_ GE101.out | refine below_set ?_ GE102.out) | exact HB.out)⟩⟩
         ·replace c44 := Bool.eq_false_iff.mpr c44
          subst c44
          have H1 : (posthornref06_Parse.j3 kj29 a0 x5_3 x104001_3 t126 t136 x10_29 t155 t165 0 t172 t173 t174 t175) = some (r1, r2, r3, r4, r5, r6, r7, r8, r9) := by rw [if_neg (show ¬ (false = true) by decide)] at H; exact H
          clear H
          have H := H1
          clear H1
          have H' := Aside0.mk H
          clear H
          go_wp2
          go_meet
          case rel => exact ⟨_, (0), (t172), (t173), (t174), (t175), (by first | rfl | (simp; done) | (simp [*]; done)), H', ⟨by have := HJ3.out; have := HJ21.out; have := HJ29.out; first | omega | exact Nat.le_refl _⟩, ⟨by (with_reducible repeat (first | refine blk_drewN ?_ _ | refine blk_drew ?_ | refine blk_alloc ?_ _)); exact BK101.out⟩, ⟨by (with_reducible repeat (first | refine blk_drewN ?_ _ | refine blk_drew ?_ | refine blk_alloc ?_ _)); exact BK102.out⟩, ⟨by repeat (first | (with_reducible first | exact HI103.out | apply Q.IsS67.alloc | apply Q.IsS67.drewN | apply Q.IsS67.drew | apply Q.IsS67.set_0 | apply Q.IsS67.set_1 | apply Q.IsS67.set_2 | apply Q.IsS67.set_3 | refine Q.IsS67.far ?_ NB103_101.out _ | refine Q.IsS67.far ?_ NB103_102.out _) | exact HI103.out)⟩, ⟨by repeat (first | (with_reducible first | exact HB.out | apply below_alloc | apply pw_below_drewN | apply below_drew1 | refine below_set ?_ (Q.IsS67.ge HI103.out) | refine below_set ?_ GE101.out | refine below_set ?_ GE102.out) | exact HB.out)⟩⟩
       case rest =>
        clear HC38
        try clear c1
        try clear c2
        try clear p2
        try clear c3
        try clear c4
        try clear p6
        try clear c10
        try clear c16
        try clear c29
        try clear c29b0
        try clear c29b1
        try clear c31
        try clear c32
        try clear c32b0
        try clear c38
        try clear c39
        try clear c40
        try clear c41
        try clear c42
        try clear c44
        try clear hcz23_0
        try clear hcz23_1
        try clear hcz23_2
        try clear hcz23_3
        try clear hcz46_0
        try clear hcz46_1
        try clear hcz46_2
        try clear hcz46_3
        try clear hfz23_0
        try clear hfz23_1
        try clear hfz23_2
        try clear hfz23_3
        try clear hfz46_0
        try clear hfz46_1
        try clear hfz46_2
        try clear hfz46_3
        try clear p2
        try clear p6
        obtain ⟨kq, x16_37, x104000_37, x104001_37, x104002_37, x104003_37, rfl, HA, HJ37, BK101, BK102, HI103, HB⟩ := hcut
        cases kq with
        | zero => exact absurd HA.out (by simp [posthornref06_Parse.j3])
        | succ kj37 =>
         have H := HA.out
         clear HA
         simp only [posthornref06_Parse.j3] at H
         replace H := Option.bind_eq_some_iff.mp H
         obtain ⟨⟨t182, t183, t184, t185⟩, A480, H⟩ := H
         replace H : ((posthornref06_reader_zone.f t182 t183 t184 t185).bind fun bt186 => ((posthornref06_reader_gap.f bt186.2.1 bt186.2.2.1 bt186.2.2.2.1 bt186.2.2.2.2 true).bind fun bt191 => ((posthornref06_reader_remark.f bt191.1 bt191.2.1 bt191.2.2.1 bt191.2.2.2).bind fun bt195 => ((posthornref06_reader_gap.f bt195.1 bt195.2.1 bt195.2.2.1 bt195.2.2.2 true).bind fun bt199 => (if bt199.2.1 < (a0.size : Int) then ((posthornref06_reader_fail.f bt199.1 bt199.2.1 bt199.2.2.1 bt199.2.2.2 60 bt199.2.1).bind fun bt203 => (posthornref06_Parse.j4 kj37 x5_3 x104001_3 t126 t136 x10_29 t155 t165 x16_37 t183 bt186.1 bt203.1 bt203.2.1 bt203.2.2.1 bt203.2.2.2)) else (posthornref06_Parse.j4 kj37 x5_3 x104001_3 t126 t136 x10_29 t155 t165 x16_37 t183 bt186.1 bt199.1 bt199.2.1 bt199.2.2.1 bt199.2.2.2)))))) = some (r1, r2, r3, r4, r5, r6, r7, r8, r9) := H
         have A48 := Aside0.mk A480
         clear A480
         replace H := Option.bind_eq_some_iff.mp H
         obtain ⟨⟨t186, t187, t188, t189, t190⟩, A490, H⟩ := H
         replace H : ((posthornref06_reader_gap.f t187 t188 t189 t190 true).bind fun bt191 => ((posthornref06_reader_remark.f bt191.1 bt191.2.1 bt191.2.2.1 bt191.2.2.2).bind fun bt195 => ((posthornref06_reader_gap.f bt195.1 bt195.2.1 bt195.2.2.1 bt195.2.2.2 true).bind fun bt199 => (if bt199.2.1 < (a0.size : Int) then ((posthornref06_reader_fail.f bt199.1 bt199.2.1 bt199.2.2.1 bt199.2.2.2 60 bt199.2.1).bind fun bt203 => (posthornref06_Parse.j4 kj37 x5_3 x104001_3 t126 t136 x10_29 t155 t165 x16_37 t183 t186 bt203.1 bt203.2.1 bt203.2.2.1 bt203.2.2.2)) else (posthornref06_Parse.j4 kj37 x5_3 x104001_3 t126 t136 x10_29 t155 t165 x16_37 t183 t186 bt199.1 bt199.2.1 bt199.2.2.1 bt199.2.2.2))))) = some (r1, r2, r3, r4, r5, r6, r7, r8, r9) := H
         have A49 := Aside0.mk A490
         clear A490
         replace H := Option.bind_eq_some_iff.mp H
         obtain ⟨⟨t191, t192, t193, t194⟩, A500, H⟩ := H
         replace H : ((posthornref06_reader_remark.f t191 t192 t193 t194).bind fun bt195 => ((posthornref06_reader_gap.f bt195.1 bt195.2.1 bt195.2.2.1 bt195.2.2.2 true).bind fun bt199 => (if bt199.2.1 < (a0.size : Int) then ((posthornref06_reader_fail.f bt199.1 bt199.2.1 bt199.2.2.1 bt199.2.2.2 60 bt199.2.1).bind fun bt203 => (posthornref06_Parse.j4 kj37 x5_3 x104001_3 t126 t136 x10_29 t155 t165 x16_37 t183 t186 bt203.1 bt203.2.1 bt203.2.2.1 bt203.2.2.2)) else (posthornref06_Parse.j4 kj37 x5_3 x104001_3 t126 t136 x10_29 t155 t165 x16_37 t183 t186 bt199.1 bt199.2.1 bt199.2.2.1 bt199.2.2.2)))) = some (r1, r2, r3, r4, r5, r6, r7, r8, r9) := H
         have A50 := Aside0.mk A500
         clear A500
         replace H := Option.bind_eq_some_iff.mp H
         obtain ⟨⟨t195, t196, t197, t198⟩, A510, H⟩ := H
         replace H : ((posthornref06_reader_gap.f t195 t196 t197 t198 true).bind fun bt199 => (if bt199.2.1 < (a0.size : Int) then ((posthornref06_reader_fail.f bt199.1 bt199.2.1 bt199.2.2.1 bt199.2.2.2 60 bt199.2.1).bind fun bt203 => (posthornref06_Parse.j4 kj37 x5_3 x104001_3 t126 t136 x10_29 t155 t165 x16_37 t183 t186 bt203.1 bt203.2.1 bt203.2.2.1 bt203.2.2.2)) else (posthornref06_Parse.j4 kj37 x5_3 x104001_3 t126 t136 x10_29 t155 t165 x16_37 t183 t186 bt199.1 bt199.2.1 bt199.2.2.1 bt199.2.2.2))) = some (r1, r2, r3, r4, r5, r6, r7, r8, r9) := H
         have A51 := Aside0.mk A510
         clear A510
         replace H := Option.bind_eq_some_iff.mp H
         obtain ⟨⟨t199, t200, t201, t202⟩, A520, H⟩ := H
         replace H : (if t200 < (a0.size : Int) then ((posthornref06_reader_fail.f t199 t200 t201 t202 60 t200).bind fun bt203 => (posthornref06_Parse.j4 kj37 x5_3 x104001_3 t126 t136 x10_29 t155 t165 x16_37 t183 t186 bt203.1 bt203.2.1 bt203.2.2.1 bt203.2.2.2)) else (posthornref06_Parse.j4 kj37 x5_3 x104001_3 t126 t136 x10_29 t155 t165 x16_37 t183 t186 t199 t200 t201 t202)) = some (r1, r2, r3, r4, r5, r6, r7, r8, r9) := H
         have A52 := Aside0.mk A520
         clear A520
         have HC53 := Aside0.mk H
         clear H
         go_upto_if 116 with (first | ((with_reducible refine gate_callee (f := 38) rfl ?_); refine goesL_ (some 97) rfl rfl Tryd.func38 (by kernel_rfl) rfl #[.pointer (some ⟨gb103, 0, none⟩), .bool false] rfl (by (try simp only [List.map_toArray, List.map_cons, List.map_nil]); first | done | rfl | (simp only [List.length_drop, List.length_take]; rfl)) ?_; (with_reducible refine (posthornref06_reader_gap.calls gb103 x104000_37 x104001_37 x104002_37 x104003_37 false t182 t183 t184 t185 w _ ?side1 ?side2 A48.out).mono ?_); (case side1 => repeat (first | (with_reducible first | exact HI103.out | apply Q.IsS67.alloc | apply Q.IsS67.drewN | apply Q.IsS67.drew | apply Q.IsS67.set_0 | apply Q.IsS67.set_1 | apply Q.IsS67.set_2 | apply Q.IsS67.set_3 | refine Q.IsS67.far ?_ NB103_101.out _ | refine Q.IsS67.far ?_ NB103_102.out _) | exact HI103.out)); (case side2 => repeat (first | (with_reducible first | exact HB.out | apply below_alloc | apply pw_below_drewN | apply below_drew1 | refine below_set ?_ (Q.IsS67.ge HI103.out) | refine below_set ?_ GE101.out | refine below_set ?_ GE102.out) | exact HB.out)); rintro e w54 ⟨rfl, hi, hb, hk⟩; refine ⟨_, rfl, ?_⟩; have n0_ := Aside0.mk (KeepBut.blk hk (g' := gb101) (o := .cells #[.int .i16 0, .int .i8 0, .int .i8 0, .int .i8 0, .int .i8 0, .int .i8 0, .int .i16 0] 30 (0, 0)) (by (with_reducible repeat (first | refine blk_drewN ?_ _ | refine blk_drew ?_ | refine blk_alloc ?_ _)); exact BK101.out) NB101_103.out (by simp)); have n1_ := Aside0.mk (KeepBut.blk hk (g' := gb102) (o := .cells #[.int .i64 0, .int .i64 0] 32 (0, 0)) (by (with_reducible repeat (first | refine blk_drewN ?_ _ | refine blk_drew ?_ | refine blk_alloc ?_ _)); exact BK102.out) NB102_103.out (by simp)); have n2_ := Aside0.mk (hb); have n3_ := Aside0.mk (hi); clear BK101; clear BK102; clear HB; clear HI103; have BK101 := n0_; have BK102 := n1_; have HB := n2_; have HI103 := n3_; clear n0_ n1_ n2_ n3_; (try clear hb); (try clear hb2); (try clear hk); (try clear hi); obtain ⟨HGz55, hgz55⟩ := HI103.out; have hcz55_0 := Q.cellS67_0 HGz55; have hcz55_1 := Q.cellS67_1 HGz55; have hcz55_2 := Q.cellS67_2 HGz55; have hcz55_3 := Q.cellS67_3 HGz55; have hfz55_0 := blk_frozen HGz55 0; have hfz55_1 := blk_frozen HGz55 1; have hfz55_2 := blk_frozen HGz55 2; have hfz55_3 := blk_frozen HGz55 3; clear HGz55 hgz55) | ((with_reducible refine gate_callee (f := 43) rfl ?_); refine goesL_ (some 103) rfl rfl Tryd.func43 (by kernel_rfl) rfl #[.pointer (some ⟨gb103, 0, none⟩)] rfl (by (try simp only [List.map_toArray, List.map_cons, List.map_nil]); first | done | rfl | (simp only [List.length_drop, List.length_take]; rfl)) ?_; (with_reducible refine (posthornref06_reader_zone.calls gb103 t182 t183 t184 t185 t186 t187 t188 t189 t190 w _ ?side1 ?side2 A49.out).mono ?_); (case side1 => repeat (first | (with_reducible first | exact HI103.out | apply Q.IsS67.alloc | apply Q.IsS67.drewN | apply Q.IsS67.drew | apply Q.IsS67.set_0 | apply Q.IsS67.set_1 | apply Q.IsS67.set_2 | apply Q.IsS67.set_3 | refine Q.IsS67.far ?_ NB103_101.out _ | refine Q.IsS67.far ?_ NB103_102.out _) | exact HI103.out)); (case side2 => repeat (first | (with_reducible first | exact HB.out | apply below_alloc | apply pw_below_drewN | apply below_drew1 | refine below_set ?_ (Q.IsS67.ge HI103.out) | refine below_set ?_ GE101.out | refine below_set ?_ GE102.out) | exact HB.out)); rintro e w56 ⟨rfl, hi, hb, hk⟩; refine ⟨_, rfl, ?_⟩; have n0_ := Aside0.mk (KeepBut.blk hk (g' := gb101) (o := .cells #[.int .i16 0, .int .i8 0, .int .i8 0, .int .i8 0, .int .i8 0, .int .i8 0, .int .i16 0] 30 (0, 0)) (by (with_reducible repeat (first | refine blk_drewN ?_ _ | refine blk_drew ?_ | refine blk_alloc ?_ _)); exact BK101.out) NB101_103.out (by simp)); have n1_ := Aside0.mk (KeepBut.blk hk (g' := gb102) (o := .cells #[.int .i64 0, .int .i64 0] 32 (0, 0)) (by (with_reducible repeat (first | refine blk_drewN ?_ _ | refine blk_drew ?_ | refine blk_alloc ?_ _)); exact BK102.out) NB102_103.out (by simp)); have n2_ := Aside0.mk (hb); have n3_ := Aside0.mk (hi); clear BK101; clear BK102; clear HB; clear HI103; have BK101 := n0_; have BK102 := n1_; have HB := n2_; have HI103 := n3_; clear n0_ n1_ n2_ n3_; (try clear hb); (try clear hb2); (try clear hk); (try clear hi)) | ((with_reducible refine gate_callee (f := 38) rfl ?_); refine goesL_ (some 105) rfl rfl Tryd.func38 (by kernel_rfl) rfl #[.pointer (some ⟨gb103, 0, none⟩), .bool true] rfl (by (try simp only [List.map_toArray, List.map_cons, List.map_nil]); first | done | rfl | (simp only [List.length_drop, List.length_take]; rfl)) ?_; (with_reducible refine (posthornref06_reader_gap.calls gb103 t187 t188 t189 t190 true t191 t192 t193 t194 w _ ?side1 ?side2 A50.out).mono ?_); (case side1 => repeat (first | (with_reducible first | exact HI103.out | apply Q.IsS67.alloc | apply Q.IsS67.drewN | apply Q.IsS67.drew | apply Q.IsS67.set_0 | apply Q.IsS67.set_1 | apply Q.IsS67.set_2 | apply Q.IsS67.set_3 | refine Q.IsS67.far ?_ NB103_101.out _ | refine Q.IsS67.far ?_ NB103_102.out _) | exact HI103.out)); (case side2 => repeat (first | (with_reducible first | exact HB.out | apply below_alloc | apply pw_below_drewN | apply below_drew1 | refine below_set ?_ (Q.IsS67.ge HI103.out) | refine below_set ?_ GE101.out | refine below_set ?_ GE102.out) | exact HB.out)); rintro e w57 ⟨rfl, hi, hb, hk⟩; refine ⟨_, rfl, ?_⟩; have n0_ := Aside0.mk (KeepBut.blk hk (g' := gb101) (o := .cells #[.int .i16 0, .int .i8 0, .int .i8 0, .int .i8 0, .int .i8 0, .int .i8 0, .int .i16 0] 30 (0, 0)) (by (with_reducible repeat (first | refine blk_drewN ?_ _ | refine blk_drew ?_ | refine blk_alloc ?_ _)); exact BK101.out) NB101_103.out (by simp)); have n1_ := Aside0.mk (KeepBut.blk hk (g' := gb102) (o := .cells #[.int .i64 0, .int .i64 0] 32 (0, 0)) (by (with_reducible repeat (first | refine blk_drewN ?_ _ | refine blk_drew ?_ | refine blk_alloc ?_ _)); exact BK102.out) NB102_103.out (by simp)); have n2_ := Aside0.mk (hb); have n3_ := Aside0.mk (hi); clear BK101; clear BK102; clear HB; clear HI103; have BK101 := n0_; have BK102 := n1_; have HB := n2_; have HI103 := n3_; clear n0_ n1_ n2_ n3_; (try clear hb); (try clear hb2); (try clear hk); (try clear hi)) | ((with_reducible refine gate_callee (f := 44) rfl ?_); refine goesL_ (some 107) rfl rfl Tryd.func44 (by kernel_rfl) rfl #[.pointer (some ⟨gb103, 0, none⟩)] rfl (by (try simp only [List.map_toArray, List.map_cons, List.map_nil]); first | done | rfl | (simp only [List.length_drop, List.length_take]; rfl)) ?_; (with_reducible refine (posthornref06_reader_remark.calls gb103 t191 t192 t193 t194 t195 t196 t197 t198 w _ ?side1 ?side2 A51.out).mono ?_); (case side1 => repeat (first | (with_reducible first | exact HI103.out | apply Q.IsS67.alloc | apply Q.IsS67.drewN | apply Q.IsS67.drew | apply Q.IsS67.set_0 | apply Q.IsS67.set_1 | apply Q.IsS67.set_2 | apply Q.IsS67.set_3 | refine Q.IsS67.far ?_ NB103_101.out _ | refine Q.IsS67.far ?_ NB103_102.out _) | exact HI103.out)); (case side2 => repeat (first | (with_reducible first | exact HB.out | apply below_alloc | apply pw_below_drewN | apply below_drew1 | refine below_set ?_ (Q.IsS67.ge HI103.out) | refine below_set ?_ GE101.out | refine below_set ?_ GE102.out) | exact HB.out)); rintro e w58 ⟨rfl, hi, hb, hk⟩; refine ⟨_, rfl, ?_⟩; have n0_ := Aside0.mk (KeepBut.blk hk (g' := gb101) (o := .cells #[.int .i16 0, .int .i8 0, .int .i8 0, .int .i8 0, .int .i8 0, .int .i8 0, .int .i16 0] 30 (0, 0)) (by (with_reducible repeat (first | refine blk_drewN ?_ _ | refine blk_drew ?_ | refine blk_alloc ?_ _)); exact BK101.out) NB101_103.out (by simp)); have n1_ := Aside0.mk (KeepBut.blk hk (g' := gb102) (o := .cells #[.int .i64 0, .int .i64 0] 32 (0, 0)) (by (with_reducible repeat (first | refine blk_drewN ?_ _ | refine blk_drew ?_ | refine blk_alloc ?_ _)); exact BK102.out) NB102_103.out (by simp)); have n2_ := Aside0.mk (hb); have n3_ := Aside0.mk (hi); clear BK101; clear BK102; clear HB; clear HI103; have BK101 := n0_; have BK102 := n1_; have HB := n2_; have HI103 := n3_; clear n0_ n1_ n2_ n3_; (try clear hb); (try clear hb2); (try clear hk); (try clear hi)) | ((with_reducible refine gate_callee (f := 38) rfl ?_); refine goesL_ (some 109) rfl rfl Tryd.func38 (by kernel_rfl) rfl #[.pointer (some ⟨gb103, 0, none⟩), .bool true] rfl (by (try simp only [List.map_toArray, List.map_cons, List.map_nil]); first | done | rfl | (simp only [List.length_drop, List.length_take]; rfl)) ?_; (with_reducible refine (posthornref06_reader_gap.calls gb103 t195 t196 t197 t198 true t199 t200 t201 t202 w _ ?side1 ?side2 A52.out).mono ?_); (case side1 => repeat (first | (with_reducible first | exact HI103.out | apply Q.IsS67.alloc | apply Q.IsS67.drewN | apply Q.IsS67.drew | apply Q.IsS67.set_0 | apply Q.IsS67.set_1 | apply Q.IsS67.set_2 | apply Q.IsS67.set_3 | refine Q.IsS67.far ?_ NB103_101.out _ | refine Q.IsS67.far ?_ NB103_102.out _) | exact HI103.out)); (case side2 => repeat (first | (with_reducible first | exact HB.out | apply below_alloc | apply pw_below_drewN | apply below_drew1 | refine below_set ?_ (Q.IsS67.ge HI103.out) | refine below_set ?_ GE101.out | refine below_set ?_ GE102.out) | exact HB.out)); rintro e w59 ⟨rfl, hi, hb, hk⟩; refine ⟨_, rfl, ?_⟩; have n0_ := Aside0.mk (KeepBut.blk hk (g' := gb101) (o := .cells #[.int .i16 0, .int .i8 0, .int .i8 0, .int .i8 0, .int .i8 0, .int .i8 0, .int .i16 0] 30 (0, 0)) (by (with_reducible repeat (first | refine blk_drewN ?_ _ | refine blk_drew ?_ | refine blk_alloc ?_ _)); exact BK101.out) NB101_103.out (by simp)); have n1_ := Aside0.mk (KeepBut.blk hk (g' := gb102) (o := .cells #[.int .i64 0, .int .i64 0] 32 (0, 0)) (by (with_reducible repeat (first | refine blk_drewN ?_ _ | refine blk_drew ?_ | refine blk_alloc ?_ _)); exact BK102.out) NB102_103.out (by simp)); have n2_ := Aside0.mk (hb); have n3_ := Aside0.mk (hi); clear BK101; clear BK102; clear HB; clear HI103; have BK101 := n0_; have BK102 := n1_; have HB := n2_; have HI103 := n3_; clear n0_ n1_ n2_ n3_; (try clear hb); (try clear hb2); (try clear hk); (try clear hi); obtain ⟨HGz60, hgz60⟩ := HI103.out; have hcz60_0 := Q.cellS67_0 HGz60; have hcz60_1 := Q.cellS67_1 HGz60; have hcz60_2 := Q.cellS67_2 HGz60; have hcz60_3 := Q.cellS67_3 HGz60; have hfz60_0 := blk_frozen HGz60 0; have hfz60_1 := blk_frozen HGz60 1; have hfz60_2 := blk_frozen HGz60 2; have hfz60_3 := blk_frozen HGz60 3; clear HGz60 hgz60))
         (try simp only [Act.put, List.setIfInBounds_toArray, List.set_cons_zero, List.set_cons_succ])
         go_cut [] (fun wc => ∃ (kq : Nat) (x104000_52 : ByteArray) (x104001_52 : Int) (x104002_52 : Int) (x104003_52 : Int), Aside0 (posthornref06_Parse.j4 kq x5_3 x104001_3 t126 t136 x10_29 t155 t165 x16_37 t183 t186 x104000_52 x104001_52 x104002_52 x104003_52 = some (r1, r2, r3, r4, r5, r6, r7, r8, r9)) ∧ Aside0 (kq ≤ kj37) ∧ Aside0 (wc.heap[gb101]? = some (.cells #[.int .i16 0, .int .i8 0, .int .i8 0, .int .i8 0, .int .i8 0, .int .i8 0, .int .i16 0] 30 (0, 0))) ∧ Aside0 (wc.heap[gb102]? = some (.cells #[.int .i64 0, .int .i64 0] 32 (0, 0))) ∧ Aside0 (Q.IsS67 w wc gb103 x104000_52 x104001_52 x104002_52 x104003_52) ∧ Aside0 (Below w.heap.size w wc))
         case first =>
          as_aux_lemma =>
           have H := HC53.out
           clear HC53
           by_cases c61 : t200 < (a0.size : Int)
           ·rw [if_pos c61] at H
            have c61b0 : decide (t200 < (a0.size : Int)) = true := decide_eq_true c61
            clear c61
            (first | rw [c61b0] | (simp only [i64_w, i32_w]; rw [c61b0]) | skip)
            replace H := Option.bind_eq_some_iff.mp H
            obtain ⟨⟨t203, t204, t205, t206⟩, A620, H⟩ := H
            replace H : (posthornref06_Parse.j4 kj37 x5_3 x104001_3 t126 t136 x10_29 t155 t165 x16_37 t183 t186 t203 t204 t205 t206) = some (r1, r2, r3, r4, r5, r6, r7, r8, r9) := H
            have A62 := Aside0.mk A620
            clear A620
            have H' := Aside0.mk H
            clear H
            obtain ⟨HGz63, hgz63⟩ := HI103.out
            have hcz63_0 := Q.cellS67_0 HGz63
            have hcz63_1 := Q.cellS67_1 HGz63
            have hcz63_2 := Q.cellS67_2 HGz63
            have hcz63_3 := Q.cellS67_3 HGz63
            have hfz63_0 := blk_frozen HGz63 0
            have hfz63_1 := blk_frozen HGz63 1
            have hfz63_2 := blk_frozen HGz63 2
            have hfz63_3 := blk_frozen HGz63 3
            clear HGz63 hgz63
            go_wp2_with (first | ((with_reducible refine gate_callee (f := 45) rfl ?_); refine goesL_ (some 122) rfl rfl Tryd.func45 (by kernel_rfl) rfl #[.pointer (some ⟨gb103, 0, none⟩), .int .i64 60, .int .i64 t200] rfl (by (try simp only [List.map_toArray, List.map_cons, List.map_nil]); first | done | rfl | (simp only [List.length_drop, List.length_take]; rfl)) ?_; (with_reducible refine (posthornref06_reader_fail.calls gb103 t199 t200 t201 t202 60 t200 t203 t204 t205 t206 w _ ?side1 ?side2 A62.out).mono ?_); (case side1 => repeat (first | (with_reducible first | exact HI103.out | apply Q.IsS67.alloc | apply Q.IsS67.drewN | apply Q.IsS67.drew | apply Q.IsS67.set_0 | apply Q.IsS67.set_1 | apply Q.IsS67.set_2 | apply Q.IsS67.set_3 | refine Q.IsS67.far ?_ NB103_101.out _ | refine Q.IsS67.far ?_ NB103_102.out _) | exact HI103.out)); (case side2 => repeat (first | (with_reducible first | exact HB.out | apply below_alloc | apply pw_below_drewN | apply below_drew1 | refine below_set ?_ (Q.IsS67.ge HI103.out) | refine below_set ?_ GE101.out | refine below_set ?_ GE102.out) | exact HB.out)); rintro e w64 ⟨rfl, hi, hb, hk⟩; refine ⟨_, rfl, ?_⟩; have n0_ := Aside0.mk (KeepBut.blk hk (g' := gb101) (o := .cells #[.int .i16 0, .int .i8 0, .int .i8 0, .int .i8 0, .int .i8 0, .int .i8 0, .int .i16 0] 30 (0, 0)) (by (with_reducible repeat (first | refine blk_drewN ?_ _ | refine blk_drew ?_ | refine blk_alloc ?_ _)); exact BK101.out) NB101_103.out (by simp)); have n1_ := Aside0.mk (KeepBut.blk hk (g' := gb102) (o := .cells #[.int .i64 0, .int .i64 0] 32 (0, 0)) (by (with_reducible repeat (first | refine blk_drewN ?_ _ | refine blk_drew ?_ | refine blk_alloc ?_ _)); exact BK102.out) NB102_103.out (by simp)); have n2_ := Aside0.mk (hb); have n3_ := Aside0.mk (hi); clear BK101; clear BK102; clear HB; clear HI103; have BK101 := n0_; have BK102 := n1_; have HB := n2_; have HI103 := n3_; clear n0_ n1_ n2_ n3_; (try clear hb); (try clear hb2); (try clear hk); (try clear hi)))
            go_meet
            case rel => exact ⟨_, (t203), (t204), (t205), (t206), H', ⟨by have := HJ3.out; have := HJ21.out; have := HJ29.out; have := HJ37.out; first | omega | exact Nat.le_refl _⟩, ⟨by (with_reducible repeat (first | refine blk_drewN ?_ _ | refine blk_drew ?_ | refine blk_alloc ?_ _)); exact BK101.out⟩, ⟨by (with_reducible repeat (first | refine blk_drewN ?_ _ | refine blk_drew ?_ | refine blk_alloc ?_ _)); exact BK102.out⟩, ⟨by repeat (first | (with_reducible first | exact HI103.out | apply Q.IsS67.alloc | apply Q.IsS67.drewN | apply Q.IsS67.drew | apply Q.IsS67.set_0 | apply Q.IsS67.set_1 | apply Q.IsS67.set_2 | apply Q.IsS67.set_3 | refine Q.IsS67.far ?_ NB103_101.out _ | refine Q.IsS67.far ?_ NB103_102.out _) | exact HI103.out)⟩, ⟨by repeat (first | (with_reducible first | exact HB.out | apply below_alloc | apply pw_below_drewN | apply below_drew1 | refine below_set ?_ (Q.IsS67.ge HI103.out) | refine below_set ?_ GE101.out | refine below_set ?_ GE102.out) | exact HB.out)⟩⟩
           ·rw [if_neg c61] at H
            have c61b0 : decide (t200 < (a0.size : Int)) = false := decide_eq_false c61
            clear c61
            (first | rw [c61b0] | (simp only [i64_w, i32_w]; rw [c61b0]) | skip)
            have H' := Aside0.mk H
            clear H
            go_wp2
            go_meet
            case rel => exact ⟨_, (t199), (t200), (t201), (t202), H', ⟨by have := HJ3.out; have := HJ21.out; have := HJ29.out; have := HJ37.out; first | omega | exact Nat.le_refl _⟩, ⟨by (with_reducible repeat (first | refine blk_drewN ?_ _ | refine blk_drew ?_ | refine blk_alloc ?_ _)); exact BK101.out⟩, ⟨by (with_reducible repeat (first | refine blk_drewN ?_ _ | refine blk_drew ?_ | refine blk_alloc ?_ _)); exact BK102.out⟩, ⟨by repeat (first | (with_reducible first | exact HI103.out | apply Q.IsS67.alloc | apply Q.IsS67.drewN | apply Q.IsS67.drew | apply Q.IsS67.set_0 | apply Q.IsS67.set_1 | apply Q.IsS67.set_2 | apply Q.IsS67.set_3 | refine Q.IsS67.far ?_ NB103_101.out _ | refine Q.IsS67.far ?_ NB103_102.out _) | exact HI103.out)⟩, ⟨by repeat (first | (with_reducible first | exact HB.out | apply below_alloc | apply pw_below_drewN | apply below_drew1 | refine below_set ?_ (Q.IsS67.ge HI103.out) | refine below_set ?_ GE101.out | refine below_set ?_ GE102.out) | exact HB.out)⟩⟩
         case rest =>
          clear HC53
          try clear c1
          try clear c2
          try clear p2
          try clear c3
          try clear c4
          try clear c6
          try clear p6
          try clear c10
          try clear c16
          try clear c29
          try clear c29b0
          try clear c29b1
          try clear c31
          try clear c32
          try clear c32b0
          try clear c38
          try clear c39
          try clear c40
          try clear c41
          try clear c42
          try clear c43
          try clear c44
          try clear c45
          try clear c61
          try clear c61b0
          try clear p64
          try clear hcz23_0
          try clear hcz23_1
          try clear hcz23_2
          try clear hcz23_3
          try clear hcz46_0
          try clear hcz46_1
          try clear hcz46_2
          try clear hcz46_3
          try clear hcz55_0
          try clear hcz55_1
          try clear hcz55_2
          try clear hcz55_3
          try clear hcz60_0
          try clear hcz60_1
          try clear hcz60_2
          try clear hcz60_3
          try clear hcz63_0
          try clear hcz63_1
          try clear hcz63_2
          try clear hcz63_3
          try clear hfz23_0
          try clear hfz23_1
          try clear hfz23_2
          try clear hfz23_3
          try clear hfz46_0
          try clear hfz46_1
          try clear hfz46_2
          try clear hfz46_3
          try clear hfz55_0
          try clear hfz55_1
          try clear hfz55_2
          try clear hfz55_3
          try clear hfz60_0
          try clear hfz60_1
          try clear hfz60_2
          try clear hfz60_3
          try clear hfz63_0
          try clear hfz63_1
          try clear hfz63_2
          try clear hfz63_3
          try clear p2
          try clear p6
          obtain ⟨kq, x104000_52, x104001_52, x104002_52, x104003_52, HA, HJ52, BK101, BK102, HI103, HB⟩ := hcut
          cases kq with
          | zero => exact absurd HA.out (by simp [posthornref06_Parse.j4])
          | succ kj52 =>
           have H := HA.out
           clear HA
           simp only [posthornref06_Parse.j4] at H
           by_cases c65 : x104002_52 = 0
           ·rw [if_pos c65] at H
            have c65b0 : (x104002_52 == 0) = true := beq_iff_eq.mpr c65
            have c65b1 : (x104002_52 != 0) = false := bne_eq_false_iff_eq.mpr c65
            clear c65
            replace H := Option.bind_eq_some_iff.mp H
            obtain ⟨t208, A660, H⟩ := H
            replace H : (if t208 = 60 then (some (0, 0, 0, 0, 0, 0, 0, t208, x104001_3)) else ((posthornref06_Days.f (IntKind.i16.wrap (x10_29)) (IntKind.i8.wrap (wrap64 (t136 + 1))) (IntKind.i8.wrap (t126))).bind fun bt209 => (if x5_3 ≥ 0 then ((posthornref06_Weekday.f bt209.1).bind fun t211 => (posthornref06_Parse.j5 kj52 x104001_3 t183 t208 (x5_3 != (wrap64 (t211))) (IntKind.i16.wrap (x10_29)) (IntKind.i8.wrap (wrap64 (t136 + 1))) (IntKind.i8.wrap (t126)) (IntKind.i8.wrap (t155)) (IntKind.i8.wrap (t165)) (IntKind.i8.wrap (x16_37)) (IntKind.i16.wrap (t186)))) else (posthornref06_Parse.j5 kj52 x104001_3 t183 t208 false (IntKind.i16.wrap (x10_29)) (IntKind.i8.wrap (wrap64 (t136 + 1))) (IntKind.i8.wrap (t126)) (IntKind.i8.wrap (t155)) (IntKind.i8.wrap (t165)) (IntKind.i8.wrap (x16_37)) (IntKind.i16.wrap (t186)))))) = some (r1, r2, r3, r4, r5, r6, r7, r8, r9) := H
            have A66 := Aside0.mk A660
            clear A660
            by_cases c67 : t208 = 60
            ·rw [if_pos c67] at H
             have c67b0 : (t208 == 60) = true := beq_iff_eq.mpr c67
             have c67b1 : (t208 != 60) = false := bne_eq_false_iff_eq.mpr c67
             clear c67
             simp only [Option.some.injEq, Prod.mk.injEq] at H
             obtain ⟨rfl, rfl, rfl, rfl, rfl, rfl, rfl, rfl, rfl⟩ := H
             obtain ⟨HGz68, hgz68⟩ := HI103.out
             have hcz68_0 := Q.cellS67_0 HGz68
             have hcz68_1 := Q.cellS67_1 HGz68
             have hcz68_2 := Q.cellS67_2 HGz68
             have hcz68_3 := Q.cellS67_3 HGz68
             have hfz68_0 := blk_frozen HGz68 0
             have hfz68_1 := blk_frozen HGz68 1
             have hfz68_2 := blk_frozen HGz68 2
             have hfz68_3 := blk_frozen HGz68 3
             clear HGz68 hgz68
             go_wp2_with (first | ((with_reducible refine gate_dst (N := 19) rfl ?_); refine box_event ?hg (N := 19) ?hd (cs := #[.int .i16 0, .int .i8 0, .int .i8 0, .int .i8 0, .int .i8 0, .int .i8 0, .int .i16 0]) (t := 30) ?hr ?_; (case hd => rfl); (case hg => rfl); (case hr => first | (go_simp; done) | (go_simp; rfl)); intro gb207 hg w69 hbox hb; have n0_ := Aside0.mk (blk_below (g := gb101) (o := .cells #[.int .i16 0, .int .i8 0, .int .i8 0, .int .i8 0, .int .i8 0, .int .i8 0, .int .i16 0] 30 (0, 0)) (by (with_reducible repeat (first | refine blk_drewN ?_ _ | refine blk_drew ?_ | refine blk_alloc ?_ _)); exact BK101.out) hb); have n1_ := Aside0.mk (blk_below (g := gb102) (o := .cells #[.int .i64 0, .int .i64 0] 32 (0, 0)) (by (with_reducible repeat (first | refine blk_drewN ?_ _ | refine blk_drew ?_ | refine blk_alloc ?_ _)); exact BK102.out) hb); have n2_ := Aside0.mk (Q.IsS67.below (by repeat (first | (with_reducible first | exact HI103.out | apply Q.IsS67.alloc | apply Q.IsS67.drewN | apply Q.IsS67.drew | apply Q.IsS67.set_0 | apply Q.IsS67.set_1 | apply Q.IsS67.set_2 | apply Q.IsS67.set_3 | refine Q.IsS67.far ?_ NB103_101.out _ | refine Q.IsS67.far ?_ NB103_102.out _) | exact HI103.out)) hb); have n3_ := Aside0.mk (below_step (by repeat (first | (with_reducible first | exact HB.out | apply below_alloc | apply pw_below_drewN | apply below_drew1 | refine below_set ?_ (Q.IsS67.ge HI103.out) | refine below_set ?_ GE101.out | refine below_set ?_ GE102.out) | exact HB.out)) hb); have n4_ := Aside0.mk (hbox); have n5_ := Aside0.mk ((by rw [hg]; exact (below_size (by repeat (first | (with_reducible first | exact HB.out | apply below_alloc | apply pw_below_drewN | apply below_drew1 | refine below_set ?_ (Q.IsS67.ge HI103.out) | refine below_set ?_ GE101.out | refine below_set ?_ GE102.out) | exact HB.out))) : w.heap.size ≤ gb207)); have n6_ := Aside0.mk ((by rw [hg]; exact (below_size (by repeat (first | (with_reducible first | exact HB.out | apply below_alloc | apply pw_below_drewN | apply below_drew1 | refine below_set ?_ (Q.IsS67.ge HI103.out) | refine below_set ?_ GE101.out | refine below_set ?_ GE102.out) | exact HB.out))) : w.heap.size ≤ gb207)); have n7_ := Aside0.mk ((by rw [hg]; exact Nat.ne_of_lt (blk_lt (g := gb101) (o := .cells #[.int .i16 0, .int .i8 0, .int .i8 0, .int .i8 0, .int .i8 0, .int .i8 0, .int .i16 0] 30 (0, 0)) (by (with_reducible repeat (first | refine blk_drewN ?_ _ | refine blk_drew ?_ | refine blk_alloc ?_ _)); exact BK101.out)) : gb101 ≠ gb207)); have n8_ := Aside0.mk ((by rw [hg]; exact Nat.ne_of_gt (blk_lt (g := gb101) (o := .cells #[.int .i16 0, .int .i8 0, .int .i8 0, .int .i8 0, .int .i8 0, .int .i8 0, .int .i16 0] 30 (0, 0)) (by (with_reducible repeat (first | refine blk_drewN ?_ _ | refine blk_drew ?_ | refine blk_alloc ?_ _)); exact BK101.out)) : gb207 ≠ gb101)); have n9_ := Aside0.mk ((by rw [hg]; exact Nat.ne_of_lt (blk_lt (g := gb102) (o := .cells #[.int .i64 0, .int .i64 0] 32 (0, 0)) (by (with_reducible repeat (first | refine blk_drewN ?_ _ | refine blk_drew ?_ | refine blk_alloc ?_ _)); exact BK102.out)) : gb102 ≠ gb207)); have n10_ := Aside0.mk ((by rw [hg]; exact Nat.ne_of_gt (blk_lt (g := gb102) (o := .cells #[.int .i64 0, .int .i64 0] 32 (0, 0)) (by (with_reducible repeat (first | refine blk_drewN ?_ _ | refine blk_drew ?_ | refine blk_alloc ?_ _)); exact BK102.out)) : gb207 ≠ gb102)); have n11_ := Aside0.mk ((by rw [hg]; exact Nat.ne_of_lt (Q.IsS67.lt (show Q.IsS67 w _ gb103 x104000_52 x104001_52 x104002_52 x104003_52 from by repeat (first | (with_reducible first | exact HI103.out | apply Q.IsS67.alloc | apply Q.IsS67.drewN | apply Q.IsS67.drew | apply Q.IsS67.set_0 | apply Q.IsS67.set_1 | apply Q.IsS67.set_2 | apply Q.IsS67.set_3 | refine Q.IsS67.far ?_ NB103_101.out _ | refine Q.IsS67.far ?_ NB103_102.out _) | exact HI103.out))) : gb103 ≠ gb207)); have n12_ := Aside0.mk ((by rw [hg]; exact Nat.ne_of_gt (Q.IsS67.lt (show Q.IsS67 w _ gb103 x104000_52 x104001_52 x104002_52 x104003_52 from by repeat (first | (with_reducible first | exact HI103.out | apply Q.IsS67.alloc | apply Q.IsS67.drewN | apply Q.IsS67.drew | apply Q.IsS67.set_0 | apply Q.IsS67.set_1 | apply Q.IsS67.set_2 | apply Q.IsS67.set_3 | refine Q.IsS67.far ?_ NB103_101.out _ | refine Q.IsS67.far ?_ NB103_102.out _) | exact HI103.out))) : gb207 ≠ gb103)); clear BK101; clear BK102; clear HI103; clear HB; have BK101 := n0_; have BK102 := n1_; have HI103 := n2_; have HB := n3_; have BK207 := n4_; have GW207 := n5_; have GE207 := n6_; have NB101_207 := n7_; have NB207_101 := n8_; have NB102_207 := n9_; have NB207_102 := n10_; have NB103_207 := n11_; have NB207_103 := n12_; clear n0_ n1_ n2_ n3_ n4_ n5_ n6_ n7_ n8_ n9_ n10_ n11_ n12_; clear hb hbox hg; have hnb70 := NB207_101.out; have hnc70 := NB101_207.out; have hnb71 := NB207_102.out; have hnc71 := NB102_207.out; have hnb72 := NB207_103.out; have hnc72 := NB103_207.out; have hcz73_0 : w69.cell? ⟨gb207, 0, none⟩ = some (.int .i16 0) := (blk_cell BK207.out 0).trans rfl; have hcz73_1 : w69.cell? ⟨gb207, 1, none⟩ = some (.int .i8 0) := (blk_cell BK207.out 1).trans rfl; have hcz73_2 : w69.cell? ⟨gb207, 2, none⟩ = some (.int .i8 0) := (blk_cell BK207.out 2).trans rfl; have hcz73_3 : w69.cell? ⟨gb207, 3, none⟩ = some (.int .i8 0) := (blk_cell BK207.out 3).trans rfl; have hcz73_4 : w69.cell? ⟨gb207, 4, none⟩ = some (.int .i8 0) := (blk_cell BK207.out 4).trans rfl; have hcz73_5 : w69.cell? ⟨gb207, 5, none⟩ = some (.int .i8 0) := (blk_cell BK207.out 5).trans rfl; have hcz73_6 : w69.cell? ⟨gb207, 6, none⟩ = some (.int .i16 0) := (blk_cell BK207.out 6).trans rfl; have hfz73_0 := blk_frozen BK207.out 0; have hfz73_1 := blk_frozen BK207.out 1; have hfz73_2 := blk_frozen BK207.out 2; have hfz73_3 := blk_frozen BK207.out 3; have hfz73_4 := blk_frozen BK207.out 4; have hfz73_5 := blk_frozen BK207.out 5; have hfz73_6 := blk_frozen BK207.out 6) | ((with_reducible refine gate_callee (f := 30) rfl ?_); refine goesL_ (some 151) rfl rfl Tryd.func30 (by kernel_rfl) rfl #[.agg #[.int .i16 (IntKind.i16.wrap (x10_29)), .int .i8 (IntKind.i8.wrap (wrap64 (t136 + 1))), .int .i8 (IntKind.i8.wrap (t126)), .int .i8 (IntKind.i8.wrap (t155)), .int .i8 (IntKind.i8.wrap (t165)), .int .i8 (IntKind.i8.wrap (x16_37)), .int .i16 (IntKind.i16.wrap (t186))]] rfl (by (try simp only [List.map_toArray, List.map_cons, List.map_nil]); first | done | rfl | (simp only [List.length_drop, List.length_take]; rfl)) ?_; (with_reducible refine (posthornref06_Check.calls (IntKind.i16.wrap (x10_29)) (IntKind.i8.wrap (wrap64 (t136 + 1))) (IntKind.i8.wrap (t126)) (IntKind.i8.wrap (t155)) (IntKind.i8.wrap (t165)) (IntKind.i8.wrap (x16_37)) (IntKind.i16.wrap (t186)) t208 _ A66.out).mono ?_); rintro e w74 ⟨rfl, hb⟩; refine ⟨_, rfl, ?_⟩; have n0_ := Aside0.mk (blk_below (g := gb101) (o := .cells #[.int .i16 0, .int .i8 0, .int .i8 0, .int .i8 0, .int .i8 0, .int .i8 0, .int .i16 0] 30 (0, 0)) (by (with_reducible repeat (first | refine blk_drewN ?_ _ | refine blk_drew ?_ | refine blk_alloc ?_ _)); refine blk_far ?_ NB101_207.out _; (with_reducible repeat (first | refine blk_drewN ?_ _ | refine blk_drew ?_ | refine blk_alloc ?_ _)); refine blk_far ?_ NB101_207.out _; (with_reducible repeat (first | refine blk_drewN ?_ _ | refine blk_drew ?_ | refine blk_alloc ?_ _)); refine blk_far ?_ NB101_207.out _; (with_reducible repeat (first | refine blk_drewN ?_ _ | refine blk_drew ?_ | refine blk_alloc ?_ _)); refine blk_far ?_ NB101_207.out _; (with_reducible repeat (first | refine blk_drewN ?_ _ | refine blk_drew ?_ | refine blk_alloc ?_ _)); refine blk_far ?_ NB101_207.out _; (with_reducible repeat (first | refine blk_drewN ?_ _ | refine blk_drew ?_ | refine blk_alloc ?_ _)); refine blk_far ?_ NB101_207.out _; (with_reducible repeat (first | refine blk_drewN ?_ _ | refine blk_drew ?_ | refine blk_alloc ?_ _)); refine blk_far ?_ NB101_207.out _; (with_reducible repeat (first | refine blk_drewN ?_ _ | refine blk_drew ?_ | refine blk_alloc ?_ _)); exact BK101.out) hb); have n1_ := Aside0.mk (blk_below (g := gb102) (o := .cells #[.int .i64 0, .int .i64 0] 32 (0, 0)) (by (with_reducible repeat (first | refine blk_drewN ?_ _ | refine blk_drew ?_ | refine blk_alloc ?_ _)); refine blk_far ?_ NB102_207.out _; (with_reducible repeat (first | refine blk_drewN ?_ _ | refine blk_drew ?_ | refine blk_alloc ?_ _)); refine blk_far ?_ NB102_207.out _; (with_reducible repeat (first | refine blk_drewN ?_ _ | refine blk_drew ?_ | refine blk_alloc ?_ _)); refine blk_far ?_ NB102_207.out _; (with_reducible repeat (first | refine blk_drewN ?_ _ | refine blk_drew ?_ | refine blk_alloc ?_ _)); refine blk_far ?_ NB102_207.out _; (with_reducible repeat (first | refine blk_drewN ?_ _ | refine blk_drew ?_ | refine blk_alloc ?_ _)); refine blk_far ?_ NB102_207.out _; (with_reducible repeat (first | refine blk_drewN ?_ _ | refine blk_drew ?_ | refine blk_alloc ?_ _)); refine blk_far ?_ NB102_207.out _; (with_reducible repeat (first | refine blk_drewN ?_ _ | refine blk_drew ?_ | refine blk_alloc ?_ _)); refine blk_far ?_ NB102_207.out _; (with_reducible repeat (first | refine blk_drewN ?_ _ | refine blk_drew ?_ | refine blk_alloc ?_ _)); exact BK102.out) hb); have n2_ := Aside0.mk (Q.IsS67.below (show Q.IsS67 w (((((((w69.setCell ⟨gb207, 0, none⟩ (.int .i16 (IntKind.i16.wrap (x10_29)))).setCell ⟨gb207, 1, none⟩ (.int .i8 (IntKind.i8.wrap (wrap64 (t136 + 1))))).setCell ⟨gb207, 2, none⟩ (.int .i8 (IntKind.i8.wrap (t126)))).setCell ⟨gb207, 3, none⟩ (.int .i8 (IntKind.i8.wrap (t155)))).setCell ⟨gb207, 4, none⟩ (.int .i8 (IntKind.i8.wrap (t165)))).setCell ⟨gb207, 5, none⟩ (.int .i8 (IntKind.i8.wrap (x16_37)))).setCell ⟨gb207, 6, none⟩ (.int .i16 (IntKind.i16.wrap (t186)))) gb103 x104000_52 x104001_52 x104002_52 x104003_52 from by repeat (first | (with_reducible first | exact HI103.out | apply Q.IsS67.alloc | apply Q.IsS67.drewN | apply Q.IsS67.drew | apply Q.IsS67.set_0 | apply Q.IsS67.set_1 | apply Q.IsS67.set_2 | apply Q.IsS67.set_3 | refine Q.IsS67.far ?_ NB103_101.out _ | refine Q.IsS67.far ?_ NB103_102.out _ | refine Q.IsS67.far ?_ NB103_207.out _) | exact HI103.out)) hb); have n3_ := Aside0.mk (blk_below (g := gb207) (o := .cells #[.int .i16 (IntKind.i16.wrap (x10_29)), .int .i8 (IntKind.i8.wrap (wrap64 (t136 + 1))), .int .i8 (IntKind.i8.wrap (t126)), .int .i8 (IntKind.i8.wrap (t155)), .int .i8 (IntKind.i8.wrap (t165)), .int .i8 (IntKind.i8.wrap (x16_37)), .int .i16 (IntKind.i16.wrap (t186))] 30 (0, 0)) (by (with_reducible repeat (first | refine blk_drewN ?_ _ | refine blk_drew ?_ | refine blk_alloc ?_ _)); refine blk_put (cs := #[.int .i16 (IntKind.i16.wrap (x10_29)), .int .i8 (IntKind.i8.wrap (wrap64 (t136 + 1))), .int .i8 (IntKind.i8.wrap (t126)), .int .i8 (IntKind.i8.wrap (t155)), .int .i8 (IntKind.i8.wrap (t165)), .int .i8 (IntKind.i8.wrap (x16_37)), .int .i16 0]) ?_ 6 _ rfl; (with_reducible repeat (first | refine blk_drewN ?_ _ | refine blk_drew ?_ | refine blk_alloc ?_ _)); refine blk_put (cs := #[.int .i16 (IntKind.i16.wrap (x10_29)), .int .i8 (IntKind.i8.wrap (wrap64 (t136 + 1))), .int .i8 (IntKind.i8.wrap (t126)), .int .i8 (IntKind.i8.wrap (t155)), .int .i8 (IntKind.i8.wrap (t165)), .int .i8 0, .int .i16 0]) ?_ 5 _ rfl; (with_reducible repeat (first | refine blk_drewN ?_ _ | refine blk_drew ?_ | refine blk_alloc ?_ _)); refine blk_put (cs := #[.int .i16 (IntKind.i16.wrap (x10_29)), .int .i8 (IntKind.i8.wrap (wrap64 (t136 + 1))), .int .i8 (IntKind.i8.wrap (t126)), .int .i8 (IntKind.i8.wrap (t155)), .int .i8 0, .int .i8 0, .int .i16 0]) ?_ 4 _ rfl; (with_reducible repeat (first | refine blk_drewN ?_ _ | refine blk_drew ?_ | refine blk_alloc ?_ _)); refine blk_put (cs := #[.int .i16 (IntKind.i16.wrap (x10_29)), .int .i8 (IntKind.i8.wrap (wrap64 (t136 + 1))), .int .i8 (IntKind.i8.wrap (t126)), .int .i8 0, .int .i8 0, .int .i8 0, .int .i16 0]) ?_ 3 _ rfl; (with_reducible repeat (first | refine blk_drewN ?_ _ | refine blk_drew ?_ | refine blk_alloc ?_ _)); refine blk_put (cs := #[.int .i16 (IntKind.i16.wrap (x10_29)), .int .i8 (IntKind.i8.wrap (wrap64 (t136 + 1))), .int .i8 0, .int .i8 0, .int .i8 0, .int .i8 0, .int .i16 0]) ?_ 2 _ rfl; (with_reducible repeat (first | refine blk_drewN ?_ _ | refine blk_drew ?_ | refine blk_alloc ?_ _)); refine blk_put (cs := #[.int .i16 (IntKind.i16.wrap (x10_29)), .int .i8 0, .int .i8 0, .int .i8 0, .int .i8 0, .int .i8 0, .int .i16 0]) ?_ 1 _ rfl; (with_reducible repeat (first | refine blk_drewN ?_ _ | refine blk_drew ?_ | refine blk_alloc ?_ _)); refine blk_put (cs := #[.int .i16 0, .int .i8 0, .int .i8 0, .int .i8 0, .int .i8 0, .int .i8 0, .int .i16 0]) ?_ 0 _ rfl; (with_reducible repeat (first | refine blk_drewN ?_ _ | refine blk_drew ?_ | refine blk_alloc ?_ _)); exact BK207.out) hb); have n4_ := Aside0.mk (below_step (by repeat (first | (with_reducible first | exact HB.out | apply below_alloc | apply pw_below_drewN | apply below_drew1 | refine below_set ?_ (Q.IsS67.ge HI103.out) | refine below_set ?_ GE101.out | refine below_set ?_ GE102.out | refine below_set ?_ GE207.out) | exact HB.out)) hb); clear BK101; clear BK102; clear HI103; clear BK207; clear HB; have BK101 := n0_; have BK102 := n1_; have HI103 := n2_; have BK207 := n3_; have HB := n4_; clear n0_ n1_ n2_ n3_ n4_; (try clear hb); (try clear hb2); (try clear hk); (try clear hi); have hnb75 := NB101_102.out; have hnc75 := NB102_101.out; have hnb76 := NB101_103.out; have hnc76 := NB103_101.out; have hcz77_0 : w74.cell? ⟨gb101, 0, none⟩ = some (.int .i16 0) := (blk_cell BK101.out 0).trans rfl; have hcz77_1 : w74.cell? ⟨gb101, 1, none⟩ = some (.int .i8 0) := (blk_cell BK101.out 1).trans rfl; have hcz77_2 : w74.cell? ⟨gb101, 2, none⟩ = some (.int .i8 0) := (blk_cell BK101.out 2).trans rfl; have hcz77_3 : w74.cell? ⟨gb101, 3, none⟩ = some (.int .i8 0) := (blk_cell BK101.out 3).trans rfl; have hcz77_4 : w74.cell? ⟨gb101, 4, none⟩ = some (.int .i8 0) := (blk_cell BK101.out 4).trans rfl; have hcz77_5 : w74.cell? ⟨gb101, 5, none⟩ = some (.int .i8 0) := (blk_cell BK101.out 5).trans rfl; have hcz77_6 : w74.cell? ⟨gb101, 6, none⟩ = some (.int .i16 0) := (blk_cell BK101.out 6).trans rfl; have hfz77_0 := blk_frozen BK101.out 0; have hfz77_1 := blk_frozen BK101.out 1; have hfz77_2 := blk_frozen BK101.out 2; have hfz77_3 := blk_frozen BK101.out 3; have hfz77_4 := blk_frozen BK101.out 4; have hfz77_5 := blk_frozen BK101.out 5; have hfz77_6 := blk_frozen BK101.out 6; have hnb78 := NB102_103.out; have hnc78 := NB103_102.out; have hcz79_0 : w74.cell? ⟨gb102, 0, none⟩ = some (.int .i64 0) := (blk_cell BK102.out 0).trans rfl; have hcz79_1 : w74.cell? ⟨gb102, 1, none⟩ = some (.int .i64 0) := (blk_cell BK102.out 1).trans rfl; have hfz79_0 := blk_frozen BK102.out 0; have hfz79_1 := blk_frozen BK102.out 1))
             refine bodyPost_ret (results_cc rfl _ _ gb101 gb102 30 32 #[.int .i16 0, .int .i8 0, .int .i8 0, .int .i8 0, .int .i8 0, .int .i8 0, .int .i16 0] #[.int .i64 t208, .int .i64 x104001_3] (0, 0) (0, 0) _ _ rfl (by (with_reducible repeat (first | refine blk_drewN ?_ _ | refine blk_drew ?_ | refine blk_alloc ?_ _)); refine blk_far ?_ NB101_102.out _; (with_reducible repeat (first | refine blk_drewN ?_ _ | refine blk_drew ?_ | refine blk_alloc ?_ _)); refine blk_far ?_ NB101_102.out _; (with_reducible repeat (first | refine blk_drewN ?_ _ | refine blk_drew ?_ | refine blk_alloc ?_ _)); refine blk_put (cs := #[.int .i16 0, .int .i8 0, .int .i8 0, .int .i8 0, .int .i8 0, .int .i8 0, .int .i16 0]) ?_ 6 _ rfl; (with_reducible repeat (first | refine blk_drewN ?_ _ | refine blk_drew ?_ | refine blk_alloc ?_ _)); refine blk_put (cs := #[.int .i16 0, .int .i8 0, .int .i8 0, .int .i8 0, .int .i8 0, .int .i8 0, .int .i16 0]) ?_ 5 _ rfl; (with_reducible repeat (first | refine blk_drewN ?_ _ | refine blk_drew ?_ | refine blk_alloc ?_ _)); refine blk_put (cs := #[.int .i16 0, .int .i8 0, .int .i8 0, .int .i8 0, .int .i8 0, .int .i8 0, .int .i16 0]) ?_ 4 _ rfl; (with_reducible repeat (first | refine blk_drewN ?_ _ | refine blk_drew ?_ | refine blk_alloc ?_ _)); refine blk_put (cs := #[.int .i16 0, .int .i8 0, .int .i8 0, .int .i8 0, .int .i8 0, .int .i8 0, .int .i16 0]) ?_ 3 _ rfl; (with_reducible repeat (first | refine blk_drewN ?_ _ | refine blk_drew ?_ | refine blk_alloc ?_ _)); refine blk_put (cs := #[.int .i16 0, .int .i8 0, .int .i8 0, .int .i8 0, .int .i8 0, .int .i8 0, .int .i16 0]) ?_ 2 _ rfl; (with_reducible repeat (first | refine blk_drewN ?_ _ | refine blk_drew ?_ | refine blk_alloc ?_ _)); refine blk_put (cs := #[.int .i16 0, .int .i8 0, .int .i8 0, .int .i8 0, .int .i8 0, .int .i8 0, .int .i16 0]) ?_ 1 _ rfl; (with_reducible repeat (first | refine blk_drewN ?_ _ | refine blk_drew ?_ | refine blk_alloc ?_ _)); refine blk_put (cs := #[.int .i16 0, .int .i8 0, .int .i8 0, .int .i8 0, .int .i8 0, .int .i8 0, .int .i16 0]) ?_ 0 _ rfl; (with_reducible repeat (first | refine blk_drewN ?_ _ | refine blk_drew ?_ | refine blk_alloc ?_ _)); exact BK101.out) Tryd.underlying30 rfl (by kernel_rfl) rfl (by (with_reducible repeat (first | refine blk_drewN ?_ _ | refine blk_drew ?_ | refine blk_alloc ?_ _)); refine blk_put (cs := #[.int .i64 t208, .int .i64 0]) ?_ 1 _ rfl; (with_reducible repeat (first | refine blk_drewN ?_ _ | refine blk_drew ?_ | refine blk_alloc ?_ _)); refine blk_put (cs := #[.int .i64 0, .int .i64 0]) ?_ 0 _ rfl; (with_reducible repeat (first | refine blk_drewN ?_ _ | refine blk_drew ?_ | refine blk_alloc ?_ _)); refine blk_far ?_ NB102_101.out _; (with_reducible repeat (first | refine blk_drewN ?_ _ | refine blk_drew ?_ | refine blk_alloc ?_ _)); refine blk_far ?_ NB102_101.out _; (with_reducible repeat (first | refine blk_drewN ?_ _ | refine blk_drew ?_ | refine blk_alloc ?_ _)); refine blk_far ?_ NB102_101.out _; (with_reducible repeat (first | refine blk_drewN ?_ _ | refine blk_drew ?_ | refine blk_alloc ?_ _)); refine blk_far ?_ NB102_101.out _; (with_reducible repeat (first | refine blk_drewN ?_ _ | refine blk_drew ?_ | refine blk_alloc ?_ _)); refine blk_far ?_ NB102_101.out _; (with_reducible repeat (first | refine blk_drewN ?_ _ | refine blk_drew ?_ | refine blk_alloc ?_ _)); refine blk_far ?_ NB102_101.out _; (with_reducible repeat (first | refine blk_drewN ?_ _ | refine blk_drew ?_ | refine blk_alloc ?_ _)); refine blk_far ?_ NB102_101.out _; (with_reducible repeat (first | refine blk_drewN ?_ _ | refine blk_drew ?_ | refine blk_alloc ?_ _)); exact BK102.out) Tryd.underlying32 rfl (by kernel_rfl)) rfl ?_
             exact ⟨by first | rfl | (simp [errW_none, errW_some] <;> rfl) | (simp [*, errW_none, errW_some] <;> rfl), by repeat (first | (with_reducible first | exact HB.out | apply below_alloc | apply pw_below_drewN | apply below_drew1 | refine below_set ?_ (Q.IsS67.ge HI103.out) | refine below_set ?_ GE101.out | refine below_set ?_ GE102.out | refine below_set ?_ GE207.out) | exact HB.out)⟩
            ·rw [if_neg c67] at H
             have c67b0 : (t208 == 60) = false := beq_eq_false_iff_ne.mpr c67
             have c67b1 : (t208 != 60) = true := bne_iff_ne.mpr c67
             replace H := Option.bind_eq_some_iff.mp H
             obtain ⟨⟨t209, t210⟩, A800, H⟩ := H
             replace H : (if x5_3 ≥ 0 then ((posthornref06_Weekday.f t209).bind fun t211 => (posthornref06_Parse.j5 kj52 x104001_3 t183 t208 (x5_3 != (wrap64 (t211))) (IntKind.i16.wrap (x10_29)) (IntKind.i8.wrap (wrap64 (t136 + 1))) (IntKind.i8.wrap (t126)) (IntKind.i8.wrap (t155)) (IntKind.i8.wrap (t165)) (IntKind.i8.wrap (x16_37)) (IntKind.i16.wrap (t186)))) else (posthornref06_Parse.j5 kj52 x104001_3 t183 t208 false (IntKind.i16.wrap (x10_29)) (IntKind.i8.wrap (wrap64 (t136 + 1))) (IntKind.i8.wrap (t126)) (IntKind.i8.wrap (t155)) (IntKind.i8.wrap (t165)) (IntKind.i8.wrap (x16_37)) (IntKind.i16.wrap (t186)))) = some (r1, r2, r3, r4, r5, r6, r7, r8, r9) := H
             have A80 := Aside0.mk A800
             clear A800
             have HC81 := Aside0.mk H
             clear H
             obtain ⟨HGz82, hgz82⟩ := HI103.out
             have hcz82_0 := Q.cellS67_0 HGz82
             have hcz82_1 := Q.cellS67_1 HGz82
             have hcz82_2 := Q.cellS67_2 HGz82
             have hcz82_3 := Q.cellS67_3 HGz82
             have hfz82_0 := blk_frozen HGz82 0
             have hfz82_1 := blk_frozen HGz82 1
             have hfz82_2 := blk_frozen HGz82 2
             have hfz82_3 := blk_frozen HGz82 3
             clear HGz82 hgz82
             go_upto_region 41 with (first | ((with_reducible refine gate_dst (N := 19) rfl ?_); refine box_event ?hg (N := 19) ?hd (cs := #[.int .i16 0, .int .i8 0, .int .i8 0, .int .i8 0, .int .i8 0, .int .i8 0, .int .i16 0]) (t := 30) ?hr ?_; (case hd => rfl); (case hg => rfl); (case hr => first | (go_simp; done) | (go_simp; rfl)); intro gb207 hg w83 hbox hb; have n0_ := Aside0.mk (blk_below (g := gb101) (o := .cells #[.int .i16 0, .int .i8 0, .int .i8 0, .int .i8 0, .int .i8 0, .int .i8 0, .int .i16 0] 30 (0, 0)) (by (with_reducible repeat (first | refine blk_drewN ?_ _ | refine blk_drew ?_ | refine blk_alloc ?_ _)); exact BK101.out) hb); have n1_ := Aside0.mk (blk_below (g := gb102) (o := .cells #[.int .i64 0, .int .i64 0] 32 (0, 0)) (by (with_reducible repeat (first | refine blk_drewN ?_ _ | refine blk_drew ?_ | refine blk_alloc ?_ _)); exact BK102.out) hb); have n2_ := Aside0.mk (Q.IsS67.below (by repeat (first | (with_reducible first | exact HI103.out | apply Q.IsS67.alloc | apply Q.IsS67.drewN | apply Q.IsS67.drew | apply Q.IsS67.set_0 | apply Q.IsS67.set_1 | apply Q.IsS67.set_2 | apply Q.IsS67.set_3 | refine Q.IsS67.far ?_ NB103_101.out _ | refine Q.IsS67.far ?_ NB103_102.out _) | exact HI103.out)) hb); have n3_ := Aside0.mk (below_step (by repeat (first | (with_reducible first | exact HB.out | apply below_alloc | apply pw_below_drewN | apply below_drew1 | refine below_set ?_ (Q.IsS67.ge HI103.out) | refine below_set ?_ GE101.out | refine below_set ?_ GE102.out) | exact HB.out)) hb); have n4_ := Aside0.mk (hbox); have n5_ := Aside0.mk ((by rw [hg]; exact (below_size (by repeat (first | (with_reducible first | exact HB.out | apply below_alloc | apply pw_below_drewN | apply below_drew1 | refine below_set ?_ (Q.IsS67.ge HI103.out) | refine below_set ?_ GE101.out | refine below_set ?_ GE102.out) | exact HB.out))) : w.heap.size ≤ gb207)); have n6_ := Aside0.mk ((by rw [hg]; exact (below_size (by repeat (first | (with_reducible first | exact HB.out | apply below_alloc | apply pw_below_drewN | apply below_drew1 | refine below_set ?_ (Q.IsS67.ge HI103.out) | refine below_set ?_ GE101.out | refine below_set ?_ GE102.out) | exact HB.out))) : w.heap.size ≤ gb207)); have n7_ := Aside0.mk ((by rw [hg]; exact Nat.ne_of_lt (blk_lt (g := gb101) (o := .cells #[.int .i16 0, .int .i8 0, .int .i8 0, .int .i8 0, .int .i8 0, .int .i8 0, .int .i16 0] 30 (0, 0)) (by (with_reducible repeat (first | refine blk_drewN ?_ _ | refine blk_drew ?_ | refine blk_alloc ?_ _)); exact BK101.out)) : gb101 ≠ gb207)); have n8_ := Aside0.mk ((by rw [hg]; exact Nat.ne_of_gt (blk_lt (g := gb101) (o := .cells #[.int .i16 0, .int .i8 0, .int .i8 0, .int .i8 0, .int .i8 0, .int .i8 0, .int .i16 0] 30 (0, 0)) (by (with_reducible repeat (first | refine blk_drewN ?_ _ | refine blk_drew ?_ | refine blk_alloc ?_ _)); exact BK101.out)) : gb207 ≠ gb101)); have n9_ := Aside0.mk ((by rw [hg]; exact Nat.ne_of_lt (blk_lt (g := gb102) (o := .cells #[.int .i64 0, .int .i64 0] 32 (0, 0)) (by (with_reducible repeat (first | refine blk_drewN ?_ _ | refine blk_drew ?_ | refine blk_alloc ?_ _)); exact BK102.out)) : gb102 ≠ gb207)); have n10_ := Aside0.mk ((by rw [hg]; exact Nat.ne_of_gt (blk_lt (g := gb102) (o := .cells #[.int .i64 0, .int .i64 0] 32 (0, 0)) (by (with_reducible repeat (first | refine blk_drewN ?_ _ | refine blk_drew ?_ | refine blk_alloc ?_ _)); exact BK102.out)) : gb207 ≠ gb102)); have n11_ := Aside0.mk ((by rw [hg]; exact Nat.ne_of_lt (Q.IsS67.lt (show Q.IsS67 w _ gb103 x104000_52 x104001_52 x104002_52 x104003_52 from by repeat (first | (with_reducible first | exact HI103.out | apply Q.IsS67.alloc | apply Q.IsS67.drewN | apply Q.IsS67.drew | apply Q.IsS67.set_0 | apply Q.IsS67.set_1 | apply Q.IsS67.set_2 | apply Q.IsS67.set_3 | refine Q.IsS67.far ?_ NB103_101.out _ | refine Q.IsS67.far ?_ NB103_102.out _) | exact HI103.out))) : gb103 ≠ gb207)); have n12_ := Aside0.mk ((by rw [hg]; exact Nat.ne_of_gt (Q.IsS67.lt (show Q.IsS67 w _ gb103 x104000_52 x104001_52 x104002_52 x104003_52 from by repeat (first | (with_reducible first | exact HI103.out | apply Q.IsS67.alloc | apply Q.IsS67.drewN | apply Q.IsS67.drew | apply Q.IsS67.set_0 | apply Q.IsS67.set_1 | apply Q.IsS67.set_2 | apply Q.IsS67.set_3 | refine Q.IsS67.far ?_ NB103_101.out _ | refine Q.IsS67.far ?_ NB103_102.out _) | exact HI103.out))) : gb207 ≠ gb103)); clear BK101; clear BK102; clear HI103; clear HB; have BK101 := n0_; have BK102 := n1_; have HI103 := n2_; have HB := n3_; have BK207 := n4_; have GW207 := n5_; have GE207 := n6_; have NB101_207 := n7_; have NB207_101 := n8_; have NB102_207 := n9_; have NB207_102 := n10_; have NB103_207 := n11_; have NB207_103 := n12_; clear n0_ n1_ n2_ n3_ n4_ n5_ n6_ n7_ n8_ n9_ n10_ n11_ n12_; clear hb hbox hg; have hnb84 := NB207_101.out; have hnc84 := NB101_207.out; have hnb85 := NB207_102.out; have hnc85 := NB102_207.out; have hnb86 := NB207_103.out; have hnc86 := NB103_207.out; have hcz87_0 : w83.cell? ⟨gb207, 0, none⟩ = some (.int .i16 0) := (blk_cell BK207.out 0).trans rfl; have hcz87_1 : w83.cell? ⟨gb207, 1, none⟩ = some (.int .i8 0) := (blk_cell BK207.out 1).trans rfl; have hcz87_2 : w83.cell? ⟨gb207, 2, none⟩ = some (.int .i8 0) := (blk_cell BK207.out 2).trans rfl; have hcz87_3 : w83.cell? ⟨gb207, 3, none⟩ = some (.int .i8 0) := (blk_cell BK207.out 3).trans rfl; have hcz87_4 : w83.cell? ⟨gb207, 4, none⟩ = some (.int .i8 0) := (blk_cell BK207.out 4).trans rfl; have hcz87_5 : w83.cell? ⟨gb207, 5, none⟩ = some (.int .i8 0) := (blk_cell BK207.out 5).trans rfl; have hcz87_6 : w83.cell? ⟨gb207, 6, none⟩ = some (.int .i16 0) := (blk_cell BK207.out 6).trans rfl; have hfz87_0 := blk_frozen BK207.out 0; have hfz87_1 := blk_frozen BK207.out 1; have hfz87_2 := blk_frozen BK207.out 2; have hfz87_3 := blk_frozen BK207.out 3; have hfz87_4 := blk_frozen BK207.out 4; have hfz87_5 := blk_frozen BK207.out 5; have hfz87_6 := blk_frozen BK207.out 6) | ((with_reducible refine gate_callee (f := 30) rfl ?_); refine goesL_ (some 151) rfl rfl Tryd.func30 (by kernel_rfl) rfl #[.agg #[.int .i16 (IntKind.i16.wrap (x10_29)), .int .i8 (IntKind.i8.wrap (wrap64 (t136 + 1))), .int .i8 (IntKind.i8.wrap (t126)), .int .i8 (IntKind.i8.wrap (t155)), .int .i8 (IntKind.i8.wrap (t165)), .int .i8 (IntKind.i8.wrap (x16_37)), .int .i16 (IntKind.i16.wrap (t186))]] rfl (by (try simp only [List.map_toArray, List.map_cons, List.map_nil]); first | done | rfl | (simp only [List.length_drop, List.length_take]; rfl)) ?_; (with_reducible refine (posthornref06_Check.calls (IntKind.i16.wrap (x10_29)) (IntKind.i8.wrap (wrap64 (t136 + 1))) (IntKind.i8.wrap (t126)) (IntKind.i8.wrap (t155)) (IntKind.i8.wrap (t165)) (IntKind.i8.wrap (x16_37)) (IntKind.i16.wrap (t186)) t208 _ A66.out).mono ?_); rintro e w88 ⟨rfl, hb⟩; refine ⟨_, rfl, ?_⟩; have n0_ := Aside0.mk (blk_below (g := gb101) (o := .cells #[.int .i16 0, .int .i8 0, .int .i8 0, .int .i8 0, .int .i8 0, .int .i8 0, .int .i16 0] 30 (0, 0)) (by (with_reducible repeat (first | refine blk_drewN ?_ _ | refine blk_drew ?_ | refine blk_alloc ?_ _)); refine blk_far ?_ NB101_207.out _; (with_reducible repeat (first | refine blk_drewN ?_ _ | refine blk_drew ?_ | refine blk_alloc ?_ _)); refine blk_far ?_ NB101_207.out _; (with_reducible repeat (first | refine blk_drewN ?_ _ | refine blk_drew ?_ | refine blk_alloc ?_ _)); refine blk_far ?_ NB101_207.out _; (with_reducible repeat (first | refine blk_drewN ?_ _ | refine blk_drew ?_ | refine blk_alloc ?_ _)); refine blk_far ?_ NB101_207.out _; (with_reducible repeat (first | refine blk_drewN ?_ _ | refine blk_drew ?_ | refine blk_alloc ?_ _)); refine blk_far ?_ NB101_207.out _; (with_reducible repeat (first | refine blk_drewN ?_ _ | refine blk_drew ?_ | refine blk_alloc ?_ _)); refine blk_far ?_ NB101_207.out _; (with_reducible repeat (first | refine blk_drewN ?_ _ | refine blk_drew ?_ | refine blk_alloc ?_ _)); refine blk_far ?_ NB101_207.out _; (with_reducible repeat (first | refine blk_drewN ?_ _ | refine blk_drew ?_ | refine blk_alloc ?_ _)); exact BK101.out) hb); have n1_ := Aside0.mk (blk_below (g := gb102) (o := .cells #[.int .i64 0, .int .i64 0] 32 (0, 0)) (by (with_reducible repeat (first | refine blk_drewN ?_ _ | refine blk_drew ?_ | refine blk_alloc ?_ _)); refine blk_far ?_ NB102_207.out _; (with_reducible repeat (first | refine blk_drewN ?_ _ | refine blk_drew ?_ | refine blk_alloc ?_ _)); refine blk_far ?_ NB102_207.out _; (with_reducible repeat (first | refine blk_drewN ?_ _ | refine blk_drew ?_ | refine blk_alloc ?_ _)); refine blk_far ?_ NB102_207.out _; (with_reducible repeat (first | refine blk_drewN ?_ _ | refine blk_drew ?_ | refine blk_alloc ?_ _)); refine blk_far ?_ NB102_207.out _; (with_reducible repeat (first | refine blk_drewN ?_ _ | refine blk_drew ?_ | refine blk_alloc ?_ _)); refine blk_far ?_ NB102_207.out _; (with_reducible repeat (first | refine blk_drewN ?_ _ | refine blk_drew ?_ | refine blk_alloc ?_ _)); refine blk_far ?_ NB102_207.out _; (with_reducible repeat (first | refine blk_drewN ?_ _ | refine blk_drew ?_ | refine blk_alloc ?_ _)); refine blk_far ?_ NB102_207.out _; (with_reducible repeat (first | refine blk_drewN ?_ _ | refine blk_drew ?_ | refine blk_alloc ?_ _)); exact BK102.out) hb); have n2_ := Aside0.mk (Q.IsS67.below (show Q.IsS67 w (((((((w83.setCell ⟨gb207, 0, none⟩ (.int .i16 (IntKind.i16.wrap (x10_29)))).setCell ⟨gb207, 1, none⟩ (.int .i8 (IntKind.i8.wrap (wrap64 (t136 + 1))))).setCell ⟨gb207, 2, none⟩ (.int .i8 (IntKind.i8.wrap (t126)))).setCell ⟨gb207, 3, none⟩ (.int .i8 (IntKind.i8.wrap (t155)))).setCell ⟨gb207, 4, none⟩ (.int .i8 (IntKind.i8.wrap (t165)))).setCell ⟨gb207, 5, none⟩ (.int .i8 (IntKind.i8.wrap (x16_37)))).setCell ⟨gb207, 6, none⟩ (.int .i16 (IntKind.i16.wrap (t186)))) gb103 x104000_52 x104001_52 x104002_52 x104003_52 from by repeat (first | (with_reducible first | exact HI103.out | apply Q.IsS67.alloc | apply Q.IsS67.drewN | apply Q.IsS67.drew | apply Q.IsS67.set_0 | apply Q.IsS67.set_1 | apply Q.IsS67.set_2 | apply Q.IsS67.set_3 | refine Q.IsS67.far ?_ NB103_101.out _ | refine Q.IsS67.far ?_ NB103_102.out _ | refine Q.IsS67.far ?_ NB103_207.out _) | exact HI103.out)) hb); have n3_ := Aside0.mk (blk_below (g := gb207) (o := .cells #[.int .i16 (IntKind.i16.wrap (x10_29)), .int .i8 (IntKind.i8.wrap (wrap64 (t136 + 1))), .int .i8 (IntKind.i8.wrap (t126)), .int .i8 (IntKind.i8.wrap (t155)), .int .i8 (IntKind.i8.wrap (t165)), .int .i8 (IntKind.i8.wrap (x16_37)), .int .i16 (IntKind.i16.wrap (t186))] 30 (0, 0)) (by (with_reducible repeat (first | refine blk_drewN ?_ _ | refine blk_drew ?_ | refine blk_alloc ?_ _)); refine blk_put (cs := #[.int .i16 (IntKind.i16.wrap (x10_29)), .int .i8 (IntKind.i8.wrap (wrap64 (t136 + 1))), .int .i8 (IntKind.i8.wrap (t126)), .int .i8 (IntKind.i8.wrap (t155)), .int .i8 (IntKind.i8.wrap (t165)), .int .i8 (IntKind.i8.wrap (x16_37)), .int .i16 0]) ?_ 6 _ rfl; (with_reducible repeat (first | refine blk_drewN ?_ _ | refine blk_drew ?_ | refine blk_alloc ?_ _)); refine blk_put (cs := #[.int .i16 (IntKind.i16.wrap (x10_29)), .int .i8 (IntKind.i8.wrap (wrap64 (t136 + 1))), .int .i8 (IntKind.i8.wrap (t126)), .int .i8 (IntKind.i8.wrap (t155)), .int .i8 (IntKind.i8.wrap (t165)), .int .i8 0, .int .i16 0]) ?_ 5 _ rfl; (with_reducible repeat (first | refine blk_drewN ?_ _ | refine blk_drew ?_ | refine blk_alloc ?_ _)); refine blk_put (cs := #[.int .i16 (IntKind.i16.wrap (x10_29)), .int .i8 (IntKind.i8.wrap (wrap64 (t136 + 1))), .int .i8 (IntKind.i8.wrap (t126)), .int .i8 (IntKind.i8.wrap (t155)), .int .i8 0, .int .i8 0, .int .i16 0]) ?_ 4 _ rfl; (with_reducible repeat (first | refine blk_drewN ?_ _ | refine blk_drew ?_ | refine blk_alloc ?_ _)); refine blk_put (cs := #[.int .i16 (IntKind.i16.wrap (x10_29)), .int .i8 (IntKind.i8.wrap (wrap64 (t136 + 1))), .int .i8 (IntKind.i8.wrap (t126)), .int .i8 0, .int .i8 0, .int .i8 0, .int .i16 0]) ?_ 3 _ rfl; (with_reducible repeat (first | refine blk_drewN ?_ _ | refine blk_drew ?_ | refine blk_alloc ?_ _)); refine blk_put (cs := #[.int .i16 (IntKind.i16.wrap (x10_29)), .int .i8 (IntKind.i8.wrap (wrap64 (t136 + 1))), .int .i8 0, .int .i8 0, .int .i8 0, .int .i8 0, .int .i16 0]) ?_ 2 _ rfl; (with_reducible repeat (first | refine blk_drewN ?_ _ | refine blk_drew ?_ | refine blk_alloc ?_ _)); refine blk_put (cs := #[.int .i16 (IntKind.i16.wrap (x10_29)), .int .i8 0, .int .i8 0, .int .i8 0, .int .i8 0, .int .i8 0, .int .i16 0]) ?_ 1 _ rfl; (with_reducible repeat (first | refine blk_drewN ?_ _ | refine blk_drew ?_ | refine blk_alloc ?_ _)); refine blk_put (cs := #[.int .i16 0, .int .i8 0, .int .i8 0, .int .i8 0, .int .i8 0, .int .i8 0, .int .i16 0]) ?_ 0 _ rfl; (with_reducible repeat (first | refine blk_drewN ?_ _ | refine blk_drew ?_ | refine blk_alloc ?_ _)); exact BK207.out) hb); have n4_ := Aside0.mk (below_step (by repeat (first | (with_reducible first | exact HB.out | apply below_alloc | apply pw_below_drewN | apply below_drew1 | refine below_set ?_ (Q.IsS67.ge HI103.out) | refine below_set ?_ GE101.out | refine below_set ?_ GE102.out | refine below_set ?_ GE207.out) | exact HB.out)) hb); clear BK101; clear BK102; clear HI103; clear BK207; clear HB; have BK101 := n0_; have BK102 := n1_; have HI103 := n2_; have BK207 := n3_; have HB := n4_; clear n0_ n1_ n2_ n3_ n4_; (try clear hb); (try clear hb2); (try clear hk); (try clear hi); have hcz89_0 : w88.cell? ⟨gb207, 0, none⟩ = some (.int .i16 (IntKind.i16.wrap (x10_29))) := (blk_cell BK207.out 0).trans rfl; have hcz89_1 : w88.cell? ⟨gb207, 1, none⟩ = some (.int .i8 (IntKind.i8.wrap (wrap64 (t136 + 1)))) := (blk_cell BK207.out 1).trans rfl; have hcz89_2 : w88.cell? ⟨gb207, 2, none⟩ = some (.int .i8 (IntKind.i8.wrap (t126))) := (blk_cell BK207.out 2).trans rfl; have hcz89_3 : w88.cell? ⟨gb207, 3, none⟩ = some (.int .i8 (IntKind.i8.wrap (t155))) := (blk_cell BK207.out 3).trans rfl; have hcz89_4 : w88.cell? ⟨gb207, 4, none⟩ = some (.int .i8 (IntKind.i8.wrap (t165))) := (blk_cell BK207.out 4).trans rfl; have hcz89_5 : w88.cell? ⟨gb207, 5, none⟩ = some (.int .i8 (IntKind.i8.wrap (x16_37))) := (blk_cell BK207.out 5).trans rfl; have hcz89_6 : w88.cell? ⟨gb207, 6, none⟩ = some (.int .i16 (IntKind.i16.wrap (t186))) := (blk_cell BK207.out 6).trans rfl; have hfz89_0 := blk_frozen BK207.out 0; have hfz89_1 := blk_frozen BK207.out 1; have hfz89_2 := blk_frozen BK207.out 2; have hfz89_3 := blk_frozen BK207.out 3; have hfz89_4 := blk_frozen BK207.out 4; have hfz89_5 := blk_frozen BK207.out 5; have hfz89_6 := blk_frozen BK207.out 6) | ((with_reducible refine gate_callee (f := 13) rfl ?_); refine goesL_ (some 165) rfl rfl Tryd.func13 (by kernel_rfl) rfl #[.int .i16 (IntKind.i16.wrap (x10_29)), .int .i8 (IntKind.i8.wrap (wrap64 (t136 + 1))), .int .i8 (IntKind.i8.wrap (t126))] rfl (by (try simp only [List.map_toArray, List.map_cons, List.map_nil]); first | done | rfl | (simp only [List.length_drop, List.length_take]; rfl)) ?_; (with_reducible refine (posthornref06_Days.calls (IntKind.i16.wrap (x10_29)) (IntKind.i8.wrap (wrap64 (t136 + 1))) (IntKind.i8.wrap (t126)) t209 t210 _ A80.out).mono ?_); rintro e w' ⟨rfl, ⟨nd, rfl⟩⟩; refine ⟨_, rfl, ?_⟩))
             (try simp only [Act.put, List.setIfInBounds_toArray, List.set_cons_zero, List.set_cons_succ])
             go_cut [176] (fun v176 wc => ∃ (kq : Nat) (x176_80 : Bool), v176 = .bool x176_80 ∧ Aside0 (posthornref06_Parse.j5 kq x104001_3 t183 t208 x176_80 (IntKind.i16.wrap (x10_29)) (IntKind.i8.wrap (wrap64 (t136 + 1))) (IntKind.i8.wrap (t126)) (IntKind.i8.wrap (t155)) (IntKind.i8.wrap (t165)) (IntKind.i8.wrap (x16_37)) (IntKind.i16.wrap (t186)) = some (r1, r2, r3, r4, r5, r6, r7, r8, r9)) ∧ Aside0 (kq ≤ kj52) ∧ Aside0 (wc.heap[gb101]? = some (.cells #[.int .i16 0, .int .i8 0, .int .i8 0, .int .i8 0, .int .i8 0, .int .i8 0, .int .i16 0] 30 (0, 0))) ∧ Aside0 (wc.heap[gb102]? = some (.cells #[.int .i64 0, .int .i64 0] 32 (0, 0))) ∧ Aside0 (wc.heap[gb207]? = some (.cells #[.int .i16 (IntKind.i16.wrap (x10_29)), .int .i8 (IntKind.i8.wrap (wrap64 (t136 + 1))), .int .i8 (IntKind.i8.wrap (t126)), .int .i8 (IntKind.i8.wrap (t155)), .int .i8 (IntKind.i8.wrap (t165)), .int .i8 (IntKind.i8.wrap (x16_37)), .int .i16 (IntKind.i16.wrap (t186))] 30 (0, 0))) ∧ Aside0 (Below w.heap.size w wc))
             case first =>
              as_aux_lemma =>
               have H := HC81.out
               clear HC81
               by_cases c90 : x5_3 ≥ 0
               ·rw [if_pos c90] at H
                have c90b0 : decide (0 ≤ x5_3) = true := decide_eq_true c90
                clear c90
                (first | rw [c90b0] | (simp only [i64_w, i32_w]; rw [c90b0]) | skip)
                replace H := Option.bind_eq_some_iff.mp H
                obtain ⟨t211, A910, H⟩ := H
                replace H : (posthornref06_Parse.j5 kj52 x104001_3 t183 t208 (x5_3 != (wrap64 (t211))) (IntKind.i16.wrap (x10_29)) (IntKind.i8.wrap (wrap64 (t136 + 1))) (IntKind.i8.wrap (t126)) (IntKind.i8.wrap (t155)) (IntKind.i8.wrap (t165)) (IntKind.i8.wrap (x16_37)) (IntKind.i16.wrap (t186))) = some (r1, r2, r3, r4, r5, r6, r7, r8, r9) := H
                have A91 := Aside0.mk A910
                clear A910
                have H' := Aside0.mk H
                clear H
                go_wp2_with (first | (go_at_call 21; (with_reducible refine (posthornref06_Weekday.calls t209 t211 _ A91.out).mono ?_); rintro e w' ⟨rfl, ⟨nd, rfl⟩⟩))
                go_meet
                case rel => exact ⟨_, ((x5_3 != (wrap64 (t211)))), (by first | rfl | (simp; done) | (simp [*]; done)), H', ⟨by have := HJ3.out; have := HJ21.out; have := HJ29.out; have := HJ37.out; have := HJ52.out; first | omega | exact Nat.le_refl _⟩, ⟨by (with_reducible repeat (first | refine blk_drewN ?_ _ | refine blk_drew ?_ | refine blk_alloc ?_ _)); exact BK101.out⟩, ⟨by (with_reducible repeat (first | refine blk_drewN ?_ _ | refine blk_drew ?_ | refine blk_alloc ?_ _)); exact BK102.out⟩, ⟨by (with_reducible repeat (first | refine blk_drewN ?_ _ | refine blk_drew ?_ | refine blk_alloc ?_ _)); exact BK207.out⟩, ⟨by repeat (first | (with_reducible first | exact HB.out | apply below_alloc | apply pw_below_drewN | apply below_drew1 | refine below_set ?_ (Q.IsS67.ge HI103.out) | refine below_set ?_ GE101.out | refine below_set ?_ GE102.out | refine below_set ?_ GE207.out) | exact HB.out)⟩⟩
               ·rw [if_neg c90] at H
                have c90b0 : decide (0 ≤ x5_3) = false := decide_eq_false c90
                clear c90
                (first | rw [c90b0] | (simp only [i64_w, i32_w]; rw [c90b0]) | skip)
                have H' := Aside0.mk H
                clear H
                go_wp2
                go_meet
                case rel => exact ⟨_, (false), (by first | rfl | (simp; done) | (simp [*]; done)), H', ⟨by have := HJ3.out; have := HJ21.out; have := HJ29.out; have := HJ37.out; have := HJ52.out; first | omega | exact Nat.le_refl _⟩, ⟨by (with_reducible repeat (first | refine blk_drewN ?_ _ | refine blk_drew ?_ | refine blk_alloc ?_ _)); exact BK101.out⟩, ⟨by (with_reducible repeat (first | refine blk_drewN ?_ _ | refine blk_drew ?_ | refine blk_alloc ?_ _)); exact BK102.out⟩, ⟨by (with_reducible repeat (first | refine blk_drewN ?_ _ | refine blk_drew ?_ | refine blk_alloc ?_ _)); exact BK207.out⟩, ⟨by repeat (first | (with_reducible first | exact HB.out | apply below_alloc | apply pw_below_drewN | apply below_drew1 | refine below_set ?_ (Q.IsS67.ge HI103.out) | refine below_set ?_ GE101.out | refine below_set ?_ GE102.out | refine below_set ?_ GE207.out) | exact HB.out)⟩⟩
             case rest =>
              clear HC81
              try clear c1
              try clear c2
              try clear p2
              try clear c3
              try clear c4
              try clear c6
              try clear p6
              try clear c7
              try clear c8
              try clear c9
              try clear c10
              try clear c13
              try clear c16
              try clear c29
              try clear c29b0
              try clear c29b1
              try clear c30
              try clear c31
              try clear c32
              try clear c32b0
              try clear c38
              try clear c39
              try clear c40
              try clear c41
              try clear c42
              try clear c43
              try clear c44
              try clear c45
              try clear c61
              try clear c61b0
              try clear p64
              try clear c65
              try clear c65b0
              try clear c65b1
              try clear c67
              try clear c67b0
              try clear c67b1
              try clear c70
              try clear c71
              try clear c72
              try clear c75
              try clear c76
              try clear c78
              try clear c84
              try clear c85
              try clear c86
              try clear c90
              try clear c90b0
              try clear hcz23_0
              try clear hcz23_1
              try clear hcz23_2
              try clear hcz23_3
              try clear hcz46_0
              try clear hcz46_1
              try clear hcz46_2
              try clear hcz46_3
              try clear hcz55_0
              try clear hcz55_1
              try clear hcz55_2
              try clear hcz55_3
              try clear hcz60_0
              try clear hcz60_1
              try clear hcz60_2
              try clear hcz60_3
              try clear hcz63_0
              try clear hcz63_1
              try clear hcz63_2
              try clear hcz63_3
              try clear hcz68_0
              try clear hcz68_1
              try clear hcz68_2
              try clear hcz68_3
              try clear hcz73_0
              try clear hcz73_1
              try clear hcz73_2
              try clear hcz73_3
              try clear hcz73_4
              try clear hcz73_5
              try clear hcz73_6
              try clear hcz77_0
              try clear hcz77_1
              try clear hcz77_2
              try clear hcz77_3
              try clear hcz77_4
              try clear hcz77_5
              try clear hcz77_6
              try clear hcz79_0
              try clear hcz79_1
              try clear hcz82_0
              try clear hcz82_1
              try clear hcz82_2
              try clear hcz82_3
              try clear hcz87_0
              try clear hcz87_1
              try clear hcz87_2
              try clear hcz87_3
              try clear hcz87_4
              try clear hcz87_5
              try clear hcz87_6
              try clear hcz89_0
              try clear hcz89_1
              try clear hcz89_2
              try clear hcz89_3
              try clear hcz89_4
              try clear hcz89_5
              try clear hcz89_6
              try clear hfz23_0
              try clear hfz23_1
              try clear hfz23_2
              try clear hfz23_3
              try clear hfz46_0
              try clear hfz46_1
              try clear hfz46_2
              try clear hfz46_3
              try clear hfz55_0
              try clear hfz55_1
              try clear hfz55_2
              try clear hfz55_3
              try clear hfz60_0
              try clear hfz60_1
              try clear hfz60_2
              try clear hfz60_3
              try clear hfz63_0
              try clear hfz63_1
              try clear hfz63_2
              try clear hfz63_3
              try clear hfz68_0
              try clear hfz68_1
              try clear hfz68_2
              try clear hfz68_3
              try clear hfz73_0
              try clear hfz73_1
              try clear hfz73_2
              try clear hfz73_3
              try clear hfz73_4
              try clear hfz73_5
              try clear hfz73_6
              try clear hfz77_0
              try clear hfz77_1
              try clear hfz77_2
              try clear hfz77_3
              try clear hfz77_4
              try clear hfz77_5
              try clear hfz77_6
              try clear hfz79_0
              try clear hfz79_1
              try clear hfz82_0
              try clear hfz82_1
              try clear hfz82_2
              try clear hfz82_3
              try clear hfz87_0
              try clear hfz87_1
              try clear hfz87_2
              try clear hfz87_3
              try clear hfz87_4
              try clear hfz87_5
              try clear hfz87_6
              try clear hfz89_0
              try clear hfz89_1
              try clear hfz89_2
              try clear hfz89_3
              try clear hfz89_4
              try clear hfz89_5
              try clear hfz89_6
              try clear p2
              try clear p6
              try clear p64
              obtain ⟨kq, x176_80, rfl, HA, HJ80, BK101, BK102, BK207, HB⟩ := hcut
              cases kq with
              | zero => exact absurd HA.out (by simp [posthornref06_Parse.j5])
              | succ kj80 =>
               have H := HA.out
               clear HA
               simp only [posthornref06_Parse.j5] at H
               by_cases c92 : x176_80 = true
               ·subst c92
                have H1 : (some (0, 0, 0, 0, 0, 0, 0, 60, x104001_3)) = some (r1, r2, r3, r4, r5, r6, r7, r8, r9) := by rw [if_pos rfl] at H; exact H
                clear H
                have H := H1
                clear H1
                simp only [Option.some.injEq, Prod.mk.injEq] at H
                obtain ⟨rfl, rfl, rfl, rfl, rfl, rfl, rfl, rfl, rfl⟩ := H
                have hnb93 := NB101_102.out
                have hnc93 := NB102_101.out
                have hnb94 := NB101_207.out
                have hnc94 := NB207_101.out
                have hcz95_0 : wc.cell? ⟨gb101, 0, none⟩ = some (.int .i16 0) := (blk_cell BK101.out 0).trans rfl
                have hcz95_1 : wc.cell? ⟨gb101, 1, none⟩ = some (.int .i8 0) := (blk_cell BK101.out 1).trans rfl
                have hcz95_2 : wc.cell? ⟨gb101, 2, none⟩ = some (.int .i8 0) := (blk_cell BK101.out 2).trans rfl
                have hcz95_3 : wc.cell? ⟨gb101, 3, none⟩ = some (.int .i8 0) := (blk_cell BK101.out 3).trans rfl
                have hcz95_4 : wc.cell? ⟨gb101, 4, none⟩ = some (.int .i8 0) := (blk_cell BK101.out 4).trans rfl
                have hcz95_5 : wc.cell? ⟨gb101, 5, none⟩ = some (.int .i8 0) := (blk_cell BK101.out 5).trans rfl
                have hcz95_6 : wc.cell? ⟨gb101, 6, none⟩ = some (.int .i16 0) := (blk_cell BK101.out 6).trans rfl
                have hfz95_0 := blk_frozen BK101.out 0
                have hfz95_1 := blk_frozen BK101.out 1
                have hfz95_2 := blk_frozen BK101.out 2
                have hfz95_3 := blk_frozen BK101.out 3
                have hfz95_4 := blk_frozen BK101.out 4
                have hfz95_5 := blk_frozen BK101.out 5
                have hfz95_6 := blk_frozen BK101.out 6
                have hnb96 := NB102_207.out
                have hnc96 := NB207_102.out
                have hcz97_0 : wc.cell? ⟨gb102, 0, none⟩ = some (.int .i64 0) := (blk_cell BK102.out 0).trans rfl
                have hcz97_1 : wc.cell? ⟨gb102, 1, none⟩ = some (.int .i64 0) := (blk_cell BK102.out 1).trans rfl
                have hfz97_0 := blk_frozen BK102.out 0
                have hfz97_1 := blk_frozen BK102.out 1
                go_wp2
                refine bodyPost_ret (results_cc rfl _ _ gb101 gb102 30 32 #[.int .i16 0, .int .i8 0, .int .i8 0, .int .i8 0, .int .i8 0, .int .i8 0, .int .i16 0] #[.int .i64 60, .int .i64 x104001_3] (0, 0) (0, 0) _ _ rfl (by (with_reducible repeat (first | refine blk_drewN ?_ _ | refine blk_drew ?_ | refine blk_alloc ?_ _)); refine blk_far ?_ NB101_102.out _; (with_reducible repeat (first | refine blk_drewN ?_ _ | refine blk_drew ?_ | refine blk_alloc ?_ _)); refine blk_far ?_ NB101_102.out _; (with_reducible repeat (first | refine blk_drewN ?_ _ | refine blk_drew ?_ | refine blk_alloc ?_ _)); refine blk_put (cs := #[.int .i16 0, .int .i8 0, .int .i8 0, .int .i8 0, .int .i8 0, .int .i8 0, .int .i16 0]) ?_ 6 _ rfl; (with_reducible repeat (first | refine blk_drewN ?_ _ | refine blk_drew ?_ | refine blk_alloc ?_ _)); refine blk_put (cs := #[.int .i16 0, .int .i8 0, .int .i8 0, .int .i8 0, .int .i8 0, .int .i8 0, .int .i16 0]) ?_ 5 _ rfl; (with_reducible repeat (first | refine blk_drewN ?_ _ | refine blk_drew ?_ | refine blk_alloc ?_ _)); refine blk_put (cs := #[.int .i16 0, .int .i8 0, .int .i8 0, .int .i8 0, .int .i8 0, .int .i8 0, .int .i16 0]) ?_ 4 _ rfl; (with_reducible repeat (first | refine blk_drewN ?_ _ | refine blk_drew ?_ | refine blk_alloc ?_ _)); refine blk_put (cs := #[.int .i16 0, .int .i8 0, .int .i8 0, .int .i8 0, .int .i8 0, .int .i8 0, .int .i16 0]) ?_ 3 _ rfl; (with_reducible repeat (first | refine blk_drewN ?_ _ | refine blk_drew ?_ | refine blk_alloc ?_ _)); refine blk_put (cs := #[.int .i16 0, .int .i8 0, .int .i8 0, .int .i8 0, .int .i8 0, .int .i8 0, .int .i16 0]) ?_ 2 _ rfl; (with_reducible repeat (first | refine blk_drewN ?_ _ | refine blk_drew ?_ | refine blk_alloc ?_ _)); refine blk_put (cs := #[.int .i16 0, .int .i8 0, .int .i8 0, .int .i8 0, .int .i8 0, .int .i8 0, .int .i16 0]) ?_ 1 _ rfl; (with_reducible repeat (first | refine blk_drewN ?_ _ | refine blk_drew ?_ | refine blk_alloc ?_ _)); refine blk_put (cs := #[.int .i16 0, .int .i8 0, .int .i8 0, .int .i8 0, .int .i8 0, .int .i8 0, .int .i16 0]) ?_ 0 _ rfl; (with_reducible repeat (first | refine blk_drewN ?_ _ | refine blk_drew ?_ | refine blk_alloc ?_ _)); exact BK101.out) Tryd.underlying30 rfl (by kernel_rfl) rfl (by (with_reducible repeat (first | refine blk_drewN ?_ _ | refine blk_drew ?_ | refine blk_alloc ?_ _)); refine blk_put (cs := #[.int .i64 60, .int .i64 0]) ?_ 1 _ rfl; (with_reducible repeat (first | refine blk_drewN ?_ _ | refine blk_drew ?_ | refine blk_alloc ?_ _)); refine blk_put (cs := #[.int .i64 0, .int .i64 0]) ?_ 0 _ rfl; (with_reducible repeat (first | refine blk_drewN ?_ _ | refine blk_drew ?_ | refine blk_alloc ?_ _)); refine blk_far ?_ NB102_101.out _; (with_reducible repeat (first | refine blk_drewN ?_ _ | refine blk_drew ?_ | refine blk_alloc ?_ _)); refine blk_far ?_ NB102_101.out _; (with_reducible repeat (first | refine blk_drewN ?_ _ | refine blk_drew ?_ | refine blk_alloc ?_ _)); refine blk_far ?_ NB102_101.out _; (with_reducible repeat (first | refine blk_drewN ?_ _ | refine blk_drew ?_ | refine blk_alloc ?_ _)); refine blk_far ?_ NB102_101.out _; (with_reducible repeat (first | refine blk_drewN ?_ _ | refine blk_drew ?_ | refine blk_alloc ?_ _)); refine blk_far ?_ NB102_101.out _; (with_reducible repeat (first | refine blk_drewN ?_ _ | refine blk_drew ?_ | refine blk_alloc ?_ _)); refine blk_far ?_ NB102_101.out _; (with_reducible repeat (first | refine blk_drewN ?_ _ | refine blk_drew ?_ | refine blk_alloc ?_ _)); refine blk_far ?_ NB102_101.out _; (with_reducible repeat (first | refine blk_drewN ?_ _ | refine blk_drew ?_ | refine blk_alloc ?_ _)); exact BK102.out) Tryd.underlying32 rfl (by kernel_rfl)) rfl ?_
                exact ⟨by first | rfl | (simp [errW_none, errW_some] <;> rfl) | (simp [*, errW_none, errW_some] <;> rfl), by repeat (first | (with_reducible first | exact HB.out | apply below_alloc | apply pw_below_drewN | apply below_drew1 | refine below_set ?_ GE101.out | refine below_set ?_ GE102.out | refine below_set ?_ GE207.out) | exact HB.out)⟩
               ·replace c92 := Bool.eq_false_iff.mpr c92
                subst c92
                have H1 : (if t208 = 0 then (some ((IntKind.i16.wrap (x10_29)), (IntKind.i8.wrap (wrap64 (t136 + 1))), (IntKind.i8.wrap (t126)), (IntKind.i8.wrap (t155)), (IntKind.i8.wrap (t165)), (IntKind.i8.wrap (x16_37)), (IntKind.i16.wrap (t186)), 0, 0)) else (some (0, 0, 0, 0, 0, 0, 0, t208, t183))) = some (r1, r2, r3, r4, r5, r6, r7, r8, r9) := by rw [if_neg (show ¬ (false = true) by decide)] at H; exact H
                clear H
                have H := H1
                clear H1
                by_cases c98 : t208 = 0
                ·rw [if_pos c98] at H
                 have c98b0 : (t208 == 0) = true := beq_iff_eq.mpr c98
                 have c98b1 : (t208 != 0) = false := bne_eq_false_iff_eq.mpr c98
                 clear c98
                 simp only [Option.some.injEq, Prod.mk.injEq] at H
                 obtain ⟨rfl, rfl, rfl, rfl, rfl, rfl, rfl, rfl, rfl⟩ := H
                 have hnb99 := NB207_101.out
                 have hnc99 := NB101_207.out
                 have hnb100 := NB207_102.out
                 have hnc100 := NB102_207.out
                 have hcz101_0 : wc.cell? ⟨gb207, 0, none⟩ = some (.int .i16 (IntKind.i16.wrap (x10_29))) := (blk_cell BK207.out 0).trans rfl
                 have hcz101_1 : wc.cell? ⟨gb207, 1, none⟩ = some (.int .i8 (IntKind.i8.wrap (wrap64 (t136 + 1)))) := (blk_cell BK207.out 1).trans rfl
                 have hcz101_2 : wc.cell? ⟨gb207, 2, none⟩ = some (.int .i8 (IntKind.i8.wrap (t126))) := (blk_cell BK207.out 2).trans rfl
                 have hcz101_3 : wc.cell? ⟨gb207, 3, none⟩ = some (.int .i8 (IntKind.i8.wrap (t155))) := (blk_cell BK207.out 3).trans rfl
                 have hcz101_4 : wc.cell? ⟨gb207, 4, none⟩ = some (.int .i8 (IntKind.i8.wrap (t165))) := (blk_cell BK207.out 4).trans rfl
                 have hcz101_5 : wc.cell? ⟨gb207, 5, none⟩ = some (.int .i8 (IntKind.i8.wrap (x16_37))) := (blk_cell BK207.out 5).trans rfl
                 have hcz101_6 : wc.cell? ⟨gb207, 6, none⟩ = some (.int .i16 (IntKind.i16.wrap (t186))) := (blk_cell BK207.out 6).trans rfl
                 have hfz101_0 := blk_frozen BK207.out 0
                 have hfz101_1 := blk_frozen BK207.out 1
                 have hfz101_2 := blk_frozen BK207.out 2
                 have hfz101_3 := blk_frozen BK207.out 3
                 have hfz101_4 := blk_frozen BK207.out 4
                 have hfz101_5 := blk_frozen BK207.out 5
                 have hfz101_6 := blk_frozen BK207.out 6
                 have hnb102 := NB101_102.out
                 have hnc102 := NB102_101.out
                 have hcz103_0 : wc.cell? ⟨gb101, 0, none⟩ = some (.int .i16 0) := (blk_cell BK101.out 0).trans rfl
                 have hcz103_1 : wc.cell? ⟨gb101, 1, none⟩ = some (.int .i8 0) := (blk_cell BK101.out 1).trans rfl
                 have hcz103_2 : wc.cell? ⟨gb101, 2, none⟩ = some (.int .i8 0) := (blk_cell BK101.out 2).trans rfl
                 have hcz103_3 : wc.cell? ⟨gb101, 3, none⟩ = some (.int .i8 0) := (blk_cell BK101.out 3).trans rfl
                 have hcz103_4 : wc.cell? ⟨gb101, 4, none⟩ = some (.int .i8 0) := (blk_cell BK101.out 4).trans rfl
                 have hcz103_5 : wc.cell? ⟨gb101, 5, none⟩ = some (.int .i8 0) := (blk_cell BK101.out 5).trans rfl
                 have hcz103_6 : wc.cell? ⟨gb101, 6, none⟩ = some (.int .i16 0) := (blk_cell BK101.out 6).trans rfl
                 have hfz103_0 := blk_frozen BK101.out 0
                 have hfz103_1 := blk_frozen BK101.out 1
                 have hfz103_2 := blk_frozen BK101.out 2
                 have hfz103_3 := blk_frozen BK101.out 3
                 have hfz103_4 := blk_frozen BK101.out 4
                 have hfz103_5 := blk_frozen BK101.out 5
                 have hfz103_6 := blk_frozen BK101.out 6
                 have hcz104_0 : wc.cell? ⟨gb102, 0, none⟩ = some (.int .i64 0) := (blk_cell BK102.out 0).trans rfl
                 have hcz104_1 : wc.cell? ⟨gb102, 1, none⟩ = some (.int .i64 0) := (blk_cell BK102.out 1).trans rfl
                 have hfz104_0 := blk_frozen BK102.out 0
                 have hfz104_1 := blk_frozen BK102.out 1
                 go_wp2
                 refine bodyPost_ret (results_cc rfl _ _ gb101 gb102 30 32 #[.int .i16 (IntKind.i16.wrap (x10_29)), .int .i8 (IntKind.i8.wrap (wrap64 (t136 + 1))), .int .i8 (IntKind.i8.wrap (t126)), .int .i8 (IntKind.i8.wrap (t155)), .int .i8 (IntKind.i8.wrap (t165)), .int .i8 (IntKind.i8.wrap (x16_37)), .int .i16 (IntKind.i16.wrap (t186))] #[.int .i64 0, .int .i64 0] (0, 0) (0, 0) _ _ rfl (by (with_reducible repeat (first | refine blk_drewN ?_ _ | refine blk_drew ?_ | refine blk_alloc ?_ _)); refine blk_far ?_ NB101_102.out _; (with_reducible repeat (first | refine blk_drewN ?_ _ | refine blk_drew ?_ | refine blk_alloc ?_ _)); refine blk_far ?_ NB101_102.out _; (with_reducible repeat (first | refine blk_drewN ?_ _ | refine blk_drew ?_ | refine blk_alloc ?_ _)); refine blk_put (cs := #[.int .i16 (IntKind.i16.wrap (x10_29)), .int .i8 (IntKind.i8.wrap (wrap64 (t136 + 1))), .int .i8 (IntKind.i8.wrap (t126)), .int .i8 (IntKind.i8.wrap (t155)), .int .i8 (IntKind.i8.wrap (t165)), .int .i8 (IntKind.i8.wrap (x16_37)), .int .i16 0]) ?_ 6 _ rfl; (with_reducible repeat (first | refine blk_drewN ?_ _ | refine blk_drew ?_ | refine blk_alloc ?_ _)); refine blk_put (cs := #[.int .i16 (IntKind.i16.wrap (x10_29)), .int .i8 (IntKind.i8.wrap (wrap64 (t136 + 1))), .int .i8 (IntKind.i8.wrap (t126)), .int .i8 (IntKind.i8.wrap (t155)), .int .i8 (IntKind.i8.wrap (t165)), .int .i8 0, .int .i16 0]) ?_ 5 _ rfl; (with_reducible repeat (first | refine blk_drewN ?_ _ | refine blk_drew ?_ | refine blk_alloc ?_ _)); refine blk_put (cs := #[.int .i16 (IntKind.i16.wrap (x10_29)), .int .i8 (IntKind.i8.wrap (wrap64 (t136 + 1))), .int .i8 (IntKind.i8.wrap (t126)), .int .i8 (IntKind.i8.wrap (t155)), .int .i8 0, .int .i8 0, .int .i16 0]) ?_ 4 _ rfl; (with_reducible repeat (first | refine blk_drewN ?_ _ | refine blk_drew ?_ | refine blk_alloc ?_ _)); refine blk_put (cs := #[.int .i16 (IntKind.i16.wrap (x10_29)), .int .i8 (IntKind.i8.wrap (wrap64 (t136 + 1))), .int .i8 (IntKind.i8.wrap (t126)), .int .i8 0, .int .i8 0, .int .i8 0, .int .i16 0]) ?_ 3 _ rfl; (with_reducible repeat (first | refine blk_drewN ?_ _ | refine blk_drew ?_ | refine blk_alloc ?_ _)); refine blk_put (cs := #[.int .i16 (IntKind.i16.wrap (x10_29)), .int .i8 (IntKind.i8.wrap (wrap64 (t136 + 1))), .int .i8 0, .int .i8 0, .int .i8 0, .int .i8 0, .int .i16 0]) ?_ 2 _ rfl; (with_reducible repeat (first | refine blk_drewN ?_ _ | refine blk_drew ?_ | refine blk_alloc ?_ _)); refine blk_put (cs := #[.int .i16 (IntKind.i16.wrap (x10_29)), .int .i8 0, .int .i8 0, .int .i8 0, .int .i8 0, .int .i8 0, .int .i16 0]) ?_ 1 _ rfl; (with_reducible repeat (first | refine blk_drewN ?_ _ | refine blk_drew ?_ | refine blk_alloc ?_ _)); refine blk_put (cs := #[.int .i16 0, .int .i8 0, .int .i8 0, .int .i8 0, .int .i8 0, .int .i8 0, .int .i16 0]) ?_ 0 _ rfl; (with_reducible repeat (first | refine blk_drewN ?_ _ | refine blk_drew ?_ | refine blk_alloc ?_ _)); exact BK101.out) Tryd.underlying30 rfl (by kernel_rfl) rfl (by (with_reducible repeat (first | refine blk_drewN ?_ _ | refine blk_drew ?_ | refine blk_alloc ?_ _)); refine blk_put (cs := #[.int .i64 0, .int .i64 0]) ?_ 1 _ rfl; (with_reducible repeat (first | refine blk_drewN ?_ _ | refine blk_drew ?_ | refine blk_alloc ?_ _)); refine blk_put (cs := #[.int .i64 0, .int .i64 0]) ?_ 0 _ rfl; (with_reducible repeat (first | refine blk_drewN ?_ _ | refine blk_drew ?_ | refine blk_alloc ?_ _)); refine blk_far ?_ NB102_101.out _; (with_reducible repeat (first | refine blk_drewN ?_ _ | refine blk_drew ?_ | refine blk_alloc ?_ _)); refine blk_far ?_ NB102_101.out _; (with_reducible repeat (first | refine blk_drewN ?_ _ | refine blk_drew ?_ | refine blk_alloc ?_ _)); refine blk_far ?_ NB102_101.out _; (with_reducible repeat (first | refine blk_drewN ?_ _ | refine blk_drew ?_ | refine blk_alloc ?_ _)); refine blk_far ?_ NB102_101.out _; (with_reducible repeat (first | refine blk_drewN ?_ _ | refine blk_drew ?_ | refine blk_alloc ?_ _)); refine blk_far ?_ NB102_101.out _; (with_reducible repeat (first | refine blk_drewN ?_ _ | refine blk_drew ?_ | refine blk_alloc ?_ _)); refine blk_far ?_ NB102_101.out _; (with_reducible repeat (first | refine blk_drewN ?_ _ | refine blk_drew ?_ | refine blk_alloc ?_ _)); refine blk_far ?_ NB102_101.out _; (with_reducible repeat (first | refine blk_drewN ?_ _ | refine blk_drew ?_ | refine blk_alloc ?_ _)); exact BK102.out) Tryd.underlying32 rfl (by kernel_rfl)) rfl ?_
                 exact ⟨by first | rfl | (simp [errW_none, errW_some] <;> rfl) | (simp [*, errW_none, errW_some] <;> rfl), by repeat (first | (with_reducible first | exact HB.out | apply below_alloc | apply pw_below_drewN | apply below_drew1 | refine below_set ?_ GE101.out | refine below_set ?_ GE102.out | refine below_set ?_ GE207.out) | exact HB.out)⟩
                ·rw [if_neg c98] at H
                 have c98b0 : (t208 == 0) = false := beq_eq_false_iff_ne.mpr c98
                 have c98b1 : (t208 != 0) = true := bne_iff_ne.mpr c98
                 simp only [Option.some.injEq, Prod.mk.injEq] at H
                 obtain ⟨rfl, rfl, rfl, rfl, rfl, rfl, rfl, rfl, rfl⟩ := H
                 have hnb105 := NB101_102.out
                 have hnc105 := NB102_101.out
                 have hnb106 := NB101_207.out
                 have hnc106 := NB207_101.out
                 have hcz107_0 : wc.cell? ⟨gb101, 0, none⟩ = some (.int .i16 0) := (blk_cell BK101.out 0).trans rfl
                 have hcz107_1 : wc.cell? ⟨gb101, 1, none⟩ = some (.int .i8 0) := (blk_cell BK101.out 1).trans rfl
                 have hcz107_2 : wc.cell? ⟨gb101, 2, none⟩ = some (.int .i8 0) := (blk_cell BK101.out 2).trans rfl
                 have hcz107_3 : wc.cell? ⟨gb101, 3, none⟩ = some (.int .i8 0) := (blk_cell BK101.out 3).trans rfl
                 have hcz107_4 : wc.cell? ⟨gb101, 4, none⟩ = some (.int .i8 0) := (blk_cell BK101.out 4).trans rfl
                 have hcz107_5 : wc.cell? ⟨gb101, 5, none⟩ = some (.int .i8 0) := (blk_cell BK101.out 5).trans rfl
                 have hcz107_6 : wc.cell? ⟨gb101, 6, none⟩ = some (.int .i16 0) := (blk_cell BK101.out 6).trans rfl
                 have hfz107_0 := blk_frozen BK101.out 0
                 have hfz107_1 := blk_frozen BK101.out 1
                 have hfz107_2 := blk_frozen BK101.out 2
                 have hfz107_3 := blk_frozen BK101.out 3
                 have hfz107_4 := blk_frozen BK101.out 4
                 have hfz107_5 := blk_frozen BK101.out 5
                 have hfz107_6 := blk_frozen BK101.out 6
                 have hnb108 := NB102_207.out
                 have hnc108 := NB207_102.out
                 have hcz109_0 : wc.cell? ⟨gb102, 0, none⟩ = some (.int .i64 0) := (blk_cell BK102.out 0).trans rfl
                 have hcz109_1 : wc.cell? ⟨gb102, 1, none⟩ = some (.int .i64 0) := (blk_cell BK102.out 1).trans rfl
                 have hfz109_0 := blk_frozen BK102.out 0
                 have hfz109_1 := blk_frozen BK102.out 1
                 go_wp2
                 refine bodyPost_ret (results_cc rfl _ _ gb101 gb102 30 32 #[.int .i16 0, .int .i8 0, .int .i8 0, .int .i8 0, .int .i8 0, .int .i8 0, .int .i16 0] #[.int .i64 t208, .int .i64 t183] (0, 0) (0, 0) _ _ rfl (by (with_reducible repeat (first | refine blk_drewN ?_ _ | refine blk_drew ?_ | refine blk_alloc ?_ _)); refine blk_far ?_ NB101_102.out _; (with_reducible repeat (first | refine blk_drewN ?_ _ | refine blk_drew ?_ | refine blk_alloc ?_ _)); refine blk_far ?_ NB101_102.out _; (with_reducible repeat (first | refine blk_drewN ?_ _ | refine blk_drew ?_ | refine blk_alloc ?_ _)); refine blk_put (cs := #[.int .i16 0, .int .i8 0, .int .i8 0, .int .i8 0, .int .i8 0, .int .i8 0, .int .i16 0]) ?_ 6 _ rfl; (with_reducible repeat (first | refine blk_drewN ?_ _ | refine blk_drew ?_ | refine blk_alloc ?_ _)); refine blk_put (cs := #[.int .i16 0, .int .i8 0, .int .i8 0, .int .i8 0, .int .i8 0, .int .i8 0, .int .i16 0]) ?_ 5 _ rfl; (with_reducible repeat (first | refine blk_drewN ?_ _ | refine blk_drew ?_ | refine blk_alloc ?_ _)); refine blk_put (cs := #[.int .i16 0, .int .i8 0, .int .i8 0, .int .i8 0, .int .i8 0, .int .i8 0, .int .i16 0]) ?_ 4 _ rfl; (with_reducible repeat (first | refine blk_drewN ?_ _ | refine blk_drew ?_ | refine blk_alloc ?_ _)); refine blk_put (cs := #[.int .i16 0, .int .i8 0, .int .i8 0, .int .i8 0, .int .i8 0, .int .i8 0, .int .i16 0]) ?_ 3 _ rfl; (with_reducible repeat (first | refine blk_drewN ?_ _ | refine blk_drew ?_ | refine blk_alloc ?_ _)); refine blk_put (cs := #[.int .i16 0, .int .i8 0, .int .i8 0, .int .i8 0, .int .i8 0, .int .i8 0, .int .i16 0]) ?_ 2 _ rfl; (with_reducible repeat (first | refine blk_drewN ?_ _ | refine blk_drew ?_ | refine blk_alloc ?_ _)); refine blk_put (cs := #[.int .i16 0, .int .i8 0, .int .i8 0, .int .i8 0, .int .i8 0, .int .i8 0, .int .i16 0]) ?_ 1 _ rfl; (with_reducible repeat (first | refine blk_drewN ?_ _ | refine blk_drew ?_ | refine blk_alloc ?_ _)); refine blk_put (cs := #[.int .i16 0, .int .i8 0, .int .i8 0, .int .i8 0, .int .i8 0, .int .i8 0, .int .i16 0]) ?_ 0 _ rfl; (with_reducible repeat (first | refine blk_drewN ?_ _ | refine blk_drew ?_ | refine blk_alloc ?_ _)); exact BK101.out) Tryd.underlying30 rfl (by kernel_rfl) rfl (by (with_reducible repeat (first | refine blk_drewN ?_ _ | refine blk_drew ?_ | refine blk_alloc ?_ _)); refine blk_put (cs := #[.int .i64 t208, .int .i64 0]) ?_ 1 _ rfl; (with_reducible repeat (first | refine blk_drewN ?_ _ | refine blk_drew ?_ | refine blk_alloc ?_ _)); refine blk_put (cs := #[.int .i64 0, .int .i64 0]) ?_ 0 _ rfl; (with_reducible repeat (first | refine blk_drewN ?_ _ | refine blk_drew ?_ | refine blk_alloc ?_ _)); refine blk_far ?_ NB102_101.out _; (with_reducible repeat (first | refine blk_drewN ?_ _ | refine blk_drew ?_ | refine blk_alloc ?_ _)); refine blk_far ?_ NB102_101.out _; (with_reducible repeat (first | refine blk_drewN ?_ _ | refine blk_drew ?_ | refine blk_alloc ?_ _)); refine blk_far ?_ NB102_101.out _; (with_reducible repeat (first | refine blk_drewN ?_ _ | refine blk_drew ?_ | refine blk_alloc ?_ _)); refine blk_far ?_ NB102_101.out _; (with_reducible repeat (first | refine blk_drewN ?_ _ | refine blk_drew ?_ | refine blk_alloc ?_ _)); refine blk_far ?_ NB102_101.out _; (with_reducible repeat (first | refine blk_drewN ?_ _ | refine blk_drew ?_ | refine blk_alloc ?_ _)); refine blk_far ?_ NB102_101.out _; (with_reducible repeat (first | refine blk_drewN ?_ _ | refine blk_drew ?_ | refine blk_alloc ?_ _)); refine blk_far ?_ NB102_101.out _; (with_reducible repeat (first | refine blk_drewN ?_ _ | refine blk_drew ?_ | refine blk_alloc ?_ _)); exact BK102.out) Tryd.underlying32 rfl (by kernel_rfl)) rfl ?_
                 exact ⟨by first | rfl | (simp [errW_none, errW_some] <;> rfl) | (simp [*, errW_none, errW_some] <;> rfl), by repeat (first | (with_reducible first | exact HB.out | apply below_alloc | apply pw_below_drewN | apply below_drew1 | refine below_set ?_ GE101.out | refine below_set ?_ GE102.out | refine below_set ?_ GE207.out) | exact HB.out)⟩
           ·rw [if_neg c65] at H
            have c65b0 : (x104002_52 == 0) = false := beq_eq_false_iff_ne.mpr c65
            have c65b1 : (x104002_52 != 0) = true := bne_iff_ne.mpr c65
            simp only [Option.some.injEq, Prod.mk.injEq] at H
            obtain ⟨rfl, rfl, rfl, rfl, rfl, rfl, rfl, rfl, rfl⟩ := H
            obtain ⟨HGz110, hgz110⟩ := HI103.out
            have hcz110_0 := Q.cellS67_0 HGz110
            have hcz110_1 := Q.cellS67_1 HGz110
            have hcz110_2 := Q.cellS67_2 HGz110
            have hcz110_3 := Q.cellS67_3 HGz110
            have hfz110_0 := blk_frozen HGz110 0
            have hfz110_1 := blk_frozen HGz110 1
            have hfz110_2 := blk_frozen HGz110 2
            have hfz110_3 := blk_frozen HGz110 3
            clear HGz110 hgz110
            try go_wp2
            have n0_ := Aside0.mk (blk_drew BK101.out)
            have n1_ := Aside0.mk (blk_drew BK102.out)
            have n2_ := Aside0.mk (Q.IsS67.drew HI103.out)
            have n3_ := Aside0.mk (below_drew1 HB.out)
            clear BK101
            clear BK102
            clear HI103
            clear HB
            have BK101 := n0_
            have BK102 := n1_
            have HI103 := n2_
            have HB := n3_
            clear n0_ n1_ n2_ n3_
            refine start_ (n := 7) (S := Held4 gb103 x104000_52 x104001_52 x104002_52 x104003_52) (ds := []) #[false, false, false, false, false, false, false] (by kernel_rfl) rfl rfl ⟨(blk_cell (Aside0.mk HI103.out.1).out 0).trans rfl, (blk_cell (Aside0.mk HI103.out.1).out 1).trans rfl, (blk_cell (Aside0.mk HI103.out.1).out 2).trans rfl, (blk_cell (Aside0.mk HI103.out.1).out 3).trans rfl⟩ (fun hHeld => ?_)
            generalize wc.drew = w111 at BK101 BK102 HI103 HB hHeld ⊢
            refine pure_ (i := 0) (N := some 129) (v := ?_) (a' := ?_) #[true, false, false, false, false, false, false] rfl rfl (by kernel_rfl) (fun _ _ _ h => h) (Or.inl ⟨by rfl, ?_⟩) ?_ ?_
            rotate_left
            ·intro w'
             go_simp
             with_reducible rfl
            rotate_left
            ·simp only [Act.put, List.setIfInBounds_toArray, List.set_cons_zero, List.set_cons_succ, i64_w, i32_w]
             rfl
            refine pure_ (i := 1) (N := some 130) (v := ?_) (a' := ?_) #[true, true, false, false, false, false, false] rfl rfl (by kernel_rfl) (fun _ _ _ h => h) (Or.inl ⟨by rfl, ?_⟩) ?_ ?_
            rotate_left
            ·intro w'
             go_simp
             with_reducible rfl
            rotate_left
            ·simp only [Act.put, List.setIfInBounds_toArray, List.set_cons_zero, List.set_cons_succ, i64_w, i32_w]
             rfl
            refine pure_ (i := 2) (N := some 131) (v := ?_) (a' := ?_) #[true, true, true, false, false, false, false] rfl rfl (by kernel_rfl) (fun _ _ _ h => h) (Or.inl ⟨by rfl, ?_⟩) ?_ ?_
            rotate_left
            ·intro w'
             go_simp
             with_reducible rfl
            rotate_left
            ·simp only [Act.put, List.setIfInBounds_toArray, List.set_cons_zero, List.set_cons_succ, i64_w, i32_w]
             rfl
            refine pure_ (i := 3) (N := some 132) (v := ?_) (a' := ?_) #[true, true, true, true, false, false, false] rfl rfl (by kernel_rfl) (fun _ _ _ h => h) (Or.inl ⟨by rfl, ?_⟩) ?_ ?_
            rotate_left
            ·intro w'
             go_simp
             with_reducible rfl
            rotate_left
            ·simp only [Act.put, List.setIfInBounds_toArray, List.set_cons_zero, List.set_cons_succ, i64_w, i32_w]
             rfl
            refine take_ (i := 4) (N := some 133) (v := ?_) (a' := ?_) #[true, true, true, true, true, false, false] rfl rfl (by kernel_rfl) (fun _ _ _ h => h) (Or.inl ⟨by rfl, ?_⟩) hHeld ?_ ?_
            rotate_left
            ·rintro w' ⟨s0, s1, s2, s3⟩
             go_simp
             with_reducible rfl
            rotate_left
            ·simp only [Act.put, List.setIfInBounds_toArray, List.set_cons_zero, List.set_cons_succ, i64_w, i32_w]
             rfl
            refine one_ (i := 5) (N := none) #[true, true, true, true, true, true, false] rfl rfl (by kernel_rfl) (by decide) (fun K hK => ?_)
            have hs112 : w111.cell? ⟨gb101, 0, none⟩ = some (.int .i16 0) := (blk_cell BK101.out 0).trans rfl
            have hfs112 := blk_frozen BK101.out 0
            have hns112_1 := NB102_101.out
            have hms112_1 := NB101_102.out
            have hs113 : w111.cell? ⟨gb101, 1, none⟩ = some (.int .i8 0) := (blk_cell BK101.out 1).trans rfl
            have hfs113 := blk_frozen BK101.out 1
            have hns113_1 := NB102_101.out
            have hms113_1 := NB101_102.out
            have hs114 : w111.cell? ⟨gb101, 2, none⟩ = some (.int .i8 0) := (blk_cell BK101.out 2).trans rfl
            have hfs114 := blk_frozen BK101.out 2
            have hns114_1 := NB102_101.out
            have hms114_1 := NB101_102.out
            have hs115 : w111.cell? ⟨gb101, 3, none⟩ = some (.int .i8 0) := (blk_cell BK101.out 3).trans rfl
            have hfs115 := blk_frozen BK101.out 3
            have hns115_1 := NB102_101.out
            have hms115_1 := NB101_102.out
            have hs116 : w111.cell? ⟨gb101, 4, none⟩ = some (.int .i8 0) := (blk_cell BK101.out 4).trans rfl
            have hfs116 := blk_frozen BK101.out 4
            have hns116_1 := NB102_101.out
            have hms116_1 := NB101_102.out
            have hs117 : w111.cell? ⟨gb101, 5, none⟩ = some (.int .i8 0) := (blk_cell BK101.out 5).trans rfl
            have hfs117 := blk_frozen BK101.out 5
            have hns117_1 := NB102_101.out
            have hms117_1 := NB101_102.out
            have hs118 : w111.cell? ⟨gb101, 6, none⟩ = some (.int .i16 0) := (blk_cell BK101.out 6).trans rfl
            have hfs118 := blk_frozen BK101.out 6
            have hns118_1 := NB102_101.out
            have hms118_1 := NB101_102.out
            refine skip_ (w1 := ?_) (by rfl) rfl ?_ ?_
            rotate_left
            ·go_simp
             rfl
            refine hK.out _ _ (Held4.far NB103_101.out (Held4.far NB103_101.out (Held4.far NB103_101.out (Held4.far NB103_101.out (Held4.far NB103_101.out (Held4.far NB103_101.out (Held4.far NB103_101.out hHeld))))))) (fun hHeld => ?_)
            clear hK K
            obtain ⟨w112, HW1, HW2, HB2, e7⟩ := seven BK101.out BK102.out HB.out GE101.out NB102_101.out
            rw [e7] at hHeld
            rw [e7]
            clear BK101 BK102 HB e7
            have BK101 := Aside0.mk HW1
            have BK102 := Aside0.mk HW2
            have HB := Aside0.mk HB2
            clear HW1 HW2 HB2 hs112 hs113 hs114 hs115 hs116 hs117 hs118 hfs112 hfs113 hfs114 hfs115 hfs116 hfs117 hfs118
            refine one_ (i := 6) (N := none) #[true, true, true, true, true, true, true] rfl rfl (by kernel_rfl) (by decide) (fun K hK => ?_)
            have hs119 : w112.cell? ⟨gb102, 0, none⟩ = some (.int .i64 0) := (blk_cell BK102.out 0).trans rfl
            have hfs119 := blk_frozen BK102.out 0
            have hns119_0 := NB101_102.out
            have hms119_0 := NB102_101.out
            have hs120 : w112.cell? ⟨gb102, 1, none⟩ = some (.int .i64 0) := (blk_cell BK102.out 1).trans rfl
            have hfs120 := blk_frozen BK102.out 1
            have hns120_0 := NB101_102.out
            have hms120_0 := NB102_101.out
            refine skip_ (w1 := ?_) (by rfl) rfl ?_ ?_
            rotate_left
            ·go_simp
             rfl
            refine hK.out _ _ (Held4.far NB103_102.out (Held4.far NB103_102.out hHeld)) (fun hHeld => ?_)
            clear hK K
            refine done_ (by kernel_rfl) ?_
            try go_wp2
            refine bodyPost_ret (results_cc rfl _ _ gb101 gb102 30 32 #[.int .i16 0, .int .i8 0, .int .i8 0, .int .i8 0, .int .i8 0, .int .i8 0, .int .i16 0] #[.int .i64 x104002_52, .int .i64 x104003_52] (0, 0) (0, 0) _ _ rfl (by (with_reducible repeat (first | refine blk_drewN ?_ _ | refine blk_drew ?_ | refine blk_alloc ?_ _)); refine blk_far ?_ NB101_102.out _; (with_reducible repeat (first | refine blk_drewN ?_ _ | refine blk_drew ?_ | refine blk_alloc ?_ _)); refine blk_far ?_ NB101_102.out _; (with_reducible repeat (first | refine blk_drewN ?_ _ | refine blk_drew ?_ | refine blk_alloc ?_ _)); exact BK101.out) Tryd.underlying30 rfl (by kernel_rfl) rfl (by (with_reducible repeat (first | refine blk_drewN ?_ _ | refine blk_drew ?_ | refine blk_alloc ?_ _)); refine blk_put (cs := #[.int .i64 x104002_52, .int .i64 0]) ?_ 1 _ rfl; (with_reducible repeat (first | refine blk_drewN ?_ _ | refine blk_drew ?_ | refine blk_alloc ?_ _)); refine blk_put (cs := #[.int .i64 0, .int .i64 0]) ?_ 0 _ rfl; (with_reducible repeat (first | refine blk_drewN ?_ _ | refine blk_drew ?_ | refine blk_alloc ?_ _)); (with_reducible repeat (first | refine blk_drewN ?_ _ | refine blk_drew ?_ | refine blk_alloc ?_ _)); (with_reducible repeat (first | refine blk_drewN ?_ _ | refine blk_drew ?_ | refine blk_alloc ?_ _)); (with_reducible repeat (first | refine blk_drewN ?_ _ | refine blk_drew ?_ | refine blk_alloc ?_ _)); (with_reducible repeat (first | refine blk_drewN ?_ _ | refine blk_drew ?_ | refine blk_alloc ?_ _)); (with_reducible repeat (first | refine blk_drewN ?_ _ | refine blk_drew ?_ | refine blk_alloc ?_ _)); (with_reducible repeat (first | refine blk_drewN ?_ _ | refine blk_drew ?_ | refine blk_alloc ?_ _)); (with_reducible repeat (first | refine blk_drewN ?_ _ | refine blk_drew ?_ | refine blk_alloc ?_ _)); exact BK102.out) Tryd.underlying32 rfl (by kernel_rfl)) rfl ?_
            exact ⟨by first | rfl | (simp [errW_none, errW_some] <;> rfl) | (simp [*, errW_none, errW_some] <;> rfl), by repeat (first | (with_reducible first | exact HB.out | apply below_alloc | apply pw_below_drewN | apply below_drew1 | refine below_set ?_ (Q.IsS67.ge HI103.out) | refine below_set ?_ GE101.out | refine below_set ?_ GE102.out) | exact HB.out)⟩

end Go.Proofs.YtnmhkmkaklhapaaDoor.S
