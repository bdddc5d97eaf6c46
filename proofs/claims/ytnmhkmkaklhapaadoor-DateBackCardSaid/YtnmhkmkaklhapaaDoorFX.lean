/-  -/
import Derived.Test.YtnmhkmkaklhapaaDoorProg
import Derived.Below
import Derived.Deep.Draws
import Derived.Deep.AppendLies
import Derived.Maps.AppendAt
import Derived.OwnWalk
import Derived.Laws.BytesArg
import Derived.Laws.MakeOwn
import Derived.Laws.OwnMore
import Derived.Deep.OwnRows
import Derived.Tactics
import Derived.Lib.ConvBytes
import Derived.Laws.Slices
import Derived.WalkKit
import Derived.KernelRfl
import Derived.RowKit3
import Derived.Deep.LoopGhost
import Derived.Deep.QuietTactic
import Derived.BigQuiet
import Derived.WideLaws
import Derived.Deep.DeepCutAuto
import Derived.Deep.CutBlock
import Derived.Deep.RegionHeld3
import Derived.Laws.Rows
import Derived.Lib.AppendStr
import Derived.ArgAppend
import Derived.Laws.IdiomCopy
import Derived.OrdersHeld
import Derived.Laws.BitsLemmas
import Derived.RowKit
import Derived.Test.YtnmhkmkaklhapaaDoorMan
import Derived.Test.YtnmhkmkaklhapaaDoorWWords
import Derived.Test.YtnmhkmkaklhapaaDoorWLast
import Derived.Test.YtnmhkmkaklhapaaDoorWTab
import Derived.Test.YtnmhkmkaklhapaaDoorWFour
import Derived.Test.YtnmhkmkaklhapaaDoorWQPut
import Derived.Test.YtnmhkmkaklhapaaDoorWApart
import Derived.Test.YtnmhkmkaklhapaaDoorWArr
import Derived.Test.YtnmhkmkaklhapaaDoorWZeros
import Derived.Test.YtnmhkmkaklhapaaDoorWFoot
import Derived.Test.YtnmhkmkaklhapaaDoorWKept
import Derived.Test.YtnmhkmkaklhapaaDoorWShare
import Derived.Test.YtnmhkmkaklhapaaDoorWN
import Derived.Test.YtnmhkmkaklhapaaDoorWFootNe
import Derived.Test.YtnmhkmkaklhapaaDoorWAt
import Derived.Test.YtnmhkmkaklhapaaDoorWEqStruct
import Derived.Test.YtnmhkmkaklhapaaDoorWRepsOne
import Derived.Test.YtnmhkmkaklhapaaDoorWInv
import Derived.Test.YtnmhkmkaklhapaaDoorWInvWords
import Derived.Test.YtnmhkmkaklhapaaDoorWGuard
import Derived.Test.YtnmhkmkaklhapaaDoorWNEv
import Derived.Test.YtnmhkmkaklhapaaDoorWMore
-- Printed by wip/tools/gprint.py (this session's program) out of the translation. Not trusted: Lean checks it.
namespace Go.Proofs.YtnmhkmkaklhapaaDoor.F
open Go.RowKit Go.Proofs.YtnmhkmkaklhapaaDoor.Glob Go.Proofs.YtnmhkmkaklhapaaDoor.M Go.Proofs.YtnmhkmkaklhapaaDoor.MN Go.Proofs.YtnmhkmkaklhapaaDoor.T Go.Proofs.YtnmhkmkaklhapaaDoorW.PrintWords Go.Proofs.YtnmhkmkaklhapaaDoorW.PrintLast Go.Proofs.YtnmhkmkaklhapaaDoorW.PrintMore
attribute [local go_sem] max2_int min2_int max_two min_two max_three min_three max_four min_four   -- for this text's walks alone
set_option linter.unusedVariables false
set_option linter.unusedSimpArgs false



def errW : Option Int → Value
  | none => .nilIface
  | some c => .iface 0 (.int .i64 c)
theorem errW_none : errW none = .nilIface := rfl
theorem errW_some (c : Int) : errW (some c) = .iface 0 (.int .i64 c) := rfl

-- the values' own types

end Go.Proofs.YtnmhkmkaklhapaaDoor.F
-- Printed by wip/tools/gprint.py (this session's program) out of the translation. Not trusted: Lean checks it.
namespace Go.Proofs.YtnmhkmkaklhapaaDoor.F
open Go.RowKit Go.Proofs.YtnmhkmkaklhapaaDoor.Glob Go.Proofs.YtnmhkmkaklhapaaDoor.M Go.Proofs.YtnmhkmkaklhapaaDoor.MN Go.Proofs.YtnmhkmkaklhapaaDoor.T Go.Proofs.YtnmhkmkaklhapaaDoorW.PrintWords Go.Proofs.YtnmhkmkaklhapaaDoorW.PrintLast Go.Proofs.YtnmhkmkaklhapaaDoorW.PrintMore
attribute [local go_sem] max2_int min2_int max_two min_two max_three min_three max_four min_four   -- for this text's walks alone
set_option linter.unusedVariables false
set_option linter.unusedSimpArgs false

theorem eqA30 (d : Nat) (w : World) (x0 y0 : Int) (x1 y1 : Int) (x2 y2 : Int) (x3 y3 : Int) (x4 y4 : Int) (x5 y5 : Int) (x6 y6 : Int) :
    (Op.equalIn (d + 2) 30 (.agg #[.int .i16 x0, .int .i8 x1, .int .i8 x2, .int .i8 x3, .int .i8 x4, .int .i8 x5, .int .i16 x6]) (.agg #[.int .i16 y0, .int .i8 y1, .int .i8 y2, .int .i8 y3, .int .i8 y4, .int .i8 y5, .int .i16 y6])).run Tryd.prog w = .ok (x0 == y0 && (x1 == y1 && (x2 == y2 && (x3 == y3 && (x4 == y4 && (x5 == y5 && (x6 == y6))))))) w := by
  refine eqA_of Tryd.underlying30 (by kernel_rfl) ?_
  refine eqf_cons (by rfl) (by go_simp; rfl) (by go_simp; rfl) (by go_simp) ?_
  refine eqf_cons (by rfl) (by go_simp; rfl) (by go_simp; rfl) (by go_simp) ?_
  refine eqf_cons (by rfl) (by go_simp; rfl) (by go_simp; rfl) (by go_simp) ?_
  refine eqf_cons (by rfl) (by go_simp; rfl) (by go_simp; rfl) (by go_simp) ?_
  refine eqf_cons (by rfl) (by go_simp; rfl) (by go_simp; rfl) (by go_simp) ?_
  refine eqf_cons (by rfl) (by go_simp; rfl) (by go_simp; rfl) (by go_simp) ?_
  exact eqf_last (by rfl) (by go_simp; rfl) (by go_simp; rfl) (by go_simp)
end Go.Proofs.YtnmhkmkaklhapaaDoor.F
-- Printed by wip/tools/gprint.py (this session's program) out of the translation. Not trusted: Lean checks it.
namespace Go.Proofs.YtnmhkmkaklhapaaDoor.F
open Go.RowKit Go.Proofs.YtnmhkmkaklhapaaDoor.Glob Go.Proofs.YtnmhkmkaklhapaaDoor.M Go.Proofs.YtnmhkmkaklhapaaDoor.MN Go.Proofs.YtnmhkmkaklhapaaDoor.T Go.Proofs.YtnmhkmkaklhapaaDoorW.PrintWords Go.Proofs.YtnmhkmkaklhapaaDoorW.PrintLast Go.Proofs.YtnmhkmkaklhapaaDoorW.PrintMore
attribute [local go_sem] max2_int min2_int max_two min_two max_three min_three max_four min_four   -- for this text's walks alone
set_option linter.unusedVariables false
set_option linter.unusedSimpArgs false

-- NOT PRINTED: function 37 (date_length)

-- NOT PRINTED: function 59 (date_text_take)

-- NOT PRINTED: function 46 (date_text_blanks)

-- NOT PRINTED: function 60 (octet_Is)

-- NOT PRINTED: function 47 (octet_Span_string)

-- NOT PRINTED: function 66 (octet_upper)

-- NOT PRINTED: function 61 (octet_Same)

-- NOT PRINTED: function 48 (date_text_word)

-- NOT PRINTED: function 49 (date_text_begins)

-- NOT PRINTED: function 62 (date_text_digits)

-- NOT PRINTED: function 63 (date_text_clock)

-- NOT PRINTED: function 50 (date_text_date)

-- NOT PRINTED: function 64 (octet_Upper)

-- NOT PRINTED: function 51 (date_text_zone)

-- NOT PRINTED: function 52 (date_text_rest)

-- NOT PRINTED: function 65 (octet_Decimal)

-- NOT PRINTED: function 55 (date_padded)

-- NOT PRINTED: function 28 (date_Print)

/-! ### date_Of: function 32 -/
mutual
def date_Of.j0 : Nat → Int → Int → Bool → Option (Int × Int × Int × Int × Int × Int × Int × Int)
  | 0, _, _, _ => none
  | k + 1, x0, x1, x18 => if x18 = true then (some (0, 0, 0, 0, 0, 0, 0, 61)) else (if x0 < (wrap64 ((-62135596800) - (wrap64 ((wrap64 (x1)) * 60)))) then (date_Of.j1 k x0 x1 (wrap64 ((wrap64 (x1)) * 60)) true) else (date_Of.j1 k x0 x1 (wrap64 ((wrap64 (x1)) * 60)) (decide (x0 > (wrap64 (253402300799 - (wrap64 ((wrap64 (x1)) * 60))))))))
def date_Of.j1 : Nat → Int → Int → Int → Bool → Option (Int × Int × Int × Int × Int × Int × Int × Int)
  | 0, _, _, _, _ => none
  | k + 1, x0, x1, x6, x32 => if x32 = true then (some (0, 0, 0, 0, 0, 0, 0, 5)) else (if (Int.tmod (wrap64 (x0 + x6)) 86400) < 0 then ((date_Civil.f (wrap64 ((wrap64 (Int.tdiv (wrap64 (x0 + x6)) 86400)) - 1))).bind fun bt102 => (some (bt102.1, bt102.2.1, bt102.2.2.1, IntKind.i8.wrap (wrap64 (Int.tdiv (wrap64 ((Int.tmod (wrap64 (x0 + x6)) 86400) + 86400)) 3600)), IntKind.i8.wrap (Int.tmod (wrap64 (Int.tdiv (wrap64 ((Int.tmod (wrap64 (x0 + x6)) 86400) + 86400)) 60)) 60), IntKind.i8.wrap (Int.tmod (wrap64 ((Int.tmod (wrap64 (x0 + x6)) 86400) + 86400)) 60), x1, bt102.2.2.2))) else ((date_Civil.f (wrap64 (Int.tdiv (wrap64 (x0 + x6)) 86400))).bind fun bt106 => (some (bt106.1, bt106.2.1, bt106.2.2.1, IntKind.i8.wrap (wrap64 (Int.tdiv (Int.tmod (wrap64 (x0 + x6)) 86400) 3600)), IntKind.i8.wrap (Int.tmod (wrap64 (Int.tdiv (Int.tmod (wrap64 (x0 + x6)) 86400) 60)) 60), IntKind.i8.wrap (Int.tmod (wrap64 (x0 + x6)) 60), x1, bt106.2.2.2))))
end
def date_Of.f (k : Nat) (a0 : Int) (a1 : Int) : Option (Int × Int × Int × Int × Int × Int × Int × Int) := if a1 < (-1439) then (date_Of.j0 k a0 a1 true) else (date_Of.j0 k a0 a1 (decide (a1 > 1439)))
theorem date_Of.mono_l : ∀ k, (∀ y0 y1 y2, LeO (date_Of.j0 k y0 y1 y2) (date_Of.j0 (k + 1) y0 y1 y2)) ∧ (∀ y0 y1 y2 y3, LeO (date_Of.j1 k y0 y1 y2 y3) (date_Of.j1 (k + 1) y0 y1 y2 y3))
  | 0 => ⟨fun _ _ _ r h => by simp [date_Of.j0] at h, fun _ _ _ _ r h => by simp [date_Of.j1] at h⟩
  | k + 1 => by
    obtain ⟨ih0, ih1⟩ := date_Of.mono_l k
    refine ⟨?_, ?_⟩
    · intro y0 y1 y2
      unfold date_Of.j0
      repeat' first
      | (with_reducible exact ih0 _ _ _)
      | (with_reducible exact ih1 _ _ _ _)
      | (with_reducible exact LeO.refl _)
      | (with_reducible exact LeO.none _)
      | (with_reducible refine LeO.ite ?_ ?_)
      | (with_reducible refine LeO.bind ?_ (fun _ => ?_))
      | exact ih0 _ _ _
      | exact ih1 _ _ _ _
      | exact LeO.none _
      | refine LeO.ite ?_ ?_
      | refine LeO.bind ?_ (fun _ => ?_)
    · intro y0 y1 y2 y3
      unfold date_Of.j1
      repeat' first
      | (with_reducible exact ih0 _ _ _)
      | (with_reducible exact ih1 _ _ _ _)
      | (with_reducible exact LeO.refl _)
      | (with_reducible exact LeO.none _)
      | (with_reducible refine LeO.ite ?_ ?_)
      | (with_reducible refine LeO.bind ?_ (fun _ => ?_))
      | exact ih0 _ _ _
      | exact ih1 _ _ _ _
      | exact LeO.none _
      | refine LeO.ite ?_ ?_
      | refine LeO.bind ?_ (fun _ => ?_)
theorem date_Of.mono : ∀ a0 a1 k, LeO (date_Of.f k a0 a1) (date_Of.f (k + 1) a0 a1) := by
  intro a0 a1 k
  obtain ⟨ih0, ih1⟩ := date_Of.mono_l k
  unfold date_Of.f
  repeat' first
      | (with_reducible exact ih0 _ _ _)
      | (with_reducible exact ih1 _ _ _ _)
      | (with_reducible exact LeO.refl _)
      | (with_reducible exact LeO.none _)
      | (with_reducible refine LeO.ite ?_ ?_)
      | (with_reducible refine LeO.bind ?_ (fun _ => ?_))
      | exact ih0 _ _ _
      | exact ih1 _ _ _ _
      | exact LeO.none _
      | refine LeO.ite ?_ ?_
      | refine LeO.bind ?_ (fun _ => ?_)
set_option maxHeartbeats 8000000 in
set_option maxRecDepth 100000 in
theorem date_Of.calls (k : Nat) (a0 : Int) (a1 : Int) (r1 : Int) (r2 : Int) (r3 : Int) (r4 : Int) (r5 : Int) (r6 : Int) (r7 : Int) (r8 : Int) (w : World) (h : date_Of.f k a0 a1 = some (r1, r2, r3, r4, r5, r6, r7, r8)) :
    Calls Tryd.prog 32 #[.int .i64 a0, .int .i16 a1] w fun e w' => e = .returned (.tuple #[.agg #[.int .i16 r1, .int .i8 r2, .int .i8 r3, .int .i8 r4, .int .i8 r5, .int .i8 r6, .int .i16 r7], .int .i64 r8]) ∧ Below w.heap.size w w' := by
  have hu30 := Tryd.underlying30
  have HB := Aside0.mk (Below.refl w.heap.size w)
  have H : (if a1 < (-1439) then (date_Of.j0 k a0 a1 true) else (date_Of.j0 k a0 a1 (decide (a1 > 1439)))) = some (r1, r2, r3, r4, r5, r6, r7, r8) := h
  clear h
  have HC3 := Aside0.mk H
  clear H
  go_enter Tryd.func32, Tryd.ntmps32
  go_upto_region 1 with (first | ((with_reducible refine gate_dst (N := 4) rfl ?_); refine box_event ?hg (N := 4) ?hd (cs := #[.int .i16 0, .int .i8 0, .int .i8 0, .int .i8 0, .int .i8 0, .int .i8 0, .int .i16 0]) (t := 30) ?hr ?_; (case hd => rfl); (case hg => rfl); (case hr => first | (go_simp; done) | (go_simp; rfl)); intro gb101 hg w4 hbox hb; have n0_ := Aside0.mk (below_step (by repeat (first | (with_reducible first | exact HB.out | apply below_alloc | apply pw_below_drewN | apply below_drew1) | exact HB.out)) hb); have n1_ := Aside0.mk (hbox); have n2_ := Aside0.mk ((by rw [hg]; exact (below_size (by repeat (first | (with_reducible first | exact HB.out | apply below_alloc | apply pw_below_drewN | apply below_drew1) | exact HB.out))) : w.heap.size ≤ gb101)); have n3_ := Aside0.mk ((by rw [hg]; exact (below_size (by repeat (first | (with_reducible first | exact HB.out | apply below_alloc | apply pw_below_drewN | apply below_drew1) | exact HB.out))) : w.heap.size ≤ gb101)); clear HB; have HB := n0_; have BK101 := n1_; have GW101 := n2_; have GE101 := n3_; clear n0_ n1_ n2_ n3_; clear hb hbox hg))
  (try simp only [Act.put, List.setIfInBounds_toArray, List.set_cons_zero, List.set_cons_succ])
  go_cut [18] (fun v18 wc => ∃ (kq : Nat) (x18_2 : Bool), v18 = .bool x18_2 ∧ Aside0 (date_Of.j0 kq a0 a1 x18_2 = some (r1, r2, r3, r4, r5, r6, r7, r8)) ∧ Aside0 (kq ≤ k) ∧ Aside0 (wc.heap[gb101]? = some (.cells #[.int .i16 0, .int .i8 0, .int .i8 0, .int .i8 0, .int .i8 0, .int .i8 0, .int .i16 0] 30 (0, 0))) ∧ Aside0 (Below w.heap.size w wc))
  case first =>
    have H := HC3.out
    clear HC3
    by_cases c5 : a1 < (-1439)
    · rw [if_pos c5] at H
      have c5b0 : decide (a1 < (-1439)) = true := decide_eq_true c5
      clear c5
      (first | rw [c5b0] | (simp only [i64_w, i32_w]; rw [c5b0]) | skip)
      have H' := Aside0.mk H
      clear H
      go_wp2
      go_meet
      case rel => exact ⟨_, (true), (by first | rfl | (simp; done) | (simp [*]; done)), H', ⟨by first | omega | exact Nat.le_refl _⟩, ⟨by (with_reducible repeat (first | refine blk_drewN ?_ _ | refine blk_drew ?_ | refine blk_alloc ?_ _)); exact BK101.out⟩, ⟨by repeat (first | (with_reducible first | exact HB.out | apply below_alloc | apply pw_below_drewN | apply below_drew1 | refine below_set ?_ GE101.out) | exact HB.out)⟩⟩
    · rw [if_neg c5] at H
      have c5b0 : decide (a1 < (-1439)) = false := decide_eq_false c5
      clear c5
      (first | rw [c5b0] | (simp only [i64_w, i32_w]; rw [c5b0]) | skip)
      have H' := Aside0.mk H
      clear H
      go_wp2
      go_meet
      case rel => exact ⟨_, (decide (a1 > 1439)), (by first | rfl | (simp; done) | (simp [*]; done)), H', ⟨by first | omega | exact Nat.le_refl _⟩, ⟨by (with_reducible repeat (first | refine blk_drewN ?_ _ | refine blk_drew ?_ | refine blk_alloc ?_ _)); exact BK101.out⟩, ⟨by repeat (first | (with_reducible first | exact HB.out | apply below_alloc | apply pw_below_drewN | apply below_drew1 | refine below_set ?_ GE101.out) | exact HB.out)⟩⟩
  case rest =>
    clear HC3
    try clear p2
    try clear c3
    try clear c5
    try clear c5b0
    obtain ⟨kq, x18_2, rfl, HA, HJ2, BK101, HB⟩ := hcut
    cases kq with
    | zero => exact absurd HA.out (by simp [date_Of.j0])
    | succ kj2 =>
      have H := HA.out
      clear HA
      simp only [date_Of.j0] at H
      by_cases c6 : x18_2 = true
      · subst c6
        have H1 : (some (0, 0, 0, 0, 0, 0, 0, 61)) = some (r1, r2, r3, r4, r5, r6, r7, r8) := by rw [if_pos rfl] at H; exact H
        clear H
        have H := H1
        clear H1
        simp only [Option.some.injEq, Prod.mk.injEq] at H
        obtain ⟨rfl, rfl, rfl, rfl, rfl, rfl, rfl, rfl⟩ := H
        have hcz7_0 : wc.cell? ⟨gb101, 0, none⟩ = some (.int .i16 0) := (blk_cell BK101.out 0).trans rfl
        have hcz7_1 : wc.cell? ⟨gb101, 1, none⟩ = some (.int .i8 0) := (blk_cell BK101.out 1).trans rfl
        have hcz7_2 : wc.cell? ⟨gb101, 2, none⟩ = some (.int .i8 0) := (blk_cell BK101.out 2).trans rfl
        have hcz7_3 : wc.cell? ⟨gb101, 3, none⟩ = some (.int .i8 0) := (blk_cell BK101.out 3).trans rfl
        have hcz7_4 : wc.cell? ⟨gb101, 4, none⟩ = some (.int .i8 0) := (blk_cell BK101.out 4).trans rfl
        have hcz7_5 : wc.cell? ⟨gb101, 5, none⟩ = some (.int .i8 0) := (blk_cell BK101.out 5).trans rfl
        have hcz7_6 : wc.cell? ⟨gb101, 6, none⟩ = some (.int .i16 0) := (blk_cell BK101.out 6).trans rfl
        have hfz7_0 := blk_frozen BK101.out 0
        have hfz7_1 := blk_frozen BK101.out 1
        have hfz7_2 := blk_frozen BK101.out 2
        have hfz7_3 := blk_frozen BK101.out 3
        have hfz7_4 := blk_frozen BK101.out 4
        have hfz7_5 := blk_frozen BK101.out 5
        have hfz7_6 := blk_frozen BK101.out 6
        go_wp2
        refine bodyPost_ret (results_ct rfl _ _ gb101 30 #[.int .i16 0, .int .i8 0, .int .i8 0, .int .i8 0, .int .i8 0, .int .i8 0, .int .i16 0] (0, 0) _ rfl (by (with_reducible repeat (first | refine blk_drewN ?_ _ | refine blk_drew ?_ | refine blk_alloc ?_ _)); refine blk_put (cs := #[.int .i16 0, .int .i8 0, .int .i8 0, .int .i8 0, .int .i8 0, .int .i8 0, .int .i16 0]) ?_ 6 _ rfl; (with_reducible repeat (first | refine blk_drewN ?_ _ | refine blk_drew ?_ | refine blk_alloc ?_ _)); refine blk_put (cs := #[.int .i16 0, .int .i8 0, .int .i8 0, .int .i8 0, .int .i8 0, .int .i8 0, .int .i16 0]) ?_ 5 _ rfl; (with_reducible repeat (first | refine blk_drewN ?_ _ | refine blk_drew ?_ | refine blk_alloc ?_ _)); refine blk_put (cs := #[.int .i16 0, .int .i8 0, .int .i8 0, .int .i8 0, .int .i8 0, .int .i8 0, .int .i16 0]) ?_ 4 _ rfl; (with_reducible repeat (first | refine blk_drewN ?_ _ | refine blk_drew ?_ | refine blk_alloc ?_ _)); refine blk_put (cs := #[.int .i16 0, .int .i8 0, .int .i8 0, .int .i8 0, .int .i8 0, .int .i8 0, .int .i16 0]) ?_ 3 _ rfl; (with_reducible repeat (first | refine blk_drewN ?_ _ | refine blk_drew ?_ | refine blk_alloc ?_ _)); refine blk_put (cs := #[.int .i16 0, .int .i8 0, .int .i8 0, .int .i8 0, .int .i8 0, .int .i8 0, .int .i16 0]) ?_ 2 _ rfl; (with_reducible repeat (first | refine blk_drewN ?_ _ | refine blk_drew ?_ | refine blk_alloc ?_ _)); refine blk_put (cs := #[.int .i16 0, .int .i8 0, .int .i8 0, .int .i8 0, .int .i8 0, .int .i8 0, .int .i16 0]) ?_ 1 _ rfl; (with_reducible repeat (first | refine blk_drewN ?_ _ | refine blk_drew ?_ | refine blk_alloc ?_ _)); refine blk_put (cs := #[.int .i16 0, .int .i8 0, .int .i8 0, .int .i8 0, .int .i8 0, .int .i8 0, .int .i16 0]) ?_ 0 _ rfl; (with_reducible repeat (first | refine blk_drewN ?_ _ | refine blk_drew ?_ | refine blk_alloc ?_ _)); exact BK101.out) Tryd.underlying30 rfl (by kernel_rfl)) rfl ?_
        exact ⟨by first | rfl | (simp [errW_none, errW_some] <;> rfl) | (simp [*, errW_none, errW_some] <;> rfl), by repeat (first | (with_reducible first | exact HB.out | apply below_alloc | apply pw_below_drewN | apply below_drew1 | refine below_set ?_ GE101.out) | exact HB.out)⟩
      · replace c6 := Bool.eq_false_iff.mpr c6
        subst c6
        have H1 : (if a0 < (wrap64 ((-62135596800) - (wrap64 ((wrap64 (a1)) * 60)))) then (date_Of.j1 kj2 a0 a1 (wrap64 ((wrap64 (a1)) * 60)) true) else (date_Of.j1 kj2 a0 a1 (wrap64 ((wrap64 (a1)) * 60)) (decide (a0 > (wrap64 (253402300799 - (wrap64 ((wrap64 (a1)) * 60)))))))) = some (r1, r2, r3, r4, r5, r6, r7, r8) := by rw [if_neg (show ¬ (false = true) by decide)] at H; exact H
        clear H
        have H := H1
        clear H1
        have HC8 := Aside0.mk H
        clear H
        go_upto_region 4 with (fail)
        go_cut [32] (fun v32 wc => ∃ (kq : Nat) (x32_7 : Bool), v32 = .bool x32_7 ∧ Aside0 (date_Of.j1 kq a0 a1 (wrap64 ((wrap64 (a1)) * 60)) x32_7 = some (r1, r2, r3, r4, r5, r6, r7, r8)) ∧ Aside0 (kq ≤ kj2) ∧ Aside0 (wc.heap[gb101]? = some (.cells #[.int .i16 0, .int .i8 0, .int .i8 0, .int .i8 0, .int .i8 0, .int .i8 0, .int .i16 0] 30 (0, 0))) ∧ Aside0 (Below w.heap.size w wc))
        case first =>
          have H := HC8.out
          clear HC8
          by_cases c9 : a0 < (wrap64 ((-62135596800) - (wrap64 ((wrap64 (a1)) * 60))))
          · rw [if_pos c9] at H
            have c9b0 : decide (a0 < (wrap64 ((-62135596800) - (wrap64 ((wrap64 (a1)) * 60))))) = true := decide_eq_true c9
            clear c9
            (first | rw [c9b0] | (simp only [i64_w, i32_w]; rw [c9b0]) | skip)
            have H' := Aside0.mk H
            clear H
            go_wp2
            go_meet
            case rel => exact ⟨_, (true), (by first | rfl | (simp; done) | (simp [*]; done)), H', ⟨by have := HJ2.out; first | omega | exact Nat.le_refl _⟩, ⟨by (with_reducible repeat (first | refine blk_drewN ?_ _ | refine blk_drew ?_ | refine blk_alloc ?_ _)); exact BK101.out⟩, ⟨by repeat (first | (with_reducible first | exact HB.out | apply below_alloc | apply pw_below_drewN | apply below_drew1 | refine below_set ?_ GE101.out) | exact HB.out)⟩⟩
          · rw [if_neg c9] at H
            have c9b0 : decide (a0 < (wrap64 ((-62135596800) - (wrap64 ((wrap64 (a1)) * 60))))) = false := decide_eq_false c9
            clear c9
            (first | rw [c9b0] | (simp only [i64_w, i32_w]; rw [c9b0]) | skip)
            have H' := Aside0.mk H
            clear H
            go_wp2
            go_meet
            case rel => exact ⟨_, (decide (a0 > (wrap64 (253402300799 - (wrap64 ((wrap64 (a1)) * 60)))))), (by first | rfl | (simp; done) | (simp [*]; done)), H', ⟨by have := HJ2.out; first | omega | exact Nat.le_refl _⟩, ⟨by (with_reducible repeat (first | refine blk_drewN ?_ _ | refine blk_drew ?_ | refine blk_alloc ?_ _)); exact BK101.out⟩, ⟨by repeat (first | (with_reducible first | exact HB.out | apply below_alloc | apply pw_below_drewN | apply below_drew1 | refine below_set ?_ GE101.out) | exact HB.out)⟩⟩
        case rest =>
          clear HC8
          try clear p2
          try clear c3
          try clear c5
          try clear c5b0
          try clear c6
          try clear p6
          try clear c9
          try clear c9b0
          try clear hcz7_0
          try clear hcz7_1
          try clear hcz7_2
          try clear hcz7_3
          try clear hcz7_4
          try clear hcz7_5
          try clear hcz7_6
          try clear hfz7_0
          try clear hfz7_1
          try clear hfz7_2
          try clear hfz7_3
          try clear hfz7_4
          try clear hfz7_5
          try clear hfz7_6
          try clear p2
          obtain ⟨kq, x32_7, rfl, HA, HJ7, BK101, HB⟩ := hcut
          cases kq with
          | zero => exact absurd HA.out (by simp [date_Of.j1])
          | succ kj7 =>
            have H := HA.out
            clear HA
            simp only [date_Of.j1] at H
            by_cases c10 : x32_7 = true
            · subst c10
              have H1 : (some (0, 0, 0, 0, 0, 0, 0, 5)) = some (r1, r2, r3, r4, r5, r6, r7, r8) := by rw [if_pos rfl] at H; exact H
              clear H
              have H := H1
              clear H1
              simp only [Option.some.injEq, Prod.mk.injEq] at H
              obtain ⟨rfl, rfl, rfl, rfl, rfl, rfl, rfl, rfl⟩ := H
              have hcz11_0 : wc.cell? ⟨gb101, 0, none⟩ = some (.int .i16 0) := (blk_cell BK101.out 0).trans rfl
              have hcz11_1 : wc.cell? ⟨gb101, 1, none⟩ = some (.int .i8 0) := (blk_cell BK101.out 1).trans rfl
              have hcz11_2 : wc.cell? ⟨gb101, 2, none⟩ = some (.int .i8 0) := (blk_cell BK101.out 2).trans rfl
              have hcz11_3 : wc.cell? ⟨gb101, 3, none⟩ = some (.int .i8 0) := (blk_cell BK101.out 3).trans rfl
              have hcz11_4 : wc.cell? ⟨gb101, 4, none⟩ = some (.int .i8 0) := (blk_cell BK101.out 4).trans rfl
              have hcz11_5 : wc.cell? ⟨gb101, 5, none⟩ = some (.int .i8 0) := (blk_cell BK101.out 5).trans rfl
              have hcz11_6 : wc.cell? ⟨gb101, 6, none⟩ = some (.int .i16 0) := (blk_cell BK101.out 6).trans rfl
              have hfz11_0 := blk_frozen BK101.out 0
              have hfz11_1 := blk_frozen BK101.out 1
              have hfz11_2 := blk_frozen BK101.out 2
              have hfz11_3 := blk_frozen BK101.out 3
              have hfz11_4 := blk_frozen BK101.out 4
              have hfz11_5 := blk_frozen BK101.out 5
              have hfz11_6 := blk_frozen BK101.out 6
              go_wp2
              refine bodyPost_ret (results_ct rfl _ _ gb101 30 #[.int .i16 0, .int .i8 0, .int .i8 0, .int .i8 0, .int .i8 0, .int .i8 0, .int .i16 0] (0, 0) _ rfl (by (with_reducible repeat (first | refine blk_drewN ?_ _ | refine blk_drew ?_ | refine blk_alloc ?_ _)); refine blk_put (cs := #[.int .i16 0, .int .i8 0, .int .i8 0, .int .i8 0, .int .i8 0, .int .i8 0, .int .i16 0]) ?_ 6 _ rfl; (with_reducible repeat (first | refine blk_drewN ?_ _ | refine blk_drew ?_ | refine blk_alloc ?_ _)); refine blk_put (cs := #[.int .i16 0, .int .i8 0, .int .i8 0, .int .i8 0, .int .i8 0, .int .i8 0, .int .i16 0]) ?_ 5 _ rfl; (with_reducible repeat (first | refine blk_drewN ?_ _ | refine blk_drew ?_ | refine blk_alloc ?_ _)); refine blk_put (cs := #[.int .i16 0, .int .i8 0, .int .i8 0, .int .i8 0, .int .i8 0, .int .i8 0, .int .i16 0]) ?_ 4 _ rfl; (with_reducible repeat (first | refine blk_drewN ?_ _ | refine blk_drew ?_ | refine blk_alloc ?_ _)); refine blk_put (cs := #[.int .i16 0, .int .i8 0, .int .i8 0, .int .i8 0, .int .i8 0, .int .i8 0, .int .i16 0]) ?_ 3 _ rfl; (with_reducible repeat (first | refine blk_drewN ?_ _ | refine blk_drew ?_ | refine blk_alloc ?_ _)); refine blk_put (cs := #[.int .i16 0, .int .i8 0, .int .i8 0, .int .i8 0, .int .i8 0, .int .i8 0, .int .i16 0]) ?_ 2 _ rfl; (with_reducible repeat (first | refine blk_drewN ?_ _ | refine blk_drew ?_ | refine blk_alloc ?_ _)); refine blk_put (cs := #[.int .i16 0, .int .i8 0, .int .i8 0, .int .i8 0, .int .i8 0, .int .i8 0, .int .i16 0]) ?_ 1 _ rfl; (with_reducible repeat (first | refine blk_drewN ?_ _ | refine blk_drew ?_ | refine blk_alloc ?_ _)); refine blk_put (cs := #[.int .i16 0, .int .i8 0, .int .i8 0, .int .i8 0, .int .i8 0, .int .i8 0, .int .i16 0]) ?_ 0 _ rfl; (with_reducible repeat (first | refine blk_drewN ?_ _ | refine blk_drew ?_ | refine blk_alloc ?_ _)); exact BK101.out) Tryd.underlying30 rfl (by kernel_rfl)) rfl ?_
              exact ⟨by first | rfl | (simp [errW_none, errW_some] <;> rfl) | (simp [*, errW_none, errW_some] <;> rfl), by repeat (first | (with_reducible first | exact HB.out | apply below_alloc | apply pw_below_drewN | apply below_drew1 | refine below_set ?_ GE101.out) | exact HB.out)⟩
            · replace c10 := Bool.eq_false_iff.mpr c10
              subst c10
              have H1 : (if (Int.tmod (wrap64 (a0 + (wrap64 ((wrap64 (a1)) * 60)))) 86400) < 0 then ((date_Civil.f (wrap64 ((wrap64 (Int.tdiv (wrap64 (a0 + (wrap64 ((wrap64 (a1)) * 60)))) 86400)) - 1))).bind fun bt102 => (some (bt102.1, bt102.2.1, bt102.2.2.1, IntKind.i8.wrap (wrap64 (Int.tdiv (wrap64 ((Int.tmod (wrap64 (a0 + (wrap64 ((wrap64 (a1)) * 60)))) 86400) + 86400)) 3600)), IntKind.i8.wrap (Int.tmod (wrap64 (Int.tdiv (wrap64 ((Int.tmod (wrap64 (a0 + (wrap64 ((wrap64 (a1)) * 60)))) 86400) + 86400)) 60)) 60), IntKind.i8.wrap (Int.tmod (wrap64 ((Int.tmod (wrap64 (a0 + (wrap64 ((wrap64 (a1)) * 60)))) 86400) + 86400)) 60), a1, bt102.2.2.2))) else ((date_Civil.f (wrap64 (Int.tdiv (wrap64 (a0 + (wrap64 ((wrap64 (a1)) * 60)))) 86400))).bind fun bt106 => (some (bt106.1, bt106.2.1, bt106.2.2.1, IntKind.i8.wrap (wrap64 (Int.tdiv (Int.tmod (wrap64 (a0 + (wrap64 ((wrap64 (a1)) * 60)))) 86400) 3600)), IntKind.i8.wrap (Int.tmod (wrap64 (Int.tdiv (Int.tmod (wrap64 (a0 + (wrap64 ((wrap64 (a1)) * 60)))) 86400) 60)) 60), IntKind.i8.wrap (Int.tmod (wrap64 (a0 + (wrap64 ((wrap64 (a1)) * 60)))) 60), a1, bt106.2.2.2)))) = some (r1, r2, r3, r4, r5, r6, r7, r8) := by rw [if_neg (show ¬ (false = true) by decide)] at H; exact H
              clear H
              have H := H1
              clear H1
              by_cases c12 : (Int.tmod (wrap64 (a0 + (wrap64 ((wrap64 (a1)) * 60)))) 86400) < 0
              · rw [if_pos c12] at H
                have c12b0 : decide ((Int.tmod (wrap64 (a0 + (wrap64 ((wrap64 (a1)) * 60)))) 86400) < 0) = true := decide_eq_true c12
                clear c12
                replace H := Option.bind_eq_some_iff.mp H
                obtain ⟨⟨t102, t103, t104, t105⟩, A130, H⟩ := H
                replace H : (some (t102, t103, t104, IntKind.i8.wrap (wrap64 (Int.tdiv (wrap64 ((Int.tmod (wrap64 (a0 + (wrap64 ((wrap64 (a1)) * 60)))) 86400) + 86400)) 3600)), IntKind.i8.wrap (Int.tmod (wrap64 (Int.tdiv (wrap64 ((Int.tmod (wrap64 (a0 + (wrap64 ((wrap64 (a1)) * 60)))) 86400) + 86400)) 60)) 60), IntKind.i8.wrap (Int.tmod (wrap64 ((Int.tmod (wrap64 (a0 + (wrap64 ((wrap64 (a1)) * 60)))) 86400) + 86400)) 60), a1, t105)) = some (r1, r2, r3, r4, r5, r6, r7, r8) := H
                have A13 := Aside0.mk A130
                clear A130
                simp only [Option.some.injEq, Prod.mk.injEq] at H
                obtain ⟨rfl, rfl, rfl, rfl, rfl, rfl, rfl, rfl⟩ := H
                go_wp2_with (first | ((with_reducible refine gate_callee (f := 19) rfl ?_); refine goesL_ (some 49) rfl rfl Tryd.func19 (by kernel_rfl) rfl #[.int .i64 (wrap64 ((wrap64 (Int.tdiv (wrap64 (a0 + (wrap64 ((wrap64 (a1)) * 60)))) 86400)) - 1))] rfl (by (try simp only [List.map_toArray, List.map_cons, List.map_nil]); first | done | rfl | (simp only [List.length_drop, List.length_take]; rfl)) ?_; (with_reducible refine (date_Civil.calls (wrap64 ((wrap64 (Int.tdiv (wrap64 (a0 + (wrap64 ((wrap64 (a1)) * 60)))) 86400)) - 1)) t102 t103 t104 t105 _ A13.out).mono ?_); rintro e w' ⟨rfl, ⟨nd, rfl⟩⟩; refine ⟨_, rfl, ?_⟩; (try (rw [drewN_self wc]; generalize hq_ : World.drewN wc _ = wc; have n0_ : Aside0 (wc.heap[gb101]? = some (.cells #[.int .i16 0, .int .i8 0, .int .i8 0, .int .i8 0, .int .i8 0, .int .i8 0, .int .i16 0] 30 (0, 0))) := ⟨by rw [← hq_]; exact (by (with_reducible repeat (first | refine blk_drewN ?_ _ | refine blk_drew ?_ | refine blk_alloc ?_ _)); exact BK101.out)⟩; have n1_ : Aside0 (Below w.heap.size w wc) := ⟨by rw [← hq_]; exact (by repeat (first | (with_reducible first | exact HB.out | apply below_alloc | apply pw_below_drewN | apply below_drew1 | refine below_set ?_ GE101.out) | exact HB.out))⟩; clear BK101 HB hq_; have BK101 := n0_; have HB := n1_; clear n0_ n1_)); have hcz14_0 : wc.cell? ⟨gb101, 0, none⟩ = some (.int .i16 0) := (blk_cell BK101.out 0).trans rfl; have hcz14_1 : wc.cell? ⟨gb101, 1, none⟩ = some (.int .i8 0) := (blk_cell BK101.out 1).trans rfl; have hcz14_2 : wc.cell? ⟨gb101, 2, none⟩ = some (.int .i8 0) := (blk_cell BK101.out 2).trans rfl; have hcz14_3 : wc.cell? ⟨gb101, 3, none⟩ = some (.int .i8 0) := (blk_cell BK101.out 3).trans rfl; have hcz14_4 : wc.cell? ⟨gb101, 4, none⟩ = some (.int .i8 0) := (blk_cell BK101.out 4).trans rfl; have hcz14_5 : wc.cell? ⟨gb101, 5, none⟩ = some (.int .i8 0) := (blk_cell BK101.out 5).trans rfl; have hcz14_6 : wc.cell? ⟨gb101, 6, none⟩ = some (.int .i16 0) := (blk_cell BK101.out 6).trans rfl; have hfz14_0 := blk_frozen BK101.out 0; have hfz14_1 := blk_frozen BK101.out 1; have hfz14_2 := blk_frozen BK101.out 2; have hfz14_3 := blk_frozen BK101.out 3; have hfz14_4 := blk_frozen BK101.out 4; have hfz14_5 := blk_frozen BK101.out 5; have hfz14_6 := blk_frozen BK101.out 6))
                refine bodyPost_ret (results_ct rfl _ _ gb101 30 #[.int .i16 t102, .int .i8 t103, .int .i8 t104, .int .i8 (IntKind.i8.wrap (wrap64 (Int.tdiv (wrap64 ((Int.tmod (wrap64 (a0 + (wrap64 ((wrap64 (a1)) * 60)))) 86400) + 86400)) 3600))), .int .i8 (IntKind.i8.wrap (Int.tmod (wrap64 (Int.tdiv (wrap64 ((Int.tmod (wrap64 (a0 + (wrap64 ((wrap64 (a1)) * 60)))) 86400) + 86400)) 60)) 60)), .int .i8 (IntKind.i8.wrap (Int.tmod (wrap64 ((Int.tmod (wrap64 (a0 + (wrap64 ((wrap64 (a1)) * 60)))) 86400) + 86400)) 60)), .int .i16 a1] (0, 0) _ rfl (by (with_reducible repeat (first | refine blk_drewN ?_ _ | refine blk_drew ?_ | refine blk_alloc ?_ _)); refine blk_put (cs := #[.int .i16 t102, .int .i8 t103, .int .i8 t104, .int .i8 (IntKind.i8.wrap (wrap64 (Int.tdiv (wrap64 ((Int.tmod (wrap64 (a0 + (wrap64 ((wrap64 (a1)) * 60)))) 86400) + 86400)) 3600))), .int .i8 (IntKind.i8.wrap (Int.tmod (wrap64 (Int.tdiv (wrap64 ((Int.tmod (wrap64 (a0 + (wrap64 ((wrap64 (a1)) * 60)))) 86400) + 86400)) 60)) 60)), .int .i8 (IntKind.i8.wrap (Int.tmod (wrap64 ((Int.tmod (wrap64 (a0 + (wrap64 ((wrap64 (a1)) * 60)))) 86400) + 86400)) 60)), .int .i16 0]) ?_ 6 _ rfl; (with_reducible repeat (first | refine blk_drewN ?_ _ | refine blk_drew ?_ | refine blk_alloc ?_ _)); refine blk_put (cs := #[.int .i16 t102, .int .i8 t103, .int .i8 t104, .int .i8 (IntKind.i8.wrap (wrap64 (Int.tdiv (wrap64 ((Int.tmod (wrap64 (a0 + (wrap64 ((wrap64 (a1)) * 60)))) 86400) + 86400)) 3600))), .int .i8 (IntKind.i8.wrap (Int.tmod (wrap64 (Int.tdiv (wrap64 ((Int.tmod (wrap64 (a0 + (wrap64 ((wrap64 (a1)) * 60)))) 86400) + 86400)) 60)) 60)), .int .i8 0, .int .i16 0]) ?_ 5 _ rfl; (with_reducible repeat (first | refine blk_drewN ?_ _ | refine blk_drew ?_ | refine blk_alloc ?_ _)); refine blk_put (cs := #[.int .i16 t102, .int .i8 t103, .int .i8 t104, .int .i8 (IntKind.i8.wrap (wrap64 (Int.tdiv (wrap64 ((Int.tmod (wrap64 (a0 + (wrap64 ((wrap64 (a1)) * 60)))) 86400) + 86400)) 3600))), .int .i8 0, .int .i8 0, .int .i16 0]) ?_ 4 _ rfl; (with_reducible repeat (first | refine blk_drewN ?_ _ | refine blk_drew ?_ | refine blk_alloc ?_ _)); refine blk_put (cs := #[.int .i16 t102, .int .i8 t103, .int .i8 t104, .int .i8 0, .int .i8 0, .int .i8 0, .int .i16 0]) ?_ 3 _ rfl; (with_reducible repeat (first | refine blk_drewN ?_ _ | refine blk_drew ?_ | refine blk_alloc ?_ _)); refine blk_put (cs := #[.int .i16 t102, .int .i8 t103, .int .i8 0, .int .i8 0, .int .i8 0, .int .i8 0, .int .i16 0]) ?_ 2 _ rfl; (with_reducible repeat (first | refine blk_drewN ?_ _ | refine blk_drew ?_ | refine blk_alloc ?_ _)); refine blk_put (cs := #[.int .i16 t102, .int .i8 0, .int .i8 0, .int .i8 0, .int .i8 0, .int .i8 0, .int .i16 0]) ?_ 1 _ rfl; (with_reducible repeat (first | refine blk_drewN ?_ _ | refine blk_drew ?_ | refine blk_alloc ?_ _)); refine blk_put (cs := #[.int .i16 0, .int .i8 0, .int .i8 0, .int .i8 0, .int .i8 0, .int .i8 0, .int .i16 0]) ?_ 0 _ rfl; (with_reducible repeat (first | refine blk_drewN ?_ _ | refine blk_drew ?_ | refine blk_alloc ?_ _)); exact BK101.out) Tryd.underlying30 rfl (by kernel_rfl)) rfl ?_
                exact ⟨by first | rfl | (simp [errW_none, errW_some] <;> rfl) | (simp [*, errW_none, errW_some] <;> rfl), by repeat (first | (with_reducible first | exact HB.out | apply below_alloc | apply pw_below_drewN | apply below_drew1 | refine below_set ?_ GE101.out) | exact HB.out)⟩
              · rw [if_neg c12] at H
                have c12b0 : decide ((Int.tmod (wrap64 (a0 + (wrap64 ((wrap64 (a1)) * 60)))) 86400) < 0) = false := decide_eq_false c12
                clear c12
                replace H := Option.bind_eq_some_iff.mp H
                obtain ⟨⟨t106, t107, t108, t109⟩, A150, H⟩ := H
                replace H : (some (t106, t107, t108, IntKind.i8.wrap (wrap64 (Int.tdiv (Int.tmod (wrap64 (a0 + (wrap64 ((wrap64 (a1)) * 60)))) 86400) 3600)), IntKind.i8.wrap (Int.tmod (wrap64 (Int.tdiv (Int.tmod (wrap64 (a0 + (wrap64 ((wrap64 (a1)) * 60)))) 86400) 60)) 60), IntKind.i8.wrap (Int.tmod (wrap64 (a0 + (wrap64 ((wrap64 (a1)) * 60)))) 60), a1, t109)) = some (r1, r2, r3, r4, r5, r6, r7, r8) := H
                have A15 := Aside0.mk A150
                clear A150
                simp only [Option.some.injEq, Prod.mk.injEq] at H
                obtain ⟨rfl, rfl, rfl, rfl, rfl, rfl, rfl, rfl⟩ := H
                go_wp2_with (first | ((with_reducible refine gate_callee (f := 19) rfl ?_); refine goesL_ (some 49) rfl rfl Tryd.func19 (by kernel_rfl) rfl #[.int .i64 (wrap64 (Int.tdiv (wrap64 (a0 + (wrap64 ((wrap64 (a1)) * 60)))) 86400))] rfl (by (try simp only [List.map_toArray, List.map_cons, List.map_nil]); first | done | rfl | (simp only [List.length_drop, List.length_take]; rfl)) ?_; (with_reducible refine (date_Civil.calls (wrap64 (Int.tdiv (wrap64 (a0 + (wrap64 ((wrap64 (a1)) * 60)))) 86400)) t106 t107 t108 t109 _ A15.out).mono ?_); rintro e w' ⟨rfl, ⟨nd, rfl⟩⟩; refine ⟨_, rfl, ?_⟩; (try (rw [drewN_self wc]; generalize hq_ : World.drewN wc _ = wc; have n0_ : Aside0 (wc.heap[gb101]? = some (.cells #[.int .i16 0, .int .i8 0, .int .i8 0, .int .i8 0, .int .i8 0, .int .i8 0, .int .i16 0] 30 (0, 0))) := ⟨by rw [← hq_]; exact (by (with_reducible repeat (first | refine blk_drewN ?_ _ | refine blk_drew ?_ | refine blk_alloc ?_ _)); exact BK101.out)⟩; have n1_ : Aside0 (Below w.heap.size w wc) := ⟨by rw [← hq_]; exact (by repeat (first | (with_reducible first | exact HB.out | apply below_alloc | apply pw_below_drewN | apply below_drew1 | refine below_set ?_ GE101.out) | exact HB.out))⟩; clear BK101 HB hq_; have BK101 := n0_; have HB := n1_; clear n0_ n1_)); have hcz16_0 : wc.cell? ⟨gb101, 0, none⟩ = some (.int .i16 0) := (blk_cell BK101.out 0).trans rfl; have hcz16_1 : wc.cell? ⟨gb101, 1, none⟩ = some (.int .i8 0) := (blk_cell BK101.out 1).trans rfl; have hcz16_2 : wc.cell? ⟨gb101, 2, none⟩ = some (.int .i8 0) := (blk_cell BK101.out 2).trans rfl; have hcz16_3 : wc.cell? ⟨gb101, 3, none⟩ = some (.int .i8 0) := (blk_cell BK101.out 3).trans rfl; have hcz16_4 : wc.cell? ⟨gb101, 4, none⟩ = some (.int .i8 0) := (blk_cell BK101.out 4).trans rfl; have hcz16_5 : wc.cell? ⟨gb101, 5, none⟩ = some (.int .i8 0) := (blk_cell BK101.out 5).trans rfl; have hcz16_6 : wc.cell? ⟨gb101, 6, none⟩ = some (.int .i16 0) := (blk_cell BK101.out 6).trans rfl; have hfz16_0 := blk_frozen BK101.out 0; have hfz16_1 := blk_frozen BK101.out 1; have hfz16_2 := blk_frozen BK101.out 2; have hfz16_3 := blk_frozen BK101.out 3; have hfz16_4 := blk_frozen BK101.out 4; have hfz16_5 := blk_frozen BK101.out 5; have hfz16_6 := blk_frozen BK101.out 6))
                refine bodyPost_ret (results_ct rfl _ _ gb101 30 #[.int .i16 t106, .int .i8 t107, .int .i8 t108, .int .i8 (IntKind.i8.wrap (wrap64 (Int.tdiv (Int.tmod (wrap64 (a0 + (wrap64 ((wrap64 (a1)) * 60)))) 86400) 3600))), .int .i8 (IntKind.i8.wrap (Int.tmod (wrap64 (Int.tdiv (Int.tmod (wrap64 (a0 + (wrap64 ((wrap64 (a1)) * 60)))) 86400) 60)) 60)), .int .i8 (IntKind.i8.wrap (Int.tmod (wrap64 (a0 + (wrap64 ((wrap64 (a1)) * 60)))) 60)), .int .i16 a1] (0, 0) _ rfl (by (with_reducible repeat (first | refine blk_drewN ?_ _ | refine blk_drew ?_ | refine blk_alloc ?_ _)); refine blk_put (cs := #[.int .i16 t106, .int .i8 t107, .int .i8 t108, .int .i8 (IntKind.i8.wrap (wrap64 (Int.tdiv (Int.tmod (wrap64 (a0 + (wrap64 ((wrap64 (a1)) * 60)))) 86400) 3600))), .int .i8 (IntKind.i8.wrap (Int.tmod (wrap64 (Int.tdiv (Int.tmod (wrap64 (a0 + (wrap64 ((wrap64 (a1)) * 60)))) 86400) 60)) 60)), .int .i8 (IntKind.i8.wrap (Int.tmod (wrap64 (a0 + (wrap64 ((wrap64 (a1)) * 60)))) 60)), .int .i16 0]) ?_ 6 _ rfl; (with_reducible repeat (first | refine blk_drewN ?_ _ | refine blk_drew ?_ | refine blk_alloc ?_ _)); refine blk_put (cs := #[.int .i16 t106, .int .i8 t107, .int .i8 t108, .int .i8 (IntKind.i8.wrap (wrap64 (Int.tdiv (Int.tmod (wrap64 (a0 + (wrap64 ((wrap64 (a1)) * 60)))) 86400) 3600))), .int .i8 (IntKind.i8.wrap (Int.tmod (wrap64 (Int.tdiv (Int.tmod (wrap64 (a0 + (wrap64 ((wrap64 (a1)) * 60)))) 86400) 60)) 60)), .int .i8 0, .int .i16 0]) ?_ 5 _ rfl; (with_reducible repeat (first | refine blk_drewN ?_ _ | refine blk_drew ?_ | refine blk_alloc ?_ _)); refine blk_put (cs := #[.int .i16 t106, .int .i8 t107, .int .i8 t108, .int .i8 (IntKind.i8.wrap (wrap64 (Int.tdiv (Int.tmod (wrap64 (a0 + (wrap64 ((wrap64 (a1)) * 60)))) 86400) 3600))), .int .i8 0, .int .i8 0, .int .i16 0]) ?_ 4 _ rfl; (with_reducible repeat (first | refine blk_drewN ?_ _ | refine blk_drew ?_ | refine blk_alloc ?_ _)); refine blk_put (cs := #[.int .i16 t106, .int .i8 t107, .int .i8 t108, .int .i8 0, .int .i8 0, .int .i8 0, .int .i16 0]) ?_ 3 _ rfl; (with_reducible repeat (first | refine blk_drewN ?_ _ | refine blk_drew ?_ | refine blk_alloc ?_ _)); refine blk_put (cs := #[.int .i16 t106, .int .i8 t107, .int .i8 0, .int .i8 0, .int .i8 0, .int .i8 0, .int .i16 0]) ?_ 2 _ rfl; (with_reducible repeat (first | refine blk_drewN ?_ _ | refine blk_drew ?_ | refine blk_alloc ?_ _)); refine blk_put (cs := #[.int .i16 t106, .int .i8 0, .int .i8 0, .int .i8 0, .int .i8 0, .int .i8 0, .int .i16 0]) ?_ 1 _ rfl; (with_reducible repeat (first | refine blk_drewN ?_ _ | refine blk_drew ?_ | refine blk_alloc ?_ _)); refine blk_put (cs := #[.int .i16 0, .int .i8 0, .int .i8 0, .int .i8 0, .int .i8 0, .int .i8 0, .int .i16 0]) ?_ 0 _ rfl; (with_reducible repeat (first | refine blk_drewN ?_ _ | refine blk_drew ?_ | refine blk_alloc ?_ _)); exact BK101.out) Tryd.underlying30 rfl (by kernel_rfl)) rfl ?_
                exact ⟨by first | rfl | (simp [errW_none, errW_some] <;> rfl) | (simp [*, errW_none, errW_some] <;> rfl), by repeat (first | (with_reducible first | exact HB.out | apply below_alloc | apply pw_below_drewN | apply below_drew1 | refine below_set ?_ GE101.out) | exact HB.out)⟩

-- NOT PRINTED: function 12 (posthornlaw06_DateBack)

end Go.Proofs.YtnmhkmkaklhapaaDoor.F
