/- lent and kept of the statements (walked by hand): the same bytes in memory of their own with marks behind them, and whether they still stand. code.Reader (walked by hand): what next and take do, on its cells. code.Reader (walked by hand): take. code.Reader: take, as one step of a plain state. code.New (walked by hand). code.Unbase64 (walked by hand), as a fold of take. code.Reader (walked by hand): Feed and Close. spoil of the statements (walked by hand): of what was there only the answer's own block turns. Rows of bytes of the call's own, and what spoil leaves of them. -/
import Derived.Test.YtokgckhhhhigiaaDoorBase
import Derived.Lib.SlBytesConst
import Derived.Test.YtokgckhhhhigiaaDoorMk
import Derived.Test.YtokgckhhhhigiaaDoorD0
import Derived.Test.YtokgckhhhhigiaaDoorTurn
import Derived.Deep.RegionHeld3
import Derived.Test.YtokgckhhhhigiaaDoorDA
import Derived.WalkSpells
import Derived.Deep.LoopGhost
namespace Go.Proofs.YtokgckhhhhigiaaDoor.Lent
set_option linter.unusedVariables false
set_option linter.unusedSimpArgs false
open Go.RowKit Go.Proofs.YtokgckhhhhigiaaDoorW.PrintWords Go.Proofs.YtokgckhhhhigiaaDoorW.PrintLast Go.Proofs.YtokgckhhhhigiaaDoorW.PrintMore Go.Proofs.YtokgckhhhhigiaaDoor.B Go.Proofs.YtokgckhhhhigiaaDoor.M Go.Proofs.YtokgckhhhhigiaaDoor.D

/-- The bytes, and the marks. -/
def marked (xs : List Int) : List Int := xs ++ List.replicate 70 165

theorem ret_val {a b : Value} (h : a = b) : Ending.returned a = .returned b := by rw [h]

set_option maxHeartbeats 4000000 in
set_option maxRecDepth 100000 in
theorem lent_calls (A0 : Option Addr) (c0 : Nat) (xs : List Int) (w : World) (hr0 : Kd.C (Kd.int .u8) w A0 xs.length xs) (hs : xs.length ≤ 140737488351232) :
    Calls Tryd.prog 11 #[.slice A0 xs.length c0] w fun e w' => ∃ (A : Option Addr) (c : Nat), e = .returned (.slice A xs.length c) ∧ Kd.R (Kd.int .u8) 5 w' w.heap.size (fun _ => True) (.slice A (xs.length + 70) c) (marked (xs)) ∧ Below w.heap.size w w' := by
  have HB := Aside0.mk (Below.refl w.heap.size w)
  have HR0 := Aside0.mk hr0
  clear hr0
  have hji : IntKind.i64.wrap ((xs.length : Int) + 70) = (xs.length : Int) + 70 := by rw [i64_w]; exact wrap_id _ (by omega) (by omega)
  have e0 : ([] : List Int) ++ xs = xs := List.nil_append _
  have E0 := Aside0.mk e0
  clear e0
  go_enter Tryd.func11, Tryd.ntmps11
  go_wp2_with (first
    | ((with_reducible refine gate_dst (N := 7) rfl ?_); refine Kd.R_make_cap (Kd.int .u8) _ 5 rfl (N := 7) rfl 22 _ _ rfl ((xs.length : Int) + 70) rfl rfl Tryd.underlying22 (.int .u8 0) 1 info5 rfl (by decide) (by omega) 0 (ok := fun _ => True) (okp := fun _ => True) rfl (fun _ hk => hk) trivial (by omega) (by omega) (Below.refl _ _) (Nat.le_refl _) ?_; intro v124 w6 ho7 hb hg_ hnew_; clear hg_ hnew_; have n0_ := Aside0.mk (Kd.R_lower ho7 (below_size (by repeat (first | (with_reducible first | exact HB.out | apply below_alloc | apply pw_below_drewN | apply below_drew1) | exact HB.out)))); have n1_ := Aside0.mk (below_step (by repeat (first | (with_reducible first | exact HB.out | apply below_alloc | apply pw_below_drewN | apply below_drew1) | exact HB.out)) hb); clear HB; have HO125 := n0_; have HB := n1_; clear n0_ n1_; clear hb ho7)
    | ((with_reducible refine gate_builtin (b := .append) (xs := #[.tmp 8, .tmp 9]) rfl ?_); at_builtin; refine Kd.R_append_rows (Kd.int .u8) (w0 := w) w.heap.size rfl (.tmp 8) (.tmp 9) 22 5 (.int .u8 0) 1 rfl Tryd.underlying22 info5 rfl (by decide) (by omega) v124 ([] : List Int) xs _ _ _ (fun _ => True) (fun _ => False) rfl rfl ?aO ?aR (fun _ _ h => h) (fun _ h => h.elim) ?aF ?aB ?aS ?aL ?_; (case aR => repeat (first | exact (Kd.C_below HR0.out HB.out) | (with_reducible refine Kd.C_alloc ?_ _) | (with_reducible refine Kd.C_drewN ?_ _) | (with_reducible refine Kd.C_drew ?_))); (case aB => exact (by repeat (first | (with_reducible first | exact HB.out | apply below_alloc | apply pw_below_drewN | apply below_drew1) | exact HB.out))); (case aF => exact (fun _ _ => trivial)); (case aO => exact (by (with_reducible repeat (first | apply Kd.R_alloc | apply Kd.R_drewN | apply Kd.R_drew)); exact HO125.out)); (case aS => exact (below_size (by repeat (first | (with_reducible first | exact HB.out | apply below_alloc | apply pw_below_drewN | apply below_drew1) | exact HB.out)))); (case aL => simp; omega); intro v127 w8 ho hb hg hat; rw [E0.out] at ho; have n0_ := Aside0.mk (hb); have n1_ := Aside0.mk (ho); clear HB; clear HO125; have HB := n0_; have HO128 := n1_; clear n0_ n1_; clear ho hb hg hat))
  go_loopw [3, 11] (fun v3 v11 wr => ∃ j : Nat, v11 = .int .i64 j ∧ j ≤ 70 ∧ Aside0 (Kd.R (Kd.int .u8) 5 wr w.heap.size (fun _ => True) v3 (xs ++ List.replicate j 165)) ∧ Aside0 (Below w.heap.size w wr)) (fun _ v11 _ => 70 - (intOf v11).toNat)
  case atStart => exact ⟨0, rfl, by omega, ⟨by rw [List.replicate_zero, List.append_nil]; exact HO128.out⟩, HB⟩
  case round =>
    try clear HB
    try clear HO128
    obtain ⟨j, rfl, hj, HO_3, HB⟩ := hrel
    by_cases hlt : j < 70
    · have Hl := Aside0.mk (show (xs ++ List.replicate j 165).length < 140737488355328 by rw [List.length_append, List.length_replicate]; omega)
      obtain ⟨y, hy⟩ : ∃ y, y = xs ++ List.replicate j (165 : Int) := ⟨_, rfl⟩
      have hnext : y ++ [165] = xs ++ List.replicate (j + 1) 165 := by rw [hy, List.replicate_succ', List.append_assoc]
      rw [← hy] at HO_3 Hl
      have HN := Aside0.mk hnext
      clear hnext hy
      go_wp2_with (first | ((with_reducible refine gate_builtin (b := .append) (xs := #[.tmp 13, .tmp 14]) rfl ?_); at_builtin; refine Kd.R_append (Kd.int .u8) (w0 := w) w.heap.size rfl (.tmp 13) (.tmp 14) 22 5 (.int .u8 0) 1 rfl Tryd.underlying22 info5 rfl (by decide) (by omega) u3 y 165 [.int .u8 165] (fun _ => True) (fun _ => False) rfl rfl ?aP (fun _ hk => hk.elim) ?aF ?aO ?aB ?aS ?aL ?_; (case aP => exact rfl); (case aB => exact (by repeat (first | (with_reducible first | exact HB.out | apply below_alloc | apply pw_below_drewN | apply below_drew1) | exact HB.out))); (case aF => exact (fun _ _ => trivial)); (case aO => exact (by (with_reducible repeat (first | apply Kd.R_alloc | apply Kd.R_drewN | apply Kd.R_drew)); exact HO_3.out)); (case aS => exact (below_size (by repeat (first | (with_reducible first | exact HB.out | apply below_alloc | apply pw_below_drewN | apply below_drew1) | exact HB.out)))); (case aL => have := Hl.out; omega); intro v130 w11 ho hb hg hat; have n0_ := Aside0.mk (hb); have n1_ := Aside0.mk (ho); clear HB; clear HO_3; have HB := n0_; have HO131 := n1_; clear n0_ n1_; clear ho hb hg hat))
      go_roundw
      case rel => exact ⟨j + 1, by go_num, by omega, ⟨by rw [← HN.out]; exact HO131.out⟩, HB⟩
      case measure => simp [intOf]; omega
    · obtain rfl : j = 70 := by omega
      clear hlt
      obtain ⟨Ao14, co14, eo14⟩ := Kd.R_slice HO_3.out
      have hl : (xs ++ List.replicate 70 (165 : Int)).length = xs.length + 70 := by rw [List.length_append, List.length_replicate]
      rw [hl] at eo14
      subst eo14
      obtain ⟨i015, hi015, _, hsz15, _⟩ := info_parts info5
      have hcap := (Kd.R_reads' HO_3.out).2.1
      have hcut15 := cut_to (P := Tryd.prog) 22 5 .i64 Tryd.underlying22 hi015 Ao14 (xs.length + 70) co14 (xs.length : Int) (by omega) (by omega) hcap
      rw [Int.toNat_natCast] at hcut15
      clear hi015 hsz15 hcap hl
      go_wp2
      go_ret
      exact ⟨Ao14, co14, rfl, HO_3.out, HB.out⟩

set_option maxHeartbeats 4000000 in
set_option maxRecDepth 100000 in
theorem kept_calls (xs : List Int) (A B : Option Addr) (c d : Nat) (w : World) (hs : xs.length ≤ 140737488351232) (hc : xs.length + 70 ≤ c) (hr : (Kd.int .u8).C w A (xs.length + 70) (marked xs)) (hw : (Kd.int .u8).C w B xs.length xs) :
    Calls Tryd.prog 14 #[.slice A xs.length c, .slice B xs.length d] w fun e w' => e = .returned (.bool true) ∧ Drawn0 w w' := by
  have hpre : (Kd.int .u8).C w A xs.length (xs) := by
    refine Kd.C_of_reads (d := (0 : Int)) (h1 := fun _ => rfl) ?_
    have h2 := ReadsInt.take_ (Kd.reads_of_C (d := (0 : Int)) (h1 := fun _ => rfl) hr) xs.length (by omega)
    unfold marked at h2
    rwa [List.take_left' rfl] at h2
  have hcv := Kd.C_string (P := Tryd.prog) (A := A) (c := c) Tryd.underlying22 Tryd.underlying5 Tryd.underlying9 hpre
  have hcw := Kd.C_string (P := Tryd.prog) (A := B) (c := d) Tryd.underlying22 Tryd.underlying5 Tryd.underlying9 hw
  have hr2 : ReadsInt w .u8 A (xs.length + 70) (marked (xs)) := Kd.reads_of_C (d := (0 : Int)) (h1 := fun _ => rfl) hr
  obtain ⟨ad, rfl, hcell⟩ := hr2.2.2 (by omega)
  have hmark : ∀ j, xs.length ≤ j → j < xs.length + 70 → w.cell? (ad.add j) = some (.int .u8 165) := by
    intro j h1 h2
    rw [hcell j h2]
    have hl : xs.length = xs.length := rfl
    unfold marked
    rw [List.getD_eq_getElem?_getD, List.getElem?_append_right (by omega), List.getElem?_replicate, if_pos (by omega)]
    rfl
  have Hmark := Aside0.mk hmark
  have hji : IntKind.i64.wrap ((xs.length : Int) + 70) = (xs.length : Int) + 70 := by rw [i64_w]; exact wrap_id _ (by omega) (by omega)
  obtain ⟨i015, hi015, _, hsz15, _⟩ := info_parts info5
  have hcut : ∀ W : World, (Instr.slice 22 (.slice (some ad) xs.length c) none (some (.int .i64 ((xs.length : Int) + 70))) none).run Tryd.prog W = .ok (.slice (some ad) (xs.length + 70) c) W := by
    intro W
    have hel : Tryd.prog.elem 22 = 5 := by kernel_rfl
    have hu : Tryd.prog.underlying 22 = some (.slice (Tryd.prog.elem 22)) := by rw [hel]; exact Tryd.underlying22
    have hsz : (sizeOf 5).run Tryd.prog W = .ok 1 W := by kernel_rfl
    rw [run_slice_h W 22 (some ad) xs.length c hu .i64 ((xs.length : Int) + 70) (by omega) (by omega), hel, hsz]
    simp only [Result.andThen, sliced]
    rw [show ((xs.length : Int) + 70).toNat = xs.length + 70 from by omega]
    simp [Addr.add]
  clear hcell hr2 hr hpre hmark hi015 hsz15
  go_enter Tryd.func14, Tryd.ntmps14
  go_wp2
  repeat (go_quiet (fail); try go_wp2)
  go_loopw [6] (fun v6 wr => ∃ j : Nat, v6 = .int .i64 j ∧ xs.length ≤ j ∧ j ≤ xs.length + 70 ∧ Drawn0 w wr) (fun v6 _ => xs.length + 70 - (intOf v6).toNat)
  case atStart => exact ⟨xs.length, rfl, Nat.le_refl _, by omega, by repeat (first | exact Drawn0.refl _ | apply Drawn0.step)⟩
  case round =>
    obtain ⟨j, rfl, h1, h2, ⟨m, rfl⟩⟩ := hrel
    by_cases hlt : j < xs.length + 70
    · have hx : w.cell? (ad.add j) = some (.int .u8 165) := Hmark.out j h1 hlt
      go_wp2
      repeat (go_quiet (fail); try go_wp2)
      go_roundw
      case rel => exact ⟨j + 1, by go_num, by omega, by omega, by repeat (first | exact Drawn0.refl _ | apply Drawn0.step)⟩
      case measure => simp [intOf]; omega
    · obtain rfl : j = xs.length + 70 := by omega
      go_wp2
      repeat (go_quiet (fail); try go_wp2)
      go_ret
      exact ⟨rfl, by repeat (first | exact Drawn0.refl _ | apply Drawn0.step)⟩

theorem C_front {w : World} {A : Option Addr} {xs : List Int} (h : (Kd.int .u8).C w A (xs.length + 70) (marked xs)) : (Kd.int .u8).C w A xs.length xs := by
  refine Kd.C_of_reads (d := (0 : Int)) (h1 := fun _ => rfl) ?_
  have h2 := ReadsInt.take_ (Kd.reads_of_C (d := (0 : Int)) (h1 := fun _ => rfl) h) xs.length (by omega)
  unfold marked at h2
  rwa [List.take_left' rfl] at h2
theorem marked_len (xs : List Int) : (marked xs).length = xs.length + 70 := by unfold marked; rw [List.length_append, List.length_replicate]
theorem R_C {w : World} {base c : Nat} {A : Option Addr} {xs : List Int} (h : Kd.R (Kd.int .u8) 5 w base (fun _ => True) (.slice A (xs.length + 70) c) (marked xs)) : (Kd.int .u8).C w A (xs.length + 70) (marked xs) ∧ xs.length + 70 ≤ c := by
  have h2 := Kd.R_reads' h
  refine ⟨?_, h2.2.1⟩
  have := h2.2.2
  rwa [marked_len] at this
theorem V_true {w : World} {base : Nat} {A : Option Addr} {c : Nat} {xs : List Int} (hl : xs.length ≤ c) (h : (Kd.int .u8).C w A xs.length xs) : Kd.V (Kd.int .u8) 5 w base (fun _ => True) (.slice A xs.length c) xs :=
  Kd.V_mk hl fun _ hW => Kd.C_F (Kd.heap_int .u8) h _ fun k hk hlt => hW k trivial hlt
/-- A row of bytes that lies in a block as a whole. -/
theorem C_lit {w : World} {g : Nat} {t : TypeId} {xs : List Int} {cs : Array Value} {fr : Nat × Nat} (h : w.heap[g]? = some (.cells cs t fr)) (hs : xs.length ≤ 9223372036854775807) (hcs : cs.toList = nums .u8 xs) : (Kd.int .u8).C w (some ⟨g, 0, none⟩) xs.length xs := by
  refine Kd.C_of_reads (d := (0 : Int)) (h1 := fun _ => rfl) ⟨rfl, hs, fun _ => ⟨_, rfl, fun j hj => ?_⟩⟩
  have ha : (⟨g, 0, none⟩ : Addr).add j = ⟨g, j, none⟩ := by unfold Addr.add; split <;> simp_all
  rw [ha, cell_of_row w g j cs t fr h]
  rw [← Array.getElem?_toList, hcs]
  simp [nums, List.getD_eq_getElem?_getD, List.getElem?_eq_getElem hj]
end Go.Proofs.YtokgckhhhhigiaaDoor.Lent
namespace Go.Proofs.YtokgckhhhhigiaaDoor.Rd
set_option linter.unusedVariables false
set_option linter.unusedSimpArgs false
open Go.RowKit Go.Proofs.YtokgckhhhhigiaaDoorW.PrintWords Go.Proofs.YtokgckhhhhigiaaDoorW.PrintLast Go.Proofs.YtokgckhhhhigiaaDoorW.PrintMore Go.Proofs.YtokgckhhhhigiaaDoor.B Go.Proofs.YtokgckhhhhigiaaDoor.M Go.Proofs.YtokgckhhhhigiaaDoor.D

/-- The Reader's cells. -/
def cellsR (m : Bool) (a b c d : Int) (n : Int) (o : Bool) (e : Int) : Array Value := #[.bool m, .int .u8 a, .int .u8 b, .int .u8 c, .int .u8 d, .int .i64 n, .bool o, .int .i64 e]
/-- Whether the text goes on with a letter that is v: 0, or the error. -/
def nextV (a b c : Int) (n : Nat) (o : Bool) (v : Int) : Int :=
  if v = 65 then 40 else if o = true then 41 else if n = 3 ∧ c = 64 then (if v ≠ 64 then 41 else 0) else if v ≠ 64 then 0
  else if n < 2 ∨ (n = 2 ∧ Go.bits .and .u8 b 15 ≠ 0) ∨ (n = 3 ∧ Go.bits .and .u8 c 3 ≠ 0) then 41 else 0

set_option maxHeartbeats 8000000 in
set_option maxRecDepth 100000 in
theorem next_calls (g : Nat) (m : Bool) (a b c d : Int) (n : Nat) (hn : n ≤ 3) (o : Bool) (er v : Int) (w : World) (hk : w.heap[g]? = some (.cells (cellsR m a b c d n o er) 57 (0, 0))) :
    Calls Tryd.prog 44 #[.pointer (some ⟨g, 0, none⟩), .int .u8 v] w fun e w' => e = .returned (.int .i64 (nextV a b c n o v)) ∧ Drawn0 w w' := by
  have h0 := blk_cell hk 0
  have h1 := blk_cell hk 1
  have h2 := blk_cell hk 2
  have h3 := blk_cell hk 3
  have h4 := blk_cell hk 4
  have h5 := blk_cell hk 5
  have h6 := blk_cell hk 6
  simp only [cellsR] at h0 h1 h2 h3 h4 h5 h6
  have hn0 : (0 : Int) ≤ (n : Int) := by omega
  have hn4 : (n : Int) ≤ 4 := by omega
  go_enter Tryd.func44, Tryd.ntmps44
  go_wp2
  go_region_held3 (fun w' => w'.cell? ⟨g, 5, none⟩ = some (.int .i64 (n : Int))) (go_keep) (fail)
  all_goals go_wp2
  all_goals go_ret
  all_goals refine ⟨?_, Drawn0.step (Drawn0.refl _) 1⟩
  all_goals refine congrArg (fun z => Ending.returned (Value.int .i64 z)) ?_
  all_goals unfold nextV
  all_goals first | (simp_all; done) | (simp_all; omega) | trace_state
end Go.Proofs.YtokgckhhhhigiaaDoor.Rd
namespace Go.Proofs.YtokgckhhhhigiaaDoor.Rd
set_option linter.unusedVariables false
set_option linter.unusedSimpArgs false
open Go.RowKit Go.Proofs.YtokgckhhhhigiaaDoorW.PrintWords Go.Proofs.YtokgckhhhhigiaaDoorW.PrintLast Go.Proofs.YtokgckhhhhigiaaDoorW.PrintMore Go.Proofs.YtokgckhhhhigiaaDoor.B Go.Proofs.YtokgckhhhhigiaaDoor.M Go.Proofs.YtokgckhhhhigiaaDoor.D Go.Proofs.YtokgckhhhhigiaaDoor.Turn

def b1 (a b : Int) : Int := Go.bits .or .u8 (a * 4 % 256) (b / 16)
def b2 (b c : Int) : Int := Go.bits .or .u8 (b * 16 % 256) (c / 4)
def b3 (c d : Int) : Int := Go.bits .or .u8 (c * 64 % 256) d
/-- The bytes of a whole group. -/
def fourB (a b c d : Int) : List Int := if c = 64 then [b1 a b] else if d = 64 then [b1 a b, b2 b c] else [b1 a b, b2 b c, b3 c d]
/-- What take leaves: the Reader's cells, the row that it tells, and all else as it was. -/
structure Took (g : Nat) (cs : Array Value) (v0 v1 : Value) (ys : List Int) (base : Nat) (w w' : World) : Prop where
  cells : w'.heap[g]? = some (.cells cs 57 (0, 0))
  row : w'.ownsRow base 5 1 v1 ys.length (nums .u8 ys)
  below : Below base w w'
  keep : KeepBut w w' g v0.ownBlock
  near : v1.ownBlock = v0.ownBlock ∨ ∀ q, v1.ownBlock = some q → w.heap.size ≤ q
theorem row_ne {w : World} {base g n : Nat} {v0 : Value} {xs : List Value} {cs : Array Value} (ho : w.ownsRow base 5 1 v0 n xs) (hk : w.heap[g]? = some (.cells cs 57 (0, 0))) : some g ≠ v0.ownBlock := by
  intro hq
  obtain ⟨cs', hcs⟩ := own_typed ho g hq.symm
  rw [hcs] at hk
  injection hk with hk
  injection hk with _ h3
  exact absurd h3 (by decide)
theorem Below.more {base : Nat} {w w' : World} (h : Below base w w') : w.heap.size ≤ w'.heap.size := h.size
theorem own_none {w : World} {base : Nat} {e : TypeId} {n : Nat} {v : Value} {xs : List Value} (h : w.ownsRow base e 1 v n xs) : ∀ k, v.ownBlock = some k → base ≤ k ∧ k < w.heap.size := World.ownsRow.lt h
theorem news_top {n : Nat} {xs : List Int} (W : World) (cs : Array Value) (t : TypeId) (q : Nat) (hq : q = W.heap.size) (hn : (nums .u8 xs).length = n) (hcs : cs.toList.take n = nums .u8 xs) : ∀ j u, (nums .u8 xs)[j]? = some u → (W.alloc (.cells cs t)).cell? ((⟨q, 0, none⟩ : Addr).add j) = some u := by
  subst hq
  intro j u hu
  have ha : (⟨W.heap.size, 0, none⟩ : Addr).add j = ⟨W.heap.size, j, none⟩ := by unfold Addr.add; split <;> simp_all
  rw [ha, blk_cell (blk_new W _) j, ← Array.getElem?_toList]
  rw [← hcs, List.getElem?_take] at hu
  split at hu
  · exact hu
  · cases hu
/-- The stores and the two blocks of a whole group, then the append. -/
theorem Took.four {g : Nat} {m o' : Bool} {a b c d : Int} {o : Bool} {er : Int} {v0 v1 : Value} {xs news : List Int} {base : Nat} {w w1 w' : World} {o1 o2 : Obj}
    (hk : w1.heap[g]? = some (.cells (cellsR m a b c d 3 o er) 57 (0, 0))) (ho : w1.ownsRow base 5 1 v0 xs.length (nums .u8 xs)) (hg : base ≤ g) (hb : Below base w w1) (hkeep : KeepBut w w1 g v0.ownBlock) (hbase : base ≤ w.heap.size)
    (hgr : (((((w1.setCell ⟨g, 5, none⟩ (.int .i64 4)).setCell ⟨g, 5, none⟩ (.int .i64 0)).setCell ⟨g, 6, none⟩ (.bool o')).alloc o1).alloc o2).grownBy w' v0.ownBlock)
    (hr : w'.ownsRow base 5 1 v1 (xs.length + (nums .u8 news).length) (nums .u8 xs ++ nums .u8 news))
    (hat : v1.ownBlock = v0.ownBlock ∨ ∀ k, v1.ownBlock = some k → (((((w1.setCell ⟨g, 5, none⟩ (.int .i64 4)).setCell ⟨g, 5, none⟩ (.int .i64 0)).setCell ⟨g, 6, none⟩ (.bool o')).alloc o1).alloc o2).heap.size ≤ k) :
    Took g (cellsR m a b c d 0 o' er) v0 v1 (xs ++ news) base w w' := by
  have hne := row_ne ho hk
  have k1 := blk_put (cs' := cellsR m a b c d 4 o er) hk 5 (.int .i64 4) rfl
  have k2 := blk_put (cs' := cellsR m a b c d 0 o er) k1 5 (.int .i64 0) rfl
  have k3 := blk_put (cs' := cellsR m a b c d 0 o' er) k2 6 (.bool o') rfl
  have k4 := blk_alloc (blk_alloc k3 o1) o2
  have hsz : (((((w1.setCell ⟨g, 5, none⟩ (.int .i64 4)).setCell ⟨g, 5, none⟩ (.int .i64 0)).setCell ⟨g, 6, none⟩ (.bool o')).alloc o1).alloc o2).heap.size = w1.heap.size + 2 := by simp [World.setCell]
  have hbs : base ≤ w1.heap.size := Nat.le_trans hbase hb.size
  have hB3 := ((hb.setCell (p := ⟨g, 5, none⟩) hg (.int .i64 4)).setCell (p := ⟨g, 5, none⟩) hg (.int .i64 0)).setCell (p := ⟨g, 6, none⟩) hg (.bool o')
  have hB4 := hB3.alloc (by simp [World.setCell]; exact hbs) o1
  have hB5 := hB4.alloc (by simp [World.setCell]; omega) o2
  refine ⟨blk_grown k4 hgr hne, ?_, hB5.grown hgr (by rw [hsz]; omega) (fun k hk' => (own_none ho k hk').1), ?_, ?_⟩
  · have hn : nums .u8 xs ++ nums .u8 news = nums .u8 (xs ++ news) := by simp [nums]
    rw [hn] at hr
    have hl : xs.length + (nums .u8 news).length = (xs ++ news).length := by simp [nums]
    rwa [hl] at hr
  · refine ⟨Nat.le_trans hb.size (Nat.le_trans (by rw [hsz]; omega) hgr.size), fun i hi h1 h2 => ?_⟩
    have hi1 : i < w1.heap.size := Nat.lt_of_lt_of_le hi hb.size
    rw [hgr.block i (by rw [hsz]; omega) h2, Below.heap_alloc _ _ _ (by simp [World.setCell]; omega), Below.heap_alloc _ _ _ (by simp [World.setCell]; omega), Below.heap_setCell _ _ _ _ h1, Below.heap_setCell _ _ _ _ h1, Below.heap_setCell _ _ _ _ h1]
    exact hkeep.2 i hi h1 h2
  · rcases hat with hat | hat
    · exact .inl hat
    · refine .inr fun q hq => ?_
      have := hat q hq
      rw [hsz] at this
      have := hb.size
      omega

set_option maxHeartbeats 8000000 in
set_option maxRecDepth 100000 in
theorem take_one (k : Nat) (g : Nat) (m : Bool) (a b c d : Int) (o : Bool) (er ch v : Int) (hv : code_value.f k ch = some v) (hnx : nextV a b c 3 o v = 0) (hc : c = 64) (hd : v = 64) (v0 : Value) (xs : List Int) (base : Nat) (w : World) (hg : base ≤ g) (hbase : base ≤ w.heap.size)
    (hk : w.heap[g]? = some (.cells (cellsR m a b c d 3 o er) 57 (0, 0))) (ho : w.ownsRow base 5 1 v0 xs.length (nums .u8 xs)) (hl : xs.length + 3 < 140737488355328) :
    Calls Tryd.prog 34 #[.pointer (some ⟨g, 0, none⟩), v0, .int .u8 ch] w fun e w' => ∃ v1, e = .returned (.tuple #[v1, .int .i64 0]) ∧ Took g (cellsR m a b c v 0 true er) v0 v1 (xs ++ [b1 a b]) base w w' := by
  have A1 := Aside0.mk hv
  have HO := Aside0.mk ho
  have HK := Aside0.mk hk
  have hgl := blk_lt hk
  have HCC := Aside0.mk hc
  have HDD := Aside0.mk hd
  clear hv ho hk hc hd
  go_enter Tryd.func34, Tryd.ntmps34
  go_wp2_with (first
    | ((with_reducible refine gate_callee (f := 43) rfl ?_); refine goesL_ (some 14) rfl rfl Tryd.func43 (by kernel_rfl) rfl #[.int .u8 ch] rfl (by (try simp only [List.map_toArray, List.map_cons, List.map_nil]); first | done | rfl | (simp only [List.length_drop, List.length_take]; rfl)) ?_; (with_reducible refine (code_value.calls k ch v _ A1.out).mono ?_); rintro e1 w1 ⟨rfl, ⟨nd, rfl⟩⟩; refine ⟨_, rfl, ?_⟩; skip)
    | ((with_reducible refine gate_callee (f := 44) rfl ?_); refine goesL_ (some 17) rfl rfl Tryd.func44 (by kernel_rfl) rfl #[.pointer (some ⟨g, 0, none⟩), .int .u8 v] rfl (by (try simp only [List.map_toArray, List.map_cons, List.map_nil]); first | done | rfl | (simp only [List.length_drop, List.length_take]; rfl)) ?_; (with_reducible refine (next_calls g m a b c d 3 (by omega) o er v _ HK.out).mono ?_); rintro e2 w2 ⟨rfl, ⟨nd2, rfl⟩⟩; refine ⟨_, rfl, ?_⟩; rw [hnx]))
  have h4 : w.cell? ⟨g, 4, none⟩ = some (.int .u8 d) := blk_cell HK.out 4
  have h5 : w.cell? ⟨g, 5, none⟩ = some (.int .i64 3) := blk_cell HK.out 5
  have hf4 := blk_frozen HK.out 4
  go_region_held3 (fun w' => w'.cell? ⟨g, 5, none⟩ = some (.int .i64 3)) (first | go_keep | (exact (World.cell?_setCell_other _ _ _ _ (by simp)).trans h5)) (fail)
  have hb0 : Below base w (w.drewN (nd + nd2 + 1)) := ⟨rfl, rfl, rfl, Nat.le_refl _, fun _ _ => rfl⟩
  have hb1 := hb0.setCell (p := ⟨g, 4, none⟩) hg (.int .u8 v)
  have hkb : KeepBut w ((w.drewN (nd + nd2 + 1)).setCell ⟨g, 4, none⟩ (.int .u8 v)) g v0.ownBlock := ⟨hb1.size, fun i hi h1 _ => Below.heap_setCell _ _ _ _ h1⟩
  have HK1 : ((w.drewN (nd + nd2 + 1)).setCell ⟨g, 4, none⟩ (.int .u8 v)).heap[g]? = some (.cells (cellsR m a b c v 3 o er) 57 (0, 0)) := blk_put (cs := cellsR m a b c d 3 o er) HK.out 4 _ rfl
  have HO1 : ((w.drewN (nd + nd2 + 1)).setCell ⟨g, 4, none⟩ (.int .u8 v)).ownsRow base 5 1 v0 xs.length (nums .u8 xs) := own_move HO.out (fun q hq => Below.heap_setCell _ _ _ _ (by rintro rfl; exact row_ne HO.out HK.out hq.symm))
  generalize hw1 : ((w.drewN (nd + nd2 + 1)).setCell ⟨g, 4, none⟩ (.int .u8 v)) = w1 at hb1 HK1 HO1 hkb ⊢
  clear hw1 hb0 h4 h5 hf4
  have hgl1 := blk_lt HK1
  have hc1 : w1.cell? ⟨g, 1, none⟩ = some (.int .u8 a) := blk_cell HK1 1
  have hc2 : w1.cell? ⟨g, 2, none⟩ = some (.int .u8 b) := blk_cell HK1 2
  have hc3 : w1.cell? ⟨g, 3, none⟩ = some (.int .u8 c) := blk_cell HK1 3
  have hc4 : w1.cell? ⟨g, 4, none⟩ = some (.int .u8 v) := blk_cell HK1 4
  have hc5 : w1.cell? ⟨g, 5, none⟩ = some (.int .i64 3) := blk_cell HK1 5
  have hc6 : w1.cell? ⟨g, 6, none⟩ = some (.bool o) := blk_cell HK1 6
  have hf5 := blk_frozen HK1 5
  have hf6 := blk_frozen HK1 6
  have hne : g ≠ w1.heap.size := by omega
  have hne' : g ≠ w1.heap.size + 1 := by omega
  have HKK := Aside0.mk HK1
  have HOO := Aside0.mk HO1
  have HBB := Aside0.mk hb1
  have HKB := Aside0.mk hkb
  clear HK1 HO1 hb1 hkb HO HK
  have hc := HCC.out
  have hd := HDD.out
  go_wp2_with ((with_reducible refine gate_builtin (b := .append) (xs := #[.tmp 90, .tmp 92]) rfl ?_); at_builtin; refine turn_append_row base rfl (.tmp 90) (.tmp 92) 22 5 (.int .u8 0) 1 rfl Tryd.underlying22 info5 rfl (by decide) v0 xs.length (nums .u8 xs) ⟨w1.heap.size + 1, 0, none⟩ 1 3 (nums .u8 [b1 a b]) rfl rfl rfl ?news ?one ?own ?bas ?len ?_; (case news => exact news_top (n := 1) (xs := [b1 a b]) _ _ _ _ (by simp [World.setCell]) rfl rfl); (case one => intro u hu; obtain ⟨x, _, rfl⟩ := List.mem_map.1 hu; rfl); (case own => exact own_alloc (own_alloc (own_move HOO.out (fun q hq => by have hx := row_ne HOO.out HKK.out; rw [Below.heap_setCell _ _ _ _ (by rintro rfl; exact hx hq.symm), Below.heap_setCell _ _ _ _ (by rintro rfl; exact hx hq.symm), Below.heap_setCell _ _ _ _ (by rintro rfl; exact hx hq.symm)])) _) _); (case bas => have := HBB.out.size; simp [World.setCell]; omega); (case len => omega); intro v1 w' ho1 hgr hrows hat; have HT := Aside0.mk (Took.four HKK.out HOO.out hg HBB.out HKB.out hbase hgr ho1 hat); clear ho1 hgr hrows hat)
  go_ret2
  exact ⟨v1, rfl, HT.out⟩

set_option maxHeartbeats 8000000 in
set_option maxRecDepth 100000 in
theorem take_two (k : Nat) (g : Nat) (m : Bool) (a b c d : Int) (o : Bool) (er ch v : Int) (hv : code_value.f k ch = some v) (hnx : nextV a b c 3 o v = 0) (hc : c ≠ 64) (hd : v = 64) (v0 : Value) (xs : List Int) (base : Nat) (w : World) (hg : base ≤ g) (hbase : base ≤ w.heap.size)
    (hk : w.heap[g]? = some (.cells (cellsR m a b c d 3 o er) 57 (0, 0))) (ho : w.ownsRow base 5 1 v0 xs.length (nums .u8 xs)) (hl : xs.length + 3 < 140737488355328) :
    Calls Tryd.prog 34 #[.pointer (some ⟨g, 0, none⟩), v0, .int .u8 ch] w fun e w' => ∃ v1, e = .returned (.tuple #[v1, .int .i64 0]) ∧ Took g (cellsR m a b c v 0 true er) v0 v1 (xs ++ [b1 a b, b2 b c]) base w w' := by
  have A1 := Aside0.mk hv
  have HO := Aside0.mk ho
  have HK := Aside0.mk hk
  have hgl := blk_lt hk
  have HCC := Aside0.mk hc
  have HDD := Aside0.mk hd
  clear hv ho hk hc hd
  go_enter Tryd.func34, Tryd.ntmps34
  go_wp2_with (first
    | ((with_reducible refine gate_callee (f := 43) rfl ?_); refine goesL_ (some 14) rfl rfl Tryd.func43 (by kernel_rfl) rfl #[.int .u8 ch] rfl (by (try simp only [List.map_toArray, List.map_cons, List.map_nil]); first | done | rfl | (simp only [List.length_drop, List.length_take]; rfl)) ?_; (with_reducible refine (code_value.calls k ch v _ A1.out).mono ?_); rintro e1 w1 ⟨rfl, ⟨nd, rfl⟩⟩; refine ⟨_, rfl, ?_⟩; skip)
    | ((with_reducible refine gate_callee (f := 44) rfl ?_); refine goesL_ (some 17) rfl rfl Tryd.func44 (by kernel_rfl) rfl #[.pointer (some ⟨g, 0, none⟩), .int .u8 v] rfl (by (try simp only [List.map_toArray, List.map_cons, List.map_nil]); first | done | rfl | (simp only [List.length_drop, List.length_take]; rfl)) ?_; (with_reducible refine (next_calls g m a b c d 3 (by omega) o er v _ HK.out).mono ?_); rintro e2 w2 ⟨rfl, ⟨nd2, rfl⟩⟩; refine ⟨_, rfl, ?_⟩; rw [hnx]))
  have h4 : w.cell? ⟨g, 4, none⟩ = some (.int .u8 d) := blk_cell HK.out 4
  have h5 : w.cell? ⟨g, 5, none⟩ = some (.int .i64 3) := blk_cell HK.out 5
  have hf4 := blk_frozen HK.out 4
  go_region_held3 (fun w' => w'.cell? ⟨g, 5, none⟩ = some (.int .i64 3)) (first | go_keep | (exact (World.cell?_setCell_other _ _ _ _ (by simp)).trans h5)) (fail)
  have hb0 : Below base w (w.drewN (nd + nd2 + 1)) := ⟨rfl, rfl, rfl, Nat.le_refl _, fun _ _ => rfl⟩
  have hb1 := hb0.setCell (p := ⟨g, 4, none⟩) hg (.int .u8 v)
  have hkb : KeepBut w ((w.drewN (nd + nd2 + 1)).setCell ⟨g, 4, none⟩ (.int .u8 v)) g v0.ownBlock := ⟨hb1.size, fun i hi h1 _ => Below.heap_setCell _ _ _ _ h1⟩
  have HK1 : ((w.drewN (nd + nd2 + 1)).setCell ⟨g, 4, none⟩ (.int .u8 v)).heap[g]? = some (.cells (cellsR m a b c v 3 o er) 57 (0, 0)) := blk_put (cs := cellsR m a b c d 3 o er) HK.out 4 _ rfl
  have HO1 : ((w.drewN (nd + nd2 + 1)).setCell ⟨g, 4, none⟩ (.int .u8 v)).ownsRow base 5 1 v0 xs.length (nums .u8 xs) := own_move HO.out (fun q hq => Below.heap_setCell _ _ _ _ (by rintro rfl; exact row_ne HO.out HK.out hq.symm))
  generalize hw1 : ((w.drewN (nd + nd2 + 1)).setCell ⟨g, 4, none⟩ (.int .u8 v)) = w1 at hb1 HK1 HO1 hkb ⊢
  clear hw1 hb0 h4 h5 hf4
  have hgl1 := blk_lt HK1
  have hc1 : w1.cell? ⟨g, 1, none⟩ = some (.int .u8 a) := blk_cell HK1 1
  have hc2 : w1.cell? ⟨g, 2, none⟩ = some (.int .u8 b) := blk_cell HK1 2
  have hc3 : w1.cell? ⟨g, 3, none⟩ = some (.int .u8 c) := blk_cell HK1 3
  have hc4 : w1.cell? ⟨g, 4, none⟩ = some (.int .u8 v) := blk_cell HK1 4
  have hc5 : w1.cell? ⟨g, 5, none⟩ = some (.int .i64 3) := blk_cell HK1 5
  have hc6 : w1.cell? ⟨g, 6, none⟩ = some (.bool o) := blk_cell HK1 6
  have hf5 := blk_frozen HK1 5
  have hf6 := blk_frozen HK1 6
  have hne : g ≠ w1.heap.size := by omega
  have hne' : g ≠ w1.heap.size + 1 := by omega
  have HKK := Aside0.mk HK1
  have HOO := Aside0.mk HO1
  have HBB := Aside0.mk hb1
  have HKB := Aside0.mk hkb
  clear HK1 HO1 hb1 hkb HO HK
  have hc := HCC.out
  have hd := HDD.out
  go_wp2_with ((with_reducible refine gate_builtin (b := .append) (xs := #[.tmp 90, .tmp 92]) rfl ?_); at_builtin; refine turn_append_row base rfl (.tmp 90) (.tmp 92) 22 5 (.int .u8 0) 1 rfl Tryd.underlying22 info5 rfl (by decide) v0 xs.length (nums .u8 xs) ⟨w1.heap.size + 1, 0, none⟩ 2 3 (nums .u8 [b1 a b, b2 b c]) rfl rfl rfl ?news ?one ?own ?bas ?len ?_; (case news => exact news_top (n := 2) (xs := [b1 a b, b2 b c]) _ _ _ _ (by simp [World.setCell]) rfl rfl); (case one => intro u hu; obtain ⟨x, _, rfl⟩ := List.mem_map.1 hu; rfl); (case own => exact own_alloc (own_alloc (own_move HOO.out (fun q hq => by have hx := row_ne HOO.out HKK.out; rw [Below.heap_setCell _ _ _ _ (by rintro rfl; exact hx hq.symm), Below.heap_setCell _ _ _ _ (by rintro rfl; exact hx hq.symm), Below.heap_setCell _ _ _ _ (by rintro rfl; exact hx hq.symm)])) _) _); (case bas => have := HBB.out.size; simp [World.setCell]; omega); (case len => omega); intro v1 w' ho1 hgr hrows hat; have HT := Aside0.mk (Took.four HKK.out HOO.out hg HBB.out HKB.out hbase hgr ho1 hat); clear ho1 hgr hrows hat)
  go_ret2
  exact ⟨v1, rfl, HT.out⟩

set_option maxHeartbeats 8000000 in
set_option maxRecDepth 100000 in
theorem take_three (k : Nat) (g : Nat) (m : Bool) (a b c d : Int) (o : Bool) (er ch v : Int) (hv : code_value.f k ch = some v) (hnx : nextV a b c 3 o v = 0) (hc : c ≠ 64) (hd : v ≠ 64) (v0 : Value) (xs : List Int) (base : Nat) (w : World) (hg : base ≤ g) (hbase : base ≤ w.heap.size)
    (hk : w.heap[g]? = some (.cells (cellsR m a b c d 3 o er) 57 (0, 0))) (ho : w.ownsRow base 5 1 v0 xs.length (nums .u8 xs)) (hl : xs.length + 3 < 140737488355328) :
    Calls Tryd.prog 34 #[.pointer (some ⟨g, 0, none⟩), v0, .int .u8 ch] w fun e w' => ∃ v1, e = .returned (.tuple #[v1, .int .i64 0]) ∧ Took g (cellsR m a b c v 0 false er) v0 v1 (xs ++ [b1 a b, b2 b c, b3 c v]) base w w' := by
  have A1 := Aside0.mk hv
  have HO := Aside0.mk ho
  have HK := Aside0.mk hk
  have hgl := blk_lt hk
  have HCC := Aside0.mk hc
  have HDD := Aside0.mk hd
  clear hv ho hk hc hd
  go_enter Tryd.func34, Tryd.ntmps34
  go_wp2_with (first
    | ((with_reducible refine gate_callee (f := 43) rfl ?_); refine goesL_ (some 14) rfl rfl Tryd.func43 (by kernel_rfl) rfl #[.int .u8 ch] rfl (by (try simp only [List.map_toArray, List.map_cons, List.map_nil]); first | done | rfl | (simp only [List.length_drop, List.length_take]; rfl)) ?_; (with_reducible refine (code_value.calls k ch v _ A1.out).mono ?_); rintro e1 w1 ⟨rfl, ⟨nd, rfl⟩⟩; refine ⟨_, rfl, ?_⟩; skip)
    | ((with_reducible refine gate_callee (f := 44) rfl ?_); refine goesL_ (some 17) rfl rfl Tryd.func44 (by kernel_rfl) rfl #[.pointer (some ⟨g, 0, none⟩), .int .u8 v] rfl (by (try simp only [List.map_toArray, List.map_cons, List.map_nil]); first | done | rfl | (simp only [List.length_drop, List.length_take]; rfl)) ?_; (with_reducible refine (next_calls g m a b c d 3 (by omega) o er v _ HK.out).mono ?_); rintro e2 w2 ⟨rfl, ⟨nd2, rfl⟩⟩; refine ⟨_, rfl, ?_⟩; rw [hnx]))
  have h4 : w.cell? ⟨g, 4, none⟩ = some (.int .u8 d) := blk_cell HK.out 4
  have h5 : w.cell? ⟨g, 5, none⟩ = some (.int .i64 3) := blk_cell HK.out 5
  have hf4 := blk_frozen HK.out 4
  go_region_held3 (fun w' => w'.cell? ⟨g, 5, none⟩ = some (.int .i64 3)) (first | go_keep | (exact (World.cell?_setCell_other _ _ _ _ (by simp)).trans h5)) (fail)
  have hb0 : Below base w (w.drewN (nd + nd2 + 1)) := ⟨rfl, rfl, rfl, Nat.le_refl _, fun _ _ => rfl⟩
  have hb1 := hb0.setCell (p := ⟨g, 4, none⟩) hg (.int .u8 v)
  have hkb : KeepBut w ((w.drewN (nd + nd2 + 1)).setCell ⟨g, 4, none⟩ (.int .u8 v)) g v0.ownBlock := ⟨hb1.size, fun i hi h1 _ => Below.heap_setCell _ _ _ _ h1⟩
  have HK1 : ((w.drewN (nd + nd2 + 1)).setCell ⟨g, 4, none⟩ (.int .u8 v)).heap[g]? = some (.cells (cellsR m a b c v 3 o er) 57 (0, 0)) := blk_put (cs := cellsR m a b c d 3 o er) HK.out 4 _ rfl
  have HO1 : ((w.drewN (nd + nd2 + 1)).setCell ⟨g, 4, none⟩ (.int .u8 v)).ownsRow base 5 1 v0 xs.length (nums .u8 xs) := own_move HO.out (fun q hq => Below.heap_setCell _ _ _ _ (by rintro rfl; exact row_ne HO.out HK.out hq.symm))
  generalize hw1 : ((w.drewN (nd + nd2 + 1)).setCell ⟨g, 4, none⟩ (.int .u8 v)) = w1 at hb1 HK1 HO1 hkb ⊢
  clear hw1 hb0 h4 h5 hf4
  have hgl1 := blk_lt HK1
  have hc1 : w1.cell? ⟨g, 1, none⟩ = some (.int .u8 a) := blk_cell HK1 1
  have hc2 : w1.cell? ⟨g, 2, none⟩ = some (.int .u8 b) := blk_cell HK1 2
  have hc3 : w1.cell? ⟨g, 3, none⟩ = some (.int .u8 c) := blk_cell HK1 3
  have hc4 : w1.cell? ⟨g, 4, none⟩ = some (.int .u8 v) := blk_cell HK1 4
  have hc5 : w1.cell? ⟨g, 5, none⟩ = some (.int .i64 3) := blk_cell HK1 5
  have hc6 : w1.cell? ⟨g, 6, none⟩ = some (.bool o) := blk_cell HK1 6
  have hf5 := blk_frozen HK1 5
  have hf6 := blk_frozen HK1 6
  have hne : g ≠ w1.heap.size := by omega
  have hne' : g ≠ w1.heap.size + 1 := by omega
  have HKK := Aside0.mk HK1
  have HOO := Aside0.mk HO1
  have HBB := Aside0.mk hb1
  have HKB := Aside0.mk hkb
  clear HK1 HO1 hb1 hkb HO HK
  have hc := HCC.out
  have hd := HDD.out
  go_wp2_with ((with_reducible refine gate_builtin (b := .append) (xs := #[.tmp 90, .tmp 92]) rfl ?_); at_builtin; refine turn_append_row base rfl (.tmp 90) (.tmp 92) 22 5 (.int .u8 0) 1 rfl Tryd.underlying22 info5 rfl (by decide) v0 xs.length (nums .u8 xs) ⟨w1.heap.size + 1, 0, none⟩ 3 3 (nums .u8 [b1 a b, b2 b c, b3 c v]) rfl rfl rfl ?news ?one ?own ?bas ?len ?_; (case news => exact news_top (n := 3) (xs := [b1 a b, b2 b c, b3 c v]) _ _ _ _ (by simp [World.setCell]) rfl rfl); (case one => intro u hu; obtain ⟨x, _, rfl⟩ := List.mem_map.1 hu; rfl); (case own => exact own_alloc (own_alloc (own_move HOO.out (fun q hq => by have hx := row_ne HOO.out HKK.out; rw [Below.heap_setCell _ _ _ _ (by rintro rfl; exact hx hq.symm), Below.heap_setCell _ _ _ _ (by rintro rfl; exact hx hq.symm), Below.heap_setCell _ _ _ _ (by rintro rfl; exact hx hq.symm)])) _) _); (case bas => have := HBB.out.size; simp [World.setCell]; omega); (case len => omega); intro v1 w' ho1 hgr hrows hat; have HT := Aside0.mk (Took.four HKK.out HOO.out hg HBB.out HKB.out hbase hgr ho1 hat); clear ho1 hgr hrows hat)
  go_ret2
  exact ⟨v1, rfl, HT.out⟩

theorem Took.more {g : Nat} {cs cs1 cs2 : Array Value} {j1 j2 : Nat} {u1 u2 : Value} {v0 : Value} {xs : List Int} {base : Nat} {w w1 : World} (hk : w1.heap[g]? = some (.cells cs1 57 (0, 0))) (ho : w1.ownsRow base 5 1 v0 xs.length (nums .u8 xs)) (hg : base ≤ g) (hb : Below base w w1) (hkeep : KeepBut w w1 g v0.ownBlock)
    (e2 : cs1.setIfInBounds j2 u2 = cs2) : Took g cs2 v0 v0 xs base w (w1.setCell ⟨g, j2, none⟩ u2) :=
  ⟨blk_put hk j2 u2 e2, own_move ho (fun q hq => Below.heap_setCell _ _ _ _ (by rintro rfl; exact row_ne ho hk hq.symm)), hb.setCell (p := ⟨g, j2, none⟩) hg u2,
   ⟨by have := hkeep.1; simpa [World.setCell] using this, fun i hi h1 h2 => (Below.heap_setCell _ _ _ _ h1).trans (hkeep.2 i hi h1 h2)⟩, .inl rfl⟩
set_option maxHeartbeats 8000000 in
set_option maxRecDepth 100000 in
theorem take_bad (k : Nat) (g : Nat) (m : Bool) (a b c d : Int) (n : Nat) (hn : n ≤ 3) (o : Bool) (er ch v : Int) (hv : code_value.f k ch = some v) (hnx : nextV a b c n o v ≠ 0) (v0 : Value) (w : World)
    (hk : w.heap[g]? = some (.cells (cellsR m a b c d n o er) 57 (0, 0))) :
    Calls Tryd.prog 34 #[.pointer (some ⟨g, 0, none⟩), v0, .int .u8 ch] w fun e w' => e = .returned (.tuple #[v0, .int .i64 (nextV a b c n o v)]) ∧ Drawn0 w w' := by
  have A1 := Aside0.mk hv
  have HK := Aside0.mk hk
  obtain ⟨er', her⟩ : ∃ e, e = nextV a b c n o v := ⟨_, rfl⟩
  rw [← her] at hnx ⊢
  have HE := Aside0.mk her
  have hnb : (er' != 0) = true := bne_iff_ne.2 hnx
  clear hv hk her
  go_enter Tryd.func34, Tryd.ntmps34
  go_wp2_with (first
    | ((with_reducible refine gate_callee (f := 43) rfl ?_); refine goesL_ (some 14) rfl rfl Tryd.func43 (by kernel_rfl) rfl #[.int .u8 ch] rfl (by (try simp only [List.map_toArray, List.map_cons, List.map_nil]); first | done | rfl | (simp only [List.length_drop, List.length_take]; rfl)) ?_; (with_reducible refine (code_value.calls k ch v _ A1.out).mono ?_); rintro e1 w1 ⟨rfl, ⟨nd, rfl⟩⟩; refine ⟨_, rfl, ?_⟩; skip)
    | ((with_reducible refine gate_callee (f := 44) rfl ?_); refine goesL_ (some 17) rfl rfl Tryd.func44 (by kernel_rfl) rfl #[.pointer (some ⟨g, 0, none⟩), .int .u8 v] rfl (by (try simp only [List.map_toArray, List.map_cons, List.map_nil]); first | done | rfl | (simp only [List.length_drop, List.length_take]; rfl)) ?_; (with_reducible refine (next_calls g m a b c d n hn o er v _ (blk_drewN HK.out nd)).mono ?_); rintro e2 w2 ⟨rfl, ⟨nd2, rfl⟩⟩; refine ⟨_, rfl, ?_⟩; rw [← HE.out]))
  go_ret2
  exact ⟨rfl, by repeat (first | exact Drawn0.refl _ | apply Drawn0.step)⟩
set_option maxHeartbeats 8000000 in
set_option maxRecDepth 100000 in
theorem take_zero (k : Nat) (g : Nat) (m : Bool) (a b c d : Int) (o : Bool) (er ch v : Int) (hv : code_value.f k ch = some v) (hnx : nextV a b c 0 o v = 0)  (v0 : Value) (xs : List Int) (base : Nat) (w : World) (hg : base ≤ g) (hbase : base ≤ w.heap.size)
    (hk : w.heap[g]? = some (.cells (cellsR m a b c d 0 o er) 57 (0, 0))) (ho : w.ownsRow base 5 1 v0 xs.length (nums .u8 xs)) :
    Calls Tryd.prog 34 #[.pointer (some ⟨g, 0, none⟩), v0, .int .u8 ch] w fun e w' => ∃ v1, e = .returned (.tuple #[v1, .int .i64 0]) ∧ Took g (cellsR m v b c d 1 o er) v0 v1 xs base w w' := by
  have A1 := Aside0.mk hv
  have HO := Aside0.mk ho
  have HK := Aside0.mk hk
  have hgl := blk_lt hk
  clear hv ho hk
  go_enter Tryd.func34, Tryd.ntmps34
  go_wp2_with (first
    | ((with_reducible refine gate_callee (f := 43) rfl ?_); refine goesL_ (some 14) rfl rfl Tryd.func43 (by kernel_rfl) rfl #[.int .u8 ch] rfl (by (try simp only [List.map_toArray, List.map_cons, List.map_nil]); first | done | rfl | (simp only [List.length_drop, List.length_take]; rfl)) ?_; (with_reducible refine (code_value.calls k ch v _ A1.out).mono ?_); rintro e1 w1 ⟨rfl, ⟨nd, rfl⟩⟩; refine ⟨_, rfl, ?_⟩; skip)
    | ((with_reducible refine gate_callee (f := 44) rfl ?_); refine goesL_ (some 17) rfl rfl Tryd.func44 (by kernel_rfl) rfl #[.pointer (some ⟨g, 0, none⟩), .int .u8 v] rfl (by (try simp only [List.map_toArray, List.map_cons, List.map_nil]); first | done | rfl | (simp only [List.length_drop, List.length_take]; rfl)) ?_; (with_reducible refine (next_calls g m a b c d 0 (by omega) o er v _ HK.out).mono ?_); rintro e2 w2 ⟨rfl, ⟨nd2, rfl⟩⟩; refine ⟨_, rfl, ?_⟩; rw [hnx]))
  have h4 : w.cell? ⟨g, 1, none⟩ = some (.int .u8 a) := blk_cell HK.out 1
  have h5 : w.cell? ⟨g, 5, none⟩ = some (.int .i64 0) := blk_cell HK.out 5
  have hf4 := blk_frozen HK.out 1
  go_region_held3 (fun w' => w'.cell? ⟨g, 5, none⟩ = some (.int .i64 0)) (first | go_keep | (exact (World.cell?_setCell_other _ _ _ _ (by simp)).trans h5)) (fail)
  have hb0 : Below base w (w.drewN (nd + nd2 + 1)) := ⟨rfl, rfl, rfl, Nat.le_refl _, fun _ _ => rfl⟩
  have hb1 := hb0.setCell (p := ⟨g, 1, none⟩) hg (.int .u8 v)
  have hkb : KeepBut w ((w.drewN (nd + nd2 + 1)).setCell ⟨g, 1, none⟩ (.int .u8 v)) g v0.ownBlock := ⟨hb1.size, fun i hi h1 _ => Below.heap_setCell _ _ _ _ h1⟩
  have HK1 : ((w.drewN (nd + nd2 + 1)).setCell ⟨g, 1, none⟩ (.int .u8 v)).heap[g]? = some (.cells (cellsR m v b c d 0 o er) 57 (0, 0)) := blk_put (cs := cellsR m a b c d 0 o er) HK.out 1 _ rfl
  have HO1 : ((w.drewN (nd + nd2 + 1)).setCell ⟨g, 1, none⟩ (.int .u8 v)).ownsRow base 5 1 v0 xs.length (nums .u8 xs) := own_move HO.out (fun q hq => Below.heap_setCell _ _ _ _ (by rintro rfl; exact row_ne HO.out HK.out hq.symm))
  generalize hw1 : ((w.drewN (nd + nd2 + 1)).setCell ⟨g, 1, none⟩ (.int .u8 v)) = w1 at hb1 HK1 HO1 hkb ⊢
  clear hw1 hb0 h4 h5 hf4
  have hc5 : w1.cell? ⟨g, 5, none⟩ = some (.int .i64 0) := blk_cell HK1 5
  have hf5 := blk_frozen HK1 5
  have HT := Aside0.mk (Took.more (cs := cellsR m v b c d 0 o er) (j1 := 0) (u1 := .bool m) (cs2 := cellsR m v b c d 1 o er) HK1 HO1 hg hb1 hkb (j2 := 5) (u2 := .int .i64 1) rfl)
  clear HK1 HO1 hb1 hkb HO HK
  go_wp2
  go_ret2
  exact ⟨v0, rfl, HT.out⟩

set_option maxHeartbeats 8000000 in
set_option maxRecDepth 100000 in
theorem take_uno (k : Nat) (g : Nat) (m : Bool) (a b c d : Int) (o : Bool) (er ch v : Int) (hv : code_value.f k ch = some v) (hnx : nextV a b c 1 o v = 0)  (v0 : Value) (xs : List Int) (base : Nat) (w : World) (hg : base ≤ g) (hbase : base ≤ w.heap.size)
    (hk : w.heap[g]? = some (.cells (cellsR m a b c d 1 o er) 57 (0, 0))) (ho : w.ownsRow base 5 1 v0 xs.length (nums .u8 xs)) :
    Calls Tryd.prog 34 #[.pointer (some ⟨g, 0, none⟩), v0, .int .u8 ch] w fun e w' => ∃ v1, e = .returned (.tuple #[v1, .int .i64 0]) ∧ Took g (cellsR m a v c d 2 o er) v0 v1 xs base w w' := by
  have A1 := Aside0.mk hv
  have HO := Aside0.mk ho
  have HK := Aside0.mk hk
  have hgl := blk_lt hk
  clear hv ho hk
  go_enter Tryd.func34, Tryd.ntmps34
  go_wp2_with (first
    | ((with_reducible refine gate_callee (f := 43) rfl ?_); refine goesL_ (some 14) rfl rfl Tryd.func43 (by kernel_rfl) rfl #[.int .u8 ch] rfl (by (try simp only [List.map_toArray, List.map_cons, List.map_nil]); first | done | rfl | (simp only [List.length_drop, List.length_take]; rfl)) ?_; (with_reducible refine (code_value.calls k ch v _ A1.out).mono ?_); rintro e1 w1 ⟨rfl, ⟨nd, rfl⟩⟩; refine ⟨_, rfl, ?_⟩; skip)
    | ((with_reducible refine gate_callee (f := 44) rfl ?_); refine goesL_ (some 17) rfl rfl Tryd.func44 (by kernel_rfl) rfl #[.pointer (some ⟨g, 0, none⟩), .int .u8 v] rfl (by (try simp only [List.map_toArray, List.map_cons, List.map_nil]); first | done | rfl | (simp only [List.length_drop, List.length_take]; rfl)) ?_; (with_reducible refine (next_calls g m a b c d 1 (by omega) o er v _ HK.out).mono ?_); rintro e2 w2 ⟨rfl, ⟨nd2, rfl⟩⟩; refine ⟨_, rfl, ?_⟩; rw [hnx]))
  have h4 : w.cell? ⟨g, 2, none⟩ = some (.int .u8 b) := blk_cell HK.out 2
  have h5 : w.cell? ⟨g, 5, none⟩ = some (.int .i64 1) := blk_cell HK.out 5
  have hf4 := blk_frozen HK.out 2
  go_region_held3 (fun w' => w'.cell? ⟨g, 5, none⟩ = some (.int .i64 1)) (first | go_keep | (exact (World.cell?_setCell_other _ _ _ _ (by simp)).trans h5)) (fail)
  have hb0 : Below base w (w.drewN (nd + nd2 + 1)) := ⟨rfl, rfl, rfl, Nat.le_refl _, fun _ _ => rfl⟩
  have hb1 := hb0.setCell (p := ⟨g, 2, none⟩) hg (.int .u8 v)
  have hkb : KeepBut w ((w.drewN (nd + nd2 + 1)).setCell ⟨g, 2, none⟩ (.int .u8 v)) g v0.ownBlock := ⟨hb1.size, fun i hi h1 _ => Below.heap_setCell _ _ _ _ h1⟩
  have HK1 : ((w.drewN (nd + nd2 + 1)).setCell ⟨g, 2, none⟩ (.int .u8 v)).heap[g]? = some (.cells (cellsR m a v c d 1 o er) 57 (0, 0)) := blk_put (cs := cellsR m a b c d 1 o er) HK.out 2 _ rfl
  have HO1 : ((w.drewN (nd + nd2 + 1)).setCell ⟨g, 2, none⟩ (.int .u8 v)).ownsRow base 5 1 v0 xs.length (nums .u8 xs) := own_move HO.out (fun q hq => Below.heap_setCell _ _ _ _ (by rintro rfl; exact row_ne HO.out HK.out hq.symm))
  generalize hw1 : ((w.drewN (nd + nd2 + 1)).setCell ⟨g, 2, none⟩ (.int .u8 v)) = w1 at hb1 HK1 HO1 hkb ⊢
  clear hw1 hb0 h4 h5 hf4
  have hc5 : w1.cell? ⟨g, 5, none⟩ = some (.int .i64 1) := blk_cell HK1 5
  have hf5 := blk_frozen HK1 5
  have HT := Aside0.mk (Took.more (cs := cellsR m a v c d 1 o er) (j1 := 0) (u1 := .bool m) (cs2 := cellsR m a v c d 2 o er) HK1 HO1 hg hb1 hkb (j2 := 5) (u2 := .int .i64 2) rfl)
  clear HK1 HO1 hb1 hkb HO HK
  go_wp2
  go_ret2
  exact ⟨v0, rfl, HT.out⟩

set_option maxHeartbeats 8000000 in
set_option maxRecDepth 100000 in
theorem take_due (k : Nat) (g : Nat) (m : Bool) (a b c d : Int) (o : Bool) (er ch v : Int) (hv : code_value.f k ch = some v) (hnx : nextV a b c 2 o v = 0)  (v0 : Value) (xs : List Int) (base : Nat) (w : World) (hg : base ≤ g) (hbase : base ≤ w.heap.size)
    (hk : w.heap[g]? = some (.cells (cellsR m a b c d 2 o er) 57 (0, 0))) (ho : w.ownsRow base 5 1 v0 xs.length (nums .u8 xs)) :
    Calls Tryd.prog 34 #[.pointer (some ⟨g, 0, none⟩), v0, .int .u8 ch] w fun e w' => ∃ v1, e = .returned (.tuple #[v1, .int .i64 0]) ∧ Took g (cellsR m a b v d 3 o er) v0 v1 xs base w w' := by
  have A1 := Aside0.mk hv
  have HO := Aside0.mk ho
  have HK := Aside0.mk hk
  have hgl := blk_lt hk
  clear hv ho hk
  go_enter Tryd.func34, Tryd.ntmps34
  go_wp2_with (first
    | ((with_reducible refine gate_callee (f := 43) rfl ?_); refine goesL_ (some 14) rfl rfl Tryd.func43 (by kernel_rfl) rfl #[.int .u8 ch] rfl (by (try simp only [List.map_toArray, List.map_cons, List.map_nil]); first | done | rfl | (simp only [List.length_drop, List.length_take]; rfl)) ?_; (with_reducible refine (code_value.calls k ch v _ A1.out).mono ?_); rintro e1 w1 ⟨rfl, ⟨nd, rfl⟩⟩; refine ⟨_, rfl, ?_⟩; skip)
    | ((with_reducible refine gate_callee (f := 44) rfl ?_); refine goesL_ (some 17) rfl rfl Tryd.func44 (by kernel_rfl) rfl #[.pointer (some ⟨g, 0, none⟩), .int .u8 v] rfl (by (try simp only [List.map_toArray, List.map_cons, List.map_nil]); first | done | rfl | (simp only [List.length_drop, List.length_take]; rfl)) ?_; (with_reducible refine (next_calls g m a b c d 2 (by omega) o er v _ HK.out).mono ?_); rintro e2 w2 ⟨rfl, ⟨nd2, rfl⟩⟩; refine ⟨_, rfl, ?_⟩; rw [hnx]))
  have h4 : w.cell? ⟨g, 3, none⟩ = some (.int .u8 c) := blk_cell HK.out 3
  have h5 : w.cell? ⟨g, 5, none⟩ = some (.int .i64 2) := blk_cell HK.out 5
  have hf4 := blk_frozen HK.out 3
  go_region_held3 (fun w' => w'.cell? ⟨g, 5, none⟩ = some (.int .i64 2)) (first | go_keep | (exact (World.cell?_setCell_other _ _ _ _ (by simp)).trans h5)) (fail)
  have hb0 : Below base w (w.drewN (nd + nd2 + 1)) := ⟨rfl, rfl, rfl, Nat.le_refl _, fun _ _ => rfl⟩
  have hb1 := hb0.setCell (p := ⟨g, 3, none⟩) hg (.int .u8 v)
  have hkb : KeepBut w ((w.drewN (nd + nd2 + 1)).setCell ⟨g, 3, none⟩ (.int .u8 v)) g v0.ownBlock := ⟨hb1.size, fun i hi h1 _ => Below.heap_setCell _ _ _ _ h1⟩
  have HK1 : ((w.drewN (nd + nd2 + 1)).setCell ⟨g, 3, none⟩ (.int .u8 v)).heap[g]? = some (.cells (cellsR m a b v d 2 o er) 57 (0, 0)) := blk_put (cs := cellsR m a b c d 2 o er) HK.out 3 _ rfl
  have HO1 : ((w.drewN (nd + nd2 + 1)).setCell ⟨g, 3, none⟩ (.int .u8 v)).ownsRow base 5 1 v0 xs.length (nums .u8 xs) := own_move HO.out (fun q hq => Below.heap_setCell _ _ _ _ (by rintro rfl; exact row_ne HO.out HK.out hq.symm))
  generalize hw1 : ((w.drewN (nd + nd2 + 1)).setCell ⟨g, 3, none⟩ (.int .u8 v)) = w1 at hb1 HK1 HO1 hkb ⊢
  clear hw1 hb0 h4 h5 hf4
  have hc5 : w1.cell? ⟨g, 5, none⟩ = some (.int .i64 2) := blk_cell HK1 5
  have hf5 := blk_frozen HK1 5
  have HT := Aside0.mk (Took.more (cs := cellsR m a b v d 2 o er) (j1 := 0) (u1 := .bool m) (cs2 := cellsR m a b v d 3 o er) HK1 HO1 hg hb1 hkb (j2 := 5) (u2 := .int .i64 3) rfl)
  clear HK1 HO1 hb1 hkb HO HK
  go_wp2
  go_ret2
  exact ⟨v0, rfl, HT.out⟩

end Go.Proofs.YtokgckhhhhigiaaDoor.Rd
namespace Go.Proofs.YtokgckhhhhigiaaDoor.Rd
set_option linter.unusedVariables false
set_option linter.unusedSimpArgs false
open Go.RowKit Go.Proofs.YtokgckhhhhigiaaDoorW.PrintWords Go.Proofs.YtokgckhhhhigiaaDoorW.PrintLast Go.Proofs.YtokgckhhhhigiaaDoorW.PrintMore Go.Proofs.YtokgckhhhhigiaaDoor.B Go.Proofs.YtokgckhhhhigiaaDoor.M Go.Proofs.YtokgckhhhhigiaaDoor.D Go.Proofs.YtokgckhhhhigiaaDoor.Turn

/-- The letters under way (what lies behind them is of no weight), how many, and whether a group ended with a sign. -/
structure St where
  a : Int
  b : Int
  c : Int
  d : Int
  n : Nat
  o : Bool
def St.cells (s : St) (m : Bool) (er : Int) : Array Value := cellsR m s.a s.b s.c s.d s.n s.o er
def St.next (s : St) (v : Int) : Int := nextV s.a s.b s.c s.n s.o v
/-- A letter that the text goes on with. -/
def St.put (s : St) (v : Int) : St :=
  match s.n with
  | 0 => ⟨v, s.b, s.c, s.d, 1, s.o⟩
  | 1 => ⟨s.a, v, s.c, s.d, 2, s.o⟩
  | 2 => ⟨s.a, s.b, v, s.d, 3, s.o⟩
  | _ => ⟨s.a, s.b, s.c, v, 0, v == 64⟩
def St.out (s : St) (v : Int) : List Int := if s.n = 3 then fourB s.a s.b s.c v else []
theorem St.put_n (s : St) (v : Int) (h : s.n ≤ 3) : (s.put v).n ≤ 3 := by
  obtain ⟨a, b, c, d, n, o⟩ := s
  match n, h with
  | 0, _ => exact (by decide : 1 ≤ 3)
  | 1, _ => exact (by decide : 2 ≤ 3)
  | 2, _ => exact (by decide : 3 ≤ 3)
  | 3, _ => exact (by decide : 0 ≤ 3)

theorem take_ok (k : Nat) (g : Nat) (m : Bool) (s : St) (hn : s.n ≤ 3) (er ch v : Int) (hv : code_value.f k ch = some v) (hnx : s.next v = 0) (v0 : Value) (xs : List Int) (base : Nat) (w : World) (hg : base ≤ g) (hbase : base ≤ w.heap.size)
    (hk : w.heap[g]? = some (.cells (s.cells m er) 57 (0, 0))) (ho : w.ownsRow base 5 1 v0 xs.length (nums .u8 xs)) (hl : xs.length + 3 < 140737488355328) :
    Calls Tryd.prog 34 #[.pointer (some ⟨g, 0, none⟩), v0, .int .u8 ch] w fun e w' => ∃ v1, e = .returned (.tuple #[v1, .int .i64 0]) ∧ Took g ((s.put v).cells m er) v0 v1 (xs ++ s.out v) base w w' := by
  obtain ⟨a, b, c, d, n, o⟩ := s
  match n, hn with
  | 0, _ =>
    have h := take_zero k g m a b c d o er ch v hv hnx v0 xs base w hg hbase hk ho
    simpa [St.out, St.put, St.cells] using h
  | 1, _ =>
    have h := take_uno k g m a b c d o er ch v hv hnx v0 xs base w hg hbase hk ho
    simpa [St.out, St.put, St.cells] using h
  | 2, _ =>
    have h := take_due k g m a b c d o er ch v hv hnx v0 xs base w hg hbase hk ho
    simpa [St.out, St.put, St.cells] using h
  | 3, _ =>
    by_cases hc : c = 64
    · have hv64 : v = 64 := by
        have h : nextV a b c 3 o v = 0 := hnx
        unfold nextV at h
        by_cases h1 : v = 65
        · rw [if_pos h1] at h; cases h
        · rw [if_neg h1] at h
          by_cases h2 : o = true
          · rw [if_pos h2] at h; cases h
          · rw [if_neg h2, if_pos ⟨rfl, hc⟩] at h
            by_cases h3 : v ≠ 64
            · rw [if_pos h3] at h; cases h
            · exact Decidable.of_not_not h3
      have h := take_one k g m a b c d o er ch v hv hnx hc hv64 v0 xs base w hg hbase hk ho hl
      simpa [St.out, St.put, St.cells, fourB, hc, hv64] using h
    · by_cases hd : v = 64
      · have h := take_two k g m a b c d o er ch v hv hnx hc hd v0 xs base w hg hbase hk ho hl
        simpa [St.out, St.put, St.cells, fourB, hc, hd] using h
      · have h := take_three k g m a b c d o er ch v hv hnx hc hd v0 xs base w hg hbase hk ho hl
        have hb : (v == 64) = false := beq_eq_false_iff_ne.2 hd
        simpa [St.out, St.put, St.cells, fourB, hc, hd, hb] using h
end Go.Proofs.YtokgckhhhhigiaaDoor.Rd
namespace Go.Proofs.YtokgckhhhhigiaaDoor.Rd
set_option linter.unusedVariables false
set_option linter.unusedSimpArgs false
open Go.RowKit Go.Proofs.YtokgckhhhhigiaaDoorW.PrintWords Go.Proofs.YtokgckhhhhigiaaDoorW.PrintLast Go.Proofs.YtokgckhhhhigiaaDoorW.PrintMore Go.Proofs.YtokgckhhhhigiaaDoor.B Go.Proofs.YtokgckhhhhigiaaDoor.M Go.Proofs.YtokgckhhhhigiaaDoor.D Go.Proofs.YtokgckhhhhigiaaDoor.Turn

def St.new : St := ⟨0, 0, 0, 0, 0, false⟩
set_option maxHeartbeats 8000000 in
set_option maxRecDepth 100000 in
theorem new_calls (w : World) :
    Calls Tryd.prog 32 #[] w fun e w' => ∃ g, e = .returned (.pointer (some ⟨g, 0, none⟩)) ∧ w.heap.size ≤ g ∧ w'.heap[g]? = some (.cells (St.new.cells true 0) 57 (0, 0)) ∧ Below w.heap.size w w' := by
  go_enter Tryd.func32, Tryd.ntmps32
  go_wp2
  go_ret
  exact ⟨w.heap.size, rfl, Nat.le_refl _, by first | exact blk_new _ _ | (simp [World.alloc]; rfl), by repeat (first | exact Below.refl _ _ | apply below_alloc | apply pw_below_drewN | apply below_drew1)⟩
end Go.Proofs.YtokgckhhhhigiaaDoor.Rd
namespace Go.Proofs.YtokgckhhhhigiaaDoor.Rd
set_option linter.unusedVariables false
set_option linter.unusedSimpArgs false
open Go.RowKit Go.Proofs.YtokgckhhhhigiaaDoorW.PrintWords Go.Proofs.YtokgckhhhhigiaaDoorW.PrintLast Go.Proofs.YtokgckhhhhigiaaDoorW.PrintMore Go.Proofs.YtokgckhhhhigiaaDoor.B Go.Proofs.YtokgckhhhhigiaaDoor.M Go.Proofs.YtokgckhhhhigiaaDoor.D Go.Proofs.YtokgckhhhhigiaaDoor.Turn

/-- What a byte is: a letter's number, 64, or 65. -/
def valV (c : Int) : Int := (code_value.f 5 c).getD 65
theorem val_fin : ∀ c : Fin 256, code_value.f 5 (c.val : Int) = some (valV (c.val : Int)) := by decide +kernel
theorem val_f (c : Int) (h : 0 ≤ c ∧ c ≤ 255) : code_value.f 5 c = some (valV c) := by
  have := val_fin ⟨c.toNat, by omega⟩
  simp only at this
  rwa [Int.toNat_of_nonneg h.1] at this

def unbL : List Int → St → List Int → Nat → List Int × Int × Int
  | [], st, out, i => if st.n > 0 then ([], 41, (i : Int)) else (out, 0, 0)
  | ch :: r, st, out, i => if st.next (valV ch) ≠ 0 then ([], st.next (valV ch), (i : Int)) else unbL r (st.put (valV ch)) (out ++ st.out (valV ch)) (i + 1)
theorem take_no (k : Nat) (g : Nat) (m : Bool) (s : St) (hn : s.n ≤ 3) (er ch v : Int) (hv : code_value.f k ch = some v) (hnx : s.next v ≠ 0) (v0 : Value) (w : World) (hk : w.heap[g]? = some (.cells (s.cells m er) 57 (0, 0))) :
    Calls Tryd.prog 34 #[.pointer (some ⟨g, 0, none⟩), v0, .int .u8 ch] w fun e w' => e = .returned (.tuple #[v0, .int .i64 (s.next v)]) ∧ Drawn0 w w' :=
  take_bad k g m s.a s.b s.c s.d s.n hn s.o er ch v hv hnx v0 w hk
theorem spot_ne {w : World} {base g n : Nat} {v0 : Value} {xs : List Value} {cs : Array Value} (ho : w.ownsRow base 5 1 v0 n xs) (hk : w.heap[g]? = some (.cells cs 29 (0, 0))) : some g ≠ v0.ownBlock := by
  intro hq
  obtain ⟨cs', hcs⟩ := own_typed ho g hq.symm
  rw [hcs] at hk
  injection hk with hk
  injection hk with _ h3
  exact absurd h3 (by decide)
theorem out_len (s : St) (v : Int) : (s.out v).length ≤ 3 := by
  unfold St.out fourB
  repeat' split
  all_goals simp

set_option maxHeartbeats 8000000 in
set_option maxRecDepth 100000 in
theorem unb_calls (s : ByteArray) (r1 : List Int) (r2 r3 : Int) (w : World) (hs : s.size ≤ 40000000000000) (h : unbL (bytesOf s) St.new [] 0 = (r1, r2, r3)) :
    Calls Tryd.prog 20 #[.string s] w fun e w' => ∃ v0_ : Value, e = .returned (.tuple #[v0_, .agg #[.int .i64 r2, .int .i64 r3]]) ∧ Kd.R (Kd.int .u8) 5 w' w.heap.size (fun _ => True) v0_ r1 ∧ Below w.heap.size w w' := by
  have HH := Aside0.mk h
  clear h
  have HB := Aside0.mk (Below.refl w.heap.size w)
  have hq : IntKind.i64.wrap (Int.tdiv (s.size : Int) 4) = ((s.size / 4 : Nat) : Int) := by
    rw [i64_w, Int.tdiv_eq_ediv_of_nonneg (by omega)]
    exact wrap_id _ (by omega) (by omega)
  have hq3 : IntKind.i64.wrap (((s.size / 4 : Nat) : Int) * 3) = ((s.size / 4 * 3 : Nat) : Int) := by
    rw [i64_w]
    exact wrap_id _ (by omega) (by omega)
  go_enter Tryd.func20, Tryd.ntmps20
  go_wp2_with (first
    | ((with_reducible refine gate_dst (N := 3) rfl ?_); (try (refine gate_guard (by rfl) ?_; dsimp only)); refine box_event ?hg (N := 3) ?hd (cs := #[.int .i64 0, .int .i64 0]) (t := 29) ?hr ?_; (case hd => rfl); (case hg => rfl); (case hr => first | (go_simp; done) | (go_simp; rfl)); intro g3 hg3 w3 hbox hb; have hg3' := (by rw [hg3]; exact (below_step HB.out (Below.refl _ _)).size : w.heap.size ≤ g3); have n0_ := Aside0.mk (below_step HB.out hb); clear HB; have HB := n0_; have BK3 := Aside0.mk hbox; clear n0_ hbox hb hg3)
    | ((with_reducible refine gate_callee (f := 32) rfl ?_); refine goesL_ (some 8) rfl rfl Tryd.func32 (by kernel_rfl) rfl #[] rfl (by (try simp only [List.map_toArray, List.map_cons, List.map_nil]); first | done | rfl | (simp only [List.length_drop, List.length_take]; rfl)) ?_; (with_reducible refine (new_calls _).mono ?_); rintro e4 w4 ⟨g, rfl, hgw, hkg, hb⟩; refine ⟨_, rfl, ?_⟩; have n0_ := Aside0.mk (below_step HB.out hb); have n1_ := Aside0.mk (blk_below BK3.out hb); have hgg := Nat.le_trans HB.out.size hgw; have hne3 := Nat.ne_of_lt (Nat.lt_of_lt_of_le (blk_lt BK3.out) hgw); clear HB BK3; have HB := n0_; have BK3 := n1_; have HK := Aside0.mk hkg; clear n0_ n1_ hb hkg hgw)
    | ((with_reducible refine gate_dst (N := 13) rfl ?_); refine Kd.R_make_cap (Kd.int .u8) _ 5 rfl (N := 13) rfl 22 _ _ rfl ((s.size : Int) / 4 * 3) rfl rfl Tryd.underlying22 (.int .u8 0) 1 info5 rfl (by decide) (by omega) 0 (ok := fun _ => True) (okp := fun _ => True) rfl (fun _ hk => hk) trivial (by omega) (by omega) (Below.refl _ _) (Nat.le_refl _) ?_; intro v5 w5 ho7 hb hg_ hnew_; have n0_ := Aside0.mk (below_step HB.out hb); have n1_ := Aside0.mk (blk_below BK3.out hb); have n2_ := Aside0.mk (blk_below HK.out hb); have HO := Aside0.mk (own_weaken (Kd.own_of_R ho7) HB.out.size); clear HB BK3 HK; have HB := n0_; have BK3 := n1_; have HK := n2_; clear n0_ n1_ n2_ hb hg_ hnew_ ho7))
  go_loopw [5, 6, 7, 16] (fun v5 v6 v7 v16 wr => ∃ j : Nat, v16 = .int .i64 j ∧ j ≤ s.size ∧ ∃ (st : St) (xs : List Int), Aside0 (st.n ≤ 3) ∧ Aside0 (unbL ((bytesOf s).drop j) st xs j = (r1, r2, r3)) ∧ Aside0 (wr.heap[g]? = some (.cells (st.cells true 0) 57 (0, 0))) ∧ Aside0 (wr.heap[g3]? = some (.cells #[.int .i64 0, .int .i64 0] 29 (0, 0))) ∧ Aside0 (wr.ownsRow w.heap.size 5 1 v5 xs.length (nums .u8 xs)) ∧ Aside0 (xs.length ≤ 3 * j) ∧ Aside0 (Below w.heap.size w wr)) (fun _ _ _ v16 _ => s.size - (intOf v16).toNat)
  case atStart => exact ⟨0, rfl, by omega, St.new, [], ⟨by decide⟩, HH, HK, BK3, HO, ⟨by simp⟩, HB⟩
  case round =>
    clear HH HK BK3 HO HB
    obtain ⟨j, rfl, hj, st, xs, HN, HU, HK, BK3, HO, HL, HB⟩ := hrel
    by_cases hlt : j < s.size
    · have hjl : j < (bytesOf s).length := by rw [bytesOf_len]; exact hlt
      have hch := bytesOf_in s _ (List.getElem_mem hjl)
      have hbt := bt_bytes s j hjl
      have hU := HU.out
      rw [drop_cons _ j hjl, ← hbt] at hU
      rw [← hbt] at hch
      have hbt2 := hbt
      have hvv := val_f _ hch
      have p12 : 0 ≤ (j : Int) := by omega
      have q12 : (j : Int) < (s.size : Int) := by omega
      have hx12 : ∀ h : j < s.size, ((s[j]'h).toNat : Int) = bt s (j : Int) := fun h => by simp [bt, h]
      simp only [unbL] at hU
      obtain ⟨ch, hcc⟩ : ∃ ch, ch = bt s (j : Int) := ⟨_, rfl⟩
      rw [← hcc] at hU hvv hx12
      have HV := Aside0.mk hvv
      have HUU := Aside0.mk hU
      clear hbt hbt2 hvv hU HU hch hjl hcc
      by_cases he : st.next (valV ch) = 0
      · have hU := HUU.out
        rw [if_neg (fun h => h he)] at hU
        have HU2 := Aside0.mk hU
        have HE := Aside0.mk he
        clear hU HUU he
        replace p12 := eq_true p12
        replace q12 := eq_true q12
        go_wp2_with (((with_reducible refine gate_callee (f := 34) rfl ?_); refine goesL_ (some 25) rfl rfl Tryd.func34 (by kernel_rfl) rfl #[.pointer (some ⟨g, 0, none⟩), u5, .int .u8 ch] rfl (by (try simp only [List.map_toArray, List.map_cons, List.map_nil]); first | done | rfl | (simp only [List.length_drop, List.length_take]; rfl)) ?_; (with_reducible refine (take_ok 5 g true st HN.out 0 ch (valV ch) HV.out HE.out u5 xs w.heap.size _ hgg HB.out.size HK.out HO.out (by have := HL.out; omega)).mono ?_); rintro e6 w6 ⟨v7, rfl, ht⟩; refine ⟨_, rfl, ?_⟩; have HT := Aside0.mk ht; clear ht))
        go_roundw
        case rel => exact ⟨j + 1, by go_num, by omega, st.put (valV ch), xs ++ st.out (valV ch), ⟨St.put_n _ _ HN.out⟩, HU2, ⟨HT.out.cells⟩, ⟨(HT.out.keep.2 g3 (blk_lt BK3.out) hne3 (spot_ne HO.out BK3.out)).trans BK3.out⟩, ⟨HT.out.row⟩, ⟨by have := HL.out; have := out_len st (valV ch); rw [List.length_append]; omega⟩, ⟨HB.out.trans HT.out.below⟩⟩
        case measure => simp [intOf]; omega
      · have hU := HUU.out
        rw [if_pos he] at hU
        simp only [Prod.mk.injEq] at hU
        obtain ⟨rfl, h2, rfl⟩ := hU
        have HHE := Aside0.mk he
        have H2 := Aside0.mk h2
        have hnb : (r2 != 0) = true := bne_iff_ne.2 (by rw [← h2]; exact he)
        clear HUU he h2
        have hz0 : wr.cell? ⟨g3, 0, none⟩ = some (.int .i64 0) := blk_cell BK3.out 0
        have hz1 : wr.cell? ⟨g3, 1, none⟩ = some (.int .i64 0) := blk_cell BK3.out 1
        have hzf0 := blk_frozen BK3.out 0
        have hzf1 := blk_frozen BK3.out 1
        replace p12 := eq_true p12
        replace q12 := eq_true q12
        go_wp2_with (((with_reducible refine gate_callee (f := 34) rfl ?_); refine goesL_ (some 25) rfl rfl Tryd.func34 (by kernel_rfl) rfl #[.pointer (some ⟨g, 0, none⟩), u5, .int .u8 ch] rfl (by (try simp only [List.map_toArray, List.map_cons, List.map_nil]); first | done | rfl | (simp only [List.length_drop, List.length_take]; rfl)) ?_; (with_reducible refine (take_no 5 g true st HN.out 0 ch (valV ch) HV.out HHE.out u5 _ HK.out).mono ?_); rintro e6 w6 ⟨rfl, ⟨nd, rfl⟩⟩; refine ⟨_, rfl, ?_⟩; rw [H2.out]))
        refine bodyPost_ret (results_tc rfl _ _ g3 29 #[.int .i64 r2, .int .i64 (j : Int)] (0, 0) _ rfl (by refine blk_put (cs := #[.int .i64 r2, .int .i64 0]) ?_ 1 _ rfl; refine blk_put (cs := #[.int .i64 0, .int .i64 0]) ?_ 0 _ rfl; exact BK3.out) Tryd.underlying29 rfl (by kernel_rfl)) rfl ?_
        exact ⟨_, rfl, Kd.R_nil _ _ _ _ _, ((pw_below_drewN HB.out nd).setCell (p := ⟨g3, 0, none⟩) hg3' _).setCell (p := ⟨g3, 1, none⟩) hg3' _⟩
    · obtain rfl : j = s.size := by omega
      have hU := HU.out
      rw [List.drop_eq_nil_of_le (by rw [bytesOf_len]; omega)] at hU
      simp only [unbL] at hU
      have HUU := Aside0.mk hU
      have hc5 : wr.cell? ⟨g, 5, none⟩ = some (.int .i64 st.n) := blk_cell HK.out 5
      have hz0 : wr.cell? ⟨g3, 0, none⟩ = some (.int .i64 0) := blk_cell BK3.out 0
      have hz1 : wr.cell? ⟨g3, 1, none⟩ = some (.int .i64 0) := blk_cell BK3.out 1
      have hzf0 := blk_frozen BK3.out 0
      have hzf1 := blk_frozen BK3.out 1
      clear hU HU hlt
      by_cases hn : st.n > 0
      · have hU := HUU.out
        rw [if_pos hn] at hU
        simp only [Prod.mk.injEq] at hU
        obtain ⟨rfl, rfl, rfl⟩ := hU
        have hni : ((st.n : Int) > 0) = True := eq_true (by omega)
        have hnd : decide ((st.n : Int) > 0) = true := decide_eq_true (by omega)
        clear HUU
        go_wp2
        refine bodyPost_ret (results_tc rfl _ _ g3 29 #[.int .i64 41, .int .i64 (s.size : Int)] (0, 0) _ rfl (by refine blk_put (cs := #[.int .i64 41, .int .i64 0]) ?_ 1 _ rfl; refine blk_put (cs := #[.int .i64 0, .int .i64 0]) ?_ 0 _ rfl; exact BK3.out) Tryd.underlying29 rfl (by kernel_rfl)) rfl ?_
        exact ⟨_, rfl, Kd.R_nil _ _ _ _ _, (HB.out.setCell (p := ⟨g3, 0, none⟩) hg3' _).setCell (p := ⟨g3, 1, none⟩) hg3' _⟩
      · have hU := HUU.out
        rw [if_neg hn] at hU
        simp only [Prod.mk.injEq] at hU
        obtain ⟨rfl, rfl, rfl⟩ := hU
        have hn0 : st.n = 0 := by omega
        have hnd : decide ((st.n : Int) > 0) = false := decide_eq_false (by omega)
        clear HUU
        go_wp2
        refine bodyPost_ret (results_tc rfl _ _ g3 29 #[.int .i64 0, .int .i64 0] (0, 0) _ rfl (by refine blk_put (cs := #[.int .i64 0, .int .i64 0]) ?_ 1 _ rfl; refine blk_put (cs := #[.int .i64 0, .int .i64 0]) ?_ 0 _ rfl; exact BK3.out) Tryd.underlying29 rfl (by kernel_rfl)) rfl ?_
        have hsn := spot_ne HO.out BK3.out
        exact ⟨u5, rfl, Kd.R_of_own (h1 := fun _ => rfl) (ok := fun _ => True) (own_move (own_move HO.out (fun q hq => Below.heap_setCell _ _ _ _ (by rintro rfl; exact hsn hq.symm))) (fun q hq => Below.heap_setCell _ _ _ _ (by rintro rfl; exact hsn hq.symm))) (fun _ _ => trivial), (HB.out.setCell (p := ⟨g3, 0, none⟩) hg3' _).setCell (p := ⟨g3, 1, none⟩) hg3' _⟩
end Go.Proofs.YtokgckhhhhigiaaDoor.Rd
namespace Go.Proofs.YtokgckhhhhigiaaDoor.Fd
set_option linter.unusedVariables false
set_option linter.unusedSimpArgs false
open Go.RowKit Go.Proofs.YtokgckhhhhigiaaDoorW.PrintWords Go.Proofs.YtokgckhhhhigiaaDoorW.PrintLast Go.Proofs.YtokgckhhhhigiaaDoorW.PrintMore Go.Proofs.YtokgckhhhhigiaaDoor.B Go.Proofs.YtokgckhhhhigiaaDoor.M Go.Proofs.YtokgckhhhhigiaaDoor.D Go.Proofs.YtokgckhhhhigiaaDoor.Turn Go.Proofs.YtokgckhhhhigiaaDoor.Rd

/-- What Feed makes of bytes: what is whole, the state, the error. -/
def feedL : List Int → St → List Int → List Int × St × Int
  | [], st, out => (out, st, 0)
  | ch :: r, st, out => if ch = 13 ∨ ch = 10 then feedL r st out else if st.next (valV ch) ≠ 0 then (out, st, st.next (valV ch)) else feedL r (st.put (valV ch)) (out ++ st.out (valV ch))
/-- What stands in Feed: the Reader's cells, the row that is told, and all else as it was. -/
structure Fed (w : World) (g base : Nat) (cs : Array Value) (v : Value) (xs : List Int) (W : World) : Prop where
  cells : W.heap[g]? = some (.cells cs 57 (0, 0))
  row : W.ownsRow base 5 1 v xs.length (nums .u8 xs)
  fresh : ∀ q, v.ownBlock = some q → w.heap.size ≤ q
  keep : KeepBut w W g none
  below : Below base w W
theorem Fed.took {w W W' : World} {g base : Nat} {cs cs' : Array Value} {v v1 : Value} {xs ys : List Int} (h : Fed w g base cs v xs W) (t : Took g cs' v v1 ys base W W') : Fed w g base cs' v1 ys W' := by
  refine ⟨t.cells, t.row, fun q hq => ?_, ⟨Nat.le_trans h.keep.1 t.below.size, fun i hi h1 h2 => ?_⟩, h.below.trans t.below⟩
  · rcases t.near with e | e
    · exact h.fresh q (by rw [← e]; exact hq)
    · exact Nat.le_trans h.keep.1 (e q hq)
  · rw [t.keep.2 i (Nat.lt_of_lt_of_le hi h.keep.1) h1 (fun e => by have := h.fresh i e.symm; omega)]
    exact h.keep.2 i hi h1 h2
theorem Fed.set {w W : World} {g base : Nat} {cs : Array Value} {v : Value} {xs : List Int} (h : Fed w g base cs v xs W) (hg : base ≤ g) (j : Nat) (u : Value) (cs' : Array Value) (hc : cs.setIfInBounds j u = cs') : Fed w g base cs' v xs (W.setCell ⟨g, j, none⟩ u) := by
  refine ⟨blk_put h.cells j u hc, own_move h.row (fun q hq => Below.heap_setCell _ _ _ _ (by rintro rfl; exact row_ne h.row h.cells hq.symm)), h.fresh, ⟨by simpa [World.setCell] using h.keep.1, fun i hi h1 h2 => ?_⟩, h.below.setCell (p := ⟨g, j, none⟩) hg u⟩
  rw [Below.heap_setCell _ _ _ _ h1]
  exact h.keep.2 i hi h1 h2
theorem Fed.drewN {w W : World} {g base : Nat} {cs : Array Value} {v : Value} {xs : List Int} (h : Fed w g base cs v xs W) (n : Nat) : Fed w g base cs v xs (W.drewN n) :=
  ⟨h.cells, own_move h.row (fun _ _ => rfl), h.fresh, ⟨h.keep.1, h.keep.2⟩, pw_below_drewN h.below n⟩
theorem Fed.drew {w W : World} {g base : Nat} {cs : Array Value} {v : Value} {xs : List Int} (h : Fed w g base cs v xs W) : Fed w g base cs v xs W.drew :=
  ⟨h.cells, own_move h.row (fun _ _ => rfl), h.fresh, ⟨h.keep.1, h.keep.2⟩, below_drew h.below⟩
theorem Fed.fin {w W : World} {g base : Nat} {cs : Array Value} {A : Option Addr} {c : Nat} {xs : List Int} (h : Fed w g base cs (.slice A xs.length c) xs W) :
    ReadsInt W .u8 A xs.length xs ∧ (∀ ad, A = some ad → w.heap.size ≤ ad.block) ∧ W.heap[g]? = some (.cells cs 57 (0, 0)) ∧ KeepBut w W g none ∧ Below base w W :=
  ⟨own_reads' h.row, fun ad e => h.fresh ad.block (by rw [e]; rfl), h.cells, h.keep, h.below⟩
theorem below_lower {b b' : Nat} {w w' : World} (h : Below b w w') (hb : b' ≤ b) : Below b' w w' := ⟨h.1, h.2, h.3, h.4, fun i hi => h.5 i (Nat.lt_of_lt_of_le hi hb)⟩
theorem cells7 (s : St) (m : Bool) (e e' : Int) : (s.cells m e).setIfInBounds 7 (.int .i64 e') = s.cells m e' := rfl
theorem rd_nat (xs : List Int) (i : Nat) (h : i < xs.length) : rd xs (i : Int) = xs[i] := by
  unfold rd
  simp [List.getD_eq_getElem?_getD, h]

set_option maxHeartbeats 8000000 in
set_option maxRecDepth 100000 in
theorem feed_calls (base g : Nat) (st0 : St) (hn0 : st0.n ≤ 3) (A : Option Addr) (c0 : Nat) (l : List Int) (w : World) (hg : base ≤ g) (hbase : base ≤ w.heap.size) (hk : w.heap[g]? = some (.cells (st0.cells true 0) 57 (0, 0)))
    (hr : Kd.C (Kd.int .u8) w A l.length l) (hA : ∀ ad, A = some ad → 0 < l.length → ad.block ≠ g) (hl : l.length ≤ 10000000000000) (hin : InB l) :
    Calls Tryd.prog 33 #[.pointer (some ⟨g, 0, none⟩), .slice A l.length c0] w fun e w' => ∃ (A1 : Option Addr) (c1 : Nat), e = .returned (.tuple #[.slice A1 (feedL l st0 []).1.length c1, .int .i64 (feedL l st0 []).2.2]) ∧ ReadsInt w' .u8 A1 (feedL l st0 []).1.length (feedL l st0 []).1 ∧ (∀ ad, A1 = some ad → w.heap.size ≤ ad.block) ∧
      w'.heap[g]? = some (.cells ((feedL l st0 []).2.1.cells true (feedL l st0 []).2.2) 57 (0, 0)) ∧ KeepBut w w' g none ∧ Below base w w' := by
  obtain ⟨r1, rst, r2, hres⟩ : ∃ r1 rst r2, feedL l st0 [] = (r1, rst, r2) := ⟨_, _, _, rfl⟩
  rw [hres]
  have HRES := Aside0.mk hres
  have HK := Aside0.mk hk
  have HR := Aside0.mk hr
  have HA := Aside0.mk hA
  have HN0 := Aside0.mk hn0
  have HI := Aside0.mk hin
  have hgl := blk_lt hk
  have k0 : w.cell? ⟨g, 0, none⟩ = some (.bool true) := blk_cell hk 0
  have k7 : w.cell? ⟨g, 7, none⟩ = some (.int .i64 0) := blk_cell hk 7
  have hq : IntKind.i64.wrap (Int.tdiv (l.length : Int) 4) = ((l.length / 4 : Nat) : Int) := by
    rw [i64_w, Int.tdiv_eq_ediv_of_nonneg (by omega)]
    exact wrap_id _ (by omega) (by omega)
  have hq3 : IntKind.i64.wrap (((l.length / 4 : Nat) : Int) * 3) = ((l.length / 4 * 3 : Nat) : Int) := by
    rw [i64_w]
    exact wrap_id _ (by omega) (by omega)
  have hq4 : IntKind.i64.wrap (((l.length / 4 * 3 : Nat) : Int) + 3) = ((l.length / 4 * 3 + 3 : Nat) : Int) := by
    rw [i64_w]
    exact wrap_id _ (by omega) (by omega)
  clear hres hk hr hA hn0 hin
  go_enter Tryd.func33, Tryd.ntmps33
  go_wp2_with (first
    | ((with_reducible refine gate_dst (N := 32) rfl ?_); refine Kd.R_make_cap (Kd.int .u8) _ 5 rfl (N := 32) rfl 22 _ _ rfl ((l.length : Int) / 4 * 3 + 3) rfl rfl Tryd.underlying22 (.int .u8 0) 1 info5 rfl (by decide) (by omega) 0 (ok := fun _ => True) (okp := fun _ => True) rfl (fun _ hk => hk) trivial (by omega) (by omega) (Below.refl _ _) (Nat.le_refl _) ?_; intro v5 w5 ho7 hb hg_ hnew_; have HO := Aside0.mk (Kd.own_of_R ho7); have HB5 := Aside0.mk hb; clear hg_ hnew_ hb ho7))
  have HF0 : Aside0 (Fed w g base (st0.cells true 0) v5 [] w5) := ⟨⟨blk_below HK.out HB5.out, own_weaken HO.out hbase, fun q hq => own_base HO.out q hq, ⟨HB5.out.size, fun i hi _ _ => HB5.out.block i hi⟩, below_lower HB5.out hbase⟩⟩
  clear HO HB5 k0 k7 hq hq3 hq4
  go_loopg [6, 8, 35] l.length (fun gk v6 v8 v35 wr => ∃ (j : Nat) (st : St) (xs : List Int), v35 = .int .i64 j ∧ Aside0 (gk = l.length - j) ∧ j ≤ l.length ∧ Aside0 (st.n ≤ 3) ∧ Aside0 (feedL (l.drop j) st xs = (r1, rst, r2)) ∧ Aside0 (Fed w g base (st.cells true 0) v6 xs wr) ∧ Aside0 (xs.length ≤ 3 * j))
  case atStart => exact ⟨0, st0, [], rfl, ⟨rfl⟩, by omega, HN0, HRES, HF0, ⟨by simp⟩⟩
  case round =>
    clear HF0
    obtain ⟨j, st, xs, rfl, HGK, hj, HN, HU, HF, HL⟩ := hrel
    by_cases hlt : j < l.length
    · obtain ⟨ad, rfl, hcell0⟩ := Kd.at_int HR.out (j : Int) (by omega) (by omega)
      have hcell : wr.cell? (ad.add j) = some (.int .u8 l[j]) := by
        obtain ⟨ad', e', h'⟩ := Kd.at_int (Kd.C_keep (0 : Int) HR.out HF.out.keep HA.out) (j : Int) (by omega) (by omega)
        injection e' with e'
        subst e'
        rw [rd_nat _ _ hlt] at h'
        exact h'
      clear hcell0
      have hci := HI.out _ (List.getElem_mem hlt)
      have hU := HU.out
      rw [drop_cons _ j hlt] at hU
      obtain ⟨ch, hch⟩ : ∃ ch, ch = l[j] := ⟨_, rfl⟩
      rw [← hch] at hcell hci hU
      have HV := Aside0.mk (val_f ch hci)
      have p37 : 0 ≤ (j : Int) := by omega
      have q37 : (j : Int) < (l.length : Int) := by omega
      have HHJ := Aside0.mk hlt
      clear hch HU hlt hci
      simp only [feedL] at hU
      cases h13 : (ch == 13)
      · cases h10 : (ch == 10)
        · rw [if_neg (by rintro (rfl | rfl); exact absurd h13 (by decide); exact absurd h10 (by decide))] at hU
          have HUU := Aside0.mk hU
          clear hU
          by_cases he : st.next (valV ch) = 0
          · have hU := HUU.out
            rw [if_neg (fun h => h he)] at hU
            have HU2 := Aside0.mk hU
            have HE := Aside0.mk he
            clear hU HUU he
            go_wp2_with (((with_reducible refine gate_callee (f := 34) rfl ?_); refine goesL_ (some 50) rfl rfl Tryd.func34 (by kernel_rfl) rfl #[.pointer (some ⟨g, 0, none⟩), u6, .int .u8 ch] rfl (by (try simp only [List.map_toArray, List.map_cons, List.map_nil]); first | done | rfl | (simp only [List.length_drop, List.length_take]; rfl)) ?_; (with_reducible refine (take_ok 5 g true st HN.out 0 ch (valV ch) HV.out HE.out u6 xs base _ hg (Nat.le_trans hbase HF.out.below.size) HF.out.cells HF.out.row (by have := HL.out; have := HHJ.out; omega)).mono ?_); rintro e6 w6 ⟨v7, rfl, ht⟩; refine ⟨_, rfl, ?_⟩; have HF2 := Aside0.mk (HF.out.took ht); have c7 : w6.cell? ⟨g, 7, none⟩ = some (.int .i64 0) := blk_cell ht.cells 7; have f7 := blk_frozen ht.cells 7; have hl6 := blk_lt ht.cells; clear ht))
            go_roundg (l.length - (j + 1))
            case measure => have := HGK.out; have := HHJ.out; omega
            case rel => exact ⟨j + 1, st.put (valV ch), xs ++ st.out (valV ch), by go_num, ⟨rfl⟩, by have := HHJ.out; omega, ⟨St.put_n _ _ HN.out⟩, HU2, ⟨by have := HF2.out.set hg 7 (.int .i64 0) ((st.put (valV ch)).cells true 0) rfl; exact this⟩, ⟨by have := HL.out; have := out_len st (valV ch); rw [List.length_append]; omega⟩⟩
          · have hU := HUU.out
            rw [if_pos he] at hU
            simp only [Prod.mk.injEq] at hU
            obtain ⟨rfl, rfl, h2⟩ := hU
            have HHE := Aside0.mk he
            have H2 := Aside0.mk h2
            have hnb : (r2 != 0) = true := bne_iff_ne.2 (by rw [← h2]; exact he)
            clear HUU he h2
            obtain ⟨A6, c6, hv6⟩ := own_slice HF.out.row
            subst hv6
            have hc6 : xs.length ≤ c6 := own_le HF.out.row
            go_wp2_with (((with_reducible refine gate_callee (f := 34) rfl ?_); refine goesL_ (some 50) rfl rfl Tryd.func34 (by kernel_rfl) rfl #[.pointer (some ⟨g, 0, none⟩), .slice A6 xs.length c6, .int .u8 ch] rfl (by (try simp only [List.map_toArray, List.map_cons, List.map_nil]); first | done | rfl | (simp only [List.length_drop, List.length_take]; rfl)) ?_; (with_reducible refine (take_no 5 g true st HN.out 0 ch (valV ch) HV.out HHE.out _ _ HF.out.cells).mono ?_); rintro e6 w6 ⟨rfl, ⟨nd, rfl⟩⟩; refine ⟨_, rfl, ?_⟩; rw [H2.out]; have HF2 := Aside0.mk (HF.out.drewN nd); have c7 : (wr.drewN nd).cell? ⟨g, 7, none⟩ = some (.int .i64 0) := blk_cell HF.out.cells 7; have f7 : (wr.drewN nd).frozen? ⟨g, 7, none⟩ = false := blk_frozen HF.out.cells 7; have hl6 := blk_lt HF.out.cells))
            have c7b : ((wr.drewN nd).setCell ⟨g, 7, none⟩ (.int .i64 r2)).cell? ⟨g, 7, none⟩ = some (.int .i64 r2) := blk_cell (HF2.out.set hg 7 (.int .i64 r2) (st.cells true r2) rfl).cells 7
            go_region
            all_goals go_wp2
            all_goals go_ret2
            all_goals exact ⟨A6, _, rfl, (Fed.drew (HF2.out.set hg 7 (.int .i64 r2) (st.cells true r2) rfl)).fin⟩
        · rw [if_pos (.inr (beq_iff_eq.1 h10))] at hU
          have HU2 := Aside0.mk hU
          clear hU
          go_wp2_with (fail)
          go_roundg (l.length - (j + 1))
          case measure => have := HGK.out; have := HHJ.out; omega
          case rel => exact ⟨j + 1, st, xs, by go_num, ⟨rfl⟩, by have := HHJ.out; omega, ⟨HN.out⟩, HU2, ⟨HF.out⟩, ⟨by have := HL.out; omega⟩⟩
      · rw [if_pos (.inl (beq_iff_eq.1 h13))] at hU
        have HU2 := Aside0.mk hU
        clear hU
        go_wp2_with (fail)
        go_roundg (l.length - (j + 1))
        case measure => have := HGK.out; have := HHJ.out; omega
        case rel => exact ⟨j + 1, st, xs, by go_num, ⟨rfl⟩, by have := HHJ.out; omega, ⟨HN.out⟩, HU2, ⟨HF.out⟩, ⟨by have := HL.out; omega⟩⟩
    · obtain rfl : j = l.length := by omega
      have hU := HU.out
      rw [List.drop_eq_nil_of_le (Nat.le_refl _)] at hU
      simp only [feedL, Prod.mk.injEq] at hU
      obtain ⟨rfl, rfl, rfl⟩ := hU
      obtain ⟨A6, c6, hv6⟩ := own_slice HF.out.row
      subst hv6
      have hc6 : xs.length ≤ c6 := own_le HF.out.row
      have c7 : wr.cell? ⟨g, 7, none⟩ = some (.int .i64 0) := blk_cell HF.out.cells 7
      clear HU hlt
      go_wp2_with (fail)
      go_region
      all_goals go_wp2
      all_goals go_ret2
      all_goals exact ⟨A6, _, rfl, (Fed.drew HF.out).fin⟩

set_option maxHeartbeats 8000000 in
set_option maxRecDepth 100000 in
theorem feed_err (g : Nat) (st : St) (er : Int) (he : er ≠ 0) (v1 : Value) (w : World) (hk : w.heap[g]? = some (.cells (st.cells true er) 57 (0, 0))) :
    Calls Tryd.prog 33 #[.pointer (some ⟨g, 0, none⟩), v1] w fun e w' => e = .returned (.tuple #[.slice none 0 0, .int .i64 er]) ∧ Drawn0 w w' := by
  have hgl := blk_lt hk
  have k0 : w.cell? ⟨g, 0, none⟩ = some (.bool true) := blk_cell hk 0
  have k7 : w.cell? ⟨g, 7, none⟩ = some (.int .i64 er) := blk_cell hk 7
  have hnb : (er != 0) = true := bne_iff_ne.2 he
  clear hk
  go_enter Tryd.func33, Tryd.ntmps33
  go_wp2_with (fail)
  go_region
  all_goals go_wp2
  all_goals go_ret2
  all_goals exact ⟨rfl, Drawn0.step (Drawn0.refl _) 1⟩
def closeV (st : St) (er : Int) : Int := if er = 0 ∧ 0 < st.n then 41 else er
set_option maxHeartbeats 8000000 in
set_option maxRecDepth 100000 in
theorem close_calls (g : Nat) (st : St) (er : Int) (w : World) (hk : w.heap[g]? = some (.cells (st.cells true er) 57 (0, 0))) :
    Calls Tryd.prog 38 #[.pointer (some ⟨g, 0, none⟩)] w fun e w' => e = .returned (.int .i64 (closeV st er)) ∧ w' = w := by
  have hgl := blk_lt hk
  have k0 : w.cell? ⟨g, 0, none⟩ = some (.bool true) := blk_cell hk 0
  have k5 : w.cell? ⟨g, 5, none⟩ = some (.int .i64 (st.n : Int)) := blk_cell hk 5
  have k7 : w.cell? ⟨g, 7, none⟩ = some (.int .i64 er) := blk_cell hk 7
  clear hk
  by_cases he : er = 0
  · subst he
    by_cases hn : 0 < st.n
    · rw [show closeV st 0 = 41 from if_pos ⟨rfl, hn⟩]
      have hn2 : decide ((st.n : Int) > 0) = true := decide_eq_true (by omega)
      have hn3 : decide (0 < (st.n : Int)) = true := decide_eq_true (by omega)
      have hn4 : decide (0 < st.n) = true := decide_eq_true hn
      go_enter Tryd.func38, Tryd.ntmps38
      go_wp2_with (fail)
      go_ret
      exact ⟨rfl, rfl⟩
    · rw [show closeV st 0 = 0 from if_neg (fun h => hn h.2)]
      have hn2 : decide ((st.n : Int) > 0) = false := decide_eq_false (by omega)
      have hn3 : decide (0 < (st.n : Int)) = false := decide_eq_false (by omega)
      have hn4 : decide (0 < st.n) = false := decide_eq_false hn
      go_enter Tryd.func38, Tryd.ntmps38
      go_wp2_with (fail)
      go_ret
      exact ⟨rfl, rfl⟩
  · rw [show closeV st er = er from if_neg (fun h => he h.1)]
    have hnb : (er == 0) = false := beq_eq_false_iff_ne.2 he
    go_enter Tryd.func38, Tryd.ntmps38
    go_wp2_with (fail)
    go_ret
    exact ⟨rfl, rfl⟩
end Go.Proofs.YtokgckhhhhigiaaDoor.Fd
namespace Go.Proofs.YtokgckhhhhigiaaDoor.Turn
set_option linter.unusedVariables false
set_option linter.unusedSimpArgs false
set_option linter.unusedVariables false
set_option linter.unusedSimpArgs false
open Go.RowKit Go.Proofs.YtokgckhhhhigiaaDoorW.PrintWords Go.Proofs.YtokgckhhhhigiaaDoorW.PrintLast Go.Proofs.YtokgckhhhhigiaaDoorW.PrintMore Go.Proofs.YtokgckhhhhigiaaDoor.B Go.Proofs.YtokgckhhhhigiaaDoor.M Go.Proofs.YtokgckhhhhigiaaDoor.D

theorem form_some {w : World} {A : Option Addr} {n c : Nat} {ys : List Value} (h : w.ownsRow 0 5 1 (.slice A n c) n ys) (hn : 0 < n) : ∃ g, A = some ⟨g, 0, none⟩ ∧ n ≤ c ∧ g < w.heap.size := by
  rcases h.2 with ⟨h', h0⟩ | ⟨g, cap, cur, h', _, hg, hnc, _⟩
  · omega
  · obtain ⟨h1, _, rfl⟩ := slice_inj h'
    exact ⟨g, h1, hnc, (Array.getElem?_eq_some_iff.1 hg).1⟩
theorem form_val {w : World} {v : Value} {n : Nat} {ys : List Value} (h : w.ownsRow 0 5 1 v n ys) (hn : 0 < n) : ∃ g c, v = .slice (some ⟨g, 0, none⟩) n c := by
  rcases h.2 with ⟨h', h0⟩ | ⟨g, cap, cur, h', _⟩
  · omega
  · exact ⟨g, cap, h'⟩
theorem cell_some {w : World} {g n c : Nat} {ys : List Value} (h : w.ownsRow 0 5 1 (.slice (some ⟨g, 0, none⟩) n c) n ys) (j : Nat) (hj : j < n) : ∃ u, w.cell? ⟨g, j, none⟩ = some u := by
  have h1 := h.cellAt j (by omega)
  have hl := h.1
  rw [List.getElem?_eq_getElem (by omega)] at h1
  exact ⟨_, h1⟩

set_option maxHeartbeats 4000000 in
set_option maxRecDepth 100000 in
theorem spoil_calls (A : Option Addr) (n c : Nat) (ys : List Value) (w : World) (ho : w.ownsRow 0 5 1 (.slice A n c) n ys) (hn : n ≤ 70368744177664) :
    Calls Tryd.prog 17 #[.slice A n c] w fun e w' => e = .returned (.tuple #[]) ∧ w.grownBy w' (Value.slice A n c).ownBlock := by
  have HS : Aside0 (Spoilt 5 w (.slice A n c) n w) := ⟨⟨World.grownBy.refl w _, ys, ho⟩⟩
  have H0 := Aside0.mk ho
  clear ho
  have hmk : ∀ W : World, (Instr.makeSlice 22 (.int .i64 70) (.int .i64 70)).run Tryd.prog W = .ok (.slice (some ⟨W.heap.size, 0, none⟩) 70 70) (W.alloc (.cells (madeCells #[.int .u8 0] 70) 5)) := print_make (P := Tryd.prog) 22 5 .u8 1 Tryd.underlying22 info5 (by decide) 70 (by decide)
  go_enter Tryd.func17, Tryd.ntmps17
  go_wp2
  go_loopw [2, 8] (fun v2 v8 wr => ∃ j : Nat, v8 = .int .i64 j ∧ j ≤ n ∧ Aside0 (Spoilt 5 w (.slice A n c) n wr)) (fun _ v8 _ => n - (intOf v8).toNat)
  case atStart => exact ⟨0, rfl, by omega, HS⟩
  case round =>
    clear HS
    obtain ⟨j, rfl, hj, HS⟩ := hrel
    by_cases hlt : j < n
    · obtain ⟨zs, HO⟩ := HS.out.row
      obtain ⟨g, rfl, hnc, hgl⟩ := form_some HO (by omega)
      obtain ⟨u, hu⟩ := cell_some HO j hlt
      have hf := HO.frozenAt j
      have HN := Aside0.mk (Spoilt.step HS.out (g := .slice (some ⟨g, 0, none⟩) n c) (.inl rfl) (HO.stored j (.int .u8 90)).2 (Rows1.stored HO j (.int .u8 90)))
      clear HO
      go_wp2_with (first
        | ((with_reducible refine gate_store (t := 5) (p := 13) rfl ?_); refine store_event (t := 5) (p := 13) (v := ?vo_w14) (w1 := (wr.setCell ⟨g, j, none⟩ (.int .u8 90))) ?hg ?ho ?hn ?hr ?_; (case ho => rfl); (case hg => rfl); (case hn => rfl); (case hr => first | (go_simp; done) | (go_simp; rfl)); intro w14 hw; rw [← hw] at HN; clear hw))
      go_roundw
      case rel => exact ⟨j + 1, by go_num, by omega, HN⟩
      case measure => simp [intOf]; omega
    · obtain rfl : j = n := by omega
      clear hlt
      obtain ⟨zs, HO1⟩ := HS.out.row
      have HO := Aside0.mk HO1
      clear HO1
      have hsz := Aside0.mk HS.out.grown.size
      go_wp2
      go_loopw [3, 16] (fun v3 v16 w2 => ∃ k : Nat, v16 = .int .i64 k ∧ k ≤ 20 ∧ ∃ zs, Aside0 (w2.ownsRow 0 5 1 v3 (j + k) zs) ∧ Aside0 (Near w (.slice A j c) v3) ∧ Aside0 (Spoilt 5 w (.slice A j c) j w2)) (fun _ v16 _ => 20 - (intOf v16).toNat)
      case atStart => exact ⟨0, rfl, by omega, zs, HO, ⟨.inl rfl⟩, HS⟩
      case round =>
        clear HO HS hsz
        obtain ⟨k, rfl, hk, zs, HO, HNear, HS⟩ := hrel
        by_cases hlt : k < 20
        · go_wp2_with (first | ((with_reducible refine gate_builtin (b := .append) (xs := #[.tmp 18, .tmp 19]) rfl ?_); at_builtin; refine turn_append 0 rfl (.tmp 18) (.tmp 19) 22 5 (.int .u8 0) 1 rfl Tryd.underlying22 info5 rfl (by decide) u3 (j + k) zs (.int .u8 90) rfl rfl rfl HO.out (Nat.zero_le _) (by omega) ?_; intro v130 w11 ho1 hg hrows hat; have n0_ := Aside0.mk ho1; have n1_ := Aside0.mk (HNear.out.next HS.out.grown.size hat); have n2_ := Aside0.mk (HS.out.step HNear.out hg hrows); clear HO HNear HS; have HO := n0_; have HNear := n1_; have HS := n2_; clear n0_ n1_ n2_ ho1 hg hrows hat))
          go_roundw
          case rel => exact ⟨k + 1, by go_num, by omega, _, HO, HNear, HS⟩
          case measure => simp [intOf]; omega
        · obtain rfl : k = 20 := by omega
          clear hlt
          have HQ := Aside0.mk (own_made wr w.heap.size 5 .u8 70 HS.out.grown.size (by omega))
          have hq : w.heap.size ≤ wr.heap.size := HS.out.grown.size
          have H1 := Aside0.mk (HS.out.fresh (World.grownBy_alloc wr (.cells (madeCells #[.int .u8 0] 70) 5) none))
          clear HO HNear HS zs
          go_wp2
          obtain ⟨q, hqe⟩ : ∃ q, q = wr.heap.size := ⟨_, rfl⟩
          obtain ⟨wq, hwq⟩ : ∃ wq, wq = wr.alloc (.cells (madeCells #[.int .u8 0] 70) 5) := ⟨_, rfl⟩
          rw [← hwq] at HQ H1 ⊢
          rw [← hqe] at HQ hq ⊢
          clear hwq hqe
          go_loopw [5, 25] (fun v5 v25 w3 => ∃ k : Nat, v25 = .int .i64 k ∧ k ≤ 70 ∧ ∃ ms, Aside0 (w3.ownsRow w.heap.size 5 1 (.slice (some ⟨q, 0, none⟩) 70 70) 70 (nums .u8 ms)) ∧ Aside0 (Spoilt 5 w (.slice A j c) j w3)) (fun _ v25 _ => 70 - (intOf v25).toNat)
          case atStart => exact ⟨0, rfl, by omega, _, HQ, H1⟩
          case round =>
            clear HQ H1
            obtain ⟨k, rfl, hk, ms, HQ, HS⟩ := hrel
            by_cases hlt : k < 70
            · have HQ0 := own_weaken HQ.out (Nat.zero_le _)
              obtain ⟨u, hu⟩ := cell_some HQ0 k hlt
              have hf := HQ0.frozenAt k
              have hst := own_store HQ.out (k : Int) 90
              rw [Int.toNat_natCast] at hst
              have HM := Aside0.mk hst.1
              have HN := Aside0.mk (Spoilt.step HS.out (g := .slice (some ⟨q, 0, none⟩) 70 70) (.inr fun b hb => by simp [Value.ownBlock] at hb; omega) hst.2 (Rows1.stored HQ0 k (.int .u8 90)))
              clear HQ0 hst HQ HS
              go_wp2_with (first
                | ((with_reducible refine gate_store (t := 5) (p := 30) rfl ?_); refine store_event (t := 5) (p := 30) (v := ?vo_w14) (w1 := (wr.setCell ⟨q, k, none⟩ (.int .u8 90))) ?hg ?ho ?hn ?hr ?_; (case ho => rfl); (case hg => rfl); (case hn => rfl); (case hr => first | (go_simp; done) | (go_simp; rfl)); intro w14 hw; rw [← hw] at HN HM; clear hw))
              go_roundw
              case rel => exact ⟨k + 1, by go_num, by omega, _, HM, HN⟩
              case measure => simp [intOf]; omega
            · obtain rfl : k = 70 := by omega
              clear hlt
              obtain ⟨zs, HO1⟩ := HS.out.row
              have HO := Aside0.mk HO1
              clear HO1
              go_wp2_with (first
                | ((with_reducible refine gate_builtin (b := .append) (xs := #[.tmp 32, .tmp 33]) rfl ?_); at_builtin; refine turn_append_row 0 rfl (.tmp 32) (.tmp 33) 22 5 (.int .u8 0) 1 rfl Tryd.underlying22 info5 rfl (by decide) (.slice A j c) j zs ⟨q, 0, none⟩ 70 70 (nums .u8 ms) rfl rfl (by have := HQ.out.1; omega) (HQ.out.cells rfl) (fun u hu => by obtain ⟨x, _, rfl⟩ := List.mem_map.1 hu; rfl) HO.out (Nat.zero_le _) (by omega) ?_; intro v130 w11 ho1 hg hrows hat
                   have hfm := form_val ho1 (by omega)
                   obtain ⟨g1, c1, rfl⟩ := hfm
                   have n1_ := Aside0.mk (Near.next (v := .slice A j c) (g := .slice A j c) (.inl rfl) HS.out.grown.size hat)
                   have n2_ := HS.out.step (.inl rfl) hg hrows
                   have n3_ := Aside0.mk (n2_.step n1_.out (ho1.stored 0 (.int .u8 90)).2 (Rows1.stored ho1 0 (.int .u8 90)))
                   obtain ⟨u, hu⟩ := cell_some ho1 0 (by omega)
                   have hf := ho1.frozenAt 0
                   clear n1_ n2_ HO HQ HS ho1 hg hrows hat)
                | ((with_reducible refine gate_store (t := 5) (p := 39) rfl ?_); refine store_event (t := 5) (p := 39) (v := ?vo_w14) (w1 := (w11.setCell ⟨g1, 0, none⟩ (.int .u8 90))) ?hg ?ho ?hn ?hr ?_; (case ho => rfl); (case hg => rfl); (case hn => rfl); (case hr => first | (go_simp; done) | (go_simp; rfl)); intro w14 hw; rw [← hw] at n3_; clear hw))
              go_end0
              exact ⟨rfl, n3_.out.grown⟩
end Go.Proofs.YtokgckhhhhigiaaDoor.Turn
namespace Go.Proofs.YtokgckhhhhigiaaDoor.Turn
set_option linter.unusedVariables false
set_option linter.unusedSimpArgs false
set_option linter.unusedVariables false
open Go.RowKit Go.Proofs.YtokgckhhhhigiaaDoorW.PrintWords Go.Proofs.YtokgckhhhhigiaaDoorW.PrintLast Go.Proofs.YtokgckhhhhigiaaDoorW.PrintMore Go.Proofs.YtokgckhhhhigiaaDoor.B Go.Proofs.YtokgckhhhhigiaaDoor.M Go.Proofs.YtokgckhhhhigiaaDoor.D

/-- A row of bytes of the call's own. -/
def OwnB (w : World) (v : Value) (xs : List Int) : Prop := w.ownsRow 0 5 1 v xs.length (nums .u8 xs)
theorem OwnB.own {w : World} {v : Value} {xs : List Int} (h : OwnB w v xs) : w.ownsRow 0 5 1 v xs.length (nums .u8 xs) := h
theorem OwnB.of_R {w : World} {base : Nat} {ok : Nat → Prop} {v : Value} {xs : List Int} (h : Kd.R (Kd.int .u8) 5 w base ok v xs) : OwnB w v xs := own_weaken (Kd.own_of_R h) (Nat.zero_le _)
theorem OwnB.below {w w' : World} {v : Value} {xs : List Int} (h : OwnB w v xs) (hb : Below w.heap.size w w') : OwnB w' v xs := own_move h (fun k hk => hb.block k (World.ownsRow.lt h k hk).2)
/-- Two rows that lie in blocks of their own. -/
def Apart (a b : Value) : Prop := ∀ k, a.ownBlock = some k → b.ownBlock = some k → False
theorem Apart.of_R {w w' : World} {xs ys : List Int} {a b : Value} {ok : Nat → Prop} (h : OwnB w a xs) (hr : Kd.R (Kd.int .u8) 5 w' w.heap.size ok b ys) : Apart a b := by
  intro k ha hb
  have h1 := (World.ownsRow.lt h k ha).2
  have h2 := own_base (Kd.own_of_R hr) k hb
  omega
theorem OwnB.spoilt {w w' : World} {a v : Value} {xs : List Int} (h : OwnB w v xs) (hp : Apart v a) (hg : w.grownBy w' a.ownBlock) : OwnB w' v xs := by
  refine World.ownsRow.kept h hg ?_
  cases hv : v.ownBlock with
  | none => exact .inl rfl
  | some k => exact .inr fun e => hp k hv e.symm
theorem OwnB.form {w : World} {v : Value} {xs : List Int} (h : OwnB w v xs) : ∃ A c, v = .slice A xs.length c := by
  rcases h.2 with ⟨h', h0⟩ | ⟨g, cap, cur, h', _⟩
  · exact ⟨none, 0, by rw [h0]; exact h'⟩
  · exact ⟨_, cap, h'⟩
theorem OwnB.one {w : World} {A : Option Addr} {n c : Nat} {x : Int} (h : OwnB w (.slice A n c) [x]) : ∃ g, A = some ⟨g, 0, none⟩ ∧ w.cell? ⟨g, 0, none⟩ = some (.int .u8 x) := by
  have h1 : n = 1 := by
    rcases h.2 with ⟨h', h0⟩ | ⟨g, cap, cur, h', hr⟩
    · simp at h0
    · exact (slice_inj h').2.1
  subst h1
  obtain ⟨g, rfl, _, _⟩ := form_some (w := w) (A := A) (n := 1) (c := c) (ys := nums .u8 [x]) h (by decide)
  exact ⟨g, rfl, World.ownsRow.cellAt (w := w) (base := 0) (e := 5) (size := 1) (n := 1) (cap := c) (xs := nums .u8 [x]) h 0 (by decide)⟩
theorem base_spoilt {w0 w w' : World} {a : Value} (hb : Below w0.heap.size w0 w) (hr : ∀ k, a.ownBlock = some k → w0.heap.size ≤ k) (hg : w.grownBy w' a.ownBlock) : Below w0.heap.size w0 w' :=
  hb.grown hg hb.size hr

end Go.Proofs.YtokgckhhhhigiaaDoor.Turn
