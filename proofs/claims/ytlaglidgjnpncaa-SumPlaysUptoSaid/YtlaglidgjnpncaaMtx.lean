/- sum: table, step and a matrix's calls (walked by hand): arrays of numbers, whole. -/
import Derived.Test.YtlaglidgjnpncaaD1
import Derived.Test.YtlaglidgjnpncaaBase
namespace Go.Proofs.Ytlaglidgjnpncaa.Mtx
set_option linter.unusedVariables false
set_option linter.unusedSimpArgs false
set_option linter.unusedVariables false
set_option linter.unusedSimpArgs false
open Go.RowKit Go.Proofs.YtlaglidgjnpncaaW.PrintWords Go.Proofs.YtlaglidgjnpncaaW.PrintLast Go.Proofs.YtlaglidgjnpncaaW.PrintMore Go.Proofs.Ytlaglidgjnpncaa.B Go.Proofs.Ytlaglidgjnpncaa.M Go.Proofs.Ytlaglidgjnpncaa.D

/-- An array of n numbers. -/
def cells (n : Nat) (f : Nat → Int) : Array Value := ((List.range n).map fun j => Value.int .u32 (f j)).toArray
theorem cells_size (n : Nat) (f : Nat → Int) : (cells n f).size = n := by simp [cells]
theorem cells_get (n : Nat) (f : Nat → Int) (j : Nat) (h : j < n) : (cells n f)[j]? = some (.int .u32 (f j)) := by simp [cells, h]
theorem cells_set (n : Nat) (f : Nat → Int) (j : Nat) (v : Int) : (cells n f).setIfInBounds j (.int .u32 v) = cells n (fun i => if i = j then v else f i) := by
  apply Array.ext_getElem?
  intro i
  rw [Array.getElem?_setIfInBounds]
  by_cases h : i < n
  · rw [cells_get n _ i h, cells_get n _ i h, cells_size]
    by_cases e : j = i
    · subst e; simp [h]
    · rw [if_neg e, if_neg (Ne.symm e)]
  · have h1 : (cells n f)[i]? = none := Array.getElem?_eq_none (by rw [cells_size]; omega)
    have h2 : (cells n (fun i => if i = j then v else f i))[i]? = none := Array.getElem?_eq_none (by rw [cells_size]; omega)
    rw [h1, h2, cells_size]
    split
    · rename_i h3; subst h3; rw [if_neg h]
    · rfl
theorem cells_congr (n : Nat) (f g : Nat → Int) (h : ∀ j, j < n → f j = g j) : cells n f = cells n g := by
  unfold cells
  congr 1
  apply List.map_congr_left
  intro j hj
  rw [h j (List.mem_range.1 hj)]

def dn (r : Int) : Int := if (Go.bits .and .u32 r 1) = 1 then (Go.bits .xor .u32 (r / 2) 2197175160) else r / 2
theorem dn_f (r : Int) : sum_down.f r = some (dn r) := by unfold sum_down.f dn; split <;> rfl
def itd : Nat → Int → Int
  | 0, r => r
  | n + 1, r => dn (itd n r)
def tabF (i : Nat) : Int := itd 4 (i : Int)

theorem one_cell (n : Nat) (f : Nat → Int) : (cells n f).all (·.oneCell') = true := by
  rw [Array.all_eq_true_iff_forall_mem]
  intro x hx
  simp only [cells, List.mem_toArray, List.mem_map] at hx
  obtain ⟨j, _, rfl⟩ := hx
  rfl
theorem row_below {w W : World} {g : Nat} {cs : Array Value} (h : Below w.heap.size w W) (hg : w.heap.size ≤ g) : Below w.heap.size w (W.setRow g cs) :=
  ⟨h.os, h.tape, h.output, by rw [setRow_size]; exact h.size, fun k hk => by rw [setRow_other _ _ _ _ (by omega)]; exact h.block k hk⟩
/-- A row of a table, made by n steps. -/
theorem u32_id (x : Int) (h : 0 ≤ x ∧ x < 4294967296) : IntKind.u32.wrap x = x := by rw [IntKind.wrap_u32]; omega

set_option maxHeartbeats 4000000 in
set_option maxRecDepth 100000 in
theorem table_calls (w : World) : Calls Try.prog 35 #[] w fun e w' => e = .returned (.agg (cells 16 tabF)) ∧ Below w.heap.size w w' := by
  have hb0 := Aside0.mk (Below.refl w.heap.size w)
  go_enter Try.func35, Try.ntmps35
  go_wp2
  go_loopw [2, 3, 4] (fun _ _ v4 wr => ∃ i : Nat, v4 = .int .i64 i ∧ i ≤ 16 ∧ Aside0 (wr.heap[w.heap.size + 1]? = some (.cells (cells 16 (fun j => if j < i then tabF j else 0)) 64 (0, 0))) ∧ Aside0 (wr.heap[w.heap.size]? = some (.cells (cells 16 (fun _ => 0)) 64 (0, 0))) ∧ Aside0 (Below w.heap.size w wr)) (fun _ _ v4 _ => 16 - (intOf v4).toNat)
  case atStart =>
    refine ⟨0, rfl, by omega, ⟨?_⟩, ⟨?_⟩, ⟨?_⟩⟩
    · exact heap_alloc2_new _ _ _
    · exact heap_alloc2_old _ _ _
    · exact below_alloc (below_alloc (Below.refl _ _) _) _
  case round =>
    obtain ⟨i, rfl, hi, HT, HZ, HB⟩ := hrel
    by_cases hlt : i < 16
    · have hd16 : decide ((i : Int) < 16) = true := decide_eq_true (by omega)
      go_wp2
      obtain ⟨wo, rfl⟩ : ∃ wo : World, wo = wr := ⟨_, rfl⟩
      go_loopw [3, 9] (fun v3 v9 wr => ∃ j : Nat, v9 = .int .i64 j ∧ j ≤ 4 ∧ v3 = .int .u32 (itd j (i : Int)) ∧ ∃ m, wr = wo.drewN m) (fun _ v9 _ => 4 - (intOf v9).toNat)
      case atStart => exact ⟨0, rfl, by omega, rfl, 0, rfl⟩
      case round =>
        obtain ⟨j, rfl, hj, rfl, m, rfl⟩ := hrel
        by_cases hl2 : j < 4
        · go_wp2_with (go_at_call 44; refine (sum_down.calls _ _ _ (dn_f _)).mono ?_; rintro e w' ⟨rfl, ⟨nd, rfl⟩⟩)
          go_roundw
          case rel => exact ⟨j + 1, by go_num, by omega, rfl, _, rfl⟩
          case measure => simp [intOf]; omega
        · obtain rfl : j = 4 := by omega
          have hc : wo.cell? ⟨w.heap.size + 1, i, none⟩ = some (.int .u32 0) := by
            rw [blk_cell HT.out, cells_get _ _ _ hlt, if_neg (by omega)]
          have hf := blk_frozen HT.out i
          clear hl2 hj
          go_wp2
          go_roundw
          case rel =>
            refine ⟨i + 1, by go_num, by omega, ⟨?_⟩, ⟨?_⟩, ⟨?_⟩⟩
            · refine blk_put (blk_drewN HT.out _) i _ ?_
              rw [show itd 4 (i : Int) = tabF i from rfl, cells_set]
              refine cells_congr _ _ _ fun j hj => ?_
              by_cases e : j = i
              · subst e; rw [if_pos rfl, if_pos (by omega)]
              · rw [if_neg e]
                by_cases e2 : j < i
                · rw [if_pos e2, if_pos (by omega)]
                · rw [if_neg e2, if_neg (by omega)]
            · exact blk_far (blk_drewN HZ.out _) (by simp) _
            · exact below_set (pw_below_drewN HB.out _) (by omega)
          case measure => simp [intOf]; omega
    · obtain rfl : i = 16 := by omega
      have e16 : cells 16 (fun j => if j < 16 then tabF j else 0) = cells 16 tabF := cells_congr _ _ _ fun j hj => if_pos hj
      have hT := HT.out
      rw [e16] at hT
      have HT := Aside0.mk hT
      clear hT e16
      go_wp2_with (first
        | (refine wpList_load_row rfl 64 (.tmp 1) rfl (w.heap.size + 1) rfl 64 (cells 16 tabF) (0, 0) _ HT.out Try.underlying64 rfl (by kernel_rfl) ?_)
        | (refine wpList_store_row rfl 64 (.tmp 0) (.tmp 18) rfl w.heap.size (cells 16 tabF) rfl rfl 64 (cells 16 (fun _ => 0)) HZ.out (by kernel_rfl) (by rw [cells_size, cells_size]) (one_cell _ _) ?_))
      refine bodyPost_ret (results_cell_row rfl _ _ w.heap.size 64 (cells 16 tabF) (0, 0) _ rfl (setRow_heap _ _ _ _ _ _ HZ.out) Try.underlying64 rfl (by kernel_rfl)) rfl ?_
      exact ⟨rfl, row_below HB.out (Nat.le_refl _)⟩

def tst (v : Int) (i : Nat) : Bool := Go.bits .and .u32 (v / 2 ^ i) 1 == 1
def appN (f : Nat → Int) (v : Int) : Nat → Int
  | 0 => 0
  | i + 1 => if tst v i = true then Go.bits .xor .u32 (appN f v i) (f i) else appN f v i
set_option maxHeartbeats 4000000 in
set_option maxRecDepth 100000 in
theorem apply_calls (f : Nat → Int) (v : Int) (hv : 0 ≤ v ∧ v < 4294967296) (w : World) : Calls Try.prog 40 #[.agg (cells 32 f), .int .u32 v] w fun e w' => e = .returned (.int .u32 (appN f v 32)) ∧ Below w.heap.size w w' := by
  obtain ⟨hv0, hv1⟩ := hv
  have hb0 := Aside0.mk (Below.refl w.heap.size w)
  obtain ⟨cs, hcs⟩ : ∃ cs, cs = cells 32 f := ⟨_, rfl⟩
  have HG := Aside0.mk (fun j (h : j < 32) => cells_get 32 f j h)
  rw [← hcs] at HG ⊢
  have HS : Aside0 (cs.size = 32) := ⟨by rw [hcs, cells_size]⟩
  clear hcs
  go_enter Try.func40, Try.ntmps40
  go_wp2
  go_loopw [5, 6, 7] (fun v5 _ v7 wr => ∃ i : Nat, v7 = .int .i64 i ∧ i ≤ 32 ∧ v5 = .int .u32 (appN f v i) ∧ wr = w.alloc (.cells cs 70)) (fun _ _ v7 _ => 32 - (intOf v7).toNat)
  case atStart => exact ⟨0, rfl, by omega, rfl, rfl⟩
  case round =>
    obtain ⟨i, rfl, hi, rfl, rfl⟩ := hrel
    by_cases hlt : i < 32
    · have hc : (w.alloc (.cells cs 70)).cell? ⟨w.heap.size, i, none⟩ = some (.int .u32 (f i)) := by
        rw [blk_cell (blk_new _ _)]; exact HG.out i hlt
      go_wp2
      · have ht : tst v i = true := by assumption
        go_roundw
        case rel => exact ⟨i + 1, by go_num, by omega, by rw [appN, if_pos ht], trivial⟩
        case measure => simp [intOf]; omega
      · have ht : tst v i = false := by assumption
        go_roundw
        case rel => exact ⟨i + 1, by go_num, by omega, by rw [appN, ht, if_neg (by decide)], trivial⟩
        case measure => simp [intOf]; omega
    · obtain rfl : i = 32 := by omega
      clear hlt hi
      go_wp2
      go_ret
      exact ⟨rfl, below_alloc (Below.refl _ _) _⟩

def stp (i : Nat) : Int := itd 8 ((2 : Int) ^ i % 4294967296)
set_option maxHeartbeats 4000000 in
set_option maxRecDepth 100000 in
theorem step_calls (w : World) : Calls Try.prog 39 #[] w fun e w' => e = .returned (.agg (cells 32 stp)) ∧ Below w.heap.size w w' := by
  go_enter Try.func39, Try.ntmps39
  go_wp2
  go_loopw [2, 3, 4] (fun _ _ v4 wr => ∃ i : Nat, v4 = .int .i64 i ∧ i ≤ 32 ∧ Aside0 (wr.heap[w.heap.size + 1]? = some (.cells (cells 32 (fun j => if j < i then stp j else 0)) 70 (0, 0))) ∧ Aside0 (wr.heap[w.heap.size]? = some (.cells (cells 32 (fun _ => 0)) 70 (0, 0))) ∧ Aside0 (Below w.heap.size w wr)) (fun _ _ v4 _ => 32 - (intOf v4).toNat)
  case atStart =>
    refine ⟨0, rfl, by omega, ⟨?_⟩, ⟨?_⟩, ⟨?_⟩⟩
    · exact heap_alloc2_new _ _ _
    · exact heap_alloc2_old _ _ _
    · exact below_alloc (below_alloc (Below.refl _ _) _) _
  case round =>
    obtain ⟨i, rfl, hi, HT, HZ, HB⟩ := hrel
    by_cases hlt : i < 32
    · have hd16 : decide ((i : Int) < 32) = true := decide_eq_true (by omega)
      go_wp2
      obtain ⟨wo, rfl⟩ : ∃ wo : World, wo = wr := ⟨_, rfl⟩
      go_loopw [3, 9] (fun v3 v9 wr => ∃ j : Nat, v9 = .int .i64 j ∧ j ≤ 8 ∧ v3 = .int .u32 (itd j ((2 : Int) ^ i % 4294967296)) ∧ ∃ m, wr = wo.drewN m) (fun _ v9 _ => 8 - (intOf v9).toNat)
      case atStart => exact ⟨0, rfl, by omega, rfl, 0, rfl⟩
      case round =>
        obtain ⟨j, rfl, hj, rfl, m, rfl⟩ := hrel
        by_cases hl2 : j < 8
        · go_wp2_with (go_at_call 44; refine (sum_down.calls _ _ _ (dn_f _)).mono ?_; rintro e w' ⟨rfl, ⟨nd, rfl⟩⟩)
          go_roundw
          case rel => exact ⟨j + 1, by go_num, by omega, rfl, _, rfl⟩
          case measure => simp [intOf]; omega
        · obtain rfl : j = 8 := by omega
          have hc : wo.cell? ⟨w.heap.size + 1, i, none⟩ = some (.int .u32 0) := by
            rw [blk_cell HT.out, cells_get _ _ _ hlt, if_neg (by omega)]
          have hf := blk_frozen HT.out i
          clear hl2 hj
          go_wp2
          go_roundw
          case rel =>
            refine ⟨i + 1, by go_num, by omega, ⟨?_⟩, ⟨?_⟩, ⟨?_⟩⟩
            · refine blk_put (blk_drewN HT.out _) i _ ?_
              rw [show itd 8 ((2 : Int) ^ i % 4294967296) = stp i from rfl, cells_set]
              refine cells_congr _ _ _ fun j hj => ?_
              by_cases e : j = i
              · subst e; rw [if_pos rfl, if_pos (by omega)]
              · rw [if_neg e]
                by_cases e2 : j < i
                · rw [if_pos e2, if_pos (by omega)]
                · rw [if_neg e2, if_neg (by omega)]
            · exact blk_far (blk_drewN HZ.out _) (by simp) _
            · exact below_set (pw_below_drewN HB.out _) (by omega)
          case measure => simp [intOf]; omega
    · obtain rfl : i = 32 := by omega
      have e16 : cells 32 (fun j => if j < 32 then stp j else 0) = cells 32 stp := cells_congr _ _ _ fun j hj => if_pos hj
      have hT := HT.out
      rw [e16] at hT
      have HT := Aside0.mk hT
      clear hT e16
      go_wp2_with (first
        | (refine wpList_load_row rfl 70 (.tmp 1) rfl (w.heap.size + 1) rfl 70 (cells 32 stp) (0, 0) _ HT.out Try.underlying70 rfl (by kernel_rfl) ?_)
        | (refine wpList_store_row rfl 70 (.tmp 0) (.tmp 18) rfl w.heap.size (cells 32 stp) rfl rfl 70 (cells 32 (fun _ => 0)) HZ.out (by kernel_rfl) (by rw [cells_size, cells_size]) (one_cell _ _) ?_))
      refine bodyPost_ret (results_cell_row rfl _ _ w.heap.size 70 (cells 32 stp) (0, 0) _ rfl (setRow_heap _ _ _ _ _ _ HZ.out) Try.underlying70 rfl (by kernel_rfl)) rfl ?_
      exact ⟨rfl, row_below HB.out (Nat.le_refl _)⟩

theorem run_index_cells (f : Nat → Int) (i : Nat) (h : i < 32) (W : World) : (Instr.index 70 (.agg (cells 32 f)) (.int .i64 i)).run Try.prog W = .ok (.int .u32 (f i)) W := by
  have hg := cells_get 32 f i h
  have hu : Try.prog.underlying 70 = some (.array 32 22) := Try.underlying70
  simp [Instr.index, run_underlying hu, asIntOf, go_sem, h, hg]

theorem heap_alloc3_new (w : World) (A B C : Obj) : (((w.alloc A).alloc B).alloc C).heap[w.heap.size + 1 + 1]? = some C := by
  have h := heap_alloc_new ((w.alloc A).alloc B) C
  have e : ((w.alloc A).alloc B).heap.size = w.heap.size + 1 + 1 := by simp
  rwa [e] at h
/-- The matrix done twice. -/
def twF (f : Nat → Int) (i : Nat) : Int := appN f (f i) 32
set_option maxHeartbeats 4000000 in
set_option maxRecDepth 100000 in
theorem twice_calls (f : Nat → Int) (hf : ∀ j, j < 32 → 0 ≤ f j ∧ f j < 4294967296) (w : World) : Calls Try.prog 41 #[.agg (cells 32 f)] w fun e w' => e = .returned (.agg (cells 32 (twF f))) ∧ Below w.heap.size w w' := by
  have HF := Aside0.mk hf
  obtain ⟨cs, hcs⟩ : ∃ cs, cs = cells 32 f := ⟨_, rfl⟩
  have HC := Aside0.mk hcs
  rw [← hcs]
  have hix := fun (i : Nat) (h : i < 32) (W : World) => run_index_cells f i h W
  rw [← hcs] at hix
  have HI := Aside0.mk hix
  have HO := Aside0.mk (one_cell 32 f)
  have HS := Aside0.mk (cells_size 32 f)
  rw [← hcs] at HO HS
  clear hcs hf hix
  obtain ⟨g0, hg0⟩ : ∃ g0, g0 = w.heap.size := ⟨_, rfl⟩
  go_enter Try.func41, Try.ntmps41
  have hS := HS.out
  have HZ := Aside0.mk (cells_size 32 (fun _ => 0))
  have HA := Aside0.mk (fun v (hv : 0 ≤ v ∧ v < 4294967296) W => apply_calls f v hv W)
  rw [← HC.out] at HA
  go_wp2_with (first
    | ((with_reducible refine gate_dst (N := 6) rfl ?_); refine wpList_load_row rfl 70 (.tmp 1) rfl w.heap.size rfl 70 cs (0, 0) _ (blk_alloc (blk_new _ _) _) Try.underlying70 rfl (by rw [HS.out]; kernel_rfl) ?_)
    | ((with_reducible refine gate_store (t := 70) (p := 3) rfl ?_); refine wpList_store_row rfl 70 (.tmp 3) (.tmp 6) rfl (w.heap.size + 1 + 1) cs rfl rfl 70 (cells 32 (fun _ => 0)) (heap_alloc3_new _ _ _ _) (by rw [HS.out]; kernel_rfl) (by rw [HS.out]; exact HZ.out) HO.out ?_)
    | ((with_reducible refine gate_dst (N := 7) rfl ?_); refine wpList_load_row rfl 70 (.tmp 1) rfl w.heap.size rfl 70 cs (0, 0) _ (by rw [setRow_other _ _ _ _ (by omega)]; exact blk_alloc (blk_alloc (blk_new _ _) _) _) Try.underlying70 rfl (by rw [HS.out]; kernel_rfl) ?_))
  clear hS
  go_loopw [4, 5, 8] (fun _ _ v8 wr => ∃ i : Nat, v8 = .int .i64 i ∧ i ≤ 32 ∧ Aside0 (wr.heap[w.heap.size]? = some (.cells cs 70 (0, 0))) ∧ Aside0 (wr.heap[w.heap.size + 1 + 1]? = some (.cells (cells 32 (fun j => if j < i then twF f j else f j)) 70 (0, 0))) ∧ Aside0 (wr.heap[w.heap.size + 1]? = some (.cells (cells 32 (fun _ => 0)) 70 (0, 0))) ∧ Aside0 (Below w.heap.size w wr)) (fun _ _ v8 _ => 32 - (intOf v8).toNat)
  case atStart =>
    refine ⟨0, rfl, by omega, ⟨?_⟩, ⟨?_⟩, ⟨?_⟩, ⟨?_⟩⟩
    · rw [setRow_other _ _ _ _ (by omega)]; exact blk_alloc (blk_alloc (blk_new _ _) _) _
    · rw [setRow_heap _ _ _ _ _ _ (heap_alloc3_new _ _ _ _), HC.out]; rfl
    · rw [setRow_other _ _ _ _ (by omega)]; exact blk_alloc (heap_alloc2_new _ _ _) _
    · exact row_below (below_alloc (below_alloc (below_alloc (Below.refl _ _) _) _) _) (by omega)
  case round =>
    obtain ⟨i, rfl, hi, HM, HT, HY, HB⟩ := hrel
    by_cases hlt : i < 32
    · have hix := HI.out i hlt
      have hfi := HF.out i hlt
      obtain ⟨hfi0, hfi1⟩ := hfi
      go_wp2_with (first
        | ((with_reducible refine gate_dst (N := 13) rfl ?_); refine wpList_load_row rfl 70 (.tmp 1) rfl w.heap.size rfl 70 cs (0, 0) _ HM.out Try.underlying70 rfl (by rw [HS.out]; kernel_rfl) ?_)
        | (go_at_call 40; refine (HA.out (f i) ⟨hfi0, hfi1⟩ _).mono ?_; rintro e w1 ⟨rfl, hb⟩; have hm := blk_below HM.out hb; have ht := blk_below HT.out hb; have hy := blk_below HY.out hb; have hb2 := below_step HB.out hb; clear HM HT HY HB hb; have HM := Aside0.mk hm; have HT := Aside0.mk ht; have HY := Aside0.mk hy; have HB := Aside0.mk hb2; have hc : w1.cell? ⟨w.heap.size + 1 + 1, i, none⟩ = some (.int .u32 (f i)) := (by rw [blk_cell ht, cells_get _ _ _ hlt, if_neg (by omega)]); have hf := blk_frozen ht i; clear hm ht hy hb2))
      go_roundw
      case rel =>
        refine ⟨i + 1, by go_num, by omega, ⟨?_⟩, ⟨?_⟩, ⟨?_⟩, ⟨?_⟩⟩
        · exact blk_far HM.out (show w.heap.size ≠ w.heap.size + 1 + 1 by omega) _
        · refine blk_put HT.out i _ ?_
          rw [show appN f (f i) 32 = twF f i from rfl, cells_set]
          refine cells_congr _ _ _ fun j hj => ?_
          by_cases e : j = i
          · subst e; rw [if_pos rfl, if_pos (by omega)]
          · rw [if_neg e]
            by_cases e2 : j < i
            · rw [if_pos e2, if_pos (by omega)]
            · rw [if_neg e2, if_neg (by omega)]
        · exact blk_far HY.out (show w.heap.size + 1 ≠ w.heap.size + 1 + 1 by omega) _
        · exact below_set HB.out (by omega)
      case measure => simp [intOf]; omega
    · obtain rfl : i = 32 := by omega
      have e16 : cells 32 (fun j => if j < 32 then twF f j else f j) = cells 32 (twF f) := cells_congr _ _ _ fun j hj => if_pos hj
      have hT := HT.out
      rw [e16] at hT
      have HT := Aside0.mk hT
      clear hT e16
      go_wp2_with (first
        | ((with_reducible refine gate_dst (N := 18) rfl ?_); refine wpList_load_row rfl 70 (.tmp 3) rfl (w.heap.size + 1 + 1) rfl 70 (cells 32 (twF f)) (0, 0) _ HT.out Try.underlying70 rfl (by kernel_rfl) ?_)
        | ((with_reducible refine gate_store (t := 70) (p := 2) rfl ?_); refine wpList_store_row rfl 70 (.tmp 2) (.tmp 18) rfl (w.heap.size + 1) (cells 32 (twF f)) rfl rfl 70 (cells 32 (fun _ => 0)) HY.out (by kernel_rfl) (by rw [cells_size, cells_size]) (one_cell _ _) ?_))
      refine bodyPost_ret (results_cell_row rfl _ _ (w.heap.size + 1) 70 (cells 32 (twF f)) (0, 0) _ rfl (setRow_heap _ _ _ _ _ _ HY.out) Try.underlying70 rfl (by kernel_rfl)) rfl ?_
      exact ⟨rfl, row_below HB.out (by omega)⟩
end Go.Proofs.Ytlaglidgjnpncaa.Mtx
