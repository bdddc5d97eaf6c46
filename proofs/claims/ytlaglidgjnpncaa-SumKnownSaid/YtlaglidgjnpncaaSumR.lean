/- slices.Repeat of one byte, 32 times (walked by hand). -/
import Derived.Test.YtlaglidgjnpncaaSumS
import Derived.Laws.CopyOwn
import Derived.Deep.RegionLaw
namespace Go.Proofs.Ytlaglidgjnpncaa.SumF
set_option linter.unusedVariables false
set_option linter.unusedSimpArgs false
set_option linter.unusedVariables false
set_option linter.unusedSimpArgs false
open Go.RowKit Go.Proofs.YtlaglidgjnpncaaW.PrintWords Go.Proofs.YtlaglidgjnpncaaW.PrintLast Go.Proofs.YtlaglidgjnpncaaW.PrintMore Go.Proofs.Ytlaglidgjnpncaa.B Go.Proofs.Ytlaglidgjnpncaa.M

theorem mul_calls (w : World) : Calls Try.prog 43 #[.int .u64 1, .int .u64 32] w fun e w' => e = .returned (.tuple #[.int .u64 0, .int .u64 32]) ∧ w = w' := by
  go_enter Try.func43, Try.ntmps43
  go_wp2
  go_ret2
  exact ⟨rfl, rfl⟩
def part (n : Nat) : List Value := List.replicate n (.int .u8 255) ++ List.replicate (32 - n) (.int .u8 0)
theorem src_of {W : World} {g : Nat} {cs : Array Value} {t : TypeId} {l : List Value} (hk : W.heap[g]? = some (.cells cs t (0, 0))) (hl : cs.toList.take l.length = l) : ∀ j v, l[j]? = some v → W.cell? ((⟨g, 0, none⟩ : Addr).add j) = some v := by
  intro j v hj
  have ha : (⟨g, 0, none⟩ : Addr).add j = ⟨g, j, none⟩ := by unfold Addr.add; split <;> simp_all
  rw [ha, blk_cell hk j, ← hj, ← Array.getElem?_toList]
  have hlt := (List.getElem?_eq_some_iff.1 hj).1
  conv => rhs; rw [← hl]
  rw [List.getElem?_take, if_pos hlt]
theorem part_one (p : List Value) (hp : p = part 0) : splice p 0 [Value.int .u8 255] = part 1 := by subst hp; rfl
theorem part_len (p : List Value) (hp : p = part 0) : 0 + [Value.int .u8 255].length ≤ p.length := by subst hp; decide
theorem one_cells : ∀ v ∈ [Value.int .u8 255], v.oneCell' = true := by intro v hv; simp at hv; subst hv; rfl
theorem src_mid {W : World} {g o : Nat} {cs : Array Value} {t : TypeId} {l : List Value} (hk : W.heap[g]? = some (.cells cs t (0, 0))) (hl : (cs.toList.drop o).take l.length = l) : ∀ j v, l[j]? = some v → W.cell? ((⟨g, o, none⟩ : Addr).add j) = some v := by
  intro j v hj
  have ha : (⟨g, o, none⟩ : Addr).add j = ⟨g, o + j, none⟩ := by unfold Addr.add; split <;> simp_all
  rw [ha, blk_cell hk (o + j), ← hj, ← Array.getElem?_toList]
  have hlt := (List.getElem?_eq_some_iff.1 hj).1
  conv => rhs; rw [← hl]
  rw [List.getElem?_take, if_pos hlt, List.getElem?_drop]
theorem rep_cells (n : Nat) : ∀ v ∈ List.replicate n (Value.int .u8 255), v.oneCell' = true := by intro v hv; rw [List.eq_of_mem_replicate hv]; rfl
def ones (n : Nat) : List Value := List.replicate n (.int .u8 255)
theorem ones_cells (n : Nat) : ∀ v ∈ ones n, v.oneCell' = true := rep_cells n
theorem part_s1 : splice (part 1) 1 (ones 1) = part 2 := rfl
theorem part_l1 : 1 + (ones 1).length ≤ (part 1).length := by decide
theorem part_t1 : ((part 1).toArray.toList.drop 0).take (ones 1).length = ones 1 := rfl
theorem ones_l1 : (ones 1).length = 1 := rfl
theorem ones_m1 : (ones 1).length = min 31 1 := rfl
theorem part_s2 : splice (part 2) 2 (ones 2) = part 4 := rfl
theorem part_l2 : 2 + (ones 2).length ≤ (part 2).length := by decide
theorem part_t2 : ((part 2).toArray.toList.drop 0).take (ones 2).length = ones 2 := rfl
theorem ones_l2 : (ones 2).length = 2 := rfl
theorem ones_m2 : (ones 2).length = min 30 2 := rfl
theorem part_s4 : splice (part 4) 4 (ones 4) = part 8 := rfl
theorem part_l4 : 4 + (ones 4).length ≤ (part 4).length := by decide
theorem part_t4 : ((part 4).toArray.toList.drop 0).take (ones 4).length = ones 4 := rfl
theorem ones_l4 : (ones 4).length = 4 := rfl
theorem ones_m4 : (ones 4).length = min 28 4 := rfl
theorem part_s8 : splice (part 8) 8 (ones 8) = part 16 := rfl
theorem part_l8 : 8 + (ones 8).length ≤ (part 8).length := by decide
theorem part_t8 : ((part 8).toArray.toList.drop 0).take (ones 8).length = ones 8 := rfl
theorem ones_l8 : (ones 8).length = 8 := rfl
theorem ones_m8 : (ones 8).length = min 24 8 := rfl
theorem part_s16 : splice (part 16) 16 (ones 16) = part 32 := rfl
theorem part_l16 : 16 + (ones 16).length ≤ (part 16).length := by decide
theorem part_t16 : ((part 16).toArray.toList.drop 0).take (ones 16).length = ones 16 := rfl
theorem ones_l16 : (ones 16).length = 16 := rfl
theorem ones_m16 : (ones 16).length = min 16 16 := rfl
theorem part_0 (W : World) : (Instr.makeSlice 23 (.int .i64 32) (.int .i64 32)).run Try.prog W = .ok (.slice (some ⟨W.heap.size, 0, none⟩) 32 32) (W.alloc (.cells (part 0).toArray 5 (0, 0))) := by kernel_rfl
attribute [local irreducible] part ones
set_option maxHeartbeats 8000000 in
set_option maxRecDepth 100000 in
theorem repeat_calls (g : Nat) (w : World) (hk : w.heap[g]? = some (.cells #[.int .u8 255] 5 (0, 0))) :
    Calls Try.prog 34 #[.slice (some ⟨g, 0, none⟩) 1 1, .int .i64 32] w fun e w' => ∃ g', e = .returned (.slice (some ⟨g', 0, none⟩) 32 32) ∧ w'.heap[g']? = some (.cells (part 32).toArray 5 (0, 0)) ∧ Below w.heap.size w w' := by
  have HB := Aside0.mk (Below.refl w.heap.size w)
  have HK := Aside0.mk hk
  clear hk
  have hmk : ∀ W : World, (Instr.makeSlice 23 (.int .i64 32) (.int .i64 32)).run Try.prog W = .ok (.slice (some ⟨W.heap.size, 0, none⟩) 32 32) (W.alloc (.cells (part 0).toArray 5 (0, 0))) := fun W => part_0 W
  obtain ⟨p0, hp0⟩ : ∃ p, p = part 0 := ⟨_, rfl⟩
  rw [← hp0] at hmk
  have HP0 := Aside0.mk hp0
  clear hp0
  go_enter Try.func34, Try.ntmps34
  go_wp2_with (first
    | (go_at_call 43; refine (mul_calls _).mono ?_; rintro e w' ⟨rfl, rfl⟩)
    | ((with_reducible refine gate_builtin (b := .copy) (xs := #[.tmp 31, .tmp 32]) rfl ?_); refine wpList_copy_splice rfl (.tmp 31) (.tmp 32) 23 23 rfl 5 Try.underlying23 (by kernel_rfl) (some ⟨w.heap.size, 0, none⟩) (some ⟨g, 0, none⟩) 32 32 1 1 rfl rfl w.heap.size 0 p0 5 (blk_new _ _) [.int .u8 255] rfl (fun _ => ⟨rfl, ⟨g, 0, none⟩, rfl, src_of (blk_alloc HK.out _) rfl⟩) (part_len p0 HP0.out) one_cells w.heap.size w (below_alloc (Below.refl _ _) _) (Nat.le_refl _) ?_; intro w1 hg1 hb1; have hx := hg1.out; rw [part_one p0 HP0.out] at hx; have HX := Aside0.mk hx; have HB1 := Aside0.mk hb1; clear hg1 hb1 hx HB))
  go_loopw [8] (fun v8 wr => ∃ (n : Nat) (z : Int), v8 = .int .i64 z ∧ ((z = 1 ∧ n = 1) ∨ (z = 2 ∧ n = 2) ∨ (z = 4 ∧ n = 4) ∨ (z = 8 ∧ n = 8) ∨ (z = 16 ∧ n = 16) ∨ (z = 32 ∧ n = 32)) ∧ Aside0 (wr.heap[w.heap.size]? = some (.cells (part n).toArray 5 (0, 0))) ∧ Aside0 (Below w.heap.size w wr)) (fun v8 _ => 32 - (intOf v8).toNat)
  case atStart => exact ⟨1, 1, rfl, .inl ⟨rfl, rfl⟩, HX, HB1⟩
  case round =>
    clear HX HB1
    obtain ⟨n, z, rfl, hz, HX, HB⟩ := hrel
    rcases hz with ⟨rfl, rfl⟩ | ⟨rfl, rfl⟩ | ⟨rfl, rfl⟩ | ⟨rfl, rfl⟩ | ⟨rfl, rfl⟩ | ⟨rfl, rfl⟩
    · go_wp2
      go_region_law (refine step_copy_splice (by kernel_rfl) (.tmp 41) (.tmp 44) 23 23 (by kernel_rfl) 5 Try.underlying23 (by kernel_rfl) (some ⟨w.heap.size, 1, none⟩) (some ⟨w.heap.size, 0, none⟩) 31 31 1 32 (by kernel_rfl) (by kernel_rfl) w.heap.size 1 (part 1) 5 HX.out (ones 1) ones_m1 (fun _ => ⟨rfl, ⟨w.heap.size, 0, none⟩, rfl, src_mid HX.out part_t1⟩) part_l1 (ones_cells 1) w.heap.size w (below_drew1 HB.out) (Nat.le_refl _) ?_; intro w2 hg2 hb2; have hx2 := hg2.out; rw [part_s1] at hx2; have HX2 := Aside0.mk hx2; have HB2 := Aside0.mk hb2; clear hg2 hb2 hx2; rw [ones_l1])
      all_goals simp only [Act.put, List.getElem_toArray, List.getElem_cons_succ, List.getElem_cons_zero, List.setIfInBounds_toArray, List.set_cons_succ, List.set_cons_zero]
      all_goals go_wp2
      all_goals go_roundw
      · exact ⟨_, _, rfl, .inr (.inl ⟨rfl, rfl⟩), HX2, HB2⟩
      all_goals decide
    · go_wp2
      go_region_law (refine step_copy_splice (by kernel_rfl) (.tmp 41) (.tmp 44) 23 23 (by kernel_rfl) 5 Try.underlying23 (by kernel_rfl) (some ⟨w.heap.size, 2, none⟩) (some ⟨w.heap.size, 0, none⟩) 30 30 2 32 (by kernel_rfl) (by kernel_rfl) w.heap.size 2 (part 2) 5 HX.out (ones 2) ones_m2 (fun _ => ⟨rfl, ⟨w.heap.size, 0, none⟩, rfl, src_mid HX.out part_t2⟩) part_l2 (ones_cells 2) w.heap.size w (below_drew1 HB.out) (Nat.le_refl _) ?_; intro w2 hg2 hb2; have hx2 := hg2.out; rw [part_s2] at hx2; have HX2 := Aside0.mk hx2; have HB2 := Aside0.mk hb2; clear hg2 hb2 hx2; rw [ones_l2])
      all_goals simp only [Act.put, List.getElem_toArray, List.getElem_cons_succ, List.getElem_cons_zero, List.setIfInBounds_toArray, List.set_cons_succ, List.set_cons_zero]
      all_goals go_wp2
      all_goals go_roundw
      · exact ⟨_, _, rfl, .inr (.inr (.inl ⟨rfl, rfl⟩)), HX2, HB2⟩
      all_goals decide
    · go_wp2
      go_region_law (refine step_copy_splice (by kernel_rfl) (.tmp 41) (.tmp 44) 23 23 (by kernel_rfl) 5 Try.underlying23 (by kernel_rfl) (some ⟨w.heap.size, 4, none⟩) (some ⟨w.heap.size, 0, none⟩) 28 28 4 32 (by kernel_rfl) (by kernel_rfl) w.heap.size 4 (part 4) 5 HX.out (ones 4) ones_m4 (fun _ => ⟨rfl, ⟨w.heap.size, 0, none⟩, rfl, src_mid HX.out part_t4⟩) part_l4 (ones_cells 4) w.heap.size w (below_drew1 HB.out) (Nat.le_refl _) ?_; intro w2 hg2 hb2; have hx2 := hg2.out; rw [part_s4] at hx2; have HX2 := Aside0.mk hx2; have HB2 := Aside0.mk hb2; clear hg2 hb2 hx2; rw [ones_l4])
      all_goals simp only [Act.put, List.getElem_toArray, List.getElem_cons_succ, List.getElem_cons_zero, List.setIfInBounds_toArray, List.set_cons_succ, List.set_cons_zero]
      all_goals go_wp2
      all_goals go_roundw
      · exact ⟨_, _, rfl, .inr (.inr (.inr (.inl ⟨rfl, rfl⟩))), HX2, HB2⟩
      all_goals decide
    · go_wp2
      go_region_law (refine step_copy_splice (by kernel_rfl) (.tmp 41) (.tmp 44) 23 23 (by kernel_rfl) 5 Try.underlying23 (by kernel_rfl) (some ⟨w.heap.size, 8, none⟩) (some ⟨w.heap.size, 0, none⟩) 24 24 8 32 (by kernel_rfl) (by kernel_rfl) w.heap.size 8 (part 8) 5 HX.out (ones 8) ones_m8 (fun _ => ⟨rfl, ⟨w.heap.size, 0, none⟩, rfl, src_mid HX.out part_t8⟩) part_l8 (ones_cells 8) w.heap.size w (below_drew1 HB.out) (Nat.le_refl _) ?_; intro w2 hg2 hb2; have hx2 := hg2.out; rw [part_s8] at hx2; have HX2 := Aside0.mk hx2; have HB2 := Aside0.mk hb2; clear hg2 hb2 hx2; rw [ones_l8])
      all_goals simp only [Act.put, List.getElem_toArray, List.getElem_cons_succ, List.getElem_cons_zero, List.setIfInBounds_toArray, List.set_cons_succ, List.set_cons_zero]
      all_goals go_wp2
      all_goals go_roundw
      · exact ⟨_, _, rfl, .inr (.inr (.inr (.inr (.inl ⟨rfl, rfl⟩)))), HX2, HB2⟩
      all_goals decide
    · go_wp2
      go_region_law (refine step_copy_splice (by kernel_rfl) (.tmp 41) (.tmp 44) 23 23 (by kernel_rfl) 5 Try.underlying23 (by kernel_rfl) (some ⟨w.heap.size, 16, none⟩) (some ⟨w.heap.size, 0, none⟩) 16 16 16 32 (by kernel_rfl) (by kernel_rfl) w.heap.size 16 (part 16) 5 HX.out (ones 16) ones_m16 (fun _ => ⟨rfl, ⟨w.heap.size, 0, none⟩, rfl, src_mid HX.out part_t16⟩) part_l16 (ones_cells 16) w.heap.size w (below_drew1 HB.out) (Nat.le_refl _) ?_; intro w2 hg2 hb2; have hx2 := hg2.out; rw [part_s16] at hx2; have HX2 := Aside0.mk hx2; have HB2 := Aside0.mk hb2; clear hg2 hb2 hx2; rw [ones_l16])
      all_goals simp only [Act.put, List.getElem_toArray, List.getElem_cons_succ, List.getElem_cons_zero, List.setIfInBounds_toArray, List.set_cons_succ, List.set_cons_zero]
      all_goals go_wp2
      all_goals go_roundw
      · exact ⟨_, _, rfl, .inr (.inr (.inr (.inr (.inr (⟨rfl, rfl⟩))))), HX2, HB2⟩
      all_goals decide
    · go_wp2
      go_ret
      exact ⟨w.heap.size, rfl, HX.out, HB.out⟩
end Go.Proofs.Ytlaglidgjnpncaa.SumF
