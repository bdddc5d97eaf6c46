/- SumPlays: the methods of a stream that may be none, and the reference's stream by value. -/
import Derived.Test.YtlaglidgjnpncaaSumCutL
import Derived.Test.YtlaglidgjnpncaaSumS
import Derived.Test.YtlaglidgjnpncaaH1
import Derived.Test.YtlaglidgjnpncaaH2
namespace Go.Proofs.Ytlaglidgjnpncaa.SumF
set_option linter.unusedVariables false
set_option linter.unusedSimpArgs false
set_option linter.unusedVariables false
set_option linter.unusedSimpArgs false
open Go.RowKit Go.Proofs.YtlaglidgjnpncaaW.PrintWords Go.Proofs.YtlaglidgjnpncaaW.PrintLast Go.Proofs.YtlaglidgjnpncaaW.PrintMore Go.Proofs.Ytlaglidgjnpncaa.B Go.Proofs.Ytlaglidgjnpncaa.M Go.Proofs.Ytlaglidgjnpncaa.H Go.Proofs.Ytlaglidgjnpncaa.SumP Go.Proofs.Ytlaglidgjnpncaa.Crc

def ptrv (q : Option Nat) : Value := .pointer (q.map fun g => ⟨g, 0, none⟩)
/-- A stream that may be none: made or not, its sum, its bytes. -/
def Strm (W : World) (q : Option Nat) (m : Bool) (s n : Int) : Prop := (q = none ∧ m = false) ∨ ∃ g, q = some g ∧ W.heap[g]? = some (.cells (strm m s n) 50 (0, 0))
theorem there_q (q : Option Nat) (m : Bool) (s n : Int) (w : World) (hk : Strm w q m s n) :
    Calls Try.prog 42 #[ptrv q] w fun e w' => e = .returned (.bool m) ∧ w = w' := by
  rcases hk with ⟨rfl, rfl⟩ | ⟨g, rfl, hk⟩
  · exact there_nil w
  · exact there_calls g m s n w hk
theorem sum_no (q : Option Nat) (s n : Int) (w : World) (hk : Strm w q false s n) :
    Calls Try.prog 23 #[ptrv q] w fun e w' => e = .returned (.int .u32 0) ∧ w = w' := by
  go_enter Try.func23, Try.ntmps23
  go_wp2_with (go_at_call 42; refine (there_q q false s n _ hk).mono ?_; rintro e w' ⟨rfl, rfl⟩)
  go_ret
  exact ⟨rfl, rfl⟩
theorem len_no (q : Option Nat) (s n : Int) (w : World) (hk : Strm w q false s n) :
    Calls Try.prog 24 #[ptrv q] w fun e w' => e = .returned (.int .i64 0) ∧ w = w' := by
  go_enter Try.func24, Try.ntmps24
  go_wp2_with (go_at_call 42; refine (there_q q false s n _ hk).mono ?_; rintro e w' ⟨rfl, rfl⟩)
  go_ret
  exact ⟨rfl, rfl⟩
theorem write_no (q : Option Nat) (s n : Int) (v : Value) (w : World) (hk : Strm w q false s n) :
    Calls Try.prog 22 #[ptrv q, v] w fun e w' => e = .returned (.int .i64 1) ∧ w = w' := by
  go_enter Try.func22, Try.ntmps22
  go_wp2_with (go_at_call 42; refine (there_q q false s n _ hk).mono ?_; rintro e w' ⟨rfl, rfl⟩)
  go_ret
  exact ⟨rfl, rfl⟩
theorem reset_no (q : Option Nat) (s n : Int) (w : World) (hk : Strm w q false s n) :
    Calls Try.prog 29 #[ptrv q] w fun e w' => e = .returned (.tuple #[]) ∧ w = w' := by
  go_enter Try.func29, Try.ntmps29
  go_wp2_with (go_at_call 42; refine (there_q q false s n _ hk).mono ?_; rintro e w' ⟨rfl, rfl⟩)
  first | go_end0 | ((try simp only [Exit.inBlock, Exit.then]); refine bodyPost_ret (results_none rfl _ _ _) rfl ?_)
  exact ⟨rfl, rfl⟩
theorem reset_yes (g : Nat) (s n : Int) (w : World) (hk : w.heap[g]? = some (.cells (strm true s n) 50 (0, 0))) :
    Calls Try.prog 29 #[.pointer (some ⟨g, 0, none⟩)] w fun e w' => e = .returned (.tuple #[]) ∧ Left g (strm true 0 0) w w' := by
  have HK := Aside0.mk hk
  have d1 : w.cell? ⟨g, 1, none⟩ = some (.int .u32 s) := blk_cell hk 1
  have d2 : w.cell? ⟨g, 2, none⟩ = some (.int .i64 n) := blk_cell hk 2
  have f1 := blk_frozen hk 1
  have f2 := blk_frozen hk 2
  clear hk
  go_enter Try.func29, Try.ntmps29
  go_wp2_with (go_at_call 42; refine (there_calls g true s n _ HK.out).mono ?_; rintro e w' ⟨rfl, rfl⟩)
  first | go_end0 | ((try simp only [Exit.inBlock, Exit.then]); refine bodyPost_ret (results_none rfl _ _ _) rfl ?_)
  refine ⟨rfl, ?_, fun w0 hg hw => ?_, ?_⟩
  · exact blk_put (cs := strm true 0 n) (blk_put (cs := strm true s n) HK.out 1 _ rfl) 2 _ rfl
  · exact below_set (below_set hw hg) hg
  · refine ⟨?_, fun i hi h1 h2 => ?_⟩
    · simp [World.setCell]
    · rw [Below.heap_setCell _ _ _ _ h1, Below.heap_setCell _ _ _ _ h1]
theorem copy_no (q : Option Nat) (s n : Int) (w : World) (hk : Strm w q false s n) :
    Calls Try.prog 31 #[ptrv q] w fun e w' => e = .returned (.pointer none) ∧ w = w' := by
  go_enter Try.func31, Try.ntmps31
  go_wp2_with (go_at_call 42; refine (there_q q false s n _ hk).mono ?_; rintro e w' ⟨rfl, rfl⟩)
  go_ret
  exact ⟨rfl, rfl⟩
theorem copy_yes (g : Nat) (s n : Int) (w : World) (hk : w.heap[g]? = some (.cells (strm true s n) 50 (0, 0))) :
    Calls Try.prog 31 #[.pointer (some ⟨g, 0, none⟩)] w fun e w' => e = .returned (.pointer (some ⟨w.heap.size, 0, none⟩)) ∧ w'.heap[w.heap.size]? = some (.cells (strm true s n) 50 (0, 0)) ∧ Below w.heap.size w w' := by
  have HK := Aside0.mk hk
  have d0 : w.cell? ⟨g, 0, none⟩ = some (.bool true) := blk_cell hk 0
  have d1 : w.cell? ⟨g, 1, none⟩ = some (.int .u32 s) := blk_cell hk 1
  have d2 : w.cell? ⟨g, 2, none⟩ = some (.int .i64 n) := blk_cell hk 2
  clear hk
  go_enter Try.func31, Try.ntmps31
  go_wp2_with (go_at_call 42; refine (there_calls g true s n _ HK.out).mono ?_; rintro e w' ⟨rfl, rfl⟩)
  go_ret
  exact ⟨rfl, blk_new _ _, below_alloc (Below.refl _ _) _⟩

/-- The boxes of the reference's Write: the stream and the result. -/
structure WI (w : World) (gb gr : Nat) (v : Value) (W : World) : Prop where
  below : Below w.heap.size w W
  bk : W.heap[gb]? = some (.cells #[.bool true, v] 53 (0, 0))
  rk : W.heap[gr]? = some (.cells #[.bool false, .slice none 0 0] 53 (0, 0))
  ne : gb ≠ gr
  hgb : w.heap.size ≤ gb
  hgr : w.heap.size ≤ gr
theorem WI.grown {w W W2 : World} {gb gr : Nat} {v : Value} {row : Option Nat} (h : WI w gb gr v W) (hg : W.grownBy W2 row) (h1 : some gb ≠ row) (h2 : some gr ≠ row) (hb : Below w.heap.size w W2) : WI w gb gr v W2 :=
  ⟨hb, blk_grown h.bk hg h1, blk_grown h.rk hg h2, h.ne, h.hgb, h.hgr⟩
theorem WI.cells {w W : World} {gb gr : Nat} {v : Value} (h : WI w gb gr v W) : W.cell? ⟨gb, 0, none⟩ = some (.bool true) ∧ W.cell? ⟨gb, 1, none⟩ = some v ∧ W.cell? ⟨gr, 0, none⟩ = some (.bool false) ∧ W.cell? ⟨gr, 1, none⟩ = some (.slice none 0 0) ∧ W.frozen? ⟨gr, 0, none⟩ = false ∧ W.frozen? ⟨gr, 1, none⟩ = false :=
  ⟨blk_cell h.bk 0, blk_cell h.bk 1, blk_cell h.rk 0, blk_cell h.rk 1, blk_frozen h.rk 0, blk_frozen h.rk 1⟩
set_option maxHeartbeats 8000000 in
set_option maxRecDepth 100000 in
theorem refWrite_yes (A B : Option Addr) (c d : Nat) (l b : List Int) (w : World) (hr : Kd.C (Kd.int .u8) w A l.length l) (hc : l.length ≤ c) (hs : Kd.C (Kd.int .u8) w B b.length b) (hd : b.length ≤ d) (hl : l.length + b.length < 140737488355328) :
    Calls Try.prog 27 #[.agg #[.bool true, .slice A l.length c], .slice B b.length d] w fun e w' => ∃ v1, e = .returned (.agg #[.bool true, v1]) ∧ Kd.R (Kd.int .u8) 5 w' w.heap.size (fun _ => True) v1 (l ++ b) ∧ Below w.heap.size w w' := by
  have hu53 := Try.underlying53
  have HR := Aside0.mk hr
  have HC := Aside0.mk hc
  have HS := Aside0.mk hs
  have HD := Aside0.mk hd
  have HL := Aside0.mk hl
  have HB := Aside0.mk (Below.refl w.heap.size w)
  clear hr hc hs hd hl
  go_enter Try.func27, Try.ntmps27
  go_wp2_with (first
    | ((with_reducible refine gate_dst (N := 2) rfl ?_); refine box_event ?hg (N := 2) ?hd (cs := #[.bool true, .slice A l.length c]) (t := 53) ?hr ?_; (case hd => rfl); (case hg => rfl); (case hr => first | (go_simp; done) | (go_simp; rfl)); intro gb hg w7 hbox hb; have GB := Aside0.mk (show w.heap.size ≤ gb by rw [hg]; exact Nat.le_refl _); have BK := Aside0.mk hbox; have n_ := Aside0.mk (below_step HB.out hb); clear HB hb hbox hg; have HB := n_; clear n_)
    | ((with_reducible refine gate_dst (N := 4) rfl ?_); refine box_event ?hg (N := 4) ?hd (cs := #[.bool false, .slice none 0 0]) (t := 53) ?hr ?_; (case hd => rfl); (case hg => rfl); (case hr => first | (go_simp; done) | (go_simp; rfl)); intro gr hg w8 hbox hb; have HW : Aside0 (WI w gb gr (.slice A l.length c) w8) := ⟨⟨below_step HB.out hb, blk_below BK.out hb, hbox, by rw [hg]; exact Nat.ne_of_lt (blk_lt BK.out), GB.out, by rw [hg]; exact HB.out.size⟩⟩; clear HB BK GB hb hbox hg; obtain ⟨z0, z1, z2, z3, z4, z5⟩ := HW.out.cells)
    | ((with_reducible refine gate_dst (N := 10) rfl ?_); refine Kd.R_lit (Kd.int .u8) w.heap.size 5 ?hg (N := 10) ?hd (xs := ([] : List Int)) (inner := []) (ok := fun _ => True) (okp := fun _ => True) ?hr ?hp (fun _ hk => hk) trivial HW.out.below HW.out.below.size (by simp) ?_; (case hd => rfl); (case hg => rfl); (case hr => first | (go_simp; done) | (go_simp; rfl)); (case hp => exact (Reps.none _ _)); intro v174 w11 ho hb hg _; have n_ := Aside0.mk (HW.out.grown hg (by simp) (by simp) hb); clear HW z0 z1 z2 z3 z4 z5 hb hg; have HW := n_; clear n_; have HO := Aside0.mk ho; clear ho; obtain ⟨z0, z1, z2, z3, z4, z5⟩ := HW.out.cells)
    | ((with_reducible refine gate_builtin (b := .append) (xs := #[.tmp 10, .tmp 12]) rfl ?_); at_builtin; refine Kd.R_append_rows (Kd.int .u8) (w0 := w) w.heap.size rfl (.tmp 10) (.tmp 12) 23 5 (.int .u8 0) 1 rfl Try.underlying23 info5 rfl (by decide) (by omega) v174 ([] : List Int) l _ _ _ (fun _ => True) (fun _ => False) rfl rfl HO.out (Kd.C_below HR.out HW.out.below) (fun _ _ h => h) (fun _ h => h.elim) (fun _ _ => trivial) HW.out.below HW.out.below.size (by simp; have := HL.out; omega) ?_; intro v177 w14 ho hb hg _; have n_ := Aside0.mk (HW.out.grown hg (Kd.R_ne HO.out HW.out.bk (by decide)) (Kd.R_ne HO.out HW.out.rk (by decide)) hb); clear HW HO z0 z1 z2 z3 z4 z5 hb hg; have HW := n_; clear n_; have HO := Aside0.mk ho; clear ho; obtain ⟨z0, z1, z2, z3, z4, z5⟩ := HW.out.cells)
    | ((with_reducible refine gate_builtin (b := .append) (xs := #[.tmp 14, .tmp 15]) rfl ?_); at_builtin; refine Kd.R_append_rows (Kd.int .u8) (w0 := w) w.heap.size rfl (.tmp 14) (.tmp 15) 23 5 (.int .u8 0) 1 rfl Try.underlying23 info5 rfl (by decide) (by omega) v177 ([] ++ l : List Int) b _ _ _ (fun _ => True) (fun _ => False) rfl rfl HO.out (Kd.C_below HS.out HW.out.below) (fun _ _ h => h) (fun _ h => h.elim) (fun _ _ => trivial) HW.out.below HW.out.below.size (by simp; have := HL.out; omega) ?_; intro v178 w15 ho hb hg _; obtain ⟨A2, c2, e2⟩ := Kd.R_slice ho; rw [e2] at ho ⊢; have n_ := Aside0.mk (HW.out.grown hg (Kd.R_ne HO.out HW.out.bk (by decide)) (Kd.R_ne HO.out HW.out.rk (by decide)) hb); clear HW HO z0 z1 z2 z3 z4 z5 hb hg; have HW := n_; clear n_; have HO := Aside0.mk ho; clear ho; obtain ⟨z0, z1, z2, z3, z4, z5⟩ := HW.out.cells))
  refine bodyPost_ret (results_cell_row rfl _ _ gr 53 #[.bool true, .slice A2 (l.length + b.length) c2] (0, 0) _ rfl (by refine blk_put (cs := #[.bool true, .slice none 0 0]) ?_ 1 _ rfl; refine blk_put (cs := #[.bool false, .slice none 0 0]) ?_ 0 _ rfl; exact HW.out.rk) Try.underlying53 rfl (by kernel_rfl)) rfl ?_
  have h := HO.out
  have el : ([] ++ l ++ b : List Int) = l ++ b := rfl
  rw [el, List.length_append] at h
  exact ⟨_, rfl, Kd.R_mono (Kd.R_far (p := ⟨gr, 1, none⟩) (Kd.R_far (p := ⟨gr, 0, none⟩) (Kd.R_types h HW.out.rk (by decide)) (fun _ hk => hk.2) (.bool true)) (fun _ hk => hk.2) (.slice A2 (l.length + b.length) c2)) (fun _ hk => hk.1), below_set (below_set HW.out.below HW.out.hgr) HW.out.hgr⟩
set_option maxHeartbeats 4000000 in
theorem refWrite_no (A : Option Addr) (c n : Nat) (v : Value) (w : World) :
    Calls Try.prog 27 #[.agg #[.bool false, .slice A n c], v] w fun e w' => e = .returned (.agg #[.bool false, .slice A n c]) ∧ Below w.heap.size w w' := by
  have hu53 := Try.underlying53
  have HB := Aside0.mk (Below.refl w.heap.size w)
  go_enter Try.func27, Try.ntmps27
  go_wp2_with (first
    | ((with_reducible refine gate_dst (N := 2) rfl ?_); refine box_event ?hg (N := 2) ?hd (cs := #[.bool false, .slice A n c]) (t := 53) ?hr ?_; (case hd => rfl); (case hg => rfl); (case hr => first | (go_simp; done) | (go_simp; rfl)); intro gb hg w7 hbox hb; have GB := Aside0.mk (show w.heap.size ≤ gb by rw [hg]; exact Nat.le_refl _); have BK := Aside0.mk hbox; have n_ := Aside0.mk (below_step HB.out hb); clear HB hb hbox hg; have HB := n_; clear n_)
    | ((with_reducible refine gate_dst (N := 4) rfl ?_); refine box_event ?hg (N := 4) ?hd (cs := #[.bool false, .slice none 0 0]) (t := 53) ?hr ?_; (case hd => rfl); (case hg => rfl); (case hr => first | (go_simp; done) | (go_simp; rfl)); intro gr hg w8 hbox hb; have GR := Aside0.mk (show w.heap.size ≤ gr by rw [hg]; exact HB.out.size); have hbk := blk_below BK.out hb; have RK := Aside0.mk hbox; have n_ := Aside0.mk (below_step HB.out hb); clear HB BK hb hg; have HB := n_; clear n_; have z0 : w8.cell? ⟨gb, 0, none⟩ = some (.bool false) := blk_cell hbk 0; have z1 : w8.cell? ⟨gb, 1, none⟩ = some (.slice A n c) := blk_cell hbk 1; have z2 := blk_frozen hbox 0; have z3 := blk_frozen hbox 1; have z4 : w8.cell? ⟨gr, 0, none⟩ = some (.bool false) := blk_cell hbox 0; have z5 : w8.cell? ⟨gr, 1, none⟩ = some (.slice none 0 0) := blk_cell hbox 1; clear hbox hbk))
  refine bodyPost_ret (results_cell_row rfl _ _ gr 53 #[.bool false, .slice A n c] (0, 0) _ rfl (by refine blk_put (cs := #[.bool false, .slice none 0 0]) ?_ 1 _ rfl; refine blk_put (cs := #[.bool false, .slice none 0 0]) ?_ 0 _ rfl; exact RK.out) Try.underlying53 rfl (by kernel_rfl)) rfl ?_
  exact ⟨rfl, below_set (below_set HB.out GR.out) GR.out⟩
end Go.Proofs.Ytlaglidgjnpncaa.SumF
