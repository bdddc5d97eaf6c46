/- sum.Stream's methods (walked by hand), on the stream's cells. -/
import Derived.Test.YtlaglidgjnpncaaSumC
namespace Go.Proofs.Ytlaglidgjnpncaa.SumF
set_option linter.unusedVariables false
set_option linter.unusedSimpArgs false
set_option linter.unusedVariables false
set_option linter.unusedSimpArgs false
open Go.RowKit Go.Proofs.YtlaglidgjnpncaaW.PrintWords Go.Proofs.YtlaglidgjnpncaaW.PrintLast Go.Proofs.YtlaglidgjnpncaaW.PrintMore Go.Proofs.Ytlaglidgjnpncaa.B Go.Proofs.Ytlaglidgjnpncaa.M

def strm (m : Bool) (s n : Int) : Array Value := #[.bool m, .int .u32 s, .int .i64 n]
/-- What a call that writes this block alone leaves. -/
structure Left (g : Nat) (cs : Array Value) (w w' : World) : Prop where
  blk : w'.heap[g]? = some (.cells cs 50 (0, 0))
  below : ∀ w0 : World, w0.heap.size ≤ g → Below w0.heap.size w0 w → Below w0.heap.size w0 w'
  keep : KeepBut w w' g none

theorem new_calls (w : World) :
    Calls Try.prog 20 #[] w fun e w' => e = .returned (.pointer (some ⟨w.heap.size, 0, none⟩)) ∧ w' = w.alloc (.cells (strm true 0 0) 50) := by
  go_enter Try.func20, Try.ntmps20
  go_wp2
  go_ret
  exact ⟨rfl, rfl⟩
theorem there_nil (w : World) : Calls Try.prog 42 #[.pointer none] w fun e w' => e = .returned (.bool false) ∧ w = w' := by
  go_enter Try.func42, Try.ntmps42
  go_wp2
  go_ret
  exact ⟨rfl, rfl⟩
theorem there_calls (g : Nat) (m : Bool) (s n : Int) (w : World) (hk : w.heap[g]? = some (.cells (strm m s n) 50 (0, 0))) :
    Calls Try.prog 42 #[.pointer (some ⟨g, 0, none⟩)] w fun e w' => e = .returned (.bool m) ∧ w = w' := by
  have h0 : w.cell? ⟨g, 0, none⟩ = some (.bool m) := blk_cell hk 0
  go_enter Try.func42, Try.ntmps42
  go_wp2
  go_ret
  exact ⟨rfl, rfl⟩
theorem sum_calls (g : Nat) (s n : Int) (w : World) (hk : w.heap[g]? = some (.cells (strm true s n) 50 (0, 0))) :
    Calls Try.prog 23 #[.pointer (some ⟨g, 0, none⟩)] w fun e w' => e = .returned (.int .u32 s) ∧ w = w' := by
  have h0 : w.cell? ⟨g, 1, none⟩ = some (.int .u32 s) := blk_cell hk 1
  go_enter Try.func23, Try.ntmps23
  go_wp2_with (go_at_call 42; refine (there_calls g true s n _ hk).mono ?_; rintro e w' ⟨rfl, rfl⟩)
  go_ret
  exact ⟨rfl, rfl⟩
theorem len_calls (g : Nat) (s n : Int) (w : World) (hk : w.heap[g]? = some (.cells (strm true s n) 50 (0, 0))) :
    Calls Try.prog 24 #[.pointer (some ⟨g, 0, none⟩)] w fun e w' => e = .returned (.int .i64 n) ∧ w = w' := by
  have h0 : w.cell? ⟨g, 2, none⟩ = some (.int .i64 n) := blk_cell hk 2
  go_enter Try.func24, Try.ntmps24
  go_wp2_with (go_at_call 42; refine (there_calls g true s n _ hk).mono ?_; rintro e w' ⟨rfl, rfl⟩)
  go_ret
  exact ⟨rfl, rfl⟩
set_option maxHeartbeats 4000000 in
theorem write_calls (g : Nat) (s n r : Int) (A : Option Addr) (c : Nat) (xs : List Int) (w : World) (hk : w.heap[g]? = some (.cells (strm true s n) 50 (0, 0))) (hr : Kd.C (Kd.int .u8) w A xs.length xs) (hc : xs.length ≤ c)
    (h : sum_More.f s xs = some r) (h0 : 0 ≤ n) (h1 : n + xs.length ≤ 9223372036854775807) :
    Calls Try.prog 22 #[.pointer (some ⟨g, 0, none⟩), .slice A xs.length c] w fun e w' => e = .returned (.int .i64 0) ∧ Left g (strm true r (n + xs.length)) w w' := by
  have H := Aside0.mk h
  have HK := Aside0.mk hk
  have HR := Aside0.mk hr
  have HC := Aside0.mk hc
  have c1 : w.cell? ⟨g, 1, none⟩ = some (.int .u32 s) := blk_cell hk 1
  clear h hk hr hc
  go_enter Try.func22, Try.ntmps22
  go_wp2_with (first
    | (go_at_call 42; refine (there_calls g true s n _ HK.out).mono ?_; rintro e w' ⟨rfl, rfl⟩)
    | (go_at_call 14; refine (sum_More.calls s A c xs r _ HR.out HC.out H.out).mono ?_; rintro e w1 ⟨rfl, hb⟩; have hk1 := blk_below HK.out hb; have d1 : w1.cell? ⟨g, 1, none⟩ = some (.int .u32 s) := blk_cell hk1 1; have d2 : w1.cell? ⟨g, 2, none⟩ = some (.int .i64 n) := blk_cell hk1 2; have f1 := blk_frozen hk1 1; have f2 := blk_frozen hk1 2; have HK1 := Aside0.mk hk1; have HB := Aside0.mk hb; clear hk1 hb))
  go_ret
  refine ⟨rfl, ?_, fun w0 hg hw => ?_, ?_⟩
  · exact blk_put (cs := strm true r n) (blk_put (cs := strm true s n) HK1.out 1 _ rfl) 2 _ rfl
  · exact below_set (below_set (below_step hw HB.out) hg) hg
  · refine ⟨?_, fun i hi h1 h2 => ?_⟩
    · have := HB.out.size; simpa [World.setCell] using this
    · rw [Below.heap_setCell _ _ _ _ h1, Below.heap_setCell _ _ _ _ h1]
      exact HB.out.block i hi
end Go.Proofs.Ytlaglidgjnpncaa.SumF
