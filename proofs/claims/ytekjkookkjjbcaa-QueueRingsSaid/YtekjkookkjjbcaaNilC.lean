/- QueueNil: what no ring, no heap, and those that New did not make say (walked by hand). -/
import Derived.Test.YtekjkookkjjbcaaEach
import Derived.Test.YtekjkookkjjbcaaRingW
namespace Go.Proofs.Ytekjkookkjjbcaa.NI
set_option linter.unusedVariables false
set_option linter.unusedSimpArgs false
set_option linter.unusedVariables false
set_option linter.unusedSimpArgs false
open Go.RowKit Go.Proofs.YtekjkookkjjbcaaW.PrintWords Go.Proofs.YtekjkookkjjbcaaW.PrintLast Go.Proofs.YtekjkookkjjbcaaW.PrintMore Go.Proofs.Ytekjkookkjjbcaa.B Go.Proofs.Ytekjkookkjjbcaa.M Go.Proofs.Ytekjkookkjjbcaa.RI
attribute [local go_sem] max2_int min2_int max_two min_two
/-- A ring, a heap of texts, that New did not make. -/
def ZR (W : World) (g : Nat) : Prop := W.heap[g]? = some (.cells #[.int .i64 0, .slice none 0 0, .int .i64 0, .int .i64 0] 80 (0, 0))
def ZH (W : World) (g : Nat) : Prop := W.heap[g]? = some (.cells #[.nilFunc, .slice none 0 0, .int .i64 0] 85 (0, 0))
theorem ZR.below {W W' : World} {g : Nat} (h : ZR W g) (hb : Below W.heap.size W W') : ZR W' g := blk_below h hb
theorem ZH.below {W W' : World} {g : Nat} (h : ZH W g) (hb : Below W.heap.size W W') : ZH W' g := blk_below h hb
theorem pop_nil (W : World) :
    Calls Try.prog 28 #[.pointer none] W fun e W' => e = .returned (.tuple #[.int .i64 0, .bool false]) ∧ Below W.heap.size W W' := by
  go_enter Try.func28, Try.ntmps28
  go_wp2_with ((go_at_call 39); (with_reducible refine (at_nil _ 0).mono ?_); rintro e w1 ⟨rfl, hd⟩; have HB := Aside0.mk hd.below; clear hd)
  go_ret2
  exact ⟨rfl, (by repeat (first | exact Below.refl _ _ | exact HB.out | exact Nat.le_refl _ | exact Nat.le_succ _ | (refine below_alloc ?_ _) | (refine below_set ?_ ?_) | (refine pw_below_drewN ?_ _)))⟩
theorem zr_len {W : World} {g : Nat} (h : ZR W g) :
    Calls Try.prog 64 #[.pointer (some ⟨g, 0, none⟩)] W fun e W' => e = .returned (.int .i64 0) ∧ Below W.heap.size W W' := by
  have c1 : W.cell? ⟨g, 3, none⟩ = some (.int .i64 0) := blk_cell h 3
  clear h
  go_enter Try.func64, Try.ntmps64
  go_wp2
  go_ret
  exact ⟨rfl, (by repeat (first | exact Below.refl _ _ | exact HB.out | exact Nat.le_refl _ | exact Nat.le_succ _ | (refine below_alloc ?_ _) | (refine below_set ?_ ?_) | (refine pw_below_drewN ?_ _)))⟩
theorem zr_room {W : World} {g : Nat} (h : ZR W g) :
    Calls Try.prog 67 #[.pointer (some ⟨g, 0, none⟩)] W fun e W' => e = .returned (.int .i64 0) ∧ Below W.heap.size W W' := by
  have c0 : W.cell? ⟨g, 0, none⟩ = some (.int .i64 0) := blk_cell h 0
  have c1 : W.cell? ⟨g, 3, none⟩ = some (.int .i64 0) := blk_cell h 3
  have q1 : IntKind.i64.wrap ((0 : Int) - 0) = 0 := by decide
  clear h
  go_enter Try.func67, Try.ntmps67
  go_wp2
  go_quiet (fail)
  go_wp2
  go_ret
  exact ⟨rfl, (by repeat (first | exact Below.refl _ _ | exact HB.out | exact Nat.le_refl _ | exact Nat.le_succ _ | (refine below_alloc ?_ _) | (refine below_set ?_ ?_) | (refine pw_below_drewN ?_ _)))⟩
theorem zr_at {W : World} {g : Nat} (h : ZR W g) (i : Int) :
    Calls Try.prog 55 #[.pointer (some ⟨g, 0, none⟩), .int .i64 i] W fun e W' => e = .returned (.tuple #[.string ⟨#[]⟩, .bool false]) ∧ Below W.heap.size W W' := by
  have HZ := Aside0.mk h
  clear h
  by_cases hi : i < 0
  · have k1 : decide (i < 0) = true := decide_eq_true hi
    go_enter Try.func55, Try.ntmps55
    go_wp2
    go_ret2
    exact ⟨rfl, (by repeat (first | exact Below.refl _ _ | exact HB.out | exact Nat.le_refl _ | exact Nat.le_succ _ | (refine below_alloc ?_ _) | (refine below_set ?_ ?_) | (refine pw_below_drewN ?_ _)))⟩
  · have k1 : decide (i < 0) = false := decide_eq_false hi
    have k2 : decide (i ≥ 0) = true := decide_eq_true (by omega)
    have k3 : decide (0 ≤ i) = true := decide_eq_true (by omega)
    go_enter Try.func55, Try.ntmps55
    go_wp2_with ((go_at_call 64); (with_reducible refine (zr_len HZ.out).mono ?_); rintro e w1 ⟨rfl, hb⟩; have HB := Aside0.mk hb; clear hb)
    go_ret2
    exact ⟨rfl, (by repeat (first | exact Below.refl _ _ | exact HB.out | exact Nat.le_refl _ | exact Nat.le_succ _ | (refine below_alloc ?_ _) | (refine below_set ?_ ?_) | (refine pw_below_drewN ?_ _)))⟩
theorem zr_pop {W : World} {g : Nat} (h : ZR W g) :
    Calls Try.prog 54 #[.pointer (some ⟨g, 0, none⟩)] W fun e W' => e = .returned (.tuple #[.string ⟨#[]⟩, .bool false]) ∧ Below W.heap.size W W' := by
  go_enter Try.func54, Try.ntmps54
  go_wp2_with ((go_at_call 55); (with_reducible refine (zr_at h 0).mono ?_); rintro e w1 ⟨rfl, hd⟩; have HB := Aside0.mk hd; clear hd)
  go_ret2
  exact ⟨rfl, (by repeat (first | exact Below.refl _ _ | exact HB.out | exact Nat.le_refl _ | exact Nat.le_succ _ | (refine below_alloc ?_ _) | (refine below_set ?_ ?_) | (refine pw_below_drewN ?_ _)))⟩
theorem zr_push {W : World} {g : Nat} (h : ZR W g) (s : ByteArray) :
    Calls Try.prog 60 #[.pointer (some ⟨g, 0, none⟩), .string s] W fun e W' => e = .returned (.int .i64 1) ∧ Below W.heap.size W W' := by
  have c0 : W.cell? ⟨g, 0, none⟩ = some (.int .i64 0) := blk_cell h 0
  clear h
  go_enter Try.func60, Try.ntmps60
  go_wp2
  go_ret
  exact ⟨rfl, (by repeat (first | exact Below.refl _ _ | exact HB.out | exact Nat.le_refl _ | exact Nat.le_succ _ | (refine below_alloc ?_ _) | (refine below_set ?_ ?_) | (refine pw_below_drewN ?_ _)))⟩
theorem zr_drop {W : World} {g : Nat} (h : ZR W g) (k : Int) :
    Calls Try.prog 68 #[.pointer (some ⟨g, 0, none⟩), .int .i64 k] W fun e W' => e = .returned (.int .i64 0) ∧ Below W.heap.size W W' := by
  obtain ⟨k0, hk0⟩ : ∃ k0, (if (0 : Int) < k then (0 : Int) else k) = k0 := ⟨_, rfl⟩
  have k1 : decide (k0 ≤ 0) = true := decide_eq_true (by rw [← hk0]; split <;> omega)
  go_enter Try.func68, Try.ntmps68
  go_wp2_with ((go_at_call 64); (with_reducible refine (zr_len h).mono ?_); rintro e w1 ⟨rfl, hb⟩; have HB := Aside0.mk hb; clear hb)
  go_ret
  exact ⟨rfl, (by repeat (first | exact Below.refl _ _ | exact HB.out | exact Nat.le_refl _ | exact Nat.le_succ _ | (refine below_alloc ?_ _) | (refine below_set ?_ ?_) | (refine pw_below_drewN ?_ _)))⟩
theorem hi_len (W : World) :
    Calls Try.prog 65 #[.pointer none] W fun e W' => e = .returned (.int .i64 0) ∧ Below W.heap.size W W' := by
  go_enter Try.func65, Try.ntmps65
  go_wp2
  go_ret
  exact ⟨rfl, (by repeat (first | exact Below.refl _ _ | exact HB.out | exact Nat.le_refl _ | exact Nat.le_succ _ | (refine below_alloc ?_ _) | (refine below_set ?_ ?_) | (refine pw_below_drewN ?_ _)))⟩
theorem hi_peek (W : World) :
    Calls Try.prog 58 #[.pointer none] W fun e W' => e = .returned (.tuple #[.int .i64 0, .bool false]) ∧ Below W.heap.size W W' := by
  go_enter Try.func58, Try.ntmps58
  go_wp2_with ((go_at_call 65); (with_reducible refine (hi_len _).mono ?_); rintro e w1 ⟨rfl, hb⟩; have HB := Aside0.mk hb; clear hb)
  go_ret2
  exact ⟨rfl, (by repeat (first | exact Below.refl _ _ | exact HB.out | exact Nat.le_refl _ | exact Nat.le_succ _ | (refine below_alloc ?_ _) | (refine below_set ?_ ?_) | (refine pw_below_drewN ?_ _)))⟩
theorem hi_pop (W : World) :
    Calls Try.prog 56 #[.pointer none] W fun e W' => e = .returned (.tuple #[.int .i64 0, .bool false]) ∧ Below W.heap.size W W' := by
  go_enter Try.func56, Try.ntmps56
  go_wp2_with ((go_at_call 58); (with_reducible refine (hi_peek _).mono ?_); rintro e w1 ⟨rfl, hb⟩; have HB := Aside0.mk hb; clear hb)
  go_ret2
  exact ⟨rfl, (by repeat (first | exact Below.refl _ _ | exact HB.out | exact Nat.le_refl _ | exact Nat.le_succ _ | (refine below_alloc ?_ _) | (refine below_set ?_ ?_) | (refine pw_below_drewN ?_ _)))⟩
theorem hi_push (W : World) (x : Int) :
    Calls Try.prog 61 #[.pointer none, .int .i64 x] W fun e W' => e = .returned (.int .i64 1) ∧ Below W.heap.size W W' := by
  go_enter Try.func61, Try.ntmps61
  go_wp2
  go_ret
  exact ⟨rfl, (by repeat (first | exact Below.refl _ _ | exact HB.out | exact Nat.le_refl _ | exact Nat.le_succ _ | (refine below_alloc ?_ _) | (refine below_set ?_ ?_) | (refine pw_below_drewN ?_ _)))⟩
theorem hi_new (W : World) :
    Calls Try.prog 69 #[.nilFunc] W fun e W' => e = .returned (.pointer none) ∧ Below W.heap.size W W' := by
  have hnn : ∀ W, (binOp .eql 119 .nilFunc .nilFunc).run Try.prog W = .ok (.bool true) W := fun W => by kernel_rfl
  go_enter Try.func69, Try.ntmps69
  go_wp2
  go_ret
  exact ⟨rfl, (by repeat (first | exact Below.refl _ _ | exact HB.out | exact Nat.le_refl _ | exact Nat.le_succ _ | (refine below_alloc ?_ _) | (refine below_set ?_ ?_) | (refine pw_below_drewN ?_ _)))⟩
theorem zh_len {W : World} {g : Nat} (h : ZH W g) :
    Calls Try.prog 66 #[.pointer (some ⟨g, 0, none⟩)] W fun e W' => e = .returned (.int .i64 0) ∧ Below W.heap.size W W' := by
  have c1 : W.cell? ⟨g, 1, none⟩ = some (.slice none 0 0) := blk_cell h 1
  clear h
  go_enter Try.func66, Try.ntmps66
  go_wp2
  go_ret
  exact ⟨rfl, (by repeat (first | exact Below.refl _ _ | exact HB.out | exact Nat.le_refl _ | exact Nat.le_succ _ | (refine below_alloc ?_ _) | (refine below_set ?_ ?_) | (refine pw_below_drewN ?_ _)))⟩
theorem zh_peek {W : World} {g : Nat} (h : ZH W g) :
    Calls Try.prog 59 #[.pointer (some ⟨g, 0, none⟩)] W fun e W' => e = .returned (.tuple #[.string ⟨#[]⟩, .bool false]) ∧ Below W.heap.size W W' := by
  go_enter Try.func59, Try.ntmps59
  go_wp2_with ((go_at_call 66); (with_reducible refine (zh_len h).mono ?_); rintro e w1 ⟨rfl, hb⟩; have HB := Aside0.mk hb; clear hb)
  go_ret2
  exact ⟨rfl, (by repeat (first | exact Below.refl _ _ | exact HB.out | exact Nat.le_refl _ | exact Nat.le_succ _ | (refine below_alloc ?_ _) | (refine below_set ?_ ?_) | (refine pw_below_drewN ?_ _)))⟩
theorem zh_pop {W : World} {g : Nat} (h : ZH W g) :
    Calls Try.prog 57 #[.pointer (some ⟨g, 0, none⟩)] W fun e W' => e = .returned (.tuple #[.string ⟨#[]⟩, .bool false]) ∧ Below W.heap.size W W' := by
  go_enter Try.func57, Try.ntmps57
  go_wp2_with ((go_at_call 59); (with_reducible refine (zh_peek h).mono ?_); rintro e w1 ⟨rfl, hb⟩; have HB := Aside0.mk hb; clear hb)
  go_ret2
  exact ⟨rfl, (by repeat (first | exact Below.refl _ _ | exact HB.out | exact Nat.le_refl _ | exact Nat.le_succ _ | (refine below_alloc ?_ _) | (refine below_set ?_ ?_) | (refine pw_below_drewN ?_ _)))⟩
theorem zh_push {W : World} {g : Nat} (h : ZH W g) (s : ByteArray) :
    Calls Try.prog 62 #[.pointer (some ⟨g, 0, none⟩), .string s] W fun e W' => e = .returned (.int .i64 1) ∧ Below W.heap.size W W' := by
  have c0 : W.cell? ⟨g, 0, none⟩ = some .nilFunc := blk_cell h 0
  have hnn : ∀ W, (binOp .eql 82 .nilFunc .nilFunc).run Try.prog W = .ok (.bool true) W := fun W => by kernel_rfl
  clear h
  go_enter Try.func62, Try.ntmps62
  go_wp2
  go_ret
  exact ⟨rfl, (by repeat (first | exact Below.refl _ _ | exact HB.out | exact Nat.le_refl _ | exact Nat.le_succ _ | (refine below_alloc ?_ _) | (refine below_set ?_ ?_) | (refine pw_below_drewN ?_ _)))⟩
end Go.Proofs.Ytekjkookkjjbcaa.NI
