/- The ring of int8: Len, Room, place, New, At (walked by hand). -/
import Derived.Test.YtekjkookkjjbcaaD0
import Derived.Test.YtekjkookkjjbcaaBase
import Derived.Test.YtekjkookkjjbcaaMk
import Derived.Deep.QuietTactic
import Derived.Deep.RegionLaw
import Derived.Deep.RegionHeld3
import Derived.Test.YtekjkookkjjbcaaRingD
namespace Go.Proofs.Ytekjkookkjjbcaa.R8
set_option linter.unusedVariables false
set_option linter.unusedSimpArgs false
set_option linter.unusedVariables false
set_option linter.unusedSimpArgs false
open Go.RowKit Go.Proofs.YtekjkookkjjbcaaW.PrintWords Go.Proofs.YtekjkookkjjbcaaW.PrintLast Go.Proofs.YtekjkookkjjbcaaW.PrintMore Go.Proofs.Ytekjkookkjjbcaa.B Go.Proofs.Ytekjkookkjjbcaa.M Go.Proofs.Ytekjkookkjjbcaa.RI
theorem infoR : (Try.prog.info? 76).map (fun i => (i.zero, i.size, i.bytes)) = some (some (.int .i8 0), 1, 1) := by kernel_rfl
/-- A ring's block. -/
def RB (W : World) (g : Nat) (most : Int) (v : Value) (f n : Nat) : Prop := W.heap[g]? = some (.cells #[.int .i64 most, v, .int .i64 (f : Int), .int .i64 (n : Int)] 116 (0, 0))
/-- Where the thing i lies, of L places, from f on. -/
def posR (L f i : Nat) : Nat := if L ≤ f + i then f + i - L else f + i
/-- What a ring holds. -/
def elsR (rm : List Int) (f n : Nat) : List Int := (List.range n).map fun i => rm.getD (posR rm.length f i) 0
theorem elsR_len (rm : List Int) (f n : Nat) : (elsR rm f n).length = n := by unfold elsR; rw [List.length_map, List.length_range]
theorem elsR_at (rm : List Int) (f n i : Nat) (h : i < n) : (elsR rm f n).getD i 0 = rm.getD (posR rm.length f i) 0 := by
  unfold elsR
  rw [List.getD_eq_getElem?_getD, List.getElem?_map, List.getElem?_range h]
  rfl
/-- A ring that New made. -/
structure RG (w0 W : World) (g : Nat) (most : Int) (v : Value) (rm : List Int) (f n : Nat) : Prop where
  bk : RB W g most v f n
  gg : w0.heap.size ≤ g
  bl : Below w0.heap.size w0 W
  ow : Kd.R (Kd.int .i8) 76 W w0.heap.size (fun _ => True) v rm
  fl : (f = 0 ∧ rm.length = 0) ∨ f < rm.length
  nl : n ≤ rm.length
  ml : (rm.length : Int) ≤ most
  m1 : 1 ≤ most
  m2 : most ≤ 1048576
theorem posR_lt (L f i n : Nat) (hi : i < n) (hn : n ≤ L) (hf : f < L) : posR L f i < L := by
  unfold posR
  split <;> omega
theorem len_calls (W : World) (g : Nat) (most : Int) (v : Value) (f n : Nat) (h : RB W g most v f n) :
    Calls Try.prog 50 #[.pointer (some ⟨g, 0, none⟩)] W fun e W' => e = .returned (.int .i64 (n : Int)) ∧ Drawn0 W W' := by
  have h3 : W.cell? ⟨g, 3, none⟩ = some (.int .i64 (n : Int)) := blk_cell h 3
  go_enter Try.func50, Try.ntmps50
  go_wp2
  go_ret
  exact ⟨rfl, by repeat (first | exact Drawn0.refl _ | apply Drawn0.step)⟩
theorem len_nil (W : World) :
    Calls Try.prog 50 #[.pointer none] W fun e W' => e = .returned (.int .i64 0) ∧ Drawn0 W W' := by
  go_enter Try.func50, Try.ntmps50
  go_wp2
  go_ret
  exact ⟨rfl, by repeat (first | exact Drawn0.refl _ | apply Drawn0.step)⟩
theorem room_calls (W : World) (g : Nat) (most : Int) (v : Value) (f n : Nat) (h : RB W g most v f n) (hm : 0 ≤ most ∧ most ≤ 1048576) (hn : n ≤ 1048576) :
    Calls Try.prog 48 #[.pointer (some ⟨g, 0, none⟩)] W fun e W' => e = .returned (.int .i64 (most - (n : Int))) ∧ Drawn0 W W' := by
  have h3 : W.cell? ⟨g, 3, none⟩ = some (.int .i64 (n : Int)) := blk_cell h 3
  have h0 : W.cell? ⟨g, 0, none⟩ = some (.int .i64 most) := blk_cell h 0
  have q : IntKind.i64.wrap (most - (n : Int)) = most - (n : Int) := by rw [i64_w, wrap_id _ (by omega) (by omega)]
  clear h hm hn
  go_enter Try.func48, Try.ntmps48
  go_wp2
  first
    | (go_ret; exact ⟨rfl, by repeat (first | exact Drawn0.refl _ | apply Drawn0.step)⟩)
    | (go_quiet (fail); go_wp2; go_ret; exact ⟨rfl, by repeat (first | exact Drawn0.refl _ | apply Drawn0.step)⟩)
theorem room_nil (W : World) :
    Calls Try.prog 48 #[.pointer none] W fun e W' => e = .returned (.int .i64 0) ∧ Drawn0 W W' := by
  go_enter Try.func48, Try.ntmps48
  go_wp2
  go_ret
  exact ⟨rfl, by repeat (first | exact Drawn0.refl _ | apply Drawn0.step)⟩
theorem place_calls (W : World) (g : Nat) (most : Int) (A : Option Addr) (L c f n i : Nat) (h : RB W g most (.slice A L c) f n) (hL : L ≤ 1048576) (hf : f ≤ 1048576) (hi : i ≤ 1048576) :
    Calls Try.prog 82 #[.pointer (some ⟨g, 0, none⟩), .int .i64 (i : Int)] W fun e W' => e = .returned (.int .i64 (posR L f i : Int)) ∧ Drawn0 W W' := by
  have h1 : W.cell? ⟨g, 1, none⟩ = some (.slice A L c) := blk_cell h 1
  have h2 : W.cell? ⟨g, 2, none⟩ = some (.int .i64 (f : Int)) := blk_cell h 2
  obtain ⟨s, hs⟩ : ∃ s : Nat, f + i = s := ⟨_, rfl⟩
  have q : IntKind.i64.wrap ((i : Int) + (f : Int)) = (s : Int) := by rw [i64_w, wrap_id _ (by omega) (by omega)]; omega
  by_cases c1 : L ≤ s
  · have k1 : decide ((s : Int) ≥ (L : Int)) = true := decide_eq_true (by omega)
    have k2 : decide ((L : Int) ≤ (s : Int)) = true := decide_eq_true (by omega)
    have k3 : decide (L ≤ s) = true := decide_eq_true c1
    have q2 : IntKind.i64.wrap ((s : Int) - (L : Int)) = ((s - L : Nat) : Int) := by rw [i64_w, wrap_id _ (by omega) (by omega)]; omega
    have e : posR L f i = s - L := by unfold posR; rw [hs, if_pos c1]
    rw [e]
    clear h hL hf hi hs e c1
    go_enter Try.func82, Try.ntmps82
    go_wp2
    go_ret
    exact ⟨rfl, by repeat (first | exact Drawn0.refl _ | apply Drawn0.step)⟩
  · have k1 : decide ((s : Int) ≥ (L : Int)) = false := decide_eq_false (by omega)
    have k2 : decide ((L : Int) ≤ (s : Int)) = false := decide_eq_false (by omega)
    have k3 : decide (L ≤ s) = false := decide_eq_false c1
    have e : posR L f i = s := by unfold posR; rw [hs, if_neg c1]
    rw [e]
    clear h hL hf hi hs e c1
    go_enter Try.func82, Try.ntmps82
    go_wp2
    go_ret
    exact ⟨rfl, by repeat (first | exact Drawn0.refl _ | apply Drawn0.step)⟩
theorem new_bad (W : World) (most : Int) (h : most < 1 ∨ most > 1048576) :
    Calls Try.prog 46 #[.int .i64 most] W fun e W' => e = .returned (.tuple #[.pointer none, .int .i64 2]) ∧ Drawn0 W W' := by
  rcases h with h | h
  · have k1 : decide (most < 1) = true := decide_eq_true h
    go_enter Try.func46, Try.ntmps46
    go_wp2
    go_ret2
    exact ⟨rfl, by repeat (first | exact Drawn0.refl _ | apply Drawn0.step)⟩
  · have k1 : decide (most < 1) = false := decide_eq_false (by omega)
    have k2 : decide (most > 1048576) = true := decide_eq_true h
    have k3 : decide (1048576 < most) = true := decide_eq_true h
    go_enter Try.func46, Try.ntmps46
    go_wp2
    go_ret2
    exact ⟨rfl, by repeat (first | exact Drawn0.refl _ | apply Drawn0.step)⟩
theorem new_calls (w0 W : World) (hB : Below w0.heap.size w0 W) (most : Int) (h : 1 ≤ most ∧ most ≤ 1048576) :
    Calls Try.prog 46 #[.int .i64 most] W fun e W' => ∃ g, e = .returned (.tuple #[.pointer (some ⟨g, 0, none⟩), .int .i64 0]) ∧ RG w0 W' g most (.slice none 0 0) [] 0 0 ∧ Below W.heap.size W W' ∧ W.heap.size ≤ g := by
  have k1 : decide (most < 1) = false := decide_eq_false (by omega)
  have k2 : decide (most > 1048576) = false := decide_eq_false (by omega)
  have k3 : decide (1048576 < most) = false := decide_eq_false (by omega)
  have HH := Aside0.mk h
  clear h
  go_enter Try.func46, Try.ntmps46
  go_wp2
  go_ret2
  have hb := below_alloc (Below.refl W.heap.size W) (.cells #[.int .i64 most, .slice none 0 0, .int .i64 0, .int .i64 0] 116 (0, 0))
  exact ⟨W.heap.size, rfl, ⟨show RB _ _ _ _ _ _ from heap_alloc_new W _, below_size hB, below_step hB hb, Kd.R_nil _ _ _ _ _, .inl ⟨rfl, rfl⟩, Nat.le_refl _, by have := HH.out; simp; omega, HH.out.1, HH.out.2⟩, hb, Nat.le_refl _⟩
theorem drawn_drew {w w' : World} (h : Drawn0 w w') : Drawn0 w w'.drew := Drawn0.step h 1
theorem as_of {W W2 : World} {g : Nat} {most : Int} {ad : Addr} {L c f n p : Nat} {x : Value} (hr : RB W g most (.slice (some ad) L c) f n) (hx : W.cell? (ad.add p) = some x) (hd : Drawn0 W W2) : RB W2 g most (.slice (some ad) L c) f n ∧ W2.cell? ⟨g, 1, none⟩ = some (.slice (some ad) L c) ∧ W2.cell? (ad.add p) = some x ∧ Drawn0 W W2 := by
  obtain ⟨m, rfl⟩ := hd
  exact ⟨hr, blk_cell hr 1, hx, ⟨⟨_, rfl⟩⟩⟩
end Go.Proofs.Ytekjkookkjjbcaa.R8
