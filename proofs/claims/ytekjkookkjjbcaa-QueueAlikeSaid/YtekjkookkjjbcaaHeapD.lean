/- The heap of things: Push (walked by hand). -/
import Derived.Test.YtekjkookkjjbcaaHeapC
import Derived.Deep.LoopGhost
namespace Go.Proofs.Ytekjkookkjjbcaa.HW
set_option linter.unusedVariables false
set_option linter.unusedSimpArgs false
set_option linter.unusedVariables false
set_option linter.unusedSimpArgs false
open Go.RowKit Go.Proofs.YtekjkookkjjbcaaW.PrintWords Go.Proofs.YtekjkookkjjbcaaW.PrintLast Go.Proofs.YtekjkookkjjbcaaW.PrintMore Go.Proofs.Ytekjkookkjjbcaa.B Go.Proofs.Ytekjkookkjjbcaa.M Go.Proofs.Ytekjkookkjjbcaa.HeapP
/-- A heap in the midst of a sifting: b0 is the block of its row when the call began at V. -/
structure HL (w0 V W : World) (g K : Nat) (came : Int) (g9 c9 : Nat) (b0 : Option Nat) (xs : List T3) : Prop where
  bk : HB W g (.func (.func K) #[] #[]) (.slice (some ⟨g9, 0, none⟩) xs.length c9) came
  gg : w0.heap.size ≤ g
  bl : Below w0.heap.size w0 W
  ow : O3 W w0.heap.size g9 c9 xs
  kp : KeepBut V W g b0
  at9 : b0 = some g9 ∨ V.heap.size ≤ g9
section
variable {w0 V W W' : World} {g K : Nat} {came : Int} {g9 c9 : Nat} {b0 : Option Nat} {xs ys : List T3}
theorem keep_below {b : Option Nat} (h : KeepBut V W g b) (hb : Below W.heap.size W W') : KeepBut V W' g b :=
  ⟨Nat.le_trans h.1 hb.size, fun i hi h1 h2 => (hb.block i (Nat.lt_of_lt_of_le hi h.1)).trans (h.2 i hi h1 h2)⟩
theorem keep_row (h : KeepBut V W g b0) (hk : W.grownBy W' (some g9)) (h9 : b0 = some g9 ∨ V.heap.size ≤ g9) : KeepBut V W' g b0 :=
  ⟨Nat.le_trans h.1 hk.size, fun i hi h1 h2 => (hk.block i (Nat.lt_of_lt_of_le hi h.1) (fun e => by
    injection e with e
    rcases h9 with h9 | h9
    · exact h2 (by rw [h9, e])
    · omega)).trans (h.2 i hi h1 h2)⟩
theorem HL.ne (h : HL w0 V W g K came g9 c9 b0 xs) : g ≠ g9 := fun e => by
  obtain ⟨cur, hh, _⟩ := h.ow.blk
  have := h.bk
  unfold HB at this
  rw [e, hh] at this
  injection this with this
  injection this with _ this
  exact absurd this (by decide)
theorem HL.below (h : HL w0 V W g K came g9 c9 b0 xs) (hb : Below W.heap.size W W') : HL w0 V W' g K came g9 c9 b0 xs := by
  obtain ⟨cur, hh, _⟩ := h.ow.blk
  exact ⟨blk_below h.bk hb, h.gg, below_step h.bl hb, h.ow.keep (hb.block _ (blk_lt hh)), keep_below h.kp hb, h.at9⟩
theorem HL.row (h : HL w0 V W g K came g9 c9 b0 xs) (ho : O3 W' w0.heap.size g9 c9 ys) (hk : W.grownBy W' (some g9)) (hl : ys.length = xs.length) : HL w0 V W' g K came g9 c9 b0 ys := by
  obtain ⟨cur, hh, hb9, _⟩ := h.ow.blk
  refine ⟨?_, h.gg, ?_, ho, keep_row h.kp hk h.at9, h.at9⟩
  · rw [hl]
    exact (hk.block g (blk_lt h.bk) (fun e => h.ne (Option.some.inj e))).trans h.bk
  · exact pw_below_grown h.bl _ (below_size h.bl) hk (fun k hk => by injection hk with hk; rw [← hk]; exact hb9)
theorem HL.toG {c : Int → Int → Int} (h : HL w0 V W g K came g9 c9 b0 xs) (hm : xs.length ≤ 1048576) (hp : IsHeap (leW c) d3 xs) : HG w0 W g K c came (.slice (some ⟨g9, 0, none⟩) xs.length c9) xs :=
  ⟨h.bk, h.gg, h.bl, RW.of h.ow, hm, hp⟩
end
theorem lit3_own (W : World) (x : T3) : ReadsRow (kW.K W) 3 (W.alloc (.cells #[.int .i64 x.1, .int .i64 x.2.1, .int .i64 x.2.2] 101 (0, 0))) (some ⟨W.heap.size, 0, none⟩) 1 [x] := by
  refine ⟨rfl, by decide, fun _ => ⟨_, rfl, fun j p hj => ?_⟩⟩
  have hh := heap_alloc_new W (.cells #[.int .i64 x.1, .int .i64 x.2.1, .int .i64 x.2.2] 101 (0, 0))
  cases j with
  | succ j => simp at hj
  | zero =>
    obtain rfl : x = p := by simpa using hj
    refine ⟨enc3 x, rfl, kW_mkK _ _, fun i u hu => ?_⟩
    rw [Nat.zero_mul, Nat.zero_add]
    have := cell_of_row _ W.heap.size i _ _ (0, 0) hh
    show World.cell? _ (Addr.add ⟨W.heap.size, 0, none⟩ i) = _
    rw [show (Addr.add ⟨W.heap.size, 0, none⟩ i) = (⟨W.heap.size, i, none⟩ : Addr) by unfold Addr.add; simp; intro h; exact h.symm]
    rw [this]
    unfold enc3 at hu
    rw [← hu, ← Array.getElem?_toList]
end Go.Proofs.Ytekjkookkjjbcaa.HW
