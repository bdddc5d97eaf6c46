/- QueueRings: the frame of a step on two rings. -/
import Derived.Test.YtekjkookkjjbcaaPairS
import Derived.Test.YtekjkookkjjbcaaEachC
import Derived.Test.YtekjkookkjjbcaaEachX
namespace Go.Proofs.Ytekjkookkjjbcaa.PA
set_option linter.unusedVariables false
set_option linter.unusedSimpArgs false
set_option linter.unusedVariables false
set_option linter.unusedSimpArgs false
open Go.RowKit Go.Shelf Go.Proofs.YtekjkookkjjbcaaW.PrintWords Go.Proofs.YtekjkookkjjbcaaW.PrintLast Go.Proofs.YtekjkookkjjbcaaW.PrintMore Go.Proofs.Ytekjkookkjjbcaa.B Go.Proofs.Ytekjkookkjjbcaa.M Go.Proofs.Ytekjkookkjjbcaa.RR
open Go.Proofs.Ytekjkookkjjbcaa.RH (T2 d2 kT RT MovedR)
open Go.Proofs.Ytekjkookkjjbcaa.FL (pushL dropL newC both)
section
variable {w W W' : World}
/-- The frame of a step: what is stepped on, what else there is, the boxes of the reference's pointer, of the operation, of the answer. -/
def Fr (w : World) (A o : Ob w) (b4 b5 b6 : Nat) (xp : Option Addr) (who d N : Int) (r : Bool) : Ob w :=
  both2 (both2 (both2 (both2 A o) (box w b4 51 #[.pointer xp])) (box w b5 33 #[.int .i64 who, .int .i64 d, .int .i64 N])) (box w b6 4 #[.bool r])
variable {A o : Ob w} {b4 b5 b6 : Nat} {xp : Option Addr} {who d N : Int} {r : Bool}
theorem Fr.steps {ι : Type} {f : Nat} {args : Array Value} {v : ι → Value} {o' : ι → Ob w} (h : Steps A f args v o') : Steps (Fr w A o b4 b5 b6 xp who d N r) f args v (fun j => Fr w (o' j) o b4 b5 b6 xp who d N r) := (((h.l _).l _).l _).l _
theorem Fr.rest (h : Has (Fr w A o b4 b5 b6 xp who d N r) W) : Has (both2 A o) W := h.fst.fst.fst
theorem Fr.c4 (h : Has (Fr w A o b4 b5 b6 xp who d N r) W) : W.cell? ⟨b4, 0, none⟩ = some (.pointer xp) := blk_cell h.fst.fst.snd.box 0
theorem Fr.c51 (h : Has (Fr w A o b4 b5 b6 xp who d N r) W) : W.cell? ⟨b5, 1, none⟩ = some (.int .i64 d) := blk_cell h.fst.snd.box 1
theorem Fr.c52 (h : Has (Fr w A o b4 b5 b6 xp who d N r) W) : W.cell? ⟨b5, 2, none⟩ = some (.int .i64 N) := blk_cell h.fst.snd.box 2
theorem Fr.c6 (h : Has (Fr w A o b4 b5 b6 xp who d N r) W) : W.cell? ⟨b6, 0, none⟩ = some (.bool r) := blk_cell h.snd.box 0
theorem Fr.f6 (h : Has (Fr w A o b4 b5 b6 xp who d N r) W) : W.frozen? ⟨b6, 0, none⟩ = false := blk_frozen h.snd.box 0
theorem Fr.set (h : Has (Fr w A o b4 b5 b6 xp who d N r) W) (r' : Bool) : Has (Fr w A o b4 b5 b6 xp who d N r') (W.setCell ⟨b6, 0, none⟩ (.bool r')) := Has.set h 0 (.bool r')
theorem Fr.make (h : Has (both2 A o) W) (xp : Option Addr) (who d N : Int) : Has (Fr w A o W.heap.size (W.heap.size + 1) (W.heap.size + 1 + 1) xp who d N false) (((W.alloc (.cells #[.pointer xp] 51 (0, 0))).alloc (.cells #[.int .i64 who, .int .i64 d, .int .i64 N] 33 (0, 0))).alloc (.cells #[.bool false] 4 (0, 0))) := by
  have h1 := ((h.new #[.pointer xp] 51).new #[.int .i64 who, .int .i64 d, .int .i64 N] 33).new #[.bool false] 4
  rw [World.size_alloc, World.size_alloc, World.size_alloc] at h1
  exact h1
/-- In the loop: the count's box and the iterator's. -/
def Fl (w : World) (A o : Ob w) (b4 b5 b6 : Nat) (xp : Option Addr) (who d N : Int) (r : Bool) (bn be te : Nat) (rp : Option Addr) (n : Int) : Ob w :=
  both2 (both2 (Fr w A o b4 b5 b6 xp who d N r) (box w bn 3 #[.int .i64 n])) (box w be te #[.pointer rp])
variable {bn be te : Nat} {rp : Option Addr} {n : Int}
theorem Fl.steps {ι : Type} {f : Nat} {args : Array Value} {v : ι → Value} {o' : ι → Ob w} (h : Steps A f args v o') : Steps (Fl w A o b4 b5 b6 xp who d N r bn be te rp n) f args v (fun j => Fl w (o' j) o b4 b5 b6 xp who d N r bn be te rp n) := ((Fr.steps h).l _).l _
theorem Fl.fr (h : Has (Fl w A o b4 b5 b6 xp who d N r bn be te rp n) W) : Has (Fr w A o b4 b5 b6 xp who d N r) W := h.fst.fst
theorem Fl.cn (h : Has (Fl w A o b4 b5 b6 xp who d N r bn be te rp n) W) : W.cell? ⟨bn, 0, none⟩ = some (.int .i64 n) := blk_cell h.fst.snd.box 0
theorem Fl.fn (h : Has (Fl w A o b4 b5 b6 xp who d N r bn be te rp n) W) : W.frozen? ⟨bn, 0, none⟩ = false := blk_frozen h.fst.snd.box 0
theorem Fl.ce (h : Has (Fl w A o b4 b5 b6 xp who d N r bn be te rp n) W) : W.cell? ⟨be, 0, none⟩ = some (.pointer rp) := blk_cell h.snd.box 0
theorem Fl.count (h : Has (Fl w A o b4 b5 b6 xp who d N r bn be te rp n) W) (m : Int) : Has (Fl w A o b4 b5 b6 xp who d N r bn be te rp m) (W.setCell ⟨bn, 0, none⟩ (.int .i64 m)) := (((Moves.set W 0 (.int .i64 m)).r _).l _).has h
theorem Fl.make (h : Has (Fr w A o b4 b5 b6 xp who d N r) W) (te : Nat) (rp : Option Addr) : Has (Fl w A o b4 b5 b6 xp who d N r W.heap.size (W.heap.size + 1) te rp 0) ((W.alloc (.cells #[.int .i64 0] 3 (0, 0))).alloc (.cells #[.pointer rp] te (0, 0))) := by
  have h1 := (h.new #[.int .i64 0] 3).new #[.pointer rp] te
  rw [World.size_alloc] at h1
  exact h1
end
theorem x_len_drawn {w W : World} {rp : Option Addr} {most : Int} {gs : List T2} (h : Has (refR w rp most gs) W) :
    Calls Try.prog 37 #[.pointer rp] W fun e W' => e = .returned (.int .i64 (gs.length : Int)) ∧ Drawn0 W W' := by
  obtain ⟨F, ⟨h1, rfl, h3, h, _⟩ | ⟨h1, g, rb, rfl, ⟨v, h, rfl⟩, _⟩⟩ := h
  · rw [h3]
    exact xlen_nil W
  · exact xlen_calls h
theorem x_at_below {w W : World} {rp : Option Addr} {most : Int} {gs : List T2} (h : Has (refR w rp most gs) W) (i : Int) :
    Calls Try.prog 77 #[.pointer rp, .int .i64 i] W fun e W' => e = .returned (.tuple #[.agg #[.int .i64 (atV d2 gs i).1, .int .i64 (atV d2 gs i).2], .bool (inB gs.length i)]) ∧ Below W.heap.size W W' := by
  obtain ⟨F, ⟨h1, rfl, h3, h, _⟩ | ⟨h1, g, rb, rfl, ⟨v, hq, rfl⟩, _⟩⟩ := h
  · rw [h3, atV_nil, List.length_nil, inB_nil]
    exact xat_nil W i
  · by_cases hi : i < 0 ∨ (gs.length : Int) ≤ i
    · rw [atV_out d2 gs i hi, inB_out hi]
      exact xat_none hq i hi
    · obtain ⟨j, rfl⟩ : ∃ j : Nat, i = (j : Int) := ⟨i.toNat, by omega⟩
      have hj : j < gs.length := by omega
      rw [atV_in d2 gs j hj, inB_in hj]
      exact xat_calls hq j hj
theorem keeps_below {X Y : World} (hb : Below X.heap.size X Y) : KeepsOthers X Y := ⟨hb.size, fun k o hk _ => (hb.block k (Array.getElem?_eq_some_iff.1 hk).1).trans hk⟩
theorem i_row {w W : World} {rp : Option Addr} {most : Int} {xs : List Int} (h : Has (intR w rp most xs) W) : EA.RowOf W rp xs := by
  obtain ⟨F, ⟨h1, rfl, rfl, h, _⟩ | ⟨h1, g, rb, rfl, h, _⟩⟩ := h
  · exact EA.RowOf.nil W
  · exact EA.RowOf.ring h
theorem t_row {w W : World} {rp : Option Addr} {most : Int} {xs : List T2} (h : Has (thR w rp most xs) W) : EX.RowOf W rp xs := by
  obtain ⟨F, ⟨h1, rfl, rfl, h, _⟩ | ⟨h1, g, rb, rfl, h, _⟩⟩ := h
  · exact EX.RowOf.nil W
  · exact EX.RowOf.ring h
theorem atV_both (xs : List Int) (i : Int) : atV d2 (both xs) i = (atV 0 xs i, 0) := by
  unfold atV
  rw [FL.both_len]
  split
  · rename_i h
    have hi : i.toNat < xs.length := by omega
    simp [both, List.getD_eq_getElem?_getD, hi]
  · rfl
end Go.Proofs.Ytekjkookkjjbcaa.PA
