/- Rows of bytes of the call's own, and what spoil leaves of them. -/
import Derived.Test.YtokgckhhhhigiaaSpoil
namespace Go.Proofs.Ytokgckhhhhigiaa.Turn
set_option linter.unusedVariables false
set_option linter.unusedSimpArgs false
set_option linter.unusedVariables false
open Go.RowKit Go.Proofs.YtokgckhhhhigiaaW.PrintWords Go.Proofs.YtokgckhhhhigiaaW.PrintLast Go.Proofs.YtokgckhhhhigiaaW.PrintMore Go.Proofs.Ytokgckhhhhigiaa.B Go.Proofs.Ytokgckhhhhigiaa.M Go.Proofs.Ytokgckhhhhigiaa.G

/-- A row of bytes of the call's own. -/
def OwnB (w : World) (v : Value) (xs : List Int) : Prop := w.ownsRow 0 5 1 v xs.length (nums .u8 xs)
theorem OwnB.own {w : World} {v : Value} {xs : List Int} (h : OwnB w v xs) : w.ownsRow 0 5 1 v xs.length (nums .u8 xs) := h
theorem OwnB.of_R {w : World} {base : Nat} {ok : Nat → Prop} {v : Value} {xs : List Int} (h : Kd.R (Kd.int .u8) 5 w base ok v xs) : OwnB w v xs := own_weaken (Kd.own_of_R h) (Nat.zero_le _)
theorem OwnB.below {w w' : World} {v : Value} {xs : List Int} (h : OwnB w v xs) (hb : Below w.heap.size w w') : OwnB w' v xs := own_move h (fun k hk => hb.block k (World.ownsRow.lt h k hk).2)
/-- Two rows that lie in blocks of their own. -/
def Apart (a b : Value) : Prop := ∀ k, a.ownBlock = some k → b.ownBlock = some k → False
theorem Apart.of_R {w w' : World} {xs ys : List Int} {a b : Value} {ok : Nat → Prop} (h : OwnB w a xs) (hr : Kd.R (Kd.int .u8) 5 w' w.heap.size ok b ys) : Apart a b := by
  intro k ha hb
  have h1 := (World.ownsRow.lt h k ha).2
  have h2 := own_base (Kd.own_of_R hr) k hb
  omega
theorem OwnB.spoilt {w w' : World} {a v : Value} {xs : List Int} (h : OwnB w v xs) (hp : Apart v a) (hg : w.grownBy w' a.ownBlock) : OwnB w' v xs := by
  refine World.ownsRow.kept h hg ?_
  cases hv : v.ownBlock with
  | none => exact .inl rfl
  | some k => exact .inr fun e => hp k hv e.symm
theorem OwnB.form {w : World} {v : Value} {xs : List Int} (h : OwnB w v xs) : ∃ A c, v = .slice A xs.length c := by
  rcases h.2 with ⟨h', h0⟩ | ⟨g, cap, cur, h', _⟩
  · exact ⟨none, 0, by rw [h0]; exact h'⟩
  · exact ⟨_, cap, h'⟩
theorem OwnB.one {w : World} {A : Option Addr} {n c : Nat} {x : Int} (h : OwnB w (.slice A n c) [x]) : ∃ g, A = some ⟨g, 0, none⟩ ∧ w.cell? ⟨g, 0, none⟩ = some (.int .u8 x) := by
  have h1 : n = 1 := by
    rcases h.2 with ⟨h', h0⟩ | ⟨g, cap, cur, h', hr⟩
    · simp at h0
    · exact (slice_inj h').2.1
  subst h1
  obtain ⟨g, rfl, _, _⟩ := form_some (w := w) (A := A) (n := 1) (c := c) (ys := nums .u8 [x]) h (by decide)
  exact ⟨g, rfl, World.ownsRow.cellAt (w := w) (base := 0) (e := 5) (size := 1) (n := 1) (cap := c) (xs := nums .u8 [x]) h 0 (by decide)⟩
theorem base_spoilt {w0 w w' : World} {a : Value} (hb : Below w0.heap.size w0 w) (hr : ∀ k, a.ownBlock = some k → w0.heap.size ≤ k) (hg : w.grownBy w' a.ownBlock) : Below w0.heap.size w0 w' :=
  hb.grown hg hb.size hr

end Go.Proofs.Ytokgckhhhhigiaa.Turn
