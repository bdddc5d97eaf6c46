/- Things side by side in memory, each with the blocks that are its own. -/
import Derived.Test.YtokgckhhhhigiaaBase
import Derived.Test.YtokgckhhhhigiaaMk
import Derived.Test.YtokgckhhhhigiaaKW
import Derived.WalkKit
import Derived.Test.YtokgckhhhhigiaaProg
namespace Go.Proofs.Ytokgckhhhhigiaa.PA
set_option linter.unusedVariables false
set_option linter.unusedSimpArgs false
set_option linter.unusedVariables false
set_option linter.unusedSimpArgs false
open Go.RowKit Go.Proofs.YtokgckhhhhigiaaW.PrintWords Go.Proofs.YtokgckhhhhigiaaW.PrintMore Go.Proofs.Ytokgckhhhhigiaa.B Go.Proofs.Ytokgckhhhhigiaa.M
/-- A thing in memory: what holds of it, and which blocks are its own. -/
structure Ob (w : World) where
  K : World → (Nat → Prop) → Prop
  bl : ∀ {W F}, K W F → Below w.heap.size w W
  cells : ∀ {W F}, K W F → ∀ i, F i → w.heap.size ≤ i ∧ ∃ cs t, W.heap[i]? = some (.cells cs t (0, 0))
  kept : ∀ {W W' F}, K W F → Below w.heap.size w W' → (∀ i, F i → W'.heap[i]? = W.heap[i]?) → K W' F
/-- What a step on a thing leaves alone, and where its blocks lie behind it. -/
structure StepF (W W' : World) (F F' : Nat → Prop) : Prop where
  size : W.heap.size ≤ W'.heap.size
  keep : ∀ i, i < W.heap.size → ¬ F i → W'.heap[i]? = W.heap[i]?
  mv : ∀ i, F' i → F i ∨ W.heap.size ≤ i
section
variable {w W W' : World}
/-- It is there. -/
def Has (o : Ob w) (W : World) : Prop := ∃ F, o.K W F
theorem Has.bl {o : Ob w} (h : Has o W) : Below w.heap.size w W := o.bl h.choose_spec
theorem Has.below {o : Ob w} (h : Has o W) (hb : Below W.heap.size W W') : Has o W' := by
  obtain ⟨F, h⟩ := h
  refine ⟨F, o.kept h (below_step (o.bl h) hb) fun i hi => ?_⟩
  obtain ⟨_, cs, t, hc⟩ := o.cells h i hi
  exact hb.block i (blk_lt hc)
/-- Two things side by side. -/
def both2 (a b : Ob w) : Ob w where
  K W F := ∃ F1 F2, a.K W F1 ∧ b.K W F2 ∧ (∀ i, F1 i → ¬ F2 i) ∧ F = fun i => F1 i ∨ F2 i
  bl := fun ⟨_, _, h, _⟩ => a.bl h
  cells := fun ⟨_, _, h1, h2, _, e⟩ i hi => by
    subst e
    rcases hi with hi | hi
    · exact a.cells h1 i hi
    · exact b.cells h2 i hi
  kept := fun ⟨F1, F2, h1, h2, hd, e⟩ hb hk => by
    subst e
    exact ⟨F1, F2, a.kept h1 hb fun i hi => hk i (.inl hi), b.kept h2 hb fun i hi => hk i (.inr hi), hd, rfl⟩
theorem Has.fst {a b : Ob w} (h : Has (both2 a b) W) : Has a W := by
  obtain ⟨_, F1, F2, h1, h2, _⟩ := h
  exact ⟨F1, h1⟩
theorem Has.snd {a b : Ob w} (h : Has (both2 a b) W) : Has b W := by
  obtain ⟨_, F1, F2, h1, h2, _⟩ := h
  exact ⟨F2, h2⟩
theorem Has.swap {a b : Ob w} (h : Has (both2 a b) W) : Has (both2 b a) W := by
  obtain ⟨_, F1, F2, h1, h2, h3, e⟩ := h
  exact ⟨_, F2, F1, h2, h1, fun i h h' => h3 i h' h, rfl⟩
theorem Has.assoc {a b c : Ob w} (h : Has (both2 (both2 a b) c) W) : Has (both2 a (both2 b c)) W := by
  obtain ⟨_, _, F3, ⟨F1, F2, h1, h2, h4, rfl⟩, h3, h5, rfl⟩ := h
  exact ⟨_, F1, _, h1, ⟨F2, F3, h2, h3, fun i hi => h5 i (.inr hi), rfl⟩, fun i hi => fun h => h.elim (h4 i hi) (h5 i (.inl hi)), rfl⟩
theorem Has.assoc' {a b c : Ob w} (h : Has (both2 a (both2 b c)) W) : Has (both2 (both2 a b) c) W := by
  obtain ⟨_, F1, _, h1, ⟨F2, F3, h2, h3, h4, rfl⟩, h5, rfl⟩ := h
  exact ⟨_, _, F3, ⟨F1, F2, h1, h2, fun i hi h => h5 i hi (.inl h), rfl⟩, h3, fun i hi h => hi.elim (fun hi => h5 i hi (.inr h)) (fun hi => h4 i hi h), rfl⟩
/-- A box of the walk's own. -/
def box (w : World) (a t : Nat) (cs : Array Value) : Ob w where
  K W F := w.heap.size ≤ a ∧ Below w.heap.size w W ∧ W.heap[a]? = some (.cells cs t (0, 0)) ∧ F = fun i => i = a
  bl := fun ⟨_, h, _⟩ => h
  cells := fun ⟨h1, _, h2, e⟩ i hi => by
    subst e
    subst hi
    exact ⟨h1, _, _, h2⟩
  kept := fun ⟨h1, _, h2, e⟩ hb hk => by
    subst e
    exact ⟨h1, hb, (hk a rfl).trans h2, rfl⟩
theorem Has.box {a t : Nat} {cs : Array Value} (h : Has (box w a t cs) W) : W.heap[a]? = some (.cells cs t (0, 0)) := by
  obtain ⟨_, _, _, h, _⟩ := h
  exact h
theorem Has.new {o : Ob w} (h : Has o W) (cs : Array Value) (t : Nat) : Has (both2 o (PA.box w W.heap.size t cs)) (W.alloc (.cells cs t (0, 0))) := by
  obtain ⟨F, h⟩ := h
  have hb := below_alloc (Below.refl W.heap.size W) (.cells cs t (0, 0))
  refine ⟨_, F, _, o.kept h (below_step (o.bl h) hb) fun i hi => ?_, ⟨(o.bl h).size, below_step (o.bl h) hb, heap_alloc_new W _, rfl⟩, fun i hi e => ?_, rfl⟩
  · obtain ⟨_, cs', t', hc⟩ := o.cells h i hi
    exact hb.block i (blk_lt hc)
  · obtain ⟨_, cs', t', hc⟩ := o.cells h i hi
    subst e
    exact absurd (blk_lt hc) (Nat.lt_irrefl _)
theorem Has.set {o : Ob w} {a t : Nat} {cs : Array Value} (h : Has (both2 o (PA.box w a t cs)) W) (j : Nat) (v : Value) : Has (both2 o (PA.box w a t (cs.setIfInBounds j v))) (W.setCell ⟨a, j, none⟩ v) := by
  obtain ⟨_, F, _, h, ⟨h1, h2, h3, rfl⟩, hd, rfl⟩ := h
  have hb := below_set (g := a) (j := j) (v := v) h2 h1
  refine ⟨_, F, _, o.kept h hb fun i hi => ?_, ⟨h1, hb, blk_put h3 j v rfl, rfl⟩, hd, rfl⟩
  exact Below.heap_setCell W ⟨a, j, none⟩ v i (hd i hi)
/-- A step of the walk's own on a thing. -/
def Moves (o : Ob w) (W W' : World) (o' : Ob w) : Prop := ∀ F, o.K W F → ∃ F', o'.K W' F' ∧ StepF W W' F F'
theorem Moves.has {o o' : Ob w} (h : Moves o W W' o') (hh : Has o W) : Has o' W' := by
  obtain ⟨F, hh⟩ := hh
  obtain ⟨F', h1, _⟩ := h F hh
  exact ⟨F', h1⟩
theorem Moves.l {a o' : Ob w} (h : Moves a W W' o') (b : Ob w) : Moves (both2 a b) W W' (both2 o' b) := by
  rintro _ ⟨F1, F2, h1, h2, hd, rfl⟩
  obtain ⟨F', h3, hs⟩ := h F1 h1
  refine ⟨_, ⟨F', F2, h3, b.kept h2 (o'.bl h3) fun i hi => ?_, fun i hi hi2 => ?_, rfl⟩, ⟨hs.size, fun i hi hn => hs.keep i hi (fun h => hn (.inl h)), fun i hi => ?_⟩⟩
  · obtain ⟨_, cs, t, hc⟩ := b.cells h2 i hi
    exact hs.keep i (blk_lt hc) (fun h => hd i h hi)
  · rcases hs.mv i hi with h | h
    · exact hd i h hi2
    · obtain ⟨_, cs, t, hc⟩ := b.cells h2 i hi2
      have := blk_lt hc
      omega
  · rcases hi with hi | hi
    · exact (hs.mv i hi).imp .inl id
    · exact .inl (.inr hi)
theorem Moves.r {b o' : Ob w} (h : Moves b W W' o') (a : Ob w) : Moves (both2 a b) W W' (both2 a o') := by
  rintro _ ⟨F1, F2, h1, h2, hd, rfl⟩
  obtain ⟨F', h3, hs⟩ := h F2 h2
  refine ⟨_, ⟨F1, F', a.kept h1 (o'.bl h3) fun i hi => ?_, h3, fun i hi hi2 => ?_, rfl⟩, ⟨hs.size, fun i hi hn => hs.keep i hi (fun h => hn (.inr h)), fun i hi => ?_⟩⟩
  · obtain ⟨_, cs, t, hc⟩ := a.cells h1 i hi
    exact hs.keep i (blk_lt hc) (fun h => hd i hi h)
  · rcases hs.mv i hi2 with h | h
    · exact hd i hi h
    · obtain ⟨_, cs, t, hc⟩ := a.cells h1 i hi
      have := blk_lt hc
      omega
  · rcases hi with hi | hi
    · exact .inl (.inl hi)
    · exact (hs.mv i hi).imp .inr id
theorem Moves.set {a t : Nat} {cs : Array Value} (W : World) (j : Nat) (v : Value) : Moves (PA.box w a t cs) W (W.setCell ⟨a, j, none⟩ v) (PA.box w a t (cs.setIfInBounds j v)) := by
  rintro _ ⟨h1, h2, h3, rfl⟩
  exact ⟨_, ⟨h1, below_set h2 h1, blk_put h3 j v rfl, rfl⟩, ⟨Nat.le_of_eq (World.size_setCell W _ _).symm, fun i _ hn => Below.heap_setCell W ⟨a, j, none⟩ v i hn, fun i hi => .inl hi⟩⟩
/-- A call that steps on a thing. -/
def Steps {ι : Type} (o : Ob w) (f : Nat) (args : Array Value) (v : ι → Value) (o' : ι → Ob w) : Prop :=
  ∀ W F, o.K W F → Calls Try.prog f args W fun e W' => ∃ j, e = .returned (v j) ∧ ∃ F', (o' j).K W' F' ∧ StepF W W' F F'
section
variable {ι : Type} {o a b : Ob w} {f : Nat} {args : Array Value} {v : ι → Value} {o' : ι → Ob w}
theorem Steps.has (h : Steps o f args v o') (hh : Has o W) : Calls Try.prog f args W fun e W' => ∃ j, e = .returned (v j) ∧ Has (o' j) W' := by
  obtain ⟨F, hh⟩ := hh
  refine (h W F hh).mono ?_
  rintro e W' ⟨j, he, F', h1, _⟩
  exact ⟨j, he, F', h1⟩
theorem Steps.l (h : Steps a f args v o') (b : Ob w) : Steps (both2 a b) f args v (fun j => both2 (o' j) b) := by
  rintro W _ ⟨F1, F2, h1, h2, hd, rfl⟩
  refine (h W F1 h1).mono ?_
  rintro e W' ⟨j, he, F', h3, hs⟩
  refine ⟨j, he, _, ⟨F', F2, h3, b.kept h2 ((o' j).bl h3) fun i hi => ?_, fun i hi hi2 => ?_, rfl⟩, ⟨hs.size, fun i hi hn => hs.keep i hi (fun h => hn (.inl h)), fun i hi => ?_⟩⟩
  · obtain ⟨_, cs, t, hc⟩ := b.cells h2 i hi
    exact hs.keep i (blk_lt hc) (fun h => hd i h hi)
  · rcases hs.mv i hi with h | h
    · exact hd i h hi2
    · obtain ⟨_, cs, t, hc⟩ := b.cells h2 i hi2
      have := blk_lt hc
      omega
  · rcases hi with hi | hi
    · exact (hs.mv i hi).imp .inl id
    · exact .inl (.inr hi)
theorem Steps.r (h : Steps b f args v o') (a : Ob w) : Steps (both2 a b) f args v (fun j => both2 a (o' j)) := by
  rintro W _ ⟨F1, F2, h1, h2, hd, rfl⟩
  refine (h W F2 h2).mono ?_
  rintro e W' ⟨j, he, F', h3, hs⟩
  refine ⟨j, he, _, ⟨F1, F', a.kept h1 ((o' j).bl h3) fun i hi => ?_, h3, fun i hi hi2 => ?_, rfl⟩, ⟨hs.size, fun i hi hn => hs.keep i hi (fun h => hn (.inr h)), fun i hi => ?_⟩⟩
  · obtain ⟨_, cs, t, hc⟩ := a.cells h1 i hi
    exact hs.keep i (blk_lt hc) (fun h => hd i hi h)
  · rcases hs.mv i hi2 with h | h
    · exact hd i hi h
    · obtain ⟨_, cs, t, hc⟩ := a.cells h1 i hi
      have := blk_lt hc
      omega
  · rcases hi with hi | hi
    · exact .inl (.inl hi)
    · exact (hs.mv i hi).imp .inr id
/-- A call that only asks. -/
theorem Steps.asks {v : Value} (h : ∀ W F, o.K W F → Calls Try.prog f args W fun e W' => e = .returned v ∧ Below W.heap.size W W') : Steps o f args (fun _ : Unit => v) (fun _ => o) := by
  intro W F hh
  refine (h W F hh).mono ?_
  rintro e W' ⟨he, hb⟩
  refine ⟨(), he, F, o.kept hh (below_step (o.bl hh) hb) fun i hi => ?_, ⟨hb.size, fun i hi _ => hb.block i hi, fun i hi => .inl hi⟩⟩
  obtain ⟨_, cs, t, hc⟩ := o.cells hh i hi
  exact hb.block i (blk_lt hc)
end
end
/-- Nothing. -/
def emp (w : World) : Ob w where
  K W F := Below w.heap.size w W ∧ F = fun _ => False
  bl := fun h => h.1
  cells := fun ⟨_, e⟩ i hi => by subst e; exact hi.elim
  kept := fun ⟨_, e⟩ hb _ => ⟨hb, e⟩
section
variable {w W W' : World}
theorem emp_has (h : Below w.heap.size w W) : Has (emp w) W := ⟨_, h, rfl⟩
theorem Has.emp {o : Ob w} (h : Has o W) : Has (both2 o (PA.emp w)) W := by
  obtain ⟨F, h⟩ := h
  exact ⟨_, F, _, h, ⟨o.bl h, rfl⟩, fun _ _ h => h, by funext i; exact (or_false _).symm⟩
theorem Has.rot {a b c : Ob w} (h : Has (both2 (both2 a b) c) W) : Has (both2 b (both2 a c)) W := by
  obtain ⟨_, _, F3, ⟨F1, F2, h1, h2, h4, rfl⟩, h3, h5, rfl⟩ := h
  exact ⟨_, F2, _, h2, ⟨F1, F3, h1, h3, fun i hi => h5 i (.inl hi), rfl⟩, fun i hi hh => hh.elim (fun hh => h4 i hh hi) (fun hh => h5 i (.inr hi) hh), rfl⟩
theorem Has.rot' {a b c : Ob w} (h : Has (both2 b (both2 a c)) W) : Has (both2 (both2 a b) c) W := by
  obtain ⟨_, F2, _, h2, ⟨F1, F3, h1, h3, h4, rfl⟩, h5, rfl⟩ := h
  exact ⟨_, _, F3, ⟨F1, F2, h1, h2, fun i hi hh => h5 i hh (.inl hi), rfl⟩, h3, fun i hi hh => hi.elim (fun hi => h4 i hi hh) (fun hi => h5 i hi (.inr hh)), rfl⟩
/-- The second ahead of the first. -/
theorem Has.turn2 {a b c : Ob w} (h : Has (both2 a (both2 b c)) W) : Has (both2 b (both2 a c)) W := h.assoc'.rot
end
end Go.Proofs.Ytokgckhhhhigiaa.PA
