/- QueueRings: things side by side in memory, each with the blocks that are its own. -/
import Derived.Test.YtekjkookkjjbcaaFoldsC
import Derived.Test.YtekjkookkjjbcaaNilC
import Derived.Test.YtekjkookkjjbcaaRingXF
namespace Go.Proofs.Ytekjkookkjjbcaa.PA
set_option linter.unusedVariables false
set_option linter.unusedSimpArgs false
set_option linter.unusedVariables false
set_option linter.unusedSimpArgs false
open Go.RowKit Go.Proofs.YtekjkookkjjbcaaW.PrintWords Go.Proofs.YtekjkookkjjbcaaW.PrintLast Go.Proofs.YtekjkookkjjbcaaW.PrintMore Go.Proofs.Ytekjkookkjjbcaa.B Go.Proofs.Ytekjkookkjjbcaa.M
open Go.Proofs.Ytekjkookkjjbcaa.RH (T2 d2 kT RT MovedR)
open Go.Proofs.Ytekjkookkjjbcaa.FL (pushL dropL newC both)
open Go.Proofs.Ytekjkookkjjbcaa.RR (XR)
/-- A thing in memory: what holds of it, and which blocks are its own. -/
structure Ob (w : World) where
  K : World → (Nat → Prop) → Prop
  bl : ∀ {W F}, K W F → Below w.heap.size w W
  cells : ∀ {W F}, K W F → ∀ i, F i → w.heap.size ≤ i ∧ ∃ cs t, W.heap[i]? = some (.cells cs t (0, 0))
  kept : ∀ {W W' F}, K W F → Below w.heap.size w W' → (∀ i, F i → W'.heap[i]? = W.heap[i]?) → K W' F
/-- What a step on a thing leaves alone, and where its blocks lie behind it. -/
structure StepF (W W' : World) (F F' : Nat → Prop) : Prop where
  size : W.heap.size ≤ W'.heap.size
  keep : ∀ i, i < W.heap.size → ¬ F i → W'.heap[i]? = W.heap[i]?
  mv : ∀ i, F' i → F i ∨ W.heap.size ≤ i
section
variable {w W W' : World}
/-- It is there. -/
def Has (o : Ob w) (W : World) : Prop := ∃ F, o.K W F
theorem Has.bl {o : Ob w} (h : Has o W) : Below w.heap.size w W := o.bl h.choose_spec
theorem Has.below {o : Ob w} (h : Has o W) (hb : Below W.heap.size W W') : Has o W' := by
  obtain ⟨F, h⟩ := h
  refine ⟨F, o.kept h (below_step (o.bl h) hb) fun i hi => ?_⟩
  obtain ⟨_, cs, t, hc⟩ := o.cells h i hi
  exact hb.block i (blk_lt hc)
/-- The turn of a block that is no cells. -/
theorem Has.turn {o : Ob w} {row : Option Nat} (h : Has o W) (hg : W.grownBy W' row) (hr : ∀ r, row = some r → ∃ x : Obj, W.heap[r]? = some x ∧ x.isCells = false) (hb : ∀ r, row = some r → w.heap.size ≤ r) : Has o W' := by
  obtain ⟨F, h⟩ := h
  refine ⟨F, o.kept h ((o.bl h).grown hg (o.bl h).size hb) fun i hi => ?_⟩
  obtain ⟨_, cs, t, hc⟩ := o.cells h i hi
  refine hg.block i (blk_lt hc) (fun e => ?_)
  obtain ⟨x, hx, hxc⟩ := hr i e.symm
  rw [hc] at hx
  cases hx
  cases hxc
/-- Two things side by side. -/
def both2 (a b : Ob w) : Ob w where
  K W F := ∃ F1 F2, a.K W F1 ∧ b.K W F2 ∧ (∀ i, F1 i → ¬ F2 i) ∧ F = fun i => F1 i ∨ F2 i
  bl := fun ⟨_, _, h, _⟩ => a.bl h
  cells := fun ⟨_, _, h1, h2, _, e⟩ i hi => by
    subst e
    rcases hi with hi | hi
    · exact a.cells h1 i hi
    · exact b.cells h2 i hi
  kept := fun ⟨F1, F2, h1, h2, hd, e⟩ hb hk => by
    subst e
    exact ⟨F1, F2, a.kept h1 hb fun i hi => hk i (.inl hi), b.kept h2 hb fun i hi => hk i (.inr hi), hd, rfl⟩
theorem Has.fst {a b : Ob w} (h : Has (both2 a b) W) : Has a W := by
  obtain ⟨_, F1, F2, h1, h2, _⟩ := h
  exact ⟨F1, h1⟩
theorem Has.snd {a b : Ob w} (h : Has (both2 a b) W) : Has b W := by
  obtain ⟨_, F1, F2, h1, h2, _⟩ := h
  exact ⟨F2, h2⟩
theorem Has.swap {a b : Ob w} (h : Has (both2 a b) W) : Has (both2 b a) W := by
  obtain ⟨_, F1, F2, h1, h2, h3, e⟩ := h
  exact ⟨_, F2, F1, h2, h1, fun i h h' => h3 i h' h, rfl⟩
theorem Has.assoc {a b c : Ob w} (h : Has (both2 (both2 a b) c) W) : Has (both2 a (both2 b c)) W := by
  obtain ⟨_, _, F3, ⟨F1, F2, h1, h2, h4, rfl⟩, h3, h5, rfl⟩ := h
  exact ⟨_, F1, _, h1, ⟨F2, F3, h2, h3, fun i hi => h5 i (.inr hi), rfl⟩, fun i hi => fun h => h.elim (h4 i hi) (h5 i (.inl hi)), rfl⟩
theorem Has.assoc' {a b c : Ob w} (h : Has (both2 a (both2 b c)) W) : Has (both2 (both2 a b) c) W := by
  obtain ⟨_, F1, _, h1, ⟨F2, F3, h2, h3, h4, rfl⟩, h5, rfl⟩ := h
  exact ⟨_, _, F3, ⟨F1, F2, h1, h2, fun i hi h => h5 i hi (.inl h), rfl⟩, h3, fun i hi h => hi.elim (fun hi => h5 i hi (.inr h)) (fun hi => h4 i hi h), rfl⟩
/-- A box of the walk's own. -/
def box (w : World) (a t : Nat) (cs : Array Value) : Ob w where
  K W F := w.heap.size ≤ a ∧ Below w.heap.size w W ∧ W.heap[a]? = some (.cells cs t (0, 0)) ∧ F = fun i => i = a
  bl := fun ⟨_, h, _⟩ => h
  cells := fun ⟨h1, _, h2, e⟩ i hi => by
    subst e
    subst hi
    exact ⟨h1, _, _, h2⟩
  kept := fun ⟨h1, _, h2, e⟩ hb hk => by
    subst e
    exact ⟨h1, hb, (hk a rfl).trans h2, rfl⟩
theorem Has.box {a t : Nat} {cs : Array Value} (h : Has (box w a t cs) W) : W.heap[a]? = some (.cells cs t (0, 0)) := by
  obtain ⟨_, _, _, h, _⟩ := h
  exact h
theorem Has.new {o : Ob w} (h : Has o W) (cs : Array Value) (t : Nat) : Has (both2 o (PA.box w W.heap.size t cs)) (W.alloc (.cells cs t (0, 0))) := by
  obtain ⟨F, h⟩ := h
  have hb := below_alloc (Below.refl W.heap.size W) (.cells cs t (0, 0))
  refine ⟨_, F, _, o.kept h (below_step (o.bl h) hb) fun i hi => ?_, ⟨(o.bl h).size, below_step (o.bl h) hb, heap_alloc_new W _, rfl⟩, fun i hi e => ?_, rfl⟩
  · obtain ⟨_, cs', t', hc⟩ := o.cells h i hi
    exact hb.block i (blk_lt hc)
  · obtain ⟨_, cs', t', hc⟩ := o.cells h i hi
    subst e
    exact absurd (blk_lt hc) (Nat.lt_irrefl _)
theorem Has.set {o : Ob w} {a t : Nat} {cs : Array Value} (h : Has (both2 o (PA.box w a t cs)) W) (j : Nat) (v : Value) : Has (both2 o (PA.box w a t (cs.setIfInBounds j v))) (W.setCell ⟨a, j, none⟩ v) := by
  obtain ⟨_, F, _, h, ⟨h1, h2, h3, rfl⟩, hd, rfl⟩ := h
  have hb := below_set (g := a) (j := j) (v := v) h2 h1
  refine ⟨_, F, _, o.kept h hb fun i hi => ?_, ⟨h1, hb, blk_put h3 j v rfl, rfl⟩, hd, rfl⟩
  exact Below.heap_setCell W ⟨a, j, none⟩ v i (hd i hi)
/-- A step of the walk's own on a thing. -/
def Moves (o : Ob w) (W W' : World) (o' : Ob w) : Prop := ∀ F, o.K W F → ∃ F', o'.K W' F' ∧ StepF W W' F F'
theorem Moves.has {o o' : Ob w} (h : Moves o W W' o') (hh : Has o W) : Has o' W' := by
  obtain ⟨F, hh⟩ := hh
  obtain ⟨F', h1, _⟩ := h F hh
  exact ⟨F', h1⟩
theorem Moves.l {a o' : Ob w} (h : Moves a W W' o') (b : Ob w) : Moves (both2 a b) W W' (both2 o' b) := by
  rintro _ ⟨F1, F2, h1, h2, hd, rfl⟩
  obtain ⟨F', h3, hs⟩ := h F1 h1
  refine ⟨_, ⟨F', F2, h3, b.kept h2 (o'.bl h3) fun i hi => ?_, fun i hi hi2 => ?_, rfl⟩, ⟨hs.size, fun i hi hn => hs.keep i hi (fun h => hn (.inl h)), fun i hi => ?_⟩⟩
  · obtain ⟨_, cs, t, hc⟩ := b.cells h2 i hi
    exact hs.keep i (blk_lt hc) (fun h => hd i h hi)
  · rcases hs.mv i hi with h | h
    · exact hd i h hi2
    · obtain ⟨_, cs, t, hc⟩ := b.cells h2 i hi2
      have := blk_lt hc
      omega
  · rcases hi with hi | hi
    · exact (hs.mv i hi).imp .inl id
    · exact .inl (.inr hi)
theorem Moves.r {b o' : Ob w} (h : Moves b W W' o') (a : Ob w) : Moves (both2 a b) W W' (both2 a o') := by
  rintro _ ⟨F1, F2, h1, h2, hd, rfl⟩
  obtain ⟨F', h3, hs⟩ := h F2 h2
  refine ⟨_, ⟨F1, F', a.kept h1 (o'.bl h3) fun i hi => ?_, h3, fun i hi hi2 => ?_, rfl⟩, ⟨hs.size, fun i hi hn => hs.keep i hi (fun h => hn (.inr h)), fun i hi => ?_⟩⟩
  · obtain ⟨_, cs, t, hc⟩ := a.cells h1 i hi
    exact hs.keep i (blk_lt hc) (fun h => hd i hi h)
  · rcases hs.mv i hi2 with h | h
    · exact hd i hi h
    · obtain ⟨_, cs, t, hc⟩ := a.cells h1 i hi
      have := blk_lt hc
      omega
  · rcases hi with hi | hi
    · exact .inl (.inl hi)
    · exact (hs.mv i hi).imp .inr id
theorem Moves.set {a t : Nat} {cs : Array Value} (W : World) (j : Nat) (v : Value) : Moves (PA.box w a t cs) W (W.setCell ⟨a, j, none⟩ v) (PA.box w a t (cs.setIfInBounds j v)) := by
  rintro _ ⟨h1, h2, h3, rfl⟩
  exact ⟨_, ⟨h1, below_set h2 h1, blk_put h3 j v rfl, rfl⟩, ⟨Nat.le_of_eq (World.size_setCell W _ _).symm, fun i _ hn => Below.heap_setCell W ⟨a, j, none⟩ v i hn, fun i hi => .inl hi⟩⟩
/-- A call that steps on a thing. -/
def Steps {ι : Type} (o : Ob w) (f : Nat) (args : Array Value) (v : ι → Value) (o' : ι → Ob w) : Prop :=
  ∀ W F, o.K W F → Calls Try.prog f args W fun e W' => ∃ j, e = .returned (v j) ∧ ∃ F', (o' j).K W' F' ∧ StepF W W' F F'
section
variable {ι : Type} {o a b : Ob w} {f : Nat} {args : Array Value} {v : ι → Value} {o' : ι → Ob w}
theorem Steps.has (h : Steps o f args v o') (hh : Has o W) : Calls Try.prog f args W fun e W' => ∃ j, e = .returned (v j) ∧ Has (o' j) W' := by
  obtain ⟨F, hh⟩ := hh
  refine (h W F hh).mono ?_
  rintro e W' ⟨j, he, F', h1, _⟩
  exact ⟨j, he, F', h1⟩
theorem Steps.l (h : Steps a f args v o') (b : Ob w) : Steps (both2 a b) f args v (fun j => both2 (o' j) b) := by
  rintro W _ ⟨F1, F2, h1, h2, hd, rfl⟩
  refine (h W F1 h1).mono ?_
  rintro e W' ⟨j, he, F', h3, hs⟩
  refine ⟨j, he, _, ⟨F', F2, h3, b.kept h2 ((o' j).bl h3) fun i hi => ?_, fun i hi hi2 => ?_, rfl⟩, ⟨hs.size, fun i hi hn => hs.keep i hi (fun h => hn (.inl h)), fun i hi => ?_⟩⟩
  · obtain ⟨_, cs, t, hc⟩ := b.cells h2 i hi
    exact hs.keep i (blk_lt hc) (fun h => hd i h hi)
  · rcases hs.mv i hi with h | h
    · exact hd i h hi2
    · obtain ⟨_, cs, t, hc⟩ := b.cells h2 i hi2
      have := blk_lt hc
      omega
  · rcases hi with hi | hi
    · exact (hs.mv i hi).imp .inl id
    · exact .inl (.inr hi)
theorem Steps.r (h : Steps b f args v o') (a : Ob w) : Steps (both2 a b) f args v (fun j => both2 a (o' j)) := by
  rintro W _ ⟨F1, F2, h1, h2, hd, rfl⟩
  refine (h W F2 h2).mono ?_
  rintro e W' ⟨j, he, F', h3, hs⟩
  refine ⟨j, he, _, ⟨F1, F', a.kept h1 ((o' j).bl h3) fun i hi => ?_, h3, fun i hi hi2 => ?_, rfl⟩, ⟨hs.size, fun i hi hn => hs.keep i hi (fun h => hn (.inr h)), fun i hi => ?_⟩⟩
  · obtain ⟨_, cs, t, hc⟩ := a.cells h1 i hi
    exact hs.keep i (blk_lt hc) (fun h => hd i hi h)
  · rcases hs.mv i hi2 with h | h
    · exact hd i hi h
    · obtain ⟨_, cs, t, hc⟩ := a.cells h1 i hi
      have := blk_lt hc
      omega
  · rcases hi with hi | hi
    · exact .inl (.inl hi)
    · exact (hs.mv i hi).imp .inr id
/-- A call that only asks. -/
theorem Steps.asks {v : Value} (h : ∀ W F, o.K W F → Calls Try.prog f args W fun e W' => e = .returned v ∧ Below W.heap.size W W') : Steps o f args (fun _ : Unit => v) (fun _ => o) := by
  intro W F hh
  refine (h W F hh).mono ?_
  rintro e W' ⟨he, hb⟩
  refine ⟨(), he, F, o.kept hh (below_step (o.bl hh) hb) fun i hi => ?_, ⟨hb.size, fun i hi _ => hb.block i hi, fun i hi => .inl hi⟩⟩
  obtain ⟨_, cs, t, hc⟩ := o.cells hh i hi
  exact hb.block i (blk_lt hc)
end
end
/-- A ring that New made, of some kind. -/
structure RK (w : World) (α : Type) where
  Q : World → Nat → Int → List α → Option Nat → Prop
  bl : ∀ {W g most xs b}, Q W g most xs b → Below w.heap.size w W
  gb : ∀ {W g most xs b}, Q W g most xs b → w.heap.size ≤ g ∧ ∃ cs t, W.heap[g]? = some (.cells cs t (0, 0))
  rb : ∀ {W g most xs b}, Q W g most xs b → ∀ k, b = some k → w.heap.size ≤ k ∧ ∃ cs t, W.heap[k]? = some (.cells cs t (0, 0))
  kept : ∀ {W W' g most xs b}, Q W g most xs b → Below w.heap.size w W' → W'.heap[g]? = W.heap[g]? → (∀ k, b = some k → W'.heap[k]? = W.heap[k]?) → Q W' g most xs b
section
variable {w W W' : World} {α : Type}
/-- The ring, or none where the bound is not good. -/
def ring (R : RK w α) (rp : Option Addr) (most : Int) (xs : List α) : Ob w where
  K W F := (¬ FL.Good most ∧ rp = none ∧ xs = [] ∧ Below w.heap.size w W ∧ F = fun _ => False) ∨ (FL.Good most ∧ ∃ g rb, rp = some ⟨g, 0, none⟩ ∧ R.Q W g most xs rb ∧ F = fun i => i = g ∨ rb = some i)
  bl := fun h => by
    rcases h with ⟨_, _, _, h, _⟩ | ⟨_, g, rb, _, h, _⟩
    · exact h
    · exact R.bl h
  cells := fun h i hi => by
    rcases h with ⟨_, _, _, h, rfl⟩ | ⟨_, g, rb, _, h, rfl⟩
    · exact hi.elim
    · rcases hi with rfl | hi
      · exact R.gb h
      · exact R.rb h i hi
  kept := fun h hb hk => by
    rcases h with ⟨h1, h2, h3, h, rfl⟩ | ⟨h1, g, rb, h2, h, rfl⟩
    · exact .inl ⟨h1, h2, h3, hb, rfl⟩
    · exact .inr ⟨h1, g, rb, h2, R.kept h hb (hk g (.inl rfl)) (fun k hk2 => hk k (.inr hk2)), rfl⟩
theorem ring_steps {R : RK w α} {rp : Option Addr} {most : Int} {xs xs' : List α} {f : Nat} {A : Option Addr → Array Value} {v : Value} (hx : ¬ FL.Good most → xs = [] → xs' = [])
    (hn : ¬ FL.Good most → xs = [] → ∀ W, Calls Try.prog f (A none) W fun e W' => e = .returned v ∧ Below W.heap.size W W')
    (hg : FL.Good most → ∀ W g rb, R.Q W g most xs rb → Calls Try.prog f (A (some ⟨g, 0, none⟩)) W fun e W' => e = .returned v ∧ ∃ rb', R.Q W' g most xs' rb' ∧ KeepBut W W' g rb ∧ (rb' = rb ∨ ∃ j, rb' = some j ∧ W.heap.size ≤ j)) :
    Steps (ring R rp most xs) f (A rp) (fun _ : Unit => v) (fun _ => ring R rp most xs') := by
  rintro W F (⟨h1, rfl, h3, h, rfl⟩ | ⟨h1, g, rb, rfl, h, rfl⟩)
  · refine (hn h1 h3 W).mono ?_
    rintro e W' ⟨he, hb⟩
    exact ⟨(), he, _, .inl ⟨h1, rfl, hx h1 h3, below_step h hb, rfl⟩, ⟨hb.size, fun i hi _ => hb.block i hi, fun i hi => hi.elim⟩⟩
  · refine (hg h1 W g rb h).mono ?_
    rintro e W' ⟨he, rb', h2, hk, hm⟩
    refine ⟨(), he, _, .inr ⟨h1, g, rb', rfl, h2, rfl⟩, ⟨hk.1, fun i hi hn => hk.2 i hi (fun e => hn (.inl e)) (fun e => hn (.inr e.symm)), ?_⟩⟩
    rintro i (rfl | hi)
    · exact .inl (.inl rfl)
    · rcases hm with hm | ⟨j, hj, hl⟩
      · exact .inl (.inr (hm ▸ hi))
      · rw [hi] at hj
        injection hj with hj
        exact .inr (hj ▸ hl)
theorem ring_asks {R : RK w α} {rp : Option Addr} {most : Int} {xs : List α} {f : Nat} {A : Option Addr → Array Value} {v : Value}
    (hn : ¬ FL.Good most → xs = [] → ∀ W, Calls Try.prog f (A none) W fun e W' => e = .returned v ∧ Below W.heap.size W W')
    (hg : FL.Good most → ∀ W g rb, R.Q W g most xs rb → Calls Try.prog f (A (some ⟨g, 0, none⟩)) W fun e W' => e = .returned v ∧ Below W.heap.size W W') :
    Steps (ring R rp most xs) f (A rp) (fun _ : Unit => v) (fun _ => ring R rp most xs) := by
  refine Steps.asks ?_
  rintro W F (⟨h1, rfl, h3, h, rfl⟩ | ⟨h1, g, rb, rfl, h, rfl⟩)
  · exact hn h1 h3 W
  · exact hg h1 W g rb h
theorem ring_new {R : RK w α} {o : Ob w} {most : Int} {f : Nat}
    (hn : ¬ FL.Good most → ∀ W, Calls Try.prog f #[.int .i64 most] W fun e W' => e = .returned (.tuple #[.pointer none, .int .i64 2]) ∧ Below W.heap.size W W')
    (hg : FL.Good most → ∀ W, Below w.heap.size w W → Calls Try.prog f #[.int .i64 most] W fun e W' => ∃ g, e = .returned (.tuple #[.pointer (some ⟨g, 0, none⟩), .int .i64 0]) ∧ R.Q W' g most [] none ∧ Below W.heap.size W W' ∧ W.heap.size ≤ g) :
    Steps o f #[.int .i64 most] (fun rp : { rp : Option Addr // rp.isNone = !decide (FL.Good most) } => .tuple #[.pointer rp.1, .int .i64 (newC most)]) (fun rp => ring R rp.1 most []) := by
  intro W F hh
  by_cases h : FL.Good most
  · refine (hg h W (o.bl hh)).mono ?_
    rintro e W' ⟨g, rfl, hq, hb, hge⟩
    refine ⟨⟨some ⟨g, 0, none⟩, by simp [h]⟩, by unfold newC; rw [if_pos h], _, .inr ⟨h, g, none, rfl, hq, rfl⟩, ⟨hb.size, fun i hi _ => hb.block i hi, ?_⟩⟩
    rintro i (rfl | hi)
    · exact .inr hge
    · cases hi
  · refine (hn h W).mono ?_
    rintro e W' ⟨rfl, hb⟩
    exact ⟨⟨none, by simp [h]⟩, by unfold newC; rw [if_neg h], _, .inl ⟨h, rfl, rfl, below_step (o.bl hh) hb, rfl⟩, ⟨hb.size, fun i hi _ => hb.block i hi, fun i hi => hi.elim⟩⟩
end
/-- The three kinds. -/
def intK (w : World) : RK w Int where
  Q := RI.RQ w
  bl := fun h => h.bl
  gb := fun h => by
    obtain ⟨v, rm, f, h1, _, _⟩ := h.ex
    exact ⟨h1.gg, _, _, h1.bk⟩
  rb := fun h k hk => by
    obtain ⟨v, rm, f, h1, _, h3⟩ := h.ex
    obtain ⟨cs, hc⟩ := Kd.R_typed h1.ow k (h3.trans hk)
    exact ⟨Kd.R_base h1.ow k (h3.trans hk), _, _, hc⟩
  kept := fun h hb hg hr => FL.rq_kept h hb hg hr
def thK (w : World) : RK w T2 where
  Q := RX.RQ w
  bl := fun h => h.bl
  gb := fun h => by
    obtain ⟨⟨cs, hc⟩, hg⟩ := h.blk
    exact ⟨hg, _, _, hc⟩
  rb := fun h k hk => by
    obtain ⟨⟨cs, hc⟩, hg⟩ := h.row k hk
    exact ⟨hg, _, _, hc⟩
  kept := fun h hb hg hr => h.kept hb hg hr
def refK (w : World) : RK w T2 where
  Q := fun W g most gs b => ∃ v, XR w W g most v gs ∧ v.ownBlock = b
  bl := fun ⟨_, h, _⟩ => h.bl
  gb := fun ⟨_, h, _⟩ => ⟨h.gg, _, _, h.bk⟩
  rb := fun ⟨v, h, e⟩ k hk => by
    obtain ⟨cs, hc⟩ := Kd.R_typed h.ow k (e.trans hk)
    exact ⟨Kd.R_base h.ow k (e.trans hk), _, _, hc⟩
  kept := fun ⟨v, h, e⟩ hb hg hr => ⟨v, FL.xr_kept h hb hg (fun k hk => hr k (e ▸ hk)), e⟩
end Go.Proofs.Ytekjkookkjjbcaa.PA
