/- QueueEach: a ring under its own Each (walked by hand). -/
import Derived.Test.YtekjkookkjjbcaaEach
import Derived.Test.YtekjkookkjjbcaaRingW
namespace Go.Proofs.Ytekjkookkjjbcaa.EC
set_option linter.unusedVariables false
set_option linter.unusedSimpArgs false
set_option linter.unusedVariables false
set_option linter.unusedSimpArgs false
open Go.RowKit Go.Shelf Go.Proofs.YtekjkookkjjbcaaW.PrintWords Go.Proofs.YtekjkookkjjbcaaW.PrintLast Go.Proofs.YtekjkookkjjbcaaW.PrintMore Go.Proofs.Ytekjkookkjjbcaa.B Go.Proofs.Ytekjkookkjjbcaa.M Go.Proofs.Ytekjkookkjjbcaa.RI Go.Proofs.Ytekjkookkjjbcaa.EA
theorem type_neE {W : World} {a b t t' : Nat} {cs ds : Array Value} (ha : W.heap[a]? = some (.cells cs t (0, 0))) (hb : W.heap[b]? = some (.cells ds t' (0, 0))) (ht : t ≠ t') : a ≠ b := fun e => by
  rw [e, hb] at ha
  injection ha with ha
  injection ha with _ ha
  exact ht ha.symm
theorem rq_blk {w W : World} {g : Nat} {most : Int} {xs : List Int} {rb : Option Nat} (h : RQ w W g most xs rb) : (∃ cs, W.heap[g]? = some (.cells cs 59 (0, 0))) ∧ ∀ k, rb = some k → ∃ cs, W.heap[k]? = some (.cells cs 3 (0, 0)) := by
  obtain ⟨v, rm, f, h1, h2, h3⟩ := h.ex
  refine ⟨⟨_, h1.bk⟩, fun k hk => ?_⟩
  exact Kd.R_typed h1.ow k (h3.trans hk)
theorem rq_base {w W : World} {g : Nat} {most : Int} {xs : List Int} {rb : Option Nat} (h : RQ w W g most xs rb) : w.heap.size ≤ g ∧ ∀ k, rb = some k → w.heap.size ≤ k := by
  obtain ⟨v, rm, f, h1, h2, h3⟩ := h.ex
  exact ⟨h1.gg, fun k hk => Kd.R_base h1.ow k (h3.trans hk)⟩
theorem rq_kept {w W W' : World} {g : Nat} {most : Int} {xs : List Int} {rb : Option Nat} (h : RQ w W g most xs rb) (hb : Below w.heap.size w W') (hg : W'.heap[g]? = W.heap[g]?) (hr : ∀ k, rb = some k → W'.heap[k]? = W.heap[k]?) : RQ w W' g most xs rb := by
  obtain ⟨v, rm, f, h1, h2, h3⟩ := h.ex
  exact ⟨v, rm, f, ⟨hg.trans h1.bk, h1.gg, hb, Kd.R_mono (Kd.R_move (Kd.R_tight rfl h1.ow) (fun k hk => hr k (by rw [← h3]; exact hk.symm))) (fun _ _ => trivial), h1.fl, h1.nl, h1.ml, h1.m1, h1.m2⟩, h2, h3⟩
/-- What a step on the ring leaves alone, and where its row goes. -/
structure StepR (W W' : World) (g : Nat) (rb rb' : Option Nat) : Prop where
  size : W.heap.size ≤ W'.heap.size
  keep : ∀ i, i < W.heap.size → i ≠ g → rb ≠ some i → W'.heap[i]? = W.heap[i]?
  mv : rb' = rb ∨ ∃ j, rb' = some j ∧ W.heap.size ≤ j
theorem StepR.trans {X Y Z : World} {g : Nat} {a b c : Option Nat} (h : StepR X Y g a b) (k : StepR Y Z g b c) : StepR X Z g a c := by
  refine ⟨Nat.le_trans h.size k.size, fun i hi h1 h2 => ?_, ?_⟩
  · refine (k.keep i (Nat.lt_of_lt_of_le hi h.size) h1 (fun e => ?_)).trans (h.keep i hi h1 h2)
    rcases h.mv with m | ⟨j, m, hj⟩
    · exact h2 (m ▸ e)
    · rw [e] at m
      injection m with m
      omega
  · rcases k.mv with m | ⟨j, m, hj⟩
    · rw [m]; exact h.mv
    · exact .inr ⟨j, m, Nat.le_trans h.size hj⟩
theorem StepR.below {X Y : World} {g : Nat} {a : Option Nat} (h : Below X.heap.size X Y) : StepR X Y g a a := ⟨h.size, fun i hi _ _ => h.block i hi, .inl rfl⟩
theorem e_push {w W : World} {g : Nat} {most : Int} {ys : List Int} {rb : Option Nat} (h : RQ w W g most ys rb) (x : Int) :
    Calls Try.prog 27 #[.pointer (some ⟨g, 0, none⟩), .int .i64 x] W fun e W' => ∃ c, e = .returned (.int .i64 c) ∧ ∃ ys' rb', RQ w W' g most ys' rb' ∧ StepR W W' g rb rb' := by
  by_cases hl : (ys.length : Int) < most
  · refine (push_q h x hl).mono ?_
    rintro e W' ⟨rfl, rb', h1, h2, h3⟩
    exact ⟨_, rfl, _, _, h1, h2.1, fun i hi h4 h5 => h2.2 i hi h4 (fun e => h5 e.symm), h3⟩
  · refine (push_q_full h x (by have := h.bounds; omega)).mono ?_
    rintro e W' ⟨rfl, hd⟩
    exact ⟨_, rfl, _, _, h.below hd.below, StepR.below hd.below⟩
theorem e_drop {w W : World} {g : Nat} {most : Int} {ys : List Int} {rb : Option Nat} (h : RQ w W g most ys rb) (k : Int) :
    Calls Try.prog 32 #[.pointer (some ⟨g, 0, none⟩), .int .i64 k] W fun e W' => ∃ c, e = .returned (.int .i64 c) ∧ ∃ ys' rb', RQ w W' g most ys' rb' ∧ StepR W W' g rb rb' := by
  by_cases hk : k ≤ 0 ∨ ys = []
  · refine (drop_q_none h k hk).mono ?_
    rintro e W' ⟨rfl, hd⟩
    exact ⟨_, rfl, _, _, h.below hd.below, StepR.below hd.below⟩
  · have hx : 0 < ys.length := List.length_pos_iff.2 (fun e => hk (.inr e))
    refine (drop_q h k (min ys.length k.toNat) (by split <;> omega) (by omega)).mono ?_
    rintro e W' ⟨rfl, h1, h2⟩
    exact ⟨_, rfl, _, _, h1, h2.1, fun i hi h4 h5 => h2.2 i hi h4 (fun e => h5 e.symm), .inl rfl⟩
/-- The ring and the boxes that lie behind it: wb: the world ahead of the ring. -/
structure RA (wb W : World) (g : Nat) (most : Int) (ys : List Int) (rb : Option Nat) (b7 b11 b12 b13 : Nat) (n : Int) : Prop where
  rq : RQ wb W g most ys rb
  x7 : Boxed W b7 44 (.pointer (some ⟨g, 0, none⟩))
  x11 : Boxed W b11 63 (.func (.func 75) #[] #[.pointer (some ⟨b13, 0, none⟩)])
  x13 : Boxed W b13 44 (.pointer (some ⟨g, 0, none⟩))
  x12 : Boxed W b12 3 (.int .i64 n)
  nr : rb ≠ some b12
section
variable {wb W W' : World} {g : Nat} {most : Int} {ys ys' : List Int} {rb rb' : Option Nat} {b7 b11 b12 b13 : Nat} {n : Int}
theorem RA.below (h : RA wb W g most ys rb b7 b11 b12 b13 n) (hb : Below W.heap.size W W') : RA wb W' g most ys rb b7 b11 b12 b13 n :=
  ⟨h.rq.below hb, blk_below h.x7 hb, blk_below h.x11 hb, blk_below h.x13 hb, blk_below h.x12 hb, h.nr⟩
theorem RA.step (h : RA wb W g most ys rb b7 b11 b12 b13 n) (hq : RQ wb W' g most ys' rb') (hk : StepR W W' g rb rb') : RA wb W' g most ys' rb' b7 b11 b12 b13 n := by
  obtain ⟨⟨cg, hcg⟩, hrow⟩ := rq_blk h.rq
  have keep : ∀ {a t : Nat} {cs : Array Value}, W.heap[a]? = some (.cells cs t (0, 0)) → t ≠ 59 → rb ≠ some a → W'.heap[a]? = some (.cells cs t (0, 0)) := fun {a t cs} ha h1 h2 =>
    (hk.keep a (blk_lt ha) (type_neE ha hcg h1) h2).trans ha
  have nrow : ∀ {a t : Nat} {cs : Array Value}, W.heap[a]? = some (.cells cs t (0, 0)) → t ≠ 3 → rb ≠ some a := fun {a t cs} ha h1 e => by
    obtain ⟨cr, hcr⟩ := hrow a e
    exact type_neE ha hcr h1 rfl
  refine ⟨hq, keep h.x7 (by decide) (nrow h.x7 (by decide)), keep h.x11 (by decide) (nrow h.x11 (by decide)), keep h.x13 (by decide) (nrow h.x13 (by decide)), keep h.x12 (by decide) h.nr, fun e => ?_⟩
  rcases hk.mv with m | ⟨j, m, hj⟩
  · exact h.nr (m ▸ e)
  · rw [e] at m
    injection m with m
    have := blk_lt h.x12
    omega
/-- The turn of a block that is no cells. -/
theorem RA.turn {row : Option Nat} (h : RA wb W g most ys rb b7 b11 b12 b13 n) (hg : W.grownBy W' row) (hr : ∀ r, row = some r → ∃ o : Obj, W.heap[r]? = some o ∧ o.isCells = false) (hb : ∀ r, row = some r → wb.heap.size ≤ r) : RA wb W' g most ys rb b7 b11 b12 b13 n := by
  have kp : ∀ {a t : Nat} {cs : Array Value}, W.heap[a]? = some (.cells cs t (0, 0)) → W'.heap[a]? = some (.cells cs t (0, 0)) := fun {a t cs} ha => by
    refine (hg.block a (blk_lt ha) (fun e => ?_)).trans ha
    obtain ⟨o, ho, hc⟩ := hr a e.symm
    rw [ha] at ho
    cases ho
    cases hc
  obtain ⟨⟨cg, hcg⟩, hrow⟩ := rq_blk h.rq
  refine ⟨rq_kept h.rq (h.rq.bl.grown hg h.rq.bl.size hb) ((kp hcg).trans hcg.symm) (fun k hk => ?_), kp h.x7, kp h.x11, kp h.x13, kp h.x12, h.nr⟩
  obtain ⟨cr, hcr⟩ := hrow k hk
  exact (kp hcr).trans hcr.symm
theorem RA.count (h : RA wb W g most ys rb b7 b11 b12 b13 n) (hw : wb.heap.size ≤ b12) (m : Int) : RA wb (W.setCell ⟨b12, 0, none⟩ (.int .i64 m)) g most ys rb b7 b11 b12 b13 m := by
  have kp : ∀ {a t : Nat} {cs : Array Value}, W.heap[a]? = some (.cells cs t (0, 0)) → a ≠ b12 → (W.setCell ⟨b12, 0, none⟩ (.int .i64 m)).heap[a]? = some (.cells cs t (0, 0)) := fun {a t cs} ha hne => (Below.heap_setCell W ⟨b12, 0, none⟩ _ a hne).trans ha
  obtain ⟨⟨cg, hcg⟩, hrow⟩ := rq_blk h.rq
  refine ⟨rq_kept h.rq (below_set h.rq.bl hw) ((kp hcg (type_neE hcg h.x12 (by decide))).trans hcg.symm) (fun k hk => ?_), kp h.x7 (type_neE h.x7 h.x12 (by decide)), kp h.x11 (type_neE h.x11 h.x12 (by decide)), kp h.x13 (type_neE h.x13 h.x12 (by decide)), h.x12.set _, h.nr⟩
  obtain ⟨cr, hcr⟩ := hrow k hk
  exact (kp hcr (fun e => h.nr (by rw [hk, e]))).trans hcr.symm
/-- What a round that steps on the ring keeps. -/
theorem RA.kp {B : Nat} (h : RA wb W g most ys rb b7 b11 b12 b13 n) (hk : StepR W W' g rb rb') (hB : ∀ k, rb = some k → k < B) : KpI B W W' := fun i cs hi e => by
  obtain ⟨⟨cg, hcg⟩, _⟩ := rq_blk h.rq
  exact (hk.keep i (blk_lt e) (type_neE e hcg (by decide)) (fun e2 => by have := hB i e2; omega)).trans e
theorem RA.others (h : RA wb W g most ys rb b7 b11 b12 b13 n) (hk : StepR W W' g rb rb') : KeepsOthers W W' := ⟨hk.size, fun k o hk2 ho => by
  obtain ⟨⟨cg, hcg⟩, hrow⟩ := rq_blk h.rq
  refine (hk.keep k (Array.getElem?_eq_some_iff.1 hk2).1 (fun e => ?_) (fun e => ?_)).trans hk2
  · subst e
    rw [hcg] at hk2
    cases hk2
    cases ho
  · obtain ⟨cr, hcr⟩ := hrow k e
    rw [hcr] at hk2
    cases hk2
    cases ho⟩
end
/-- The law's own boxes ahead of the ring. -/
structure X4 (W : World) (b3 b4 b5 b6 : Nat) (a0 : Option Addr) (n cap0 : Nat) (drops leave : Int) : Prop where
  x3 : Boxed W b3 40 (.slice a0 n cap0)
  x4 : Boxed W b4 3 (.int .i64 drops)
  x5 : Boxed W b5 3 (.int .i64 leave)
  x6 : Boxed W b6 4 (.bool false)
theorem X4.below {W W' : World} {b3 b4 b5 b6 : Nat} {a0 : Option Addr} {n cap0 : Nat} {drops leave : Int} (h : X4 W b3 b4 b5 b6 a0 n cap0 drops leave) (hb : Below W.heap.size W W') : X4 W' b3 b4 b5 b6 a0 n cap0 drops leave :=
  ⟨blk_below h.x3 hb, blk_below h.x4 hb, blk_below h.x5 hb, blk_below h.x6 hb⟩
/-- While the ring is filled. -/
structure RS (wb W : World) (g : Nat) (most : Int) (ys : List Int) (rb : Option Nat) (b7 : Nat) : Prop where
  rq : RQ wb W g most ys rb
  x7 : Boxed W b7 44 (.pointer (some ⟨g, 0, none⟩))
theorem RS.below {wb W W' : World} {g : Nat} {most : Int} {ys : List Int} {rb : Option Nat} {b7 : Nat} (h : RS wb W g most ys rb b7) (hb : Below W.heap.size W W') : RS wb W' g most ys rb b7 := ⟨h.rq.below hb, blk_below h.x7 hb⟩
theorem rs_push {wb W : World} {g : Nat} {most : Int} {ys : List Int} {rb : Option Nat} {b7 : Nat} (h : RS wb W g most ys rb b7) (hl : (ys.length : Int) < most) (x : Int) :
    Calls Try.prog 27 #[.pointer (some ⟨g, 0, none⟩), .int .i64 x] W fun e W' => e = .returned (.int .i64 0) ∧ ∃ rb', RS wb W' g most (ys ++ [x]) rb' b7 := by
  refine (push_q h.rq x hl).mono ?_
  rintro e W' ⟨rfl, rb', h1, h2, h3⟩
  obtain ⟨⟨cg, hcg⟩, hrow⟩ := rq_blk h.rq
  refine ⟨rfl, rb', h1, (h2.2 b7 (blk_lt h.x7) (type_neE h.x7 hcg (by decide)) (fun e => ?_)).trans h.x7⟩
  obtain ⟨cr, hcr⟩ := hrow b7 e.symm
  exact type_neE h.x7 hcr (by decide) rfl
theorem KpI.low {B b o : Nat} {W : World} {v : Value} (h : b < B) : KpI B W (W.setCell ⟨b, o, none⟩ v) := fun i cs hi e =>
  (Below.heap_setCell W ⟨b, o, none⟩ v i (by show i ≠ b; omega)).trans e
/-- A loop over an iterator whose round's frame is said of the frame ahead of it. -/
theorem rangeG {F : Fence} {n : Nat} {P : Program} {α : Type} (f : α → Array Value → Array Value) {g : Operand} {ps : Array Tmp} {assign body : Code} {Q : Exit → Act → World → Prop} {a : Act} {w : World}
    (hro : F.round = none) (h1 : 1 ≤ n) {gf : Nat} {lb : Array Value} (hg : a.eval g = .func (.func gf) #[] lb) (hFg : F.fn gf) (eg : ∀ args w, (callFunc gf args).run P w = .ok (.enter gf args) w)
    {encs : α → Array Value} {Kp : World → World → Prop} {S Sp : List α → Prop} {N : Nat} {w0 : World} (hseq : SeqStopsK F (n - 1) P gf lb encs Kp S Sp N w0)
    (hKt : ∀ {A B C : World}, Kp A B → Kp B C → Kp A C) (hKb : ∀ (W : World) (l : Nat) (o o' : Obj), w.heap.size ≤ l → W.heap[l]? = some o → o.isCells = false → o.isWalk = false → Kp W (W.putObj l o')) (hb0 : Below w0.heap.size w0 w) (hps : ∀ x, (encs x).size = ps.size)
    (I : List α → World → Prop) (Ix : Code → List α → World → Prop) (hI : OwnFrom w.heap.size I) (hIx : ∀ c, OwnFrom w.heap.size (Ix c)) (h0 : I [] w)
    (hassign : ∀ (l : Nat) (x : α) (W : World) (K : Act → World → Prop), K { tmps := f x a.tmps, defers := [] } W →
      assign.wpIn (F.inRound l) (n - 1 - 1) P (Exit.then K (fun _ _ _ => False)) { tmps := (ps.zip (encs x)).foldl (fun t (p, v) => t.setIfInBounds p v) a.tmps, defers := [] } W)
    (hbody : ∀ (l : Nat) (pre : List α) (x : α) (W : World), I pre W → pre.length < N → body.wpIn (F.inRound l) (n - 1 - 1) P (ownPostG w.heap.size Kp I Ix (pre ++ [x]) W) { tmps := f x a.tmps, defers := [] } W)
    (hdone : ∀ (D : Nat) (xs : List α) (W : World), w.heap.size ≤ D → S xs → I xs W → W.heap[D]? = some (.deferred (some [])) → Q .normal { a with defers := { target := .collected D, args := #[] } :: a.defers } W)
    (hstop : ∀ (D : Nat) (c : Code) (pre : List α) (W : World), w.heap.size ≤ D → Sp pre → Ix c pre W → W.heap[D]? = some (.deferred (some [])) → c.wpIn F n P Q { a with defers := { target := .collected D, args := #[] } :: a.defers } W) :
    (Code.rangeFunc g ps assign body).wpIn F n P Q a w :=
  wpIn_rangeFunc_ownG hro h1 hg hFg eg hseq hKt hKb hb0 hps I Ix hI hIx h0 (fun x => { tmps := f x a.tmps, defers := [] }) hassign hbody hdone hstop
/-- As rangeG, the body being told of its own loop's record. -/
theorem rangeH {F : Fence} {n : Nat} {P : Program} {α : Type} (f : α → Array Value → Array Value) {g : Operand} {ps : Array Tmp} {assign body : Code} {Q : Exit → Act → World → Prop} {a : Act} {w : World}
    (hro : F.round = none) (h1 : 1 ≤ n) {gf : Nat} {lb : Array Value} (hg : a.eval g = .func (.func gf) #[] lb) (hFg : F.fn gf) (eg : ∀ args w, (callFunc gf args).run P w = .ok (.enter gf args) w)
    {encs : α → Array Value} {Kp : World → World → Prop} {S Sp : List α → Prop} {N : Nat} {w0 : World} (hseq : SeqStopsK F (n - 1) P gf lb encs Kp S Sp N w0)
    (hKt : ∀ {A B C : World}, Kp A B → Kp B C → Kp A C) (hKb : ∀ (W : World) (l : Nat) (o o' : Obj), w.heap.size ≤ l → W.heap[l]? = some o → o.isCells = false → o.isWalk = false → Kp W (W.putObj l o')) (hb0 : Below w0.heap.size w0 w) (hps : ∀ x, (encs x).size = ps.size)
    (I : List α → World → Prop) (Ix : Code → List α → World → Prop) (hI : OwnFrom w.heap.size I) (hIx : ∀ c, OwnFrom w.heap.size (Ix c)) (h0 : I [] w)
    (hassign : ∀ (l : Nat) (pre : List α) (x : α) (W : World) (K : Act → World → Prop), I pre W → (∀ a' W', KeepsFrom w.heap.size W W' → Kp W W' → I pre W' → a' = { tmps := f x a.tmps, defers := [] } → K a' W') →
      assign.wpIn (F.inRound l) (n - 1 - 1) P (Exit.then K (fun _ _ _ => False)) { tmps := (ps.zip (encs x)).foldl (fun t (p, v) => t.setIfInBounds p v) a.tmps, defers := [] } W)
    (hbody : ∀ (l : Nat) (pre : List α) (x : α) (a' : Act) (W : World), w.heap.size ≤ l → (∃ r, W.heap[l]? = some (.loop r)) → I pre W → a' = { tmps := f x a.tmps, defers := [] } → pre.length < N → body.wpIn (F.inRound l) (n - 1 - 1) P (ownPostG w.heap.size Kp I Ix (pre ++ [x]) W) a' W)
    (hdone : ∀ (D : Nat) (xs : List α) (W : World), w.heap.size ≤ D → S xs → I xs W → W.heap[D]? = some (.deferred (some [])) → Q .normal { a with defers := { target := .collected D, args := #[] } :: a.defers } W)
    (hstop : ∀ (D : Nat) (c : Code) (pre : List α) (W : World), w.heap.size ≤ D → Sp pre → Ix c pre W → W.heap[D]? = some (.deferred (some [])) → c.wpIn F n P Q { a with defers := { target := .collected D, args := #[] } :: a.defers } W) :
    (Code.rangeFunc g ps assign body).wpIn F n P Q a w :=
  wpIn_rangeFunc_ownH hro h1 hg hFg eg hseq hKt hKb hb0 hps I Ix hI hIx h0 (fun x a' _ => a' = { tmps := f x a.tmps, defers := [] }) (fun _ _ _ _ _ _ h _ _ => h) hassign hbody hdone hstop
/-- As rangeG, the body being told of its own loop's record. -/
theorem rangeN {F : Fence} {n : Nat} {P : Program} {α : Type} (f : α → Array Value → Array Value) {g : Operand} {ps : Array Tmp} {assign body : Code} {Q : Exit → Act → World → Prop} {a : Act} {w : World}
    {l₀ : Nat} {r₀ : Loop} (hro : F.round = some l₀) (hl₀ : w.heap[l₀]? = some (.loop r₀)) (h1 : 1 ≤ n) {gf : Nat} {lb : Array Value} (hg : a.eval g = .func (.func gf) #[] lb) (hFg : F.fn gf) (eg : ∀ args w, (callFunc gf args).run P w = .ok (.enter gf args) w)
    {encs : α → Array Value} {Kp : World → World → Prop} {S Sp : List α → Prop} {N : Nat} {w0 : World} (hseq : SeqStopsK F (n - 1) P gf lb encs Kp S Sp N w0)
    (hKt : ∀ {A B C : World}, Kp A B → Kp B C → Kp A C) (hKb : ∀ (W : World) (l : Nat) (o o' : Obj), w.heap.size ≤ l → W.heap[l]? = some o → o.isCells = false → o.isWalk = false → Kp W (W.putObj l o')) (hb0 : Below w0.heap.size w0 w) (hps : ∀ x, (encs x).size = ps.size)
    (I : List α → World → Prop) (Ix : Code → List α → World → Prop) (hI : OwnFrom w.heap.size I) (hIx : ∀ c, OwnFrom w.heap.size (Ix c)) (h0 : I [] w)
    (hassign : ∀ (l : Nat) (pre : List α) (x : α) (W : World) (K : Act → World → Prop), I pre W → (∀ a' W', KeepsFrom w.heap.size W W' → Kp W W' → I pre W' → a' = { tmps := f x a.tmps, defers := [] } → K a' W') →
      assign.wpIn (F.inRound l) (n - 1 - 1) P (Exit.then K (fun _ _ _ => False)) { tmps := (ps.zip (encs x)).foldl (fun t (p, v) => t.setIfInBounds p v) a.tmps, defers := [] } W)
    (hbody : ∀ (l : Nat) (pre : List α) (x : α) (a' : Act) (W : World), w.heap.size ≤ l → (∃ r, W.heap[l]? = some (.loop r)) → I pre W → a' = { tmps := f x a.tmps, defers := [] } → pre.length < N → body.wpIn (F.inRound l) (n - 1 - 1) P (ownPostG w.heap.size Kp I Ix (pre ++ [x]) W) a' W)
    (hdone : ∀ (xs : List α) (W : World), S xs → I xs W → Q .normal a W)
    (hstop : ∀ (c : Code) (pre : List α) (W : World), Sp pre → Ix c pre W → c.wpIn F n P Q a W) :
    (Code.rangeFunc g ps assign body).wpIn F n P Q a w :=
  wpIn_rangeFunc_ownN hro hl₀ h1 hg hFg eg hseq hKt hKb hb0 hps I Ix hI hIx h0 (fun x a' _ => a' = { tmps := f x a.tmps, defers := [] }) (fun _ _ _ _ _ _ h _ _ => h) hassign hbody hdone hstop
/-- A box of whole numbers that is not the ring's row. -/
theorem RA.far {wb W : World} {g : Nat} {most : Int} {ys : List Int} {rb : Option Nat} {b7 b11 b12 b13 b : Nat} {n m k : Int} (h : RA wb W g most ys rb b7 b11 b12 b13 n) (hb : Boxed W b 3 (.int .i64 k)) (hw : wb.heap.size ≤ b) (h1 : rb ≠ some b) (h2 : b12 ≠ b) : RA wb (W.setCell ⟨b, 0, none⟩ (.int .i64 m)) g most ys rb b7 b11 b12 b13 n := by
  have kp : ∀ {a t : Nat} {cs : Array Value}, W.heap[a]? = some (.cells cs t (0, 0)) → a ≠ b → (W.setCell ⟨b, 0, none⟩ (.int .i64 m)).heap[a]? = some (.cells cs t (0, 0)) := fun {a t cs} ha hne => (Below.heap_setCell W ⟨b, 0, none⟩ _ a hne).trans ha
  obtain ⟨⟨cg, hcg⟩, hrow⟩ := rq_blk h.rq
  refine ⟨rq_kept h.rq (below_set h.rq.bl hw) ((kp hcg (type_neE hcg hb (by decide))).trans hcg.symm) (fun k hk => ?_), kp h.x7 (type_neE h.x7 hb (by decide)), kp h.x11 (type_neE h.x11 hb (by decide)), kp h.x13 (type_neE h.x13 hb (by decide)), kp h.x12 h2, h.nr⟩
  obtain ⟨cr, hcr⟩ := hrow k hk
  exact (kp hcr (fun e => h1 (by rw [hk, e]))).trans hcr.symm
theorem each_own {wb X Y : World} {g : Nat} {most : Int} {ys : List Int} {rb : Option Nat} {b7 b11 b12 b13 b15 D1 B : Nat} {n m : Int} {row : Option Nat} (h : RA wb X g most ys rb b7 b11 b12 b13 n ∧ Boxed X b15 3 (.int .i64 m) ∧ X.heap[D1]? = some (.deferred (some []))) (hg : X.grownBy Y row) (hr : ∀ r, row = some r → B ≤ r ∧ ∃ o : Obj, X.heap[r]? = some o ∧ o.isCells = false) (hB : wb.heap.size ≤ B) (hD : D1 < B) : RA wb Y g most ys rb b7 b11 b12 b13 n ∧ Boxed Y b15 3 (.int .i64 m) ∧ Y.heap[D1]? = some (.deferred (some [])) := by
  refine ⟨h.1.turn hg (fun r e => (hr r e).2) (fun r e => Nat.le_trans hB (hr r e).1), h.2.1.kept hg (fun e => ?_), (hg.block D1 (Array.getElem?_eq_some_iff.1 h.2.2).1 (fun e => ?_)).trans h.2.2⟩
  · obtain ⟨_, o, ho, hc⟩ := hr b15 e.symm
    rw [show X.heap[b15]? = _ from h.2.1] at ho
    cases ho
    cases hc
  · have := (hr D1 e.symm).1
    omega
theorem e_at {w W : World} {g : Nat} {most : Int} {ys : List Int} {rb : Option Nat} (h : RQ w W g most ys rb) (j : Nat) (hj : j < ys.length) :
    Calls Try.prog 39 #[.pointer (some ⟨g, 0, none⟩), .int .i64 (j : Int)] W fun e W' => e = .returned (.tuple #[.int .i64 (ys.getD j 0), .bool true]) ∧ Below W.heap.size W W' := by
  refine (at_q h j).mono ?_
  rintro e W' ⟨rfl, hd⟩
  have h1 : 0 ≤ (j : Int) ∧ (j : Int) < ys.length := ⟨by omega, by omega⟩
  refine ⟨?_, hd.below⟩
  rw [if_pos h1, decide_eq_true h1]
  rfl
theorem e_at_any {w W : World} {g : Nat} {most : Int} {ys : List Int} {rb : Option Nat} (h : RQ w W g most ys rb) (j : Int) :
    Calls Try.prog 39 #[.pointer (some ⟨g, 0, none⟩), .int .i64 j] W fun e W' => ∃ v b, e = .returned (.tuple #[.int .i64 v, .bool b]) ∧ Below W.heap.size W W' :=
  (at_q h j).mono fun e W' ⟨h1, h2⟩ => ⟨_, _, h1, h2.below⟩
/-- What has come is not what should have come. -/
theorem upto_last {xs : List Int} {pre : List (Nat × Int)} {x : Nat × Int} {k : Nat} (h : pre ++ [x] = uptoI xs k) : x = (pre.length, xs.getD pre.length 0) := by
  cases k with
  | zero => simp [uptoI] at h
  | succ k =>
    have hl := congrArg List.length h
    rw [uptoI_len, List.length_append, List.length_singleton] at hl
    obtain rfl : pre.length = k := by omega
    rw [uptoI_succ] at h
    have := (List.append_inj' h rfl).2
    simpa using this
end Go.Proofs.Ytekjkookkjjbcaa.EC
