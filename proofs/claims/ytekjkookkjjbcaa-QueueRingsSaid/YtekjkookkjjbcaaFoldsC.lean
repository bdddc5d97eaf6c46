/- QueueFolds: the ring and the reference's ring side by side. -/
import Derived.Test.YtekjkookkjjbcaaFold
import Derived.Test.YtekjkookkjjbcaaRefR
namespace Go.Proofs.Ytekjkookkjjbcaa.FL
set_option linter.unusedVariables false
set_option linter.unusedSimpArgs false
set_option linter.unusedVariables false
set_option linter.unusedSimpArgs false
open Go.RowKit Go.Proofs.YtekjkookkjjbcaaW.PrintWords Go.Proofs.YtekjkookkjjbcaaW.PrintLast Go.Proofs.YtekjkookkjjbcaaW.PrintMore Go.Proofs.Ytekjkookkjjbcaa.B Go.Proofs.Ytekjkookkjjbcaa.M Go.Proofs.Ytekjkookkjjbcaa.RI Go.Proofs.Ytekjkookkjjbcaa.RR Go.Proofs.Ytekjkookkjjbcaa.EA
open Go.Proofs.Ytekjkookkjjbcaa.RH (T2 d2 kT RT MovedR C_cells)
theorem type_neL {W : World} {a b t t' : Nat} {cs ds : Array Value} (ha : W.heap[a]? = some (.cells cs t (0, 0))) (hb : W.heap[b]? = some (.cells ds t' (0, 0))) (ht : t ≠ t') : a ≠ b := fun e => by
  rw [e, hb] at ha
  injection ha with ha
  injection ha with _ ha
  exact ht ha.symm
section
variable {w W W' : World} {g gx : Nat} {most : Int} {xs ys : List Int} {gs hs : List T2} {rb rb' : Option Nat} {v v' : Value}
theorem rq_blk (h : RQ w W g most xs rb) : (∃ cs, W.heap[g]? = some (.cells cs 59 (0, 0))) ∧ ∀ k, rb = some k → ∃ cs, W.heap[k]? = some (.cells cs 3 (0, 0)) := by
  obtain ⟨v, rm, f, h1, h2, h3⟩ := h.ex
  refine ⟨⟨_, h1.bk⟩, fun k hk => ?_⟩
  exact Kd.R_typed h1.ow k (h3.trans hk)
theorem rq_kept (h : RQ w W g most xs rb) (hb : Below w.heap.size w W') (hg : W'.heap[g]? = W.heap[g]?) (hr : ∀ k, rb = some k → W'.heap[k]? = W.heap[k]?) : RQ w W' g most xs rb := by
  obtain ⟨v, rm, f, h1, h2, h3⟩ := h.ex
  exact ⟨v, rm, f, ⟨hg.trans h1.bk, h1.gg, hb, Kd.R_mono (Kd.R_move (Kd.R_tight rfl h1.ow) (fun k hk => hr k (by rw [← h3]; exact hk.symm))) (fun _ _ => trivial), h1.fl, h1.nl, h1.ml, h1.m1, h1.m2⟩, h2, h3⟩
theorem xr_kept (h : XR w W gx most v gs) (hb : Below w.heap.size w W') (hg : W'.heap[gx]? = W.heap[gx]?) (hr : ∀ k, v.ownBlock = some k → W'.heap[k]? = W.heap[k]?) : XR w W' gx most v gs :=
  ⟨hg.trans h.bk, h.gg, hb, Kd.R_mono (Kd.R_move (Kd.R_tight rfl h.ow) (fun k hk => hr k hk.symm)) (fun _ _ => trivial)⟩
/-- The ring and the reference's. -/
structure FR (w W : World) (g gx : Nat) (most : Int) (xs : List Int) (rb : Option Nat) (v : Value) (gs : List T2) : Prop where
  rq : RQ w W g most xs rb
  xr : XR w W gx most v gs
theorem FR.below (h : FR w W g gx most xs rb v gs) (hB : Below W.heap.size W W') : FR w W' g gx most xs rb v gs := ⟨h.rq.below hB, h.xr.below hB⟩
theorem FR.ring (h : FR w W g gx most xs rb v gs) (hq : RQ w W' g most ys rb') (hk : KeepBut W W' g rb) : FR w W' g gx most ys rb' v gs := by
  obtain ⟨⟨cg, hcg⟩, hrow⟩ := rq_blk h.rq
  have keep : ∀ {a t : Nat} {cs : Array Value}, W.heap[a]? = some (.cells cs t (0, 0)) → t ≠ 59 → t ≠ 3 → W'.heap[a]? = W.heap[a]? := fun {a t cs} ha h1 h2 =>
    hk.2 a (blk_lt ha) (type_neL ha hcg h1) (fun e => by
      obtain ⟨cr, hcr⟩ := hrow a e.symm
      exact type_neL ha hcr h2 rfl)
  refine ⟨hq, xr_kept h.xr hq.bl (keep h.xr.bk (by decide) (by decide)) (fun k hk2 => ?_)⟩
  obtain ⟨cr, hcr⟩ := Kd.R_typed h.xr.ow k hk2
  exact keep hcr (by decide) (by decide)
theorem FR.ref (h : FR w W g gx most xs rb v gs) (hq : XR w W' gx most v' hs) (hk : KeepBut W W' gx v.ownBlock) : FR w W' g gx most xs rb v' hs := by
  have keep : ∀ {a t : Nat} {cs : Array Value}, W.heap[a]? = some (.cells cs t (0, 0)) → t ≠ 106 → t ≠ 29 → W'.heap[a]? = W.heap[a]? := fun {a t cs} ha h1 h2 =>
    hk.2 a (blk_lt ha) (type_neL ha h.xr.bk h1) (fun e => by
      obtain ⟨cr, hcr⟩ := Kd.R_typed h.xr.ow a e.symm
      exact type_neL ha hcr h2 rfl)
  obtain ⟨⟨cr, hcr⟩, hr2⟩ := rq_blk h.rq
  refine ⟨rq_kept h.rq hq.bl (keep hcr (by decide) (by decide)) (fun k hk2 => ?_), hq⟩
  obtain ⟨cr2, hcr2⟩ := hr2 k hk2
  exact keep hcr2 (by decide) (by decide)
end
/-- New takes the bound. -/
def Good (most : Int) : Prop := 1 ≤ most ∧ most ≤ 1048576
instance (most : Int) : Decidable (Good most) := by unfold Good; infer_instance
/-- What New says. -/
def newC (most : Int) : Int := if Good most then 0 else 2
/-- What is there behind a push, behind a drop. -/
def pushL {α : Type} (most : Int) (xs : List α) (x : α) : List α := if Good most ∧ (xs.length : Int) < most then xs ++ [x] else xs
def dropL {α : Type} (xs : List α) (k : Int) : List α := xs.drop k.toNat
/-- The ring alone, or none. -/
def NR (w W : World) (rp : Option Addr) (most : Int) (xs : List Int) : Prop := (¬ Good most ∧ rp = none ∧ xs = [] ∧ Below w.heap.size w W) ∨ (Good most ∧ ∃ g rb, rp = some ⟨g, 0, none⟩ ∧ RQ w W g most xs rb)
/-- Both, or neither. -/
def ST (w W : World) (rp xp : Option Addr) (most : Int) (xs : List Int) (gs : List T2) : Prop :=
  (¬ Good most ∧ rp = none ∧ xp = none ∧ xs = [] ∧ gs = [] ∧ Below w.heap.size w W) ∨ (Good most ∧ ∃ g gx rb v, rp = some ⟨g, 0, none⟩ ∧ xp = some ⟨gx, 0, none⟩ ∧ FR w W g gx most xs rb v gs)
section
variable {w W W' : World} {rp xp : Option Addr} {most : Int} {xs ys : List Int} {gs hs : List T2}
theorem ST.bl (h : ST w W rp xp most xs gs) : Below w.heap.size w W := by
  rcases h with ⟨_, _, _, _, _, h⟩ | ⟨_, g, gx, rb, v, _, _, h⟩
  · exact h
  · exact h.rq.bl
theorem ST.below (h : ST w W rp xp most xs gs) (hb : Below W.heap.size W W') : ST w W' rp xp most xs gs := by
  rcases h with ⟨h1, h2, h3, h4, h5, h⟩ | ⟨h1, g, gx, rb, v, h2, h3, h⟩
  · exact .inl ⟨h1, h2, h3, h4, h5, below_step h hb⟩
  · exact .inr ⟨h1, g, gx, rb, v, h2, h3, h.below hb⟩
theorem ST.len (h : ST w W rp xp most xs gs) : xs.length ≤ 1048576 := by
  rcases h with ⟨_, _, _, rfl, _, h⟩ | ⟨_, g, gx, rb, v, _, _, h⟩
  · exact Nat.zero_le _
  · have := h.rq.bounds
    omega
theorem ST.row (h : ST w W rp xp most xs gs) : RowOf W rp xs := by
  rcases h with ⟨_, rfl, _, rfl, _, h⟩ | ⟨_, g, gx, rb, v, rfl, _, h⟩
  · exact RowOf.nil W
  · exact RowOf.ring h.rq
theorem l_new (hB : Below w.heap.size w W) (most : Int) :
    Calls Try.prog 25 #[.int .i64 most] W fun e W' => ∃ rp, e = .returned (.tuple #[.pointer rp, .int .i64 (newC most)]) ∧ NR w W' rp most [] := by
  by_cases hg : Good most
  · refine (new_q w W hB most hg).mono ?_
    rintro e W' ⟨g, rfl, h1, _⟩
    exact ⟨_, by unfold newC; rw [if_pos hg], .inr ⟨hg, g, _, rfl, h1⟩⟩
  · refine (new_bad W most (by unfold Good at hg; omega)).mono ?_
    rintro e W' ⟨rfl, hd⟩
    exact ⟨none, by unfold newC; rw [if_neg hg], .inl ⟨hg, rfl, rfl, below_step hB hd.below⟩⟩
theorem l_xnew (h : NR w W rp most []) :
    Calls Try.prog 30 #[.int .i64 most] W fun e W' => ∃ xp, e = .returned (.tuple #[.pointer xp, .int .i64 (newC most)]) ∧ ST w W' rp xp most [] [] ∧ (rp.isNone = xp.isNone) := by
  rcases h with ⟨hg, rfl, _, hB⟩ | ⟨hg, g, rb, rfl, hq⟩
  · refine (xnew_bad W most (by unfold Good at hg; omega)).mono ?_
    rintro e W' ⟨rfl, hd⟩
    exact ⟨none, by unfold newC; rw [if_neg hg], .inl ⟨hg, rfl, rfl, rfl, rfl, below_step hB hd.below⟩, rfl⟩
  · refine (xnew_calls w W hq.bl most hg).mono ?_
    rintro e W' ⟨gx, rfl, h1, h2, _⟩
    exact ⟨_, by unfold newC; rw [if_pos hg], .inr ⟨hg, g, gx, _, _, rfl, rfl, ⟨hq.below h2, h1⟩⟩, rfl⟩
theorem l_push (h : ST w W rp xp most xs gs) (x : Int) :
    Calls Try.prog 27 #[.pointer rp, .int .i64 x] W fun e W' => ∃ c, e = .returned (.int .i64 c) ∧ ST w W' rp xp most (pushL most xs x) gs := by
  rcases h with ⟨hg, rfl, rfl, rfl, rfl, hB⟩ | ⟨hg, g, gx, rb, v, rfl, rfl, h⟩
  · refine (push_nil W x).mono ?_
    rintro e W' ⟨rfl, hd⟩
    refine ⟨_, rfl, .inl ⟨hg, rfl, rfl, ?_, rfl, below_step hB hd.below⟩⟩
    unfold pushL
    rw [if_neg (fun h => hg h.1)]
  · by_cases hl : (xs.length : Int) < most
    · refine (push_q h.rq x hl).mono ?_
      rintro e W' ⟨rfl, rb', h1, h2, _⟩
      refine ⟨_, rfl, .inr ⟨hg, g, gx, rb', v, rfl, rfl, ?_⟩⟩
      unfold pushL
      rw [if_pos ⟨hg, hl⟩]
      exact h.ring h1 h2
    · refine (push_q_full h.rq x (by have := h.rq.bounds; omega)).mono ?_
      rintro e W' ⟨rfl, hd⟩
      refine ⟨_, rfl, .inr ⟨hg, g, gx, rb, v, rfl, rfl, ?_⟩⟩
      unfold pushL
      rw [if_neg (fun h => hl h.2)]
      exact h.below hd.below
theorem l_xpush (h : ST w W rp xp most xs gs) (hgs : gs.length ≤ 1048576) (x y : Int) :
    Calls Try.prog 31 #[.pointer xp, .agg #[.int .i64 x, .int .i64 y]] W fun e W' => ∃ c, e = .returned (.int .i64 c) ∧ ST w W' rp xp most xs (pushL most gs (x, y)) := by
  rcases h with ⟨hg, rfl, rfl, rfl, rfl, hB⟩ | ⟨hg, g, gx, rb, v, rfl, rfl, h⟩
  · refine (xpush_nil W x y).mono ?_
    rintro e W' ⟨rfl, hd⟩
    refine ⟨_, rfl, .inl ⟨hg, rfl, rfl, rfl, ?_, below_step hB hd⟩⟩
    unfold pushL
    rw [if_neg (fun h => hg h.1)]
  · by_cases hl : (gs.length : Int) < most
    · refine (xpush_calls h.xr hl hg.2 x y).mono ?_
      rintro e W' ⟨rfl, v', h1, h2, _⟩
      refine ⟨_, rfl, .inr ⟨hg, g, gx, rb, v', rfl, rfl, ?_⟩⟩
      unfold pushL
      rw [if_pos ⟨hg, hl⟩]
      exact h.ref h1 h2
    · refine (xpush_full h.xr (by omega) x y).mono ?_
      rintro e W' ⟨rfl, hd⟩
      refine ⟨_, rfl, .inr ⟨hg, g, gx, rb, v, rfl, rfl, ?_⟩⟩
      unfold pushL
      rw [if_neg (fun h => hl h.2)]
      exact h.below hd
theorem l_drop (h : ST w W rp xp most xs gs) (k : Int) :
    Calls Try.prog 32 #[.pointer rp, .int .i64 k] W fun e W' => ∃ c, e = .returned (.int .i64 c) ∧ ST w W' rp xp most (dropL xs k) gs := by
  rcases h with ⟨hg, rfl, rfl, rfl, rfl, hB⟩ | ⟨hg, g, gx, rb, v, rfl, rfl, h⟩
  · refine (drop_nil W k).mono ?_
    rintro e W' ⟨rfl, hd⟩
    exact ⟨_, rfl, .inl ⟨hg, rfl, rfl, by unfold dropL; simp, rfl, below_step hB hd.below⟩⟩
  · by_cases hk : k ≤ 0 ∨ xs = []
    · refine (drop_q_none h.rq k hk).mono ?_
      rintro e W' ⟨rfl, hd⟩
      refine ⟨_, rfl, .inr ⟨hg, g, gx, rb, v, rfl, rfl, ?_⟩⟩
      have : dropL xs k = xs := by
        unfold dropL
        rcases hk with hk | hk
        · rw [show k.toNat = 0 by omega, List.drop_zero]
        · rw [hk]; simp
      rw [this]
      exact h.below hd.below
    · have hx : 0 < xs.length := List.length_pos_iff.2 (fun e => hk (.inr e))
      refine (drop_q h.rq k (min xs.length k.toNat) (by split <;> omega) (by omega)).mono ?_
      rintro e W' ⟨rfl, h1, h2⟩
      refine ⟨_, rfl, .inr ⟨hg, g, gx, rb, v, rfl, rfl, ?_⟩⟩
      have : dropL xs k = xs.drop (min xs.length k.toNat) := by
        unfold dropL
        by_cases hl : k.toNat ≤ xs.length
        · rw [Nat.min_eq_right hl]
        · rw [Nat.min_eq_left (by omega), List.drop_of_length_le (by omega), List.drop_length]
      rw [this]
      exact h.ring h1 h2
theorem l_xdrop (h : ST w W rp xp most xs gs) (hgs : gs.length ≤ 1048576) (k : Int) :
    Calls Try.prog 33 #[.pointer xp, .int .i64 k] W fun e W' => ∃ c, e = .returned (.int .i64 c) ∧ ST w W' rp xp most xs (dropL gs k) := by
  rcases h with ⟨hg, rfl, rfl, rfl, rfl, hB⟩ | ⟨hg, g, gx, rb, v, rfl, rfl, h⟩
  · refine (xdrop_nil W k).mono ?_
    rintro e W' ⟨rfl, hd⟩
    exact ⟨_, rfl, .inl ⟨hg, rfl, rfl, rfl, by unfold dropL; simp, below_step hB hd⟩⟩
  · by_cases hk : k ≤ 0 ∨ gs.length = 0
    · refine (xdrop_none h.xr k hk).mono ?_
      rintro e W' ⟨rfl, hd⟩
      refine ⟨_, rfl, .inr ⟨hg, g, gx, rb, v, rfl, rfl, ?_⟩⟩
      have : dropL gs k = gs := by
        unfold dropL
        rcases hk with hk | hk
        · rw [show k.toNat = 0 by omega, List.drop_zero]
        · rw [List.length_eq_zero_iff.1 hk]; simp
      rw [this]
      exact h.below hd
    · refine (xdrop_calls h.xr hgs k (min gs.length k.toNat) (by split <;> omega) (by omega)).mono ?_
      rintro e W' ⟨rfl, v', h1, h2, _⟩
      refine ⟨_, rfl, .inr ⟨hg, g, gx, rb, v', rfl, rfl, ?_⟩⟩
      have : dropL gs k = gs.drop (min gs.length k.toNat) := by
        unfold dropL
        by_cases hl : k.toNat ≤ gs.length
        · rw [Nat.min_eq_right hl]
        · rw [Nat.min_eq_left (by omega), List.drop_of_length_le (by omega), List.drop_length]
      rw [this]
      exact h.ref h1 h2
theorem l_len (h : ST w W rp xp most xs gs) :
    Calls Try.prog 29 #[.pointer rp] W fun e W' => e = .returned (.int .i64 (xs.length : Int)) ∧ Below W.heap.size W W' := by
  rcases h with ⟨hg, rfl, rfl, rfl, rfl, hB⟩ | ⟨hg, g, gx, rb, v, rfl, rfl, h⟩
  · exact (len_nil W).mono fun e W' ⟨h1, h2⟩ => ⟨h1, h2.below⟩
  · exact (len_q h.rq).mono fun e W' ⟨h1, h2⟩ => ⟨h1, h2.below⟩
theorem l_xlen (h : ST w W rp xp most xs gs) :
    Calls Try.prog 37 #[.pointer xp] W fun e W' => e = .returned (.int .i64 (gs.length : Int)) ∧ Below W.heap.size W W' := by
  rcases h with ⟨hg, rfl, rfl, rfl, rfl, hB⟩ | ⟨hg, g, gx, rb, v, rfl, rfl, h⟩
  · exact (xlen_nil W).mono fun e W' ⟨h1, h2⟩ => ⟨h1, h2.below⟩
  · exact (xlen_calls h.xr).mono fun e W' ⟨h1, h2⟩ => ⟨h1, h2.below⟩
theorem l_xrow (h : ST w W rp xp most xs gs) (hgs : gs.length ≤ 1048576) :
    Calls Try.prog 34 #[.pointer xp] W fun e W' => ∃ A c, e = .returned (.slice A gs.length c) ∧ RT W W' (.slice A gs.length c) gs ∧ Below W.heap.size W W' := by
  rcases h with ⟨hg, rfl, rfl, rfl, rfl, hB⟩ | ⟨hg, g, gx, rb, v, rfl, rfl, h⟩
  · exact (xrow_nil W).mono fun e W' ⟨h1, h2⟩ => ⟨none, 0, h1, Kd.R_nil _ _ _ _ _, h2.below⟩
  · exact xrow_calls h.xr hgs
end
/-- The reference's list beside the ring's. -/
def both (xs : List Int) : List T2 := xs.map fun x => (x, 0)
theorem both_push (most : Int) (xs : List Int) (x : Int) : pushL most (both xs) (x, 0) = both (pushL most xs x) := by
  unfold pushL both
  rw [List.length_map]
  split
  · rw [List.map_append]; rfl
  · rfl
theorem both_drop (xs : List Int) (k : Int) : dropL (both xs) k = both (dropL xs k) := by
  unfold dropL both
  rw [List.map_drop]
theorem both_len (xs : List Int) : (both xs).length = xs.length := List.length_map _
end Go.Proofs.Ytekjkookkjjbcaa.FL
