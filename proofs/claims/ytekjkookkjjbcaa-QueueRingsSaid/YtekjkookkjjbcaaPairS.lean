/- QueueRings: what the calls on a ring, on a ring of things and on the reference's say, of the rings or of none. -/
import Derived.Test.YtekjkookkjjbcaaPairR
namespace Go.Proofs.Ytekjkookkjjbcaa.PA
set_option linter.unusedVariables false
set_option linter.unusedSimpArgs false
set_option linter.unusedVariables false
set_option linter.unusedSimpArgs false
open Go.RowKit Go.Proofs.YtekjkookkjjbcaaW.PrintWords Go.Proofs.YtekjkookkjjbcaaW.PrintLast Go.Proofs.YtekjkookkjjbcaaW.PrintMore Go.Proofs.Ytekjkookkjjbcaa.B Go.Proofs.Ytekjkookkjjbcaa.M Go.Proofs.Ytekjkookkjjbcaa.RR
open Go.Proofs.Ytekjkookkjjbcaa.RH (T2 d2 kT RT MovedR)
open Go.Proofs.Ytekjkookkjjbcaa.FL (pushL dropL newC both)
/-- What Push says. -/
def pushC (most : Int) (n : Nat) : Int := if FL.Good most then (if (n : Int) < most then 0 else 4) else 1
/-- What Drop says. -/
def dropC (n : Nat) (k : Int) : Int := if k ≤ 0 ∨ n = 0 then 0 else ((min n k.toNat : Nat) : Int)
/-- What Room says. -/
def roomC (most : Int) (n : Nat) : Int := if FL.Good most then most - (n : Int) else 0
/-- What lies at a place. -/
def inB (n : Nat) (i : Int) : Bool := decide (0 ≤ i ∧ i < (n : Int))
def atV {α : Type} (d : α) (xs : List α) (i : Int) : α := if 0 ≤ i ∧ i < (xs.length : Int) then xs.getD i.toNat d else d
theorem atV_nil {α : Type} (d : α) (i : Int) : atV d [] i = d := by
  unfold atV
  split
  · rename_i h
    simp at h
    omega
  · rfl
theorem inB_nil (i : Int) : inB 0 i = false := decide_eq_false (by omega)
theorem atV_in {α : Type} (d : α) (xs : List α) (i : Nat) (h : i < xs.length) : atV d xs (i : Int) = xs.getD i d := by
  unfold atV
  rw [if_pos ⟨by omega, by omega⟩, Int.toNat_natCast]
theorem inB_in {n i : Nat} (h : i < n) : inB n (i : Int) = true := decide_eq_true ⟨by omega, by omega⟩
theorem atV_out {α : Type} (d : α) (xs : List α) (i : Int) (h : i < 0 ∨ (xs.length : Int) ≤ i) : atV d xs i = d := by
  unfold atV
  rw [if_neg (by omega)]
theorem inB_out {n : Nat} {i : Int} (h : i < 0 ∨ (n : Int) ≤ i) : inB n i = false := decide_eq_false (by omega)
theorem drop_none {α : Type} {xs : List α} {k : Int} (hk : k ≤ 0 ∨ xs.length = 0) : dropL xs k = xs := by
  unfold dropL
  rcases hk with hk | hk
  · rw [show k.toNat = 0 by omega, List.drop_zero]
  · rw [List.length_eq_zero_iff.1 hk]; simp
theorem drop_min {α : Type} {xs : List α} {k : Int} : dropL xs k = xs.drop (min xs.length k.toNat) := by
  unfold dropL
  by_cases hl : k.toNat ≤ xs.length
  · rw [Nat.min_eq_right hl]
  · rw [Nat.min_eq_left (by omega), List.drop_of_length_le (by omega), List.drop_length]
theorem dropL_nil {α : Type} (k : Int) : dropL ([] : List α) k = [] := by unfold dropL; simp
theorem pushL_bad {α : Type} {most : Int} {xs : List α} {x : α} (h : ¬ FL.Good most) : pushL most xs x = xs := by
  unfold pushL
  rw [if_neg (fun k => h k.1)]
section
variable {w : World} {rp : Option Addr} {most : Int}
abbrev intR (w : World) := ring (intK w)
abbrev thR (w : World) := ring (thK w)
abbrev refR (w : World) := ring (refK w)
theorem same_b {W : World} {rb : Option Nat} : rb = rb ∨ ∃ j, rb = some j ∧ W.heap.size ≤ j := .inl rfl
theorem kept_below {W W' : World} {g : Nat} {b : Option Nat} (h : Below W.heap.size W W') : KeepBut W W' g b := ⟨h.size, fun i hi _ _ => h.block i hi⟩
-- the ring of whole numbers
theorem i_push {xs : List Int} (x : Int) : Steps (intR w rp most xs) 27 #[.pointer rp, .int .i64 x] (fun _ : Unit => .int .i64 (pushC most xs.length)) (fun _ => intR w rp most (pushL most xs x)) := by
  refine ring_steps (A := fun rp => #[.pointer rp, .int .i64 x]) (fun h e => by rw [pushL_bad h, e]) (fun h e W => ?_) (fun h W g rb hq => ?_)
  · refine (RI.push_nil W x).mono fun e W' ⟨h1, h2⟩ => ⟨?_, h2.below⟩
    rw [h1]; unfold pushC; rw [if_neg h]
  · unfold pushC pushL
    rw [if_pos h]
    by_cases hl : (xs.length : Int) < most
    · rw [if_pos hl, if_pos ⟨h, hl⟩]
      exact (RI.push_q hq x hl).mono fun e W' ⟨h1, b', h2, h3, h4⟩ => ⟨h1, b', h2, h3, h4⟩
    · rw [if_neg hl, if_neg (fun k => hl k.2)]
      have hb := RI.RQ.bounds hq
      exact (RI.push_q_full hq x (by omega)).mono fun e W' ⟨h1, h2⟩ => ⟨h1, rb, RI.RQ.below hq h2.below, kept_below h2.below, same_b⟩
theorem i_pop {xs : List Int} : Steps (intR w rp most xs) 28 #[.pointer rp] (fun _ : Unit => .tuple #[.int .i64 (atV 0 xs 0), .bool (inB xs.length 0)]) (fun _ => intR w rp most (dropL xs 1)) := by
  refine ring_steps (A := fun rp => #[.pointer rp]) (fun h e => by rw [e, dropL_nil]) (fun h e W => ?_) (fun h W g rb hq => ?_)
  · rw [e, atV_nil]
    exact NI.pop_nil W
  · cases xs with
    | nil =>
      rw [dropL_nil, atV_nil]
      exact (RI.pop_none hq).mono fun e W' ⟨h1, h2⟩ => ⟨h1, rb, RI.RQ.below hq h2.below, kept_below h2.below, same_b⟩
    | cons x xs =>
      have e1 : atV 0 (x :: xs) 0 = x := atV_in 0 (x :: xs) 0 (by simp)
      have e2 : inB (x :: xs).length 0 = true := inB_in (i := 0) (by simp)
      rw [e1, e2]
      exact (RI.pop_q hq).mono fun e W' ⟨h1, h2, h3⟩ => ⟨h1, rb, h2, h3, same_b⟩
theorem i_at {xs : List Int} (i : Int) : Steps (intR w rp most xs) 39 #[.pointer rp, .int .i64 i] (fun _ : Unit => .tuple #[.int .i64 (atV 0 xs i), .bool (inB xs.length i)]) (fun _ => intR w rp most xs) := by
  refine ring_asks (A := fun rp => #[.pointer rp, .int .i64 i]) (fun h e W => ?_) (fun h W g rb hq => ?_)
  · rw [e, atV_nil]
    refine (RI.at_nil W i).mono fun e W' ⟨h1, h2⟩ => ⟨?_, h2.below⟩
    rw [h1, List.length_nil, inB_nil]
  · exact (RI.at_q hq i).mono fun e W' ⟨h1, h2⟩ => ⟨h1, h2.below⟩
theorem i_drop {xs : List Int} (k : Int) : Steps (intR w rp most xs) 32 #[.pointer rp, .int .i64 k] (fun _ : Unit => .int .i64 (dropC xs.length k)) (fun _ => intR w rp most (dropL xs k)) := by
  refine ring_steps (A := fun rp => #[.pointer rp, .int .i64 k]) (fun h e => by rw [e, dropL_nil]) (fun h e W => ?_) (fun h W g rb hq => ?_)
  · refine (RI.drop_nil W k).mono fun e1 W' ⟨h1, h2⟩ => ⟨?_, h2.below⟩
    rw [h1, e]; unfold dropC; rw [if_pos (.inr rfl)]
  · by_cases hk : k ≤ 0 ∨ xs = []
    · have hk' : k ≤ 0 ∨ xs.length = 0 := hk.imp id (fun e => by rw [e]; rfl)
      rw [drop_none hk']
      unfold dropC
      rw [if_pos hk']
      exact (RI.drop_q_none hq k hk).mono fun e W' ⟨h1, h2⟩ => ⟨h1, rb, RI.RQ.below hq h2.below, kept_below h2.below, same_b⟩
    · have hx : 0 < xs.length := List.length_pos_iff.2 (fun e => hk (.inr e))
      have hk' : ¬ (k ≤ 0 ∨ xs.length = 0) := by omega
      rw [drop_min]
      unfold dropC
      rw [if_neg hk']
      exact (RI.drop_q hq k (min xs.length k.toNat) (by split <;> omega) (by omega)).mono fun e W' ⟨h1, h2, h3⟩ => ⟨h1, rb, h2, h3, same_b⟩
theorem i_len {xs : List Int} : Steps (intR w rp most xs) 29 #[.pointer rp] (fun _ : Unit => .int .i64 (xs.length : Int)) (fun _ => intR w rp most xs) := by
  refine ring_asks (A := fun rp => #[.pointer rp]) (fun h e W => ?_) (fun h W g rb hq => ?_)
  · rw [e]
    exact (RI.len_nil W).mono fun e W' ⟨h1, h2⟩ => ⟨h1, h2.below⟩
  · exact (RI.len_q hq).mono fun e W' ⟨h1, h2⟩ => ⟨h1, h2.below⟩
theorem i_room {xs : List Int} : Steps (intR w rp most xs) 26 #[.pointer rp] (fun _ : Unit => .int .i64 (roomC most xs.length)) (fun _ => intR w rp most xs) := by
  refine ring_asks (A := fun rp => #[.pointer rp]) (fun h e W => ?_) (fun h W g rb hq => ?_)
  · unfold roomC
    rw [if_neg h]
    exact (RI.room_nil W).mono fun e W' ⟨h1, h2⟩ => ⟨h1, h2.below⟩
  · unfold roomC
    rw [if_pos h]
    exact (RI.room_q hq).mono fun e W' ⟨h1, h2⟩ => ⟨h1, h2.below⟩
theorem i_new (o : Ob w) (most : Int) : Steps o 25 #[.int .i64 most] (fun rp : { rp : Option Addr // rp.isNone = !decide (FL.Good most) } => .tuple #[.pointer rp.1, .int .i64 (newC most)]) (fun rp => intR w rp.1 most []) :=
  ring_new (fun h W => (RI.new_bad W most (by unfold FL.Good at h; omega)).mono fun e W' ⟨h1, h2⟩ => ⟨h1, h2.below⟩) (fun h W hB => RI.new_q w W hB most h)
-- the ring of things
theorem t_push {xs : List T2} (a b : Int) : Steps (thR w rp most xs) 52 #[.pointer rp, .agg #[.int .i64 a, .int .i64 b]] (fun _ : Unit => .int .i64 (pushC most xs.length)) (fun _ => thR w rp most (pushL most xs (a, b))) := by
  refine ring_steps (A := fun rp => #[.pointer rp, .agg #[.int .i64 a, .int .i64 b]]) (fun h e => by rw [pushL_bad h, e]) (fun h e W => ?_) (fun h W g rb hq => ?_)
  · refine (tpush_nil W a b).mono fun e W' ⟨h1, h2⟩ => ⟨?_, h2⟩
    rw [h1]; unfold pushC; rw [if_neg h]
  · unfold pushC pushL
    rw [if_pos h]
    by_cases hl : (xs.length : Int) < most
    · rw [if_pos hl, if_pos ⟨h, hl⟩]
      exact (RX.push_q hq (a, b) hl).mono fun e W' ⟨h1, b', h2, h3, h4⟩ => ⟨h1, b', h2, h3, h4⟩
    · rw [if_neg hl, if_neg (fun k => hl k.2)]
      have hb := RX.RQ.bounds hq
      exact (RX.push_q_full hq (a, b) (by omega)).mono fun e W' ⟨h1, h2⟩ => ⟨h1, rb, RX.RQ.below hq h2, kept_below h2, same_b⟩
theorem t_pop {xs : List T2} : Steps (thR w rp most xs) 53 #[.pointer rp] (fun _ : Unit => .tuple #[.agg #[.int .i64 (atV d2 xs 0).1, .int .i64 (atV d2 xs 0).2], .bool (inB xs.length 0)]) (fun _ => thR w rp most (dropL xs 1)) := by
  refine ring_steps (A := fun rp => #[.pointer rp]) (fun h e => by rw [e, dropL_nil]) (fun h e W => ?_) (fun h W g rb hq => ?_)
  · rw [e, atV_nil]
    exact tpop_nil W
  · cases xs with
    | nil =>
      rw [dropL_nil, atV_nil]
      exact (RX.pop_none hq).mono fun e W' ⟨h1, h2⟩ => ⟨h1, rb, RX.RQ.below hq h2, kept_below h2, same_b⟩
    | cons x xs =>
      have e1 : atV d2 (x :: xs) 0 = x := atV_in d2 (x :: xs) 0 (by simp)
      have e2 : inB (x :: xs).length 0 = true := inB_in (i := 0) (by simp)
      rw [e1, e2]
      exact (RX.pop_q hq).mono fun e W' ⟨h1, h2, h3⟩ => ⟨h1, rb, h2, h3, same_b⟩
theorem t_at {xs : List T2} (i : Int) : Steps (thR w rp most xs) 78 #[.pointer rp, .int .i64 i] (fun _ : Unit => .tuple #[.agg #[.int .i64 (atV d2 xs i).1, .int .i64 (atV d2 xs i).2], .bool (inB xs.length i)]) (fun _ => thR w rp most xs) := by
  refine ring_asks (A := fun rp => #[.pointer rp, .int .i64 i]) (fun h e W => ?_) (fun h W g rb hq => ?_)
  · rw [e, atV_nil, List.length_nil, inB_nil]
    exact tat_nil W i
  · by_cases hi : i < 0 ∨ (xs.length : Int) ≤ i
    · rw [atV_out d2 xs i hi, inB_out hi]
      exact RX.at_q_none hq i hi
    · obtain ⟨j, rfl⟩ : ∃ j : Nat, i = (j : Int) := ⟨i.toNat, by omega⟩
      have hj : j < xs.length := by omega
      rw [atV_in d2 xs j hj, inB_in hj]
      exact RX.at_q hq j hj
theorem t_drop {xs : List T2} (k : Int) : Steps (thR w rp most xs) 79 #[.pointer rp, .int .i64 k] (fun _ : Unit => .int .i64 (dropC xs.length k)) (fun _ => thR w rp most (dropL xs k)) := by
  refine ring_steps (A := fun rp => #[.pointer rp, .int .i64 k]) (fun h e => by rw [e, dropL_nil]) (fun h e W => ?_) (fun h W g rb hq => ?_)
  · refine (RX.drop_nil W k).mono fun e1 W' ⟨h1, h2⟩ => ⟨?_, h2.below⟩
    rw [h1, e]; unfold dropC; rw [if_pos (.inr rfl)]
  · by_cases hk : k ≤ 0 ∨ xs = []
    · have hk' : k ≤ 0 ∨ xs.length = 0 := hk.imp id (fun e => by rw [e]; rfl)
      rw [drop_none hk']
      unfold dropC
      rw [if_pos hk']
      exact (RX.drop_q_none hq k hk).mono fun e W' ⟨h1, h2⟩ => ⟨h1, rb, RX.RQ.below hq h2.below, kept_below h2.below, same_b⟩
    · have hx : 0 < xs.length := List.length_pos_iff.2 (fun e => hk (.inr e))
      have hk' : ¬ (k ≤ 0 ∨ xs.length = 0) := by omega
      rw [drop_min]
      unfold dropC
      rw [if_neg hk']
      exact (RX.drop_q hq k (min xs.length k.toNat) (by split <;> omega) (by omega)).mono fun e W' ⟨h1, h2, h3⟩ => ⟨h1, rb, h2, h3, same_b⟩
theorem t_len {xs : List T2} : Steps (thR w rp most xs) 44 #[.pointer rp] (fun _ : Unit => .int .i64 (xs.length : Int)) (fun _ => thR w rp most xs) := by
  refine ring_asks (A := fun rp => #[.pointer rp]) (fun h e W => ?_) (fun h W g rb hq => ?_)
  · rw [e]
    exact (RX.len_nil W).mono fun e W' ⟨h1, h2⟩ => ⟨h1, h2.below⟩
  · exact (RX.len_q hq).mono fun e W' ⟨h1, h2⟩ => ⟨h1, h2.below⟩
theorem t_room {xs : List T2} : Steps (thR w rp most xs) 45 #[.pointer rp] (fun _ : Unit => .int .i64 (roomC most xs.length)) (fun _ => thR w rp most xs) := by
  refine ring_asks (A := fun rp => #[.pointer rp]) (fun h e W => ?_) (fun h W g rb hq => ?_)
  · unfold roomC
    rw [if_neg h]
    exact (RX.room_nil W).mono fun e W' ⟨h1, h2⟩ => ⟨h1, h2.below⟩
  · unfold roomC
    rw [if_pos h]
    exact (RX.room_q hq).mono fun e W' ⟨h1, h2⟩ => ⟨h1, h2.below⟩
theorem t_new (o : Ob w) (most : Int) : Steps o 40 #[.int .i64 most] (fun rp : { rp : Option Addr // rp.isNone = !decide (FL.Good most) } => .tuple #[.pointer rp.1, .int .i64 (newC most)]) (fun rp => thR w rp.1 most []) :=
  ring_new (fun h W => (RX.new_bad W most (by unfold FL.Good at h; omega)).mono fun e W' ⟨h1, h2⟩ => ⟨h1, h2.below⟩) (fun h W hB => RX.new_q w W hB most h)
-- the reference's
theorem x_push {xs : List T2} (a b : Int) : Steps (refR w rp most xs) 31 #[.pointer rp, .agg #[.int .i64 a, .int .i64 b]] (fun _ : Unit => .int .i64 (pushC most xs.length)) (fun _ => refR w rp most (pushL most xs (a, b))) := by
  refine ring_steps (A := fun rp => #[.pointer rp, .agg #[.int .i64 a, .int .i64 b]]) (fun h e => by rw [pushL_bad h, e]) (fun h e W => ?_) (fun h W g rb hq => ?_)
  · refine (xpush_nil W a b).mono fun e W' ⟨h1, h2⟩ => ⟨?_, h2⟩
    rw [h1]; unfold pushC; rw [if_neg h]
  · obtain ⟨v, hq, rfl⟩ := hq
    unfold pushC pushL
    rw [if_pos h]
    by_cases hl : (xs.length : Int) < most
    · rw [if_pos hl, if_pos ⟨h, hl⟩]
      exact (xpush_calls hq hl h.2 a b).mono fun e W' ⟨h1, v', h2, h3, h4⟩ => ⟨h1, v'.ownBlock, ⟨v', h2, rfl⟩, h3, h4⟩
    · rw [if_neg hl, if_neg (fun k => hl k.2)]
      exact (xpush_full hq (by omega) a b).mono fun e W' ⟨h1, h2⟩ => ⟨h1, v.ownBlock, ⟨v, hq.below h2, rfl⟩, kept_below h2, same_b⟩
theorem x_pop {xs : List T2} (hl : xs.length ≤ 1048576) : Steps (refR w rp most xs) 76 #[.pointer rp] (fun _ : Unit => .tuple #[.agg #[.int .i64 (atV d2 xs 0).1, .int .i64 (atV d2 xs 0).2], .bool (inB xs.length 0)]) (fun _ => refR w rp most (dropL xs 1)) := by
  refine ring_steps (A := fun rp => #[.pointer rp]) (fun h e => by rw [e, dropL_nil]) (fun h e W => ?_) (fun h W g rb hq => ?_)
  · rw [e, atV_nil]
    exact xpop_nil W
  · obtain ⟨v, hq, rfl⟩ := hq
    cases xs with
    | nil =>
      rw [dropL_nil, atV_nil]
      exact (xpop_none hq).mono fun e W' ⟨h1, h2⟩ => ⟨h1, v.ownBlock, ⟨v, hq.below h2, rfl⟩, kept_below h2, same_b⟩
    | cons x xs =>
      have e1 : atV d2 (x :: xs) 0 = x := atV_in d2 (x :: xs) 0 (by simp)
      have e2 : inB (x :: xs).length 0 = true := inB_in (i := 0) (by simp)
      rw [e1, e2]
      exact (xpop_calls hq hl).mono fun e W' ⟨h1, v', h2, h3, h4⟩ => ⟨h1, v'.ownBlock, ⟨v', h2, rfl⟩, h3, h4⟩
theorem x_at {xs : List T2} (i : Int) : Steps (refR w rp most xs) 77 #[.pointer rp, .int .i64 i] (fun _ : Unit => .tuple #[.agg #[.int .i64 (atV d2 xs i).1, .int .i64 (atV d2 xs i).2], .bool (inB xs.length i)]) (fun _ => refR w rp most xs) := by
  refine ring_asks (A := fun rp => #[.pointer rp, .int .i64 i]) (fun h e W => ?_) (fun h W g rb hq => ?_)
  · rw [e, atV_nil, List.length_nil, inB_nil]
    exact xat_nil W i
  · obtain ⟨v, hq, rfl⟩ := hq
    by_cases hi : i < 0 ∨ (xs.length : Int) ≤ i
    · rw [atV_out d2 xs i hi, inB_out hi]
      exact xat_none hq i hi
    · obtain ⟨j, rfl⟩ : ∃ j : Nat, i = (j : Int) := ⟨i.toNat, by omega⟩
      have hj : j < xs.length := by omega
      rw [atV_in d2 xs j hj, inB_in hj]
      exact xat_calls hq j hj
theorem x_drop {xs : List T2} (hl : xs.length ≤ 1048576) (k : Int) : Steps (refR w rp most xs) 33 #[.pointer rp, .int .i64 k] (fun _ : Unit => .int .i64 (dropC xs.length k)) (fun _ => refR w rp most (dropL xs k)) := by
  refine ring_steps (A := fun rp => #[.pointer rp, .int .i64 k]) (fun h e => by rw [e, dropL_nil]) (fun h e W => ?_) (fun h W g rb hq => ?_)
  · refine (xdrop_nil W k).mono fun e1 W' ⟨h1, h2⟩ => ⟨?_, h2⟩
    rw [h1, e]; unfold dropC; rw [if_pos (.inr rfl)]
  · obtain ⟨v, hq, rfl⟩ := hq
    by_cases hk : k ≤ 0 ∨ xs.length = 0
    · rw [drop_none hk]
      unfold dropC
      rw [if_pos hk]
      exact (xdrop_none hq k hk).mono fun e W' ⟨h1, h2⟩ => ⟨h1, v.ownBlock, ⟨v, hq.below h2, rfl⟩, kept_below h2, same_b⟩
    · rw [drop_min]
      unfold dropC
      rw [if_neg hk]
      exact (xdrop_calls hq hl k (min xs.length k.toNat) (by split <;> omega) (by omega)).mono fun e W' ⟨h1, v', h2, h3, h4⟩ => ⟨h1, v'.ownBlock, ⟨v', h2, rfl⟩, h3, h4⟩
theorem x_len {xs : List T2} : Steps (refR w rp most xs) 37 #[.pointer rp] (fun _ : Unit => .int .i64 (xs.length : Int)) (fun _ => refR w rp most xs) := by
  refine ring_asks (A := fun rp => #[.pointer rp]) (fun h e W => ?_) (fun h W g rb hq => ?_)
  · rw [e]
    exact (xlen_nil W).mono fun e W' ⟨h1, h2⟩ => ⟨h1, h2.below⟩
  · obtain ⟨v, hq, rfl⟩ := hq
    exact (xlen_calls hq).mono fun e W' ⟨h1, h2⟩ => ⟨h1, h2.below⟩
theorem x_room {xs : List T2} (hl : xs.length ≤ 1048576) : Steps (refR w rp most xs) 43 #[.pointer rp] (fun _ : Unit => .int .i64 (roomC most xs.length)) (fun _ => refR w rp most xs) := by
  refine ring_asks (A := fun rp => #[.pointer rp]) (fun h e W => ?_) (fun h W g rb hq => ?_)
  · unfold roomC
    rw [if_neg h]
    exact xroom_nil W
  · obtain ⟨v, hq, rfl⟩ := hq
    unfold roomC
    rw [if_pos h]
    have hg : 1 ≤ most ∧ most ≤ 1048576 := h
    exact xroom_calls hq (by omega) hl
theorem x_new (o : Ob w) (most : Int) : Steps o 30 #[.int .i64 most] (fun rp : { rp : Option Addr // rp.isNone = !decide (FL.Good most) } => .tuple #[.pointer rp.1, .int .i64 (newC most)]) (fun rp => refR w rp.1 most []) :=
  ring_new (fun h W => (xnew_bad W most (by unfold FL.Good at h; omega)).mono fun e W' ⟨h1, h2⟩ => ⟨h1, h2.below⟩) (fun h W hB => (xnew_calls w W hB most h).mono fun e W' ⟨g, h1, h2, h3, h4⟩ => ⟨g, h1, ⟨_, h2, rfl⟩, h3, h4⟩)
end
end Go.Proofs.Ytekjkookkjjbcaa.PA
