/- QueueRings: a step of the script, all together. -/
import Derived.Test.YtekjkookkjjbcaaPairH
import Derived.Test.YtekjkookkjjbcaaPairL
namespace Go.Proofs.Ytekjkookkjjbcaa.PB
set_option linter.unusedVariables false
set_option linter.unusedSimpArgs false
set_option linter.unusedVariables false
set_option linter.unusedSimpArgs false
open Go.RowKit Go.Proofs.YtekjkookkjjbcaaW.PrintWords Go.Proofs.YtekjkookkjjbcaaW.PrintLast Go.Proofs.YtekjkookkjjbcaaW.PrintMore Go.Proofs.Ytekjkookkjjbcaa.B Go.Proofs.Ytekjkookkjjbcaa.M Go.Proofs.Ytekjkookkjjbcaa.PA
open Go.Proofs.Ytekjkookkjjbcaa.RH (T2 d2 kT RT MovedR)
open Go.Proofs.Ytekjkookkjjbcaa.FL (pushL dropL newC both)
section
variable {w W W' : World} {o : Ob w} {rp xp rq yp : Option Addr} {ma mb ma' mb' who N idn : Int} {xs : List Int} {ys gs : List T2} {ob : Nat} {d : Int}
theorem first_calls (h : Has (both2 (AX w rp xp ma xs (both xs)) o) W) :
    Calls Try.prog 41 #[.pointer rp, .pointer xp, .agg #[.int .i64 who, .int .i64 d, .int .i64 N]] W fun e W' => e = .returned (.bool true) ∧ ∃ xs', Has (both2 (AX w rp xp ma xs' (both xs')) o) W' := by
  by_cases h0 : d = 0
  · subst h0; exact (first_push h).mono fun e W' ⟨h1, h2⟩ => ⟨h1, _, h2⟩
  by_cases h1 : d = 1
  · subst h1; exact (first_pop h).mono fun e W' ⟨h1, h2⟩ => ⟨h1, _, h2⟩
  by_cases h2 : d = 2
  · subst h2; exact (first_at h).mono fun e W' ⟨h1, h2⟩ => ⟨h1, _, h2⟩
  by_cases h3 : d = 3
  · subst h3; exact (first_drop h).mono fun e W' ⟨h1, h2⟩ => ⟨h1, _, h2⟩
  by_cases h5 : d = 5
  · subst h5; exact (first_each h).mono fun e W' ⟨h1, h2⟩ => ⟨h1, _, h2⟩
  exact (first_other h0 h1 h2 h3 h5 h).mono fun e W' ⟨h1, h2⟩ => ⟨h1, _, h2⟩
theorem second_calls (h : Has (both2 (AY w rq yp mb ys ys) o) W) :
    Calls Try.prog 42 #[.pointer rq, .pointer yp, .agg #[.int .i64 who, .int .i64 d, .int .i64 N], .int .i64 idn] W fun e W' => e = .returned (.bool true) ∧ ∃ ys', Has (both2 (AY w rq yp mb ys' ys') o) W' := by
  by_cases h0 : d = 0
  · subst h0; exact (second_push h).mono fun e W' ⟨h1, h2⟩ => ⟨h1, _, h2⟩
  by_cases h1 : d = 1
  · subst h1; exact (second_pop h).mono fun e W' ⟨h1, h2⟩ => ⟨h1, _, h2⟩
  by_cases h2 : d = 2
  · subst h2; exact (second_at h).mono fun e W' ⟨h1, h2⟩ => ⟨h1, _, h2⟩
  by_cases h3 : d = 3
  · subst h3; exact (second_drop h).mono fun e W' ⟨h1, h2⟩ => ⟨h1, _, h2⟩
  by_cases h5 : d = 5
  · subst h5; exact (second_each h).mono fun e W' ⟨h1, h2⟩ => ⟨h1, _, h2⟩
  exact (second_other h0 h1 h2 h3 h5 h).mono fun e W' ⟨h1, h2⟩ => ⟨h1, _, h2⟩
/-- All that the law has: two rings, two of the reference's. -/
abbrev L4 (w : World) (rp xp : Option Addr) (ma ma' : Int) (xs : List Int) (gs : List T2) (rq yp : Option Addr) (mb mb' : Int) (ys hs : List T2) : Ob w :=
  both2 (both2 (intR w rp ma xs) (refR w xp ma' gs)) (both2 (thR w rq mb ys) (refR w yp mb' hs))
/-- With the box of the step. -/
abbrev L5 (w : World) (rp xp : Option Addr) (ma ma' : Int) (xs : List Int) (gs : List T2) (rq yp : Option Addr) (mb mb' : Int) (ys hs : List T2) (ob : Nat) (who d N : Int) : Ob w :=
  both2 (L4 w rp xp ma ma' xs gs rq yp mb mb' ys hs) (box w ob 33 #[.int .i64 who, .int .i64 d, .int .i64 N])
variable {hs : List T2}
theorem l_first (h : Has (L5 w rp xp ma ma xs (both xs) rq yp mb mb ys ys ob who d N) W) :
    Calls Try.prog 41 #[.pointer rp, .pointer xp, .agg #[.int .i64 who, .int .i64 d, .int .i64 N]] W fun e W' => e = .returned (.bool true) ∧ ∃ xs', Has (L5 w rp xp ma ma xs' (both xs') rq yp mb mb ys ys ob who d N) W' :=
  (first_calls h.assoc).mono fun e W' ⟨h1, xs', h2⟩ => ⟨h1, xs', h2.assoc'⟩
theorem rot {a b c : Ob w} (h : Has (both2 (both2 a b) c) W) : Has (both2 b (both2 a c)) W := by
  obtain ⟨_, _, F3, ⟨F1, F2, h1, h2, h4, rfl⟩, h3, h5, rfl⟩ := h
  exact ⟨_, F2, _, h2, ⟨F1, F3, h1, h3, fun i hi => h5 i (.inl hi), rfl⟩, fun i hi hh => hh.elim (fun hh => h4 i hh hi) (fun hh => h5 i (.inr hi) hh), rfl⟩
theorem rot' {a b c : Ob w} (h : Has (both2 b (both2 a c)) W) : Has (both2 (both2 a b) c) W := by
  obtain ⟨_, F2, _, h2, ⟨F1, F3, h1, h3, h4, rfl⟩, h5, rfl⟩ := h
  exact ⟨_, _, F3, ⟨F1, F2, h1, h2, fun i hi hh => h5 i hh (.inl hi), rfl⟩, h3, fun i hi hh => hi.elim (fun hi => h4 i hi hh) (fun hi => h5 i hi (.inr hh)), rfl⟩
theorem l_second (h : Has (L5 w rp xp ma ma xs (both xs) rq yp mb mb ys ys ob who d N) W) :
    Calls Try.prog 42 #[.pointer rq, .pointer yp, .agg #[.int .i64 who, .int .i64 d, .int .i64 N], .int .i64 idn] W fun e W' => e = .returned (.bool true) ∧ ∃ ys', Has (L5 w rp xp ma ma xs (both xs) rq yp mb mb ys' ys' ob who d N) W' :=
  (second_calls (rot h)).mono fun e W' ⟨h1, ys', h2⟩ => ⟨h1, ys', rot' h2⟩
theorem none_eq {most : Int} (a b : { rp : Option Addr // rp.isNone = !decide (FL.Good most) }) : a.1.isNone = b.1.isNone := a.2.trans b.2.symm
theorem l_new1 (h : Has (L5 w rp xp ma ma xs (both xs) rq yp mb mb ys ys ob who d N) W) (most : Int) :
    Calls Try.prog 25 #[.int .i64 most] W fun e W' => ∃ rp', e = .returned (.tuple #[.pointer rp', .int .i64 (newC most)]) ∧ (rp'.isNone = !decide (FL.Good most)) ∧ Has (L5 w rp' xp most ma [] (both xs) rq yp mb mb ys ys ob who d N) W' := by
  refine ((((i_new _ most).l _).l _).l _ |>.has h).mono ?_
  rintro e W' ⟨j, rfl, h'⟩
  exact ⟨j.1, rfl, j.2, h'⟩
theorem l_new2 (h : Has (L5 w rp xp ma ma' xs gs rq yp mb mb ys ys ob who d N) W) (most : Int) :
    Calls Try.prog 30 #[.int .i64 most] W fun e W' => ∃ xp', e = .returned (.tuple #[.pointer xp', .int .i64 (newC most)]) ∧ (xp'.isNone = !decide (FL.Good most)) ∧ Has (L5 w rp xp' ma most xs [] rq yp mb mb ys ys ob who d N) W' := by
  refine ((((x_new _ most).r _).l _).l _ |>.has h).mono ?_
  rintro e W' ⟨j, rfl, h'⟩
  exact ⟨j.1, rfl, j.2, h'⟩
theorem l_new3 (h : Has (L5 w rp xp ma ma xs (both xs) rq yp mb mb ys ys ob who d N) W) (most : Int) :
    Calls Try.prog 40 #[.int .i64 most] W fun e W' => ∃ rq', e = .returned (.tuple #[.pointer rq', .int .i64 (newC most)]) ∧ (rq'.isNone = !decide (FL.Good most)) ∧ Has (L5 w rp xp ma ma xs (both xs) rq' yp most mb [] ys ob who d N) W' := by
  refine ((((t_new _ most).l _).r _).l _ |>.has h).mono ?_
  rintro e W' ⟨j, rfl, h'⟩
  exact ⟨j.1, rfl, j.2, h'⟩
theorem l_new4 (h : Has (L5 w rp xp ma ma xs (both xs) rq yp mb mb' ys hs ob who d N) W) (most : Int) :
    Calls Try.prog 30 #[.int .i64 most] W fun e W' => ∃ yp', e = .returned (.tuple #[.pointer yp', .int .i64 (newC most)]) ∧ (yp'.isNone = !decide (FL.Good most)) ∧ Has (L5 w rp xp ma ma xs (both xs) rq yp' mb most ys [] ob who d N) W' := by
  refine ((((x_new _ most).r _).r _).l _ |>.has h).mono ?_
  rintro e W' ⟨j, rfl, h'⟩
  exact ⟨j.1, rfl, j.2, h'⟩
theorem l_lenA (h : Has (L4 w rp xp ma ma xs (both xs) rq yp mb mb ys ys) W) :
    Calls Try.prog 29 #[.pointer rp] W fun e W' => e = .returned (.int .i64 (xs.length : Int)) ∧ Has (L4 w rp xp ma ma xs (both xs) rq yp mb mb ys ys) W' := by
  refine (((i_len.l _).l _).has h).mono ?_
  rintro e W' ⟨_, rfl, h'⟩
  exact ⟨rfl, h'⟩
theorem l_lenX (h : Has (L4 w rp xp ma ma xs (both xs) rq yp mb mb ys ys) W) :
    Calls Try.prog 37 #[.pointer xp] W fun e W' => e = .returned (.int .i64 (xs.length : Int)) ∧ Has (L4 w rp xp ma ma xs (both xs) rq yp mb mb ys ys) W' := by
  refine (((x_len.r _).l _).has h).mono ?_
  rintro e W' ⟨_, rfl, h'⟩
  exact ⟨by rw [FL.both_len], h'⟩
theorem l_lenB (h : Has (L4 w rp xp ma ma xs (both xs) rq yp mb mb ys ys) W) :
    Calls Try.prog 44 #[.pointer rq] W fun e W' => e = .returned (.int .i64 (ys.length : Int)) ∧ Has (L4 w rp xp ma ma xs (both xs) rq yp mb mb ys ys) W' := by
  refine (((t_len.l _).r _).has h).mono ?_
  rintro e W' ⟨_, rfl, h'⟩
  exact ⟨rfl, h'⟩
theorem l_lenY (h : Has (L4 w rp xp ma ma xs (both xs) rq yp mb mb ys ys) W) :
    Calls Try.prog 37 #[.pointer yp] W fun e W' => e = .returned (.int .i64 (ys.length : Int)) ∧ Has (L4 w rp xp ma ma xs (both xs) rq yp mb mb ys ys) W' := by
  refine (((x_len.r _).r _).has h).mono ?_
  rintro e W' ⟨_, rfl, h'⟩
  exact ⟨rfl, h'⟩
theorem l_roomA (h : Has (L4 w rp xp ma ma xs (both xs) rq yp mb mb ys ys) W) :
    Calls Try.prog 26 #[.pointer rp] W fun e W' => e = .returned (.int .i64 (roomC ma xs.length)) ∧ Has (L4 w rp xp ma ma xs (both xs) rq yp mb mb ys ys) W' := by
  refine (((i_room.l _).l _).has h).mono ?_
  rintro e W' ⟨_, rfl, h'⟩
  exact ⟨rfl, h'⟩
theorem l_roomX (h : Has (L4 w rp xp ma ma xs (both xs) rq yp mb mb ys ys) W) :
    Calls Try.prog 43 #[.pointer xp] W fun e W' => e = .returned (.int .i64 (roomC ma xs.length)) ∧ Has (L4 w rp xp ma ma xs (both xs) rq yp mb mb ys ys) W' := by
  have hl := (i_row h.fst.fst).1
  refine ((((x_room (by rw [FL.both_len]; exact hl)).r _).l _).has h).mono ?_
  rintro e W' ⟨_, rfl, h'⟩
  exact ⟨by rw [FL.both_len], h'⟩
theorem l_roomB (h : Has (L4 w rp xp ma ma xs (both xs) rq yp mb mb ys ys) W) :
    Calls Try.prog 45 #[.pointer rq] W fun e W' => e = .returned (.int .i64 (roomC mb ys.length)) ∧ Has (L4 w rp xp ma ma xs (both xs) rq yp mb mb ys ys) W' := by
  refine (((t_room.l _).r _).has h).mono ?_
  rintro e W' ⟨_, rfl, h'⟩
  exact ⟨rfl, h'⟩
theorem l_roomY (h : Has (L4 w rp xp ma ma xs (both xs) rq yp mb mb ys ys) W) :
    Calls Try.prog 43 #[.pointer yp] W fun e W' => e = .returned (.int .i64 (roomC mb ys.length)) ∧ Has (L4 w rp xp ma ma xs (both xs) rq yp mb mb ys ys) W' := by
  have hl := (t_row h.snd.fst).1
  refine ((((x_room hl).r _).r _).has h).mono ?_
  rintro e W' ⟨_, rfl, h'⟩
  exact ⟨rfl, h'⟩
/-- Nothing. -/
def emp (w : World) : Ob w where
  K W F := Below w.heap.size w W ∧ F = fun _ => False
  bl := fun h => h.1
  cells := fun ⟨_, e⟩ i hi => by subst e; exact hi.elim
  kept := fun ⟨_, e⟩ hb _ => ⟨hb, e⟩
theorem emp4 (w : World) : Has (both2 (both2 (emp w) (emp w)) (both2 (emp w) (emp w))) w := by
  have h : ∀ {a b : Ob w}, a.K w (fun _ => False) → b.K w (fun _ => False) → (both2 a b).K w (fun _ => False) := fun h1 h2 => ⟨_, _, h1, h2, fun i hi => hi.elim, by funext i; simp⟩
  have e : (emp w).K w (fun _ => False) := ⟨Below.refl _ _, rfl⟩
  exact ⟨_, h (h e e) (h e e)⟩
variable {a b c e' : Ob w}
theorem m_new1 (h : Has (both2 (both2 a b) (both2 c e')) W) (most : Int) :
    Calls Try.prog 25 #[.int .i64 most] W fun e W' => ∃ rp', e = .returned (.tuple #[.pointer rp', .int .i64 (newC most)]) ∧ (rp'.isNone = !decide (FL.Good most)) ∧ Has (both2 (both2 (intR w rp' most []) b) (both2 c e')) W' := by
  refine (((i_new _ most).l _).l _ |>.has h).mono ?_
  rintro e W' ⟨j, rfl, h'⟩
  exact ⟨j.1, rfl, j.2, h'⟩
theorem m_new2 (h : Has (both2 (both2 a b) (both2 c e')) W) (most : Int) :
    Calls Try.prog 40 #[.int .i64 most] W fun e W' => ∃ rp', e = .returned (.tuple #[.pointer rp', .int .i64 (newC most)]) ∧ (rp'.isNone = !decide (FL.Good most)) ∧ Has (both2 (both2 a b) (both2 (thR w rp' most []) e')) W' := by
  refine (((t_new _ most).l _).r _ |>.has h).mono ?_
  rintro e W' ⟨j, rfl, h'⟩
  exact ⟨j.1, rfl, j.2, h'⟩
theorem m_new3 (h : Has (both2 (both2 a b) (both2 c e')) W) (most : Int) :
    Calls Try.prog 30 #[.int .i64 most] W fun e W' => ∃ rp', e = .returned (.tuple #[.pointer rp', .int .i64 (newC most)]) ∧ (rp'.isNone = !decide (FL.Good most)) ∧ Has (both2 (both2 a (refR w rp' most [])) (both2 c e')) W' := by
  refine (((x_new _ most).r _).l _ |>.has h).mono ?_
  rintro e W' ⟨j, rfl, h'⟩
  exact ⟨j.1, rfl, j.2, h'⟩
theorem m_new4 (h : Has (both2 (both2 a b) (both2 c e')) W) (most : Int) :
    Calls Try.prog 30 #[.int .i64 most] W fun e W' => ∃ rp', e = .returned (.tuple #[.pointer rp', .int .i64 (newC most)]) ∧ (rp'.isNone = !decide (FL.Good most)) ∧ Has (both2 (both2 a b) (both2 c (refR w rp' most []))) W' := by
  refine (((x_new _ most).r _).r _ |>.has h).mono ?_
  rintro e W' ⟨j, rfl, h'⟩
  exact ⟨j.1, rfl, j.2, h'⟩
/-- At the end: a ring of two. -/
theorem e_new (h : Has a W) : Calls Try.prog 25 #[.int .i64 2] W fun e W' => ∃ rp, e = .returned (.tuple #[.pointer rp, .int .i64 0]) ∧ Has (intR w rp 2 []) W' := by
  refine ((i_new a 2).has h).mono ?_
  rintro e W' ⟨j, rfl, h'⟩
  exact ⟨j.1, rfl, h'⟩
theorem e_push (h : Has (intR w rp 2 []) W) : Calls Try.prog 27 #[.pointer rp, .int .i64 7] W fun e W' => e = .returned (.int .i64 0) ∧ Has (intR w rp 2 [7]) W' := by
  refine ((i_push 7).has h).mono ?_
  rintro e W' ⟨_, rfl, h'⟩
  exact ⟨rfl, h'⟩
theorem e_pop (h : Has (intR w rp 2 [7]) W) : Calls Try.prog 28 #[.pointer rp] W fun e W' => e = .returned (.tuple #[.int .i64 7, .bool true]) ∧ Below w.heap.size w W' := by
  refine (i_pop.has h).mono ?_
  rintro e W' ⟨_, rfl, h'⟩
  exact ⟨rfl, h'.bl⟩
end
end Go.Proofs.Ytekjkookkjjbcaa.PB
