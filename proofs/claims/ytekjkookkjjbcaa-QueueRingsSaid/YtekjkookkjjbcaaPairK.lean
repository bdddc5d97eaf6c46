/- QueueRings: a step on the ring of things and on the reference's (walked by hand). -/
import Derived.Test.YtekjkookkjjbcaaPairF
namespace Go.Proofs.Ytekjkookkjjbcaa.PB
set_option linter.unusedVariables false
set_option linter.unusedSimpArgs false
set_option linter.unusedVariables false
set_option linter.unusedSimpArgs false
open Go.RowKit Go.Shelf Go.Proofs.YtekjkookkjjbcaaW.PrintWords Go.Proofs.YtekjkookkjjbcaaW.PrintLast Go.Proofs.YtekjkookkjjbcaaW.PrintMore Go.Proofs.Ytekjkookkjjbcaa.B Go.Proofs.Ytekjkookkjjbcaa.M Go.Proofs.Ytekjkookkjjbcaa.RR Go.Proofs.Ytekjkookkjjbcaa.PA
open Go.Proofs.Ytekjkookkjjbcaa.RH (T2 d2 kT RT MovedR)
open Go.Proofs.Ytekjkookkjjbcaa.FL (pushL dropL newC both)
attribute [local go_sem] Oper.semAt_some
/-- The ring of things and the reference's. -/
abbrev AY (w : World) (rp xp : Option Addr) (most : Int) (xs gs : List T2) : Ob w := both2 (thR w rp most xs) (refR w xp most gs)
/-- With the box of a thing. -/
abbrev F9 (w : World) (A o : Ob w) (b4 b5 b6 : Nat) (xp : Option Addr) (who d N : Int) (r : Bool) (b9 : Nat) (x y : Int) : Ob w := both2 (Fr w A o b4 b5 b6 xp who d N r) (box w b9 29 #[.int .i64 x, .int .i64 y])
section
variable {w W : World} {o : Ob w} {b4 b5 b6 b9 : Nat} {rp xp : Option Addr} {who d N most c x9 y9 : Int} {r : Bool} {xs gs : List T2}
theorem fr_push {x y : Int} (hc : pushC most xs.length = c) (h : Has (F9 w (AY w rp xp most xs gs) o b4 b5 b6 xp who d N r b9 x9 y9) W) :
    Calls Try.prog 52 #[.pointer rp, .agg #[.int .i64 x, .int .i64 y]] W fun e W' => e = .returned (.int .i64 c) ∧ Has (F9 w (AY w rp xp most (pushL most xs (x, y)) gs) o b4 b5 b6 xp who d N r b9 x9 y9) W' := by
  refine (((Fr.steps ((t_push x y).l _)).l _).has h).mono ?_
  rintro e W' ⟨_, rfl, h'⟩
  exact ⟨by rw [hc], h'⟩
theorem fr_xpush {x y : Int} (hc : pushC most gs.length = c) (h : Has (F9 w (AY w rp xp most xs gs) o b4 b5 b6 xp who d N r b9 x9 y9) W) :
    Calls Try.prog 31 #[.pointer xp, .agg #[.int .i64 x, .int .i64 y]] W fun e W' => e = .returned (.int .i64 c) ∧ Has (F9 w (AY w rp xp most xs (pushL most gs (x, y))) o b4 b5 b6 xp who d N r b9 x9 y9) W' := by
  refine (((Fr.steps ((x_push x y).r _)).l _).has h).mono ?_
  rintro e W' ⟨_, rfl, h'⟩
  exact ⟨by rw [hc], h'⟩
theorem fr_pop  (h : Has (Fr w (AY w rp xp most xs gs) o b4 b5 b6 xp who d N r) W) :
    Calls Try.prog 53 #[.pointer rp] W fun e W' => e = .returned (.tuple #[.agg #[.int .i64 (atV d2 xs 0).1, .int .i64 (atV d2 xs 0).2], .bool (inB xs.length 0)]) ∧ Has (Fr w (AY w rp xp most (dropL xs 1) gs) o b4 b5 b6 xp who d N r) W' := by
  refine ((Fr.steps (t_pop.l _)).has h).mono ?_
  rintro e W' ⟨_, rfl, h'⟩
  exact ⟨by rfl, h'⟩
theorem fr_xpop (hl : gs.length ≤ 1048576) (h : Has (F9 w (AY w rp xp most xs gs) o b4 b5 b6 xp who d N r b9 x9 y9) W) :
    Calls Try.prog 76 #[.pointer xp] W fun e W' => e = .returned (.tuple #[.agg #[.int .i64 (atV d2 gs 0).1, .int .i64 (atV d2 gs 0).2], .bool (inB gs.length 0)]) ∧ Has (F9 w (AY w rp xp most xs (dropL gs 1)) o b4 b5 b6 xp who d N r b9 x9 y9) W' := by
  refine (((Fr.steps ((x_pop hl).r _)).l _).has h).mono ?_
  rintro e W' ⟨_, rfl, h'⟩
  exact ⟨by rfl, h'⟩
theorem fr_at {i : Int} (h : Has (Fr w (AY w rp xp most xs gs) o b4 b5 b6 xp who d N r) W) :
    Calls Try.prog 78 #[.pointer rp, .int .i64 i] W fun e W' => e = .returned (.tuple #[.agg #[.int .i64 (atV d2 xs i).1, .int .i64 (atV d2 xs i).2], .bool (inB xs.length i)]) ∧ Has (Fr w (AY w rp xp most xs gs) o b4 b5 b6 xp who d N r) W' := by
  refine ((Fr.steps ((t_at i).l _)).has h).mono ?_
  rintro e W' ⟨_, rfl, h'⟩
  exact ⟨by rfl, h'⟩
theorem fr_xat {i : Int} (h : Has (F9 w (AY w rp xp most xs gs) o b4 b5 b6 xp who d N r b9 x9 y9) W) :
    Calls Try.prog 77 #[.pointer xp, .int .i64 i] W fun e W' => e = .returned (.tuple #[.agg #[.int .i64 (atV d2 gs i).1, .int .i64 (atV d2 gs i).2], .bool (inB gs.length i)]) ∧ Has (F9 w (AY w rp xp most xs gs) o b4 b5 b6 xp who d N r b9 x9 y9) W' := by
  refine (((Fr.steps ((x_at i).r _)).l _).has h).mono ?_
  rintro e W' ⟨_, rfl, h'⟩
  exact ⟨by rfl, h'⟩
theorem fr_drop {k : Int} (hc : dropC xs.length k = c) (h : Has (Fr w (AY w rp xp most xs gs) o b4 b5 b6 xp who d N r) W) :
    Calls Try.prog 79 #[.pointer rp, .int .i64 k] W fun e W' => e = .returned (.int .i64 c) ∧ Has (Fr w (AY w rp xp most (dropL xs k) gs) o b4 b5 b6 xp who d N r) W' := by
  refine ((Fr.steps ((t_drop k).l _)).has h).mono ?_
  rintro e W' ⟨_, rfl, h'⟩
  exact ⟨by rw [hc], h'⟩
theorem fr_xdrop (hl : gs.length ≤ 1048576) {k : Int} (hc : dropC gs.length k = c) (h : Has (Fr w (AY w rp xp most xs gs) o b4 b5 b6 xp who d N r) W) :
    Calls Try.prog 33 #[.pointer xp, .int .i64 k] W fun e W' => e = .returned (.int .i64 c) ∧ Has (Fr w (AY w rp xp most xs (dropL gs k)) o b4 b5 b6 xp who d N r) W' := by
  refine ((Fr.steps ((x_drop hl k).r _)).has h).mono ?_
  rintro e W' ⟨_, rfl, h'⟩
  exact ⟨by rw [hc], h'⟩
theorem fr_len (h : Has (Fr w (AY w rp xp most xs gs) o b4 b5 b6 xp who d N r) W) : xs.length ≤ 1048576 := (t_row h.fst.fst.fst.fst.fst).1
theorem F9.set (h : Has (F9 w (AY w rp xp most xs gs) o b4 b5 b6 xp who d N r b9 x9 y9) W) (r' : Bool) : Has (F9 w (AY w rp xp most xs gs) o b4 b5 b6 xp who d N r' b9 x9 y9) (W.setCell ⟨b6, 0, none⟩ (.bool r')) := (((Moves.set W 0 (.bool r')).r _).l _).has h
theorem F9.c0 (h : Has (F9 w (AY w rp xp most xs gs) o b4 b5 b6 xp who d N r b9 x9 y9) W) : W.cell? ⟨b9, 0, none⟩ = some (.int .i64 x9) := blk_cell h.snd.box 0
theorem F9.c1 (h : Has (F9 w (AY w rp xp most xs gs) o b4 b5 b6 xp who d N r b9 x9 y9) W) : W.cell? ⟨b9, 1, none⟩ = some (.int .i64 y9) := blk_cell h.snd.box 1
theorem frS (h : Has (Fr w (AY w rp xp most xs gs) o b4 b5 b6 xp who d N r) W) (r' : Bool) : (W.setCell ⟨b6, 0, none⟩ (.bool r')).cell? ⟨b4, 0, none⟩ = some (.pointer xp) ∧ (W.setCell ⟨b6, 0, none⟩ (.bool r')).cell? ⟨b5, 2, none⟩ = some (.int .i64 N) := ⟨Fr.c4 (Fr.set h r'), Fr.c52 (Fr.set h r')⟩
theorem frS9 (h : Has (F9 w (AY w rp xp most xs gs) o b4 b5 b6 xp who d N r b9 x9 y9) W) (r' : Bool) : (W.setCell ⟨b6, 0, none⟩ (.bool r')).cell? ⟨b4, 0, none⟩ = some (.pointer xp) ∧ (W.setCell ⟨b6, 0, none⟩ (.bool r')).cell? ⟨b9, 0, none⟩ = some (.int .i64 x9) ∧ (W.setCell ⟨b6, 0, none⟩ (.bool r')).cell? ⟨b9, 1, none⟩ = some (.int .i64 y9) := ⟨Fr.c4 (F9.set h r').fst, F9.c0 (F9.set h r'), F9.c1 (F9.set h r')⟩
end
set_option maxRecDepth 100000 in
set_option maxHeartbeats 8000000 in
theorem second_push {w W : World} {o : Ob w} {rp xp : Option Addr} {most who N id : Int} {xs : List T2} (h : Has (both2 (AY w rp xp most xs xs) o) W) :
    Calls Try.prog 42 #[.pointer rp, .pointer xp, .agg #[.int .i64 who, .int .i64 0, .int .i64 N], .int .i64 id] W fun e W' => e = .returned (.bool true) ∧ Has (both2 (AY w rp xp most (pushL most xs (N, id)) (pushL most xs (N, id))) o) W' := by
  go_enter Try.func42, Try.ntmps42
  have H0 := Fr.make h xp who 0 N
  go_upto_region 1 with (fail)
  obtain ⟨W0, hW0⟩ : ∃ W0, ((W.alloc (.cells #[.pointer xp] 51 (0, 0))).alloc (.cells #[.int .i64 who, .int .i64 0, .int .i64 N] 33 (0, 0))).alloc (.cells #[.bool false] 4 (0, 0)) = W0 := ⟨_, rfl⟩
  rw [hW0] at H0
  rw [hW0]
  obtain ⟨b4, hb4⟩ : ∃ b4, W.heap.size = b4 := ⟨_, rfl⟩
  rw [hb4] at H0
  rw [hb4]
  obtain ⟨b5, hb5⟩ : ∃ b5, b4 + 1 = b5 := ⟨_, rfl⟩
  rw [hb5] at H0
  rw [hb5]
  obtain ⟨b6, hb6⟩ : ∃ b6, b5 + 1 = b6 := ⟨_, rfl⟩
  rw [hb6] at H0
  rw [hb6]
  clear hW0 hb4 hb5 hb6 h
  have k4 := Fr.c4 H0
  have k51 := Fr.c51 H0
  have k52 := Fr.c52 H0
  have k6 := Fr.c6 H0
  have kf := Fr.f6 H0
  have H9 := H0.new #[.int .i64 N, .int .i64 id] 29
  go_upto_region 4 with (fail)
  obtain ⟨V, hV⟩ : ∃ V, W0.alloc (.cells #[.int .i64 N, .int .i64 id] 29 (0, 0)) = V := ⟨_, rfl⟩
  rw [hV] at H9
  rw [hV]
  obtain ⟨b9, hb9⟩ : ∃ b9, W0.heap.size = b9 := ⟨_, rfl⟩
  rw [hb9] at H9
  rw [hb9]
  clear hV hb9 k4 k51 k52 k6 kf
  have k4 := Fr.c4 H9.fst
  have k90 : V.cell? ⟨b9, 0, none⟩ = some (.int .i64 N) := blk_cell H9.snd.box 0
  have k91 : V.cell? ⟨b9, 1, none⟩ = some (.int .i64 id) := blk_cell H9.snd.box 1
  have k6 := Fr.c6 H9.fst
  have kf := Fr.f6 H9.fst
  have HH := Aside0.mk (fun (V2 : World) (hb : Below V.heap.size V V2) => H9.below hb)
  obtain ⟨c, hc⟩ : ∃ c, pushC most xs.length = c := ⟨_, rfl⟩
  have P1 := Aside0.mk (fun (V : World) (gs : List T2) (hV : Has (F9 w (AY w rp xp most xs gs) o b4 b5 b6 xp who 0 N false b9 N id) V) => fr_push (x := N) (y := id) (c := c) hc hV)
  have P2 := Aside0.mk (fun (V : World) (ys : List T2) (hV : Has (F9 w (AY w rp xp most ys xs) o b4 b5 b6 xp who 0 N false b9 N id) V) => fr_xpush (x := N) (y := id) (c := c) hc hV)
  have HS0 : Aside0 (V.cell? ⟨b4, 0, none⟩ = some (.pointer xp) ∧ V.cell? ⟨b9, 0, none⟩ = some (.int .i64 N) ∧ V.cell? ⟨b9, 1, none⟩ = some (.int .i64 id)) := ⟨k4, k90, k91⟩
  clear H0 H9 hc
  go_region_held3 (fun W2 => W2.cell? ⟨b4, 0, none⟩ = some (.pointer xp) ∧ W2.cell? ⟨b9, 0, none⟩ = some (.int .i64 N) ∧ W2.cell? ⟨b9, 1, none⟩ = some (.int .i64 id)) (first | assumption | exact HS0.out | exact HS1.out | exact HS2.out | exact frS9 HZ.out _ | exact frS9 (HZ.out.below (Below.refl _ _).drew) _ | exact frS9 (HZ.out.below (pw_below_drewN (Below.refl _ _) _)) _) (first
    | ((go_at_call 52); (refine (P1.out _ _ (HH.out _ (by first | exact Below.refl _ _ | exact (Below.refl _ _).drew | exact pw_below_drewN (Below.refl _ _) _))).mono ?_); rintro e w8 ⟨rfl, h8⟩; have HS1 := Aside0.mk (And.intro (Fr.c4 h8.fst) (And.intro (F9.c0 h8) (F9.c1 h8))); have HA := Aside0.mk h8; clear h8)
    | ((go_at_call 31); (refine (P2.out _ _ (by first | exact HA.out | exact HA.out.below (Below.refl _ _).drew | exact HA.out.below (pw_below_drewN (Below.refl _ _) _))).mono ?_); rintro e w9 ⟨rfl, h9⟩; have HS2 := Aside0.mk (And.intro (Fr.c4 h9.fst) (And.intro (F9.c0 h9) (F9.c1 h9))); have k6 := Fr.c6 h9.fst; have kf := Fr.f6 h9.fst; have HZ := Aside0.mk h9; clear h9))
  go_wp2_with (fail)
  have HF := F9.set HZ.out true
  have hc6 := Fr.c6 HF.fst
  exact bodyPost_ret (v := .bool true) (by simp [results, Try.results42, go_sem, hc6]) rfl ⟨rfl, Fr.rest HF.fst⟩
set_option maxRecDepth 100000 in
set_option maxHeartbeats 8000000 in
theorem second_drop {w W : World} {o : Ob w} {rp xp : Option Addr} {most who N id : Int} {xs : List T2} (h : Has (both2 (AY w rp xp most xs xs) o) W) :
    Calls Try.prog 42 #[.pointer rp, .pointer xp, .agg #[.int .i64 who, .int .i64 3, .int .i64 N], .int .i64 id] W fun e W' => e = .returned (.bool true) ∧ Has (both2 (AY w rp xp most (dropL xs N) (dropL xs N)) o) W' := by
  go_enter Try.func42, Try.ntmps42
  have H0 := Fr.make h xp who 3 N
  go_upto_region 1 with (fail)
  obtain ⟨W0, hW0⟩ : ∃ W0, ((W.alloc (.cells #[.pointer xp] 51 (0, 0))).alloc (.cells #[.int .i64 who, .int .i64 3, .int .i64 N] 33 (0, 0))).alloc (.cells #[.bool false] 4 (0, 0)) = W0 := ⟨_, rfl⟩
  rw [hW0] at H0
  rw [hW0]
  obtain ⟨b4, hb4⟩ : ∃ b4, W.heap.size = b4 := ⟨_, rfl⟩
  rw [hb4] at H0
  rw [hb4]
  obtain ⟨b5, hb5⟩ : ∃ b5, b4 + 1 = b5 := ⟨_, rfl⟩
  rw [hb5] at H0
  rw [hb5]
  obtain ⟨b6, hb6⟩ : ∃ b6, b5 + 1 = b6 := ⟨_, rfl⟩
  rw [hb6] at H0
  rw [hb6]
  clear hW0 hb4 hb5 hb6 h
  have k4 := Fr.c4 H0
  have k51 := Fr.c51 H0
  have k52 := Fr.c52 H0
  have k6 := Fr.c6 H0
  have kf := Fr.f6 H0
  have HH := Aside0.mk (fun (V : World) (hb : Below W0.heap.size W0 V) => H0.below hb)
  obtain ⟨c, hc⟩ : ∃ c, dropC xs.length N = c := ⟨_, rfl⟩
  have hl := fr_len H0
  have P1 := Aside0.mk (fun (V : World) (gs : List T2) (hV : Has (Fr w (AY w rp xp most xs gs) o b4 b5 b6 xp who 3 N false) V) => fr_drop (k := N) (c := c) hc hV)
  have P2 := Aside0.mk (fun (V : World) (ys : List T2) (hV : Has (Fr w (AY w rp xp most ys xs) o b4 b5 b6 xp who 3 N false) V) => fr_xdrop hl (k := N) (c := c) hc hV)
  have HS0 : Aside0 (W0.cell? ⟨b4, 0, none⟩ = some (.pointer xp) ∧ W0.cell? ⟨b5, 2, none⟩ = some (.int .i64 N)) := ⟨k4, k52⟩
  clear H0 hc hl
  go_upto_region 14 with (fail)
  go_region_held3 (fun W2 => W2.cell? ⟨b4, 0, none⟩ = some (.pointer xp) ∧ W2.cell? ⟨b5, 2, none⟩ = some (.int .i64 N)) (first | assumption | exact HS0.out | exact HS1.out | exact HS2.out | exact frS HZ.out _ | exact frS (HZ.out.below (Below.refl _ _).drew) _ | exact frS (HZ.out.below (pw_below_drewN (Below.refl _ _) _)) _) (first
    | ((go_at_call 79); (refine (P1.out _ _ (HH.out _ (by first | exact Below.refl _ _ | exact (Below.refl _ _).drew | exact pw_below_drewN (Below.refl _ _) _))).mono ?_); rintro e w8 ⟨rfl, h8⟩; have HS1 := Aside0.mk (And.intro (Fr.c4 h8) (Fr.c52 h8)); have HA := Aside0.mk h8; clear h8)
    | ((go_at_call 33); (refine (P2.out _ _ (by first | exact HA.out | exact HA.out.below (Below.refl _ _).drew | exact HA.out.below (pw_below_drewN (Below.refl _ _) _))).mono ?_); rintro e w9 ⟨rfl, h9⟩; have HS2 := Aside0.mk (And.intro (Fr.c4 h9) (Fr.c52 h9)); have k6 := Fr.c6 h9; have kf := Fr.f6 h9; have HZ := Aside0.mk h9; clear h9))
  go_wp2_with (fail)
  have HF := Fr.set HZ.out true
  have hc6 := Fr.c6 HF
  exact bodyPost_ret (v := .bool true) (by simp [results, Try.results42, go_sem, hc6]) rfl ⟨rfl, Fr.rest HF⟩
set_option maxRecDepth 100000 in
set_option maxHeartbeats 8000000 in
theorem second_pop {w W : World} {o : Ob w} {rp xp : Option Addr} {most who N id : Int} {xs : List T2} (h : Has (both2 (AY w rp xp most xs xs) o) W) :
    Calls Try.prog 42 #[.pointer rp, .pointer xp, .agg #[.int .i64 who, .int .i64 1, .int .i64 N], .int .i64 id] W fun e W' => e = .returned (.bool true) ∧ Has (both2 (AY w rp xp most (dropL xs 1) (dropL xs 1)) o) W' := by
  go_enter Try.func42, Try.ntmps42
  have H0 := Fr.make h xp who 1 N
  go_upto_region 1 with (fail)
  obtain ⟨W0, hW0⟩ : ∃ W0, ((W.alloc (.cells #[.pointer xp] 51 (0, 0))).alloc (.cells #[.int .i64 who, .int .i64 1, .int .i64 N] 33 (0, 0))).alloc (.cells #[.bool false] 4 (0, 0)) = W0 := ⟨_, rfl⟩
  rw [hW0] at H0
  rw [hW0]
  obtain ⟨b4, hb4⟩ : ∃ b4, W.heap.size = b4 := ⟨_, rfl⟩
  rw [hb4] at H0
  rw [hb4]
  obtain ⟨b5, hb5⟩ : ∃ b5, b4 + 1 = b5 := ⟨_, rfl⟩
  rw [hb5] at H0
  rw [hb5]
  obtain ⟨b6, hb6⟩ : ∃ b6, b5 + 1 = b6 := ⟨_, rfl⟩
  rw [hb6] at H0
  rw [hb6]
  clear hW0 hb4 hb5 hb6 h
  have k4 := Fr.c4 H0
  have k51 := Fr.c51 H0
  have k52 := Fr.c52 H0
  have k6 := Fr.c6 H0
  have kf := Fr.f6 H0
  have HH := Aside0.mk (fun (V : World) (hb : Below W0.heap.size W0 V) => H0.below hb)
  have hl := fr_len H0
  have P1 := Aside0.mk (fun (V : World) (hV : Has (Fr w (AY w rp xp most xs xs) o b4 b5 b6 xp who 1 N false) V) => fr_pop hV)
  have P2 := Aside0.mk (fun (V : World) (ys : List T2) (b9 : Nat) (x9 y9 : Int) (hV : Has (F9 w (AY w rp xp most ys xs) o b4 b5 b6 xp who 1 N false b9 x9 y9) V) => fr_xpop hl hV)
  obtain ⟨x1, hx1⟩ : ∃ x1, atV d2 xs 0 = x1 := ⟨_, rfl⟩
  obtain ⟨ok, hok⟩ : ∃ ok, inB xs.length 0 = ok := ⟨_, rfl⟩
  rw [hx1, hok] at P1 P2
  clear hx1 hok H0 hl
  go_wp2_with (first
    | ((go_at_call 53); (refine (P1.out _ (HH.out _ (Below.refl _ _))).mono ?_); rintro e w8 ⟨rfl, h8⟩; have h9 := h8.new #[.int .i64 x1.1, .int .i64 x1.2] 29; have k4 := Fr.c4 h9.fst; have k52 := Fr.c52 h9.fst; have HA := Aside0.mk h9; clear h8 h9)
    | ((go_at_call 76); (refine (P2.out _ _ _ _ _ HA.out).mono ?_); rintro e w9 ⟨rfl, h9⟩; have h10 := h9.new #[.int .i64 x1.1, .int .i64 x1.2] 29; have k6 := Fr.c6 h10.fst.fst; have kf := Fr.f6 h10.fst.fst; have k90 := F9.c0 h10.fst; have k91 := F9.c1 h10.fst; have HZ := Aside0.mk h10; clear h9 h10))
  go_wp2_with (fail)
  have HF := F9.set HZ.out.fst true
  have hc6 := Fr.c6 HF.fst
  exact bodyPost_ret (v := .bool true) (by simp [results, Try.results42, go_sem, hc6]) rfl ⟨rfl, Fr.rest HF.fst⟩
set_option maxRecDepth 100000 in
set_option maxHeartbeats 8000000 in
theorem second_at {w W : World} {o : Ob w} {rp xp : Option Addr} {most who N id : Int} {xs : List T2} (h : Has (both2 (AY w rp xp most xs xs) o) W) :
    Calls Try.prog 42 #[.pointer rp, .pointer xp, .agg #[.int .i64 who, .int .i64 2, .int .i64 N], .int .i64 id] W fun e W' => e = .returned (.bool true) ∧ Has (both2 (AY w rp xp most (xs) (xs)) o) W' := by
  go_enter Try.func42, Try.ntmps42
  have H0 := Fr.make h xp who 2 N
  go_upto_region 1 with (fail)
  obtain ⟨W0, hW0⟩ : ∃ W0, ((W.alloc (.cells #[.pointer xp] 51 (0, 0))).alloc (.cells #[.int .i64 who, .int .i64 2, .int .i64 N] 33 (0, 0))).alloc (.cells #[.bool false] 4 (0, 0)) = W0 := ⟨_, rfl⟩
  rw [hW0] at H0
  rw [hW0]
  obtain ⟨b4, hb4⟩ : ∃ b4, W.heap.size = b4 := ⟨_, rfl⟩
  rw [hb4] at H0
  rw [hb4]
  obtain ⟨b5, hb5⟩ : ∃ b5, b4 + 1 = b5 := ⟨_, rfl⟩
  rw [hb5] at H0
  rw [hb5]
  obtain ⟨b6, hb6⟩ : ∃ b6, b5 + 1 = b6 := ⟨_, rfl⟩
  rw [hb6] at H0
  rw [hb6]
  clear hW0 hb4 hb5 hb6 h
  have k4 := Fr.c4 H0
  have k51 := Fr.c51 H0
  have k52 := Fr.c52 H0
  have k6 := Fr.c6 H0
  have kf := Fr.f6 H0
  have HH := Aside0.mk (fun (V : World) (hb : Below W0.heap.size W0 V) => H0.below hb)
  have hl := fr_len H0
  have P1 := Aside0.mk (fun (V : World) (hV : Has (Fr w (AY w rp xp most xs xs) o b4 b5 b6 xp who 2 N false) V) => fr_at (i := N) hV)
  have P2 := Aside0.mk (fun (V : World) (ys : List T2) (b9 : Nat) (x9 y9 : Int) (hV : Has (F9 w (AY w rp xp most ys xs) o b4 b5 b6 xp who 2 N false b9 x9 y9) V) => fr_xat (i := N) hV)
  obtain ⟨x1, hx1⟩ : ∃ x1, atV d2 xs N = x1 := ⟨_, rfl⟩
  obtain ⟨ok, hok⟩ : ∃ ok, inB xs.length N = ok := ⟨_, rfl⟩
  rw [hx1, hok] at P1 P2
  clear hx1 hok H0 hl
  go_wp2_with (first
    | ((go_at_call 78); (refine (P1.out _ (HH.out _ (Below.refl _ _))).mono ?_); rintro e w8 ⟨rfl, h8⟩; have h9 := h8.new #[.int .i64 x1.1, .int .i64 x1.2] 29; have k4 := Fr.c4 h9.fst; have k52 := Fr.c52 h9.fst; have HA := Aside0.mk h9; clear h8 h9)
    | ((go_at_call 77); (refine (P2.out _ _ _ _ _ HA.out).mono ?_); rintro e w9 ⟨rfl, h9⟩; have h10 := h9.new #[.int .i64 x1.1, .int .i64 x1.2] 29; have k6 := Fr.c6 h10.fst.fst; have kf := Fr.f6 h10.fst.fst; have k90 := F9.c0 h10.fst; have k91 := F9.c1 h10.fst; have HZ := Aside0.mk h10; clear h9 h10))
  go_wp2_with (fail)
  have HF := F9.set HZ.out.fst true
  have hc6 := Fr.c6 HF.fst
  exact bodyPost_ret (v := .bool true) (by simp [results, Try.results42, go_sem, hc6]) rfl ⟨rfl, Fr.rest HF.fst⟩
set_option maxRecDepth 100000 in
set_option maxHeartbeats 8000000 in
theorem second_other {w W : World} {o : Ob w} {rp xp : Option Addr} {most who d N id : Int} {xs : List T2} (h0 : d ≠ 0) (h1 : d ≠ 1) (h2 : d ≠ 2) (h3 : d ≠ 3) (h5 : d ≠ 5) (h : Has (both2 (AY w rp xp most xs xs) o) W) :
    Calls Try.prog 42 #[.pointer rp, .pointer xp, .agg #[.int .i64 who, .int .i64 d, .int .i64 N], .int .i64 id] W fun e W' => e = .returned (.bool true) ∧ Has (both2 (AY w rp xp most xs xs) o) W' := by
  have e0 : (d == 0) = false := beq_eq_false_iff_ne.2 h0
  have g0 : decide (d = 0) = false := decide_eq_false h0
  have e1 : (d == 1) = false := beq_eq_false_iff_ne.2 h1
  have g1 : decide (d = 1) = false := decide_eq_false h1
  have e2 : (d == 2) = false := beq_eq_false_iff_ne.2 h2
  have g2 : decide (d = 2) = false := decide_eq_false h2
  have e3 : (d == 3) = false := beq_eq_false_iff_ne.2 h3
  have g3 : decide (d = 3) = false := decide_eq_false h3
  have e5 : (d == 5) = false := beq_eq_false_iff_ne.2 h5
  have g5 : decide (d = 5) = false := decide_eq_false h5
  clear h0 h1 h2 h3 h5
  go_enter Try.func42, Try.ntmps42
  have H0 := Fr.make h xp who d N
  go_upto_region 1 with (fail)
  obtain ⟨W0, hW0⟩ : ∃ W0, ((W.alloc (.cells #[.pointer xp] 51 (0, 0))).alloc (.cells #[.int .i64 who, .int .i64 d, .int .i64 N] 33 (0, 0))).alloc (.cells #[.bool false] 4 (0, 0)) = W0 := ⟨_, rfl⟩
  rw [hW0] at H0
  rw [hW0]
  obtain ⟨b4, hb4⟩ : ∃ b4, W.heap.size = b4 := ⟨_, rfl⟩
  rw [hb4] at H0
  rw [hb4]
  obtain ⟨b5, hb5⟩ : ∃ b5, b4 + 1 = b5 := ⟨_, rfl⟩
  rw [hb5] at H0
  rw [hb5]
  obtain ⟨b6, hb6⟩ : ∃ b6, b5 + 1 = b6 := ⟨_, rfl⟩
  rw [hb6] at H0
  rw [hb6]
  clear hW0 hb4 hb5 hb6 h
  have k4 := Fr.c4 H0
  have k51 := Fr.c51 H0
  have k52 := Fr.c52 H0
  have k6 := Fr.c6 H0
  have kf := Fr.f6 H0
  go_wp2_with (fail)
  have HF := Fr.set H0 true
  have hc6 := Fr.c6 HF
  exact bodyPost_ret (v := .bool true) (by simp [results, Try.results42, go_sem, hc6]) rfl ⟨rfl, Fr.rest HF⟩
end Go.Proofs.Ytekjkookkjjbcaa.PB
