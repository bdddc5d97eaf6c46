/- The ring of whole numbers: Len, Room, place, New, At (walked by hand). -/
import Derived.Test.YtekjkookkjjbcaaD0
import Derived.Test.YtekjkookkjjbcaaBase
import Derived.Test.YtekjkookkjjbcaaMk
import Derived.Deep.QuietTactic
import Derived.Deep.RegionLaw
import Derived.Deep.RegionHeld3
namespace Go.Proofs.Ytekjkookkjjbcaa.RI
set_option linter.unusedVariables false
set_option linter.unusedSimpArgs false
set_option linter.unusedVariables false
set_option linter.unusedSimpArgs false
open Go.RowKit Go.Proofs.YtekjkookkjjbcaaW.PrintWords Go.Proofs.YtekjkookkjjbcaaW.PrintLast Go.Proofs.YtekjkookkjjbcaaW.PrintMore Go.Proofs.Ytekjkookkjjbcaa.B Go.Proofs.Ytekjkookkjjbcaa.M
theorem infoR : (Try.prog.info? 3).map (fun i => (i.zero, i.size, i.bytes)) = some (some (.int .i64 0), 1, 8) := by kernel_rfl
/-- A ring's block. -/
def RB (W : World) (g : Nat) (most : Int) (v : Value) (f n : Nat) : Prop := W.heap[g]? = some (.cells #[.int .i64 most, v, .int .i64 (f : Int), .int .i64 (n : Int)] 59 (0, 0))
/-- Where the thing i lies, of L places, from f on. -/
def posR (L f i : Nat) : Nat := if L ≤ f + i then f + i - L else f + i
/-- What a ring holds. -/
def elsR (rm : List Int) (f n : Nat) : List Int := (List.range n).map fun i => rm.getD (posR rm.length f i) 0
theorem elsR_len (rm : List Int) (f n : Nat) : (elsR rm f n).length = n := by unfold elsR; rw [List.length_map, List.length_range]
theorem elsR_at (rm : List Int) (f n i : Nat) (h : i < n) : (elsR rm f n).getD i 0 = rm.getD (posR rm.length f i) 0 := by
  unfold elsR
  rw [List.getD_eq_getElem?_getD, List.getElem?_map, List.getElem?_range h]
  rfl
/-- A ring that New made. -/
structure RG (w0 W : World) (g : Nat) (most : Int) (v : Value) (rm : List Int) (f n : Nat) : Prop where
  bk : RB W g most v f n
  gg : w0.heap.size ≤ g
  bl : Below w0.heap.size w0 W
  ow : Kd.R (Kd.int .i64) 3 W w0.heap.size (fun _ => True) v rm
  fl : (f = 0 ∧ rm.length = 0) ∨ f < rm.length
  nl : n ≤ rm.length
  ml : (rm.length : Int) ≤ most
  m1 : 1 ≤ most
  m2 : most ≤ 1048576
theorem posR_lt (L f i n : Nat) (hi : i < n) (hn : n ≤ L) (hf : f < L) : posR L f i < L := by
  unfold posR
  split <;> omega
theorem len_calls (W : World) (g : Nat) (most : Int) (v : Value) (f n : Nat) (h : RB W g most v f n) :
    Calls Try.prog 29 #[.pointer (some ⟨g, 0, none⟩)] W fun e W' => e = .returned (.int .i64 (n : Int)) ∧ Drawn0 W W' := by
  have h3 : W.cell? ⟨g, 3, none⟩ = some (.int .i64 (n : Int)) := blk_cell h 3
  go_enter Try.func29, Try.ntmps29
  go_wp2
  go_ret
  exact ⟨rfl, by repeat (first | exact Drawn0.refl _ | apply Drawn0.step)⟩
theorem len_nil (W : World) :
    Calls Try.prog 29 #[.pointer none] W fun e W' => e = .returned (.int .i64 0) ∧ Drawn0 W W' := by
  go_enter Try.func29, Try.ntmps29
  go_wp2
  go_ret
  exact ⟨rfl, by repeat (first | exact Drawn0.refl _ | apply Drawn0.step)⟩
theorem room_calls (W : World) (g : Nat) (most : Int) (v : Value) (f n : Nat) (h : RB W g most v f n) (hm : 0 ≤ most ∧ most ≤ 1048576) (hn : n ≤ 1048576) :
    Calls Try.prog 26 #[.pointer (some ⟨g, 0, none⟩)] W fun e W' => e = .returned (.int .i64 (most - (n : Int))) ∧ Drawn0 W W' := by
  have h3 : W.cell? ⟨g, 3, none⟩ = some (.int .i64 (n : Int)) := blk_cell h 3
  have h0 : W.cell? ⟨g, 0, none⟩ = some (.int .i64 most) := blk_cell h 0
  have q : IntKind.i64.wrap (most - (n : Int)) = most - (n : Int) := by rw [i64_w, wrap_id _ (by omega) (by omega)]
  clear h hm hn
  go_enter Try.func26, Try.ntmps26
  go_wp2
  first
    | (go_ret; exact ⟨rfl, by repeat (first | exact Drawn0.refl _ | apply Drawn0.step)⟩)
    | (go_quiet (fail); go_wp2; go_ret; exact ⟨rfl, by repeat (first | exact Drawn0.refl _ | apply Drawn0.step)⟩)
theorem room_nil (W : World) :
    Calls Try.prog 26 #[.pointer none] W fun e W' => e = .returned (.int .i64 0) ∧ Drawn0 W W' := by
  go_enter Try.func26, Try.ntmps26
  go_wp2
  go_ret
  exact ⟨rfl, by repeat (first | exact Drawn0.refl _ | apply Drawn0.step)⟩
theorem place_calls (W : World) (g : Nat) (most : Int) (A : Option Addr) (L c f n i : Nat) (h : RB W g most (.slice A L c) f n) (hL : L ≤ 1048576) (hf : f ≤ 1048576) (hi : i ≤ 1048576) :
    Calls Try.prog 74 #[.pointer (some ⟨g, 0, none⟩), .int .i64 (i : Int)] W fun e W' => e = .returned (.int .i64 (posR L f i : Int)) ∧ Drawn0 W W' := by
  have h1 : W.cell? ⟨g, 1, none⟩ = some (.slice A L c) := blk_cell h 1
  have h2 : W.cell? ⟨g, 2, none⟩ = some (.int .i64 (f : Int)) := blk_cell h 2
  obtain ⟨s, hs⟩ : ∃ s : Nat, f + i = s := ⟨_, rfl⟩
  have q : IntKind.i64.wrap ((i : Int) + (f : Int)) = (s : Int) := by rw [i64_w, wrap_id _ (by omega) (by omega)]; omega
  by_cases c1 : L ≤ s
  · have k1 : decide ((s : Int) ≥ (L : Int)) = true := decide_eq_true (by omega)
    have k2 : decide ((L : Int) ≤ (s : Int)) = true := decide_eq_true (by omega)
    have k3 : decide (L ≤ s) = true := decide_eq_true c1
    have q2 : IntKind.i64.wrap ((s : Int) - (L : Int)) = ((s - L : Nat) : Int) := by rw [i64_w, wrap_id _ (by omega) (by omega)]; omega
    have e : posR L f i = s - L := by unfold posR; rw [hs, if_pos c1]
    rw [e]
    clear h hL hf hi hs e c1
    go_enter Try.func74, Try.ntmps74
    go_wp2
    go_ret
    exact ⟨rfl, by repeat (first | exact Drawn0.refl _ | apply Drawn0.step)⟩
  · have k1 : decide ((s : Int) ≥ (L : Int)) = false := decide_eq_false (by omega)
    have k2 : decide ((L : Int) ≤ (s : Int)) = false := decide_eq_false (by omega)
    have k3 : decide (L ≤ s) = false := decide_eq_false c1
    have e : posR L f i = s := by unfold posR; rw [hs, if_neg c1]
    rw [e]
    clear h hL hf hi hs e c1
    go_enter Try.func74, Try.ntmps74
    go_wp2
    go_ret
    exact ⟨rfl, by repeat (first | exact Drawn0.refl _ | apply Drawn0.step)⟩
theorem new_bad (W : World) (most : Int) (h : most < 1 ∨ most > 1048576) :
    Calls Try.prog 25 #[.int .i64 most] W fun e W' => e = .returned (.tuple #[.pointer none, .int .i64 2]) ∧ Drawn0 W W' := by
  rcases h with h | h
  · have k1 : decide (most < 1) = true := decide_eq_true h
    go_enter Try.func25, Try.ntmps25
    go_wp2
    go_ret2
    exact ⟨rfl, by repeat (first | exact Drawn0.refl _ | apply Drawn0.step)⟩
  · have k1 : decide (most < 1) = false := decide_eq_false (by omega)
    have k2 : decide (most > 1048576) = true := decide_eq_true h
    have k3 : decide (1048576 < most) = true := decide_eq_true h
    go_enter Try.func25, Try.ntmps25
    go_wp2
    go_ret2
    exact ⟨rfl, by repeat (first | exact Drawn0.refl _ | apply Drawn0.step)⟩
theorem new_calls (w0 W : World) (hB : Below w0.heap.size w0 W) (most : Int) (h : 1 ≤ most ∧ most ≤ 1048576) :
    Calls Try.prog 25 #[.int .i64 most] W fun e W' => ∃ g, e = .returned (.tuple #[.pointer (some ⟨g, 0, none⟩), .int .i64 0]) ∧ RG w0 W' g most (.slice none 0 0) [] 0 0 ∧ Below W.heap.size W W' ∧ W.heap.size ≤ g := by
  have k1 : decide (most < 1) = false := decide_eq_false (by omega)
  have k2 : decide (most > 1048576) = false := decide_eq_false (by omega)
  have k3 : decide (1048576 < most) = false := decide_eq_false (by omega)
  have HH := Aside0.mk h
  clear h
  go_enter Try.func25, Try.ntmps25
  go_wp2
  go_ret2
  have hb := below_alloc (Below.refl W.heap.size W) (.cells #[.int .i64 most, .slice none 0 0, .int .i64 0, .int .i64 0] 59 (0, 0))
  exact ⟨W.heap.size, rfl, ⟨show RB _ _ _ _ _ _ from heap_alloc_new W _, below_size hB, below_step hB hb, Kd.R_nil _ _ _ _ _, .inl ⟨rfl, rfl⟩, Nat.le_refl _, by have := HH.out; simp; omega, HH.out.1, HH.out.2⟩, hb, Nat.le_refl _⟩
theorem at_none (W : World) (g : Nat) (most : Int) (v : Value) (f n : Nat) (i : Int) (h : RB W g most v f n) (hi : i < 0 ∨ (n : Int) ≤ i) :
    Calls Try.prog 39 #[.pointer (some ⟨g, 0, none⟩), .int .i64 i] W fun e W' => e = .returned (.tuple #[.int .i64 0, .bool false]) ∧ Drawn0 W W' := by
  have HR := Aside0.mk h
  clear h
  rcases hi with hi | hi
  · have k1 : decide (i < 0) = true := decide_eq_true hi
    go_enter Try.func39, Try.ntmps39
    go_wp2
    go_ret2
    exact ⟨rfl, by repeat (first | exact Drawn0.refl _ | apply Drawn0.step)⟩
  · have k1 : decide (i < 0) = false := decide_eq_false (by omega)
    have k2 : decide (i ≥ (n : Int)) = true := decide_eq_true hi
    have k3 : decide ((n : Int) ≤ i) = true := decide_eq_true hi
    go_enter Try.func39, Try.ntmps39
    go_wp2_with ((go_at_call 29); (with_reducible refine (len_calls _ g most v f n HR.out).mono ?_); rintro e w1 ⟨rfl, ⟨nd, rfl⟩⟩)
    go_ret2
    exact ⟨rfl, by repeat (first | exact Drawn0.refl _ | apply Drawn0.step)⟩
theorem drawn_drew {w w' : World} (h : Drawn0 w w') : Drawn0 w w'.drew := Drawn0.step h 1
theorem as_of {W W2 : World} {g : Nat} {most : Int} {ad : Addr} {L c f n p : Nat} {x : Value} (hr : RB W g most (.slice (some ad) L c) f n) (hx : W.cell? (ad.add p) = some x) (hd : Drawn0 W W2) : RB W2 g most (.slice (some ad) L c) f n ∧ W2.cell? ⟨g, 1, none⟩ = some (.slice (some ad) L c) ∧ W2.cell? (ad.add p) = some x ∧ Drawn0 W W2 := by
  obtain ⟨m, rfl⟩ := hd
  exact ⟨hr, blk_cell hr 1, hx, ⟨⟨_, rfl⟩⟩⟩
theorem at_calls (w0 W : World) (g : Nat) (most : Int) (v : Value) (rm : List Int) (f n : Nat) (i : Nat) (h : RG w0 W g most v rm f n) (hi : i < n) :
    Calls Try.prog 39 #[.pointer (some ⟨g, 0, none⟩), .int .i64 (i : Int)] W fun e W' => e = .returned (.tuple #[.int .i64 ((elsR rm f n).getD i 0), .bool true]) ∧ Drawn0 W W' := by
  obtain ⟨A, c, rfl⟩ := Kd.R_slice h.ow
  have hL : rm.length ≤ 1048576 := by have := h.ml; have := h.m2; omega
  have hf : f < rm.length := by have := h.fl; have := h.nl; omega
  have hn := h.nl
  have hp := posR_lt rm.length f i n hi hn hf
  have ha := elsR_at rm f n i hi
  have hb1 : W.cell? ⟨g, 1, none⟩ = some (.slice A rm.length c) := blk_cell h.bk 1
  obtain ⟨ad, e, hx⟩ := Kd.at_int (Kd.R_reads' h.ow).2.2 (posR rm.length f i : Int) (by omega) (by omega)
  have hrd : rd rm (posR rm.length f i : Int) = rm.getD (posR rm.length f i) 0 := by unfold rd; rw [Int.toNat_natCast]
  rw [hrd, ← ha] at hx
  simp only [Int.toNat_natCast] at hx
  subst e
  have k1 : decide ((i : Int) < 0) = false := decide_eq_false (by omega)
  have k2 : decide ((i : Int) ≥ (n : Int)) = false := decide_eq_false (by omega)
  have k3 : decide ((n : Int) ≤ (i : Int)) = false := decide_eq_false (by omega)
  have k4 : decide (n ≤ i) = false := decide_eq_false (by omega)
  have HR := Aside0.mk h.bk
  have HL := Aside0.mk (show rm.length ≤ 1048576 ∧ f ≤ 1048576 ∧ i ≤ 1048576 from ⟨hL, by omega, by omega⟩)
  generalize (elsR rm f n).getD i 0 = x at *
  have HC := Aside0.mk (fun (W2 : World) (h2 : RB W2 g most (.slice (some ad) rm.length c) f n) => place_calls W2 g most (some ad) rm.length c f n i h2 HL.out.1 HL.out.2.1 HL.out.2.2)
  obtain ⟨p, hpe⟩ : ∃ p, posR rm.length f i = p := ⟨_, rfl⟩
  have HP := Aside0.mk hpe
  rw [hpe] at hx hp
  have p1 := eq_true (show (0 : Int) ≤ (p : Int) by omega)
  have p2 := eq_true (show (p : Int) < (rm.length : Int) by omega)
  clear h hL hf hn hp ha hrd hpe hi
  go_enter Try.func39, Try.ntmps39
  go_wp2_with ((go_at_call 29); (with_reducible refine (len_calls _ g most _ f n HR.out).mono ?_); rintro e w1 ⟨rfl, ⟨nd, rfl⟩⟩)
  rw [HP.out] at HC
  have HX := Aside0.mk hx
  clear hx hb1
  go_region_held3 (fun W2 => RB W2 g most (.slice (some ad) rm.length c) f n ∧ W2.cell? ⟨g, 1, none⟩ = some (.slice (some ad) rm.length c) ∧ W2.cell? (ad.add p) = some (.int .i64 x) ∧ Drawn0 W W2) (first | assumption | exact as_of HR.out HX.out (drawn_drew ⟨⟨_, rfl⟩⟩) | exact as_of HR.out HX.out ⟨⟨_, rfl⟩⟩)
    (first
      | (go_at_call 74; refine (HC.out (W.drewN _) HR.out).mono ?_; rintro e w2 ⟨rfl, ⟨m, rfl⟩⟩; rw [World.drewN_drewN]))
  go_wp2
  go_ret2
  exact ⟨rfl, ⟨⟨_, rfl⟩⟩⟩
end Go.Proofs.Ytekjkookkjjbcaa.RI
