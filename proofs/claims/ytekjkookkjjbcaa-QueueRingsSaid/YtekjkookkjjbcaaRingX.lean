/- The ring of things: Len, Room, place, New, At (walked by hand). -/
import Derived.Test.YtekjkookkjjbcaaRow2
import Derived.Test.YtekjkookkjjbcaaBase
import Derived.Test.YtekjkookkjjbcaaMk
import Derived.Deep.QuietTactic
import Derived.Deep.RegionLaw
import Derived.Deep.RegionHeld3
namespace Go.Proofs.Ytekjkookkjjbcaa.RX
set_option linter.unusedVariables false
set_option linter.unusedSimpArgs false
set_option linter.unusedVariables false
set_option linter.unusedSimpArgs false
open Go.RowKit Go.Proofs.YtekjkookkjjbcaaW.PrintWords Go.Proofs.YtekjkookkjjbcaaW.PrintLast Go.Proofs.YtekjkookkjjbcaaW.PrintMore Go.Proofs.Ytekjkookkjjbcaa.B Go.Proofs.Ytekjkookkjjbcaa.M Go.Proofs.Ytekjkookkjjbcaa.RH
open Go.Proofs.Ytekjkookkjjbcaa.RI (zeroed zeroed_len zeroed_zero zeroed_at set_row_grown)
/-- A ring's block. -/
def RB (W : World) (g : Nat) (most : Int) (v : Value) (f n : Nat) : Prop := W.heap[g]? = some (.cells #[.int .i64 most, v, .int .i64 (f : Int), .int .i64 (n : Int)] 109 (0, 0))
/-- Where the thing i lies, of L places, from f on. -/
def posR (L f i : Nat) : Nat := if L ≤ f + i then f + i - L else f + i
/-- What a ring holds. -/
def elsR (rm : List T2) (f n : Nat) : List T2 := (List.range n).map fun i => rm.getD (posR rm.length f i) d2
theorem elsR_len (rm : List T2) (f n : Nat) : (elsR rm f n).length = n := by unfold elsR; rw [List.length_map, List.length_range]
theorem elsR_at (rm : List T2) (f n i : Nat) (h : i < n) : (elsR rm f n).getD i d2 = rm.getD (posR rm.length f i) d2 := by
  unfold elsR
  rw [List.getD_eq_getElem?_getD, List.getElem?_map, List.getElem?_range h]
  rfl
/-- A ring that New made. -/
structure RG (w0 W : World) (g : Nat) (most : Int) (v : Value) (rm : List T2) (f n : Nat) : Prop where
  bk : RB W g most v f n
  gg : w0.heap.size ≤ g
  bl : Below w0.heap.size w0 W
  ow : Kd.R kT 29 W w0.heap.size (fun _ => True) v rm
  fl : (f = 0 ∧ rm.length = 0) ∨ f < rm.length
  nl : n ≤ rm.length
  ml : (rm.length : Int) ≤ most
  m1 : 1 ≤ most
  m2 : most ≤ 1048576
theorem posR_lt (L f i n : Nat) (hi : i < n) (hn : n ≤ L) (hf : f < L) : posR L f i < L := by
  unfold posR
  split <;> omega
theorem len_calls (W : World) (g : Nat) (most : Int) (v : Value) (f n : Nat) (h : RB W g most v f n) :
    Calls Try.prog 44 #[.pointer (some ⟨g, 0, none⟩)] W fun e W' => e = .returned (.int .i64 (n : Int)) ∧ Drawn0 W W' := by
  have h3 : W.cell? ⟨g, 3, none⟩ = some (.int .i64 (n : Int)) := blk_cell h 3
  go_enter Try.func44, Try.ntmps44
  go_wp2
  go_ret
  exact ⟨rfl, by repeat (first | exact Drawn0.refl _ | apply Drawn0.step)⟩
theorem len_nil (W : World) :
    Calls Try.prog 44 #[.pointer none] W fun e W' => e = .returned (.int .i64 0) ∧ Drawn0 W W' := by
  go_enter Try.func44, Try.ntmps44
  go_wp2
  go_ret
  exact ⟨rfl, by repeat (first | exact Drawn0.refl _ | apply Drawn0.step)⟩
theorem room_calls (W : World) (g : Nat) (most : Int) (v : Value) (f n : Nat) (h : RB W g most v f n) (hm : 0 ≤ most ∧ most ≤ 1048576) (hn : n ≤ 1048576) :
    Calls Try.prog 45 #[.pointer (some ⟨g, 0, none⟩)] W fun e W' => e = .returned (.int .i64 (most - (n : Int))) ∧ Drawn0 W W' := by
  have h3 : W.cell? ⟨g, 3, none⟩ = some (.int .i64 (n : Int)) := blk_cell h 3
  have h0 : W.cell? ⟨g, 0, none⟩ = some (.int .i64 most) := blk_cell h 0
  have q : IntKind.i64.wrap (most - (n : Int)) = most - (n : Int) := by rw [i64_w, wrap_id _ (by omega) (by omega)]
  clear h hm hn
  go_enter Try.func45, Try.ntmps45
  go_wp2
  first
    | (go_ret; exact ⟨rfl, by repeat (first | exact Drawn0.refl _ | apply Drawn0.step)⟩)
    | (go_quiet (fail); go_wp2; go_ret; exact ⟨rfl, by repeat (first | exact Drawn0.refl _ | apply Drawn0.step)⟩)
theorem room_nil (W : World) :
    Calls Try.prog 45 #[.pointer none] W fun e W' => e = .returned (.int .i64 0) ∧ Drawn0 W W' := by
  go_enter Try.func45, Try.ntmps45
  go_wp2
  go_ret
  exact ⟨rfl, by repeat (first | exact Drawn0.refl _ | apply Drawn0.step)⟩
theorem place_calls (W : World) (g : Nat) (most : Int) (A : Option Addr) (L c f n i : Nat) (h : RB W g most (.slice A L c) f n) (hL : L ≤ 1048576) (hf : f ≤ 1048576) (hi : i ≤ 1048576) :
    Calls Try.prog 84 #[.pointer (some ⟨g, 0, none⟩), .int .i64 (i : Int)] W fun e W' => e = .returned (.int .i64 (posR L f i : Int)) ∧ Drawn0 W W' := by
  have h1 : W.cell? ⟨g, 1, none⟩ = some (.slice A L c) := blk_cell h 1
  have h2 : W.cell? ⟨g, 2, none⟩ = some (.int .i64 (f : Int)) := blk_cell h 2
  obtain ⟨s, hs⟩ : ∃ s : Nat, f + i = s := ⟨_, rfl⟩
  have q : IntKind.i64.wrap ((i : Int) + (f : Int)) = (s : Int) := by rw [i64_w, wrap_id _ (by omega) (by omega)]; omega
  by_cases c1 : L ≤ s
  · have k1 : decide ((s : Int) ≥ (L : Int)) = true := decide_eq_true (by omega)
    have k2 : decide ((L : Int) ≤ (s : Int)) = true := decide_eq_true (by omega)
    have k3 : decide (L ≤ s) = true := decide_eq_true c1
    have q2 : IntKind.i64.wrap ((s : Int) - (L : Int)) = ((s - L : Nat) : Int) := by rw [i64_w, wrap_id _ (by omega) (by omega)]; omega
    have e : posR L f i = s - L := by unfold posR; rw [hs, if_pos c1]
    rw [e]
    clear h hL hf hi hs e c1
    go_enter Try.func84, Try.ntmps84
    go_wp2
    go_ret
    exact ⟨rfl, by repeat (first | exact Drawn0.refl _ | apply Drawn0.step)⟩
  · have k1 : decide ((s : Int) ≥ (L : Int)) = false := decide_eq_false (by omega)
    have k2 : decide ((L : Int) ≤ (s : Int)) = false := decide_eq_false (by omega)
    have k3 : decide (L ≤ s) = false := decide_eq_false c1
    have e : posR L f i = s := by unfold posR; rw [hs, if_neg c1]
    rw [e]
    clear h hL hf hi hs e c1
    go_enter Try.func84, Try.ntmps84
    go_wp2
    go_ret
    exact ⟨rfl, by repeat (first | exact Drawn0.refl _ | apply Drawn0.step)⟩
theorem new_bad (W : World) (most : Int) (h : most < 1 ∨ most > 1048576) :
    Calls Try.prog 40 #[.int .i64 most] W fun e W' => e = .returned (.tuple #[.pointer none, .int .i64 2]) ∧ Drawn0 W W' := by
  rcases h with h | h
  · have k1 : decide (most < 1) = true := decide_eq_true h
    go_enter Try.func40, Try.ntmps40
    go_wp2
    go_ret2
    exact ⟨rfl, by repeat (first | exact Drawn0.refl _ | apply Drawn0.step)⟩
  · have k1 : decide (most < 1) = false := decide_eq_false (by omega)
    have k2 : decide (most > 1048576) = true := decide_eq_true h
    have k3 : decide (1048576 < most) = true := decide_eq_true h
    go_enter Try.func40, Try.ntmps40
    go_wp2
    go_ret2
    exact ⟨rfl, by repeat (first | exact Drawn0.refl _ | apply Drawn0.step)⟩
theorem new_calls (w0 W : World) (hB : Below w0.heap.size w0 W) (most : Int) (h : 1 ≤ most ∧ most ≤ 1048576) :
    Calls Try.prog 40 #[.int .i64 most] W fun e W' => ∃ g, e = .returned (.tuple #[.pointer (some ⟨g, 0, none⟩), .int .i64 0]) ∧ RG w0 W' g most (.slice none 0 0) [] 0 0 ∧ Below W.heap.size W W' ∧ W.heap.size ≤ g := by
  have k1 : decide (most < 1) = false := decide_eq_false (by omega)
  have k2 : decide (most > 1048576) = false := decide_eq_false (by omega)
  have k3 : decide (1048576 < most) = false := decide_eq_false (by omega)
  have HH := Aside0.mk h
  clear h
  go_enter Try.func40, Try.ntmps40
  go_wp2
  go_ret2
  have hb := below_alloc (Below.refl W.heap.size W) (.cells #[.int .i64 most, .slice none 0 0, .int .i64 0, .int .i64 0] 109 (0, 0))
  exact ⟨W.heap.size, rfl, ⟨show RB _ _ _ _ _ _ from heap_alloc_new W _, below_size hB, below_step hB hb, Kd.R_nil _ _ _ _ _, .inl ⟨rfl, rfl⟩, Nat.le_refl _, by have := HH.out; simp; omega, HH.out.1, HH.out.2⟩, hb, Nat.le_refl _⟩
theorem drawn_drew {w w' : World} (h : Drawn0 w w') : Drawn0 w w'.drew := Drawn0.step h 1
theorem at_none (W : World) (g : Nat) (most : Int) (v : Value) (f n : Nat) (i : Int) (h : RB W g most v f n) (hi : i < 0 ∨ (n : Int) ≤ i) :
    Calls Try.prog 78 #[.pointer (some ⟨g, 0, none⟩), .int .i64 i] W fun e W' => e = .returned (.tuple #[.agg #[.int .i64 0, .int .i64 0], .bool false]) ∧ Below W.heap.size W W' := by
  have HR := Aside0.mk h
  clear h
  rcases hi with hi | hi
  · have k1 : decide (i < 0) = true := decide_eq_true hi
    go_enter Try.func78, Try.ntmps78
    go_wp2
    exact bodyPost_ret (v := .tuple #[.agg #[.int .i64 0, .int .i64 0], .bool false]) (by simp [results, Try.results78, go_sem]) rfl ⟨rfl, (by repeat (first | exact Below.refl _ _ | exact Nat.le_refl _ | exact Nat.le_succ _ | (refine below_alloc ?_ _) | (refine below_set ?_ ?_) | (refine pw_below_drewN ?_ _)))⟩
  · have k1 : decide (i < 0) = false := decide_eq_false (by omega)
    have k2 : decide (i ≥ (n : Int)) = true := decide_eq_true hi
    have k3 : decide ((n : Int) ≤ i) = true := decide_eq_true hi
    have HRA := Aside0.mk (show RB (W.alloc (.cells #[.int .i64 0, .int .i64 0] 29 (0, 0))) g most v f n from blk_below HR.out (below_alloc (Below.refl _ _) _))
    go_enter Try.func78, Try.ntmps78
    go_wp2_with ((go_at_call 44); (with_reducible refine (len_calls _ g most v f n HRA.out).mono ?_); rintro e w1 ⟨rfl, ⟨nd, rfl⟩⟩)
    exact bodyPost_ret (v := .tuple #[.agg #[.int .i64 0, .int .i64 0], .bool false]) (by simp [results, Try.results78, go_sem]) rfl ⟨rfl, (by repeat (first | exact Below.refl _ _ | exact Nat.le_refl _ | exact Nat.le_succ _ | (refine below_alloc ?_ _) | (refine below_set ?_ ?_) | (refine pw_below_drewN ?_ _)))⟩
/-- What At reads. -/
abbrev AtS (W2 : World) (g : Nat) (most : Int) (g9 c L f n p : Nat) (x : T2) : Prop := RB W2 g most (.slice (some ⟨g9, 0, none⟩) L c) f n ∧ W2.cell? ⟨g, 1, none⟩ = some (.slice (some ⟨g9, 0, none⟩) L c) ∧ W2.cell? ⟨g9, p * 2, none⟩ = some (.int .i64 x.1) ∧ W2.cell? ⟨g9, p * 2 + 1, none⟩ = some (.int .i64 x.2)
theorem at_dr {W2 : World} {g g9 c L f n p : Nat} {most : Int} {x : T2} (m : Nat) (h : AtS W2 g most g9 c L f n p x) : AtS (W2.drewN m) g most g9 c L f n p x := h
theorem at_dw {W2 : World} {g g9 c L f n p : Nat} {most : Int} {x : T2} (h : AtS W2 g most g9 c L f n p x) : AtS W2.drew g most g9 c L f n p x := h
theorem at_st {W2 : World} {g g9 c L f n p rb : Nat} {most : Int} {x : T2} {a b : Value} (h1 : rb ≠ g) (h2 : rb ≠ g9) (h : AtS W2 g most g9 c L f n p x) : AtS ((W2.setCell ⟨rb, 0, none⟩ a).setCell ⟨rb, 1, none⟩ b) g most g9 c L f n p x := by
  have e1 : ((W2.setCell ⟨rb, 0, none⟩ a).setCell ⟨rb, 1, none⟩ b).heap[g]? = W2.heap[g]? := (Below.heap_setCell _ ⟨rb, 1, none⟩ _ g h1.symm).trans (Below.heap_setCell _ ⟨rb, 0, none⟩ _ g h1.symm)
  have e2 : ((W2.setCell ⟨rb, 0, none⟩ a).setCell ⟨rb, 1, none⟩ b).heap[g9]? = W2.heap[g9]? := (Below.heap_setCell _ ⟨rb, 1, none⟩ _ g9 h2.symm).trans (Below.heap_setCell _ ⟨rb, 0, none⟩ _ g9 h2.symm)
  refine ⟨e1.trans h.1, ?_, ?_, ?_⟩
  · rw [← h.2.1]; simp only [World.cell?, e1]
  · rw [← h.2.2.1]; simp only [World.cell?, e2]
  · rw [← h.2.2.2]; simp only [World.cell?, e2]
set_option maxHeartbeats 8000000 in
theorem at_calls (w0 W : World) (g : Nat) (most : Int) (v : Value) (rm : List T2) (f n : Nat) (i : Nat) (h : RG w0 W g most v rm f n) (hi : i < n) :
    Calls Try.prog 78 #[.pointer (some ⟨g, 0, none⟩), .int .i64 (i : Int)] W fun e W' => e = .returned (.tuple #[.agg #[.int .i64 ((elsR rm f n).getD i d2).1, .int .i64 ((elsR rm f n).getD i d2).2], .bool true]) ∧ Below W.heap.size W W' := by
  have hL : rm.length ≤ 1048576 := by have := h.ml; have := h.m2; omega
  have hf : f < rm.length := by have := h.fl; have := h.nl; omega
  have hn := h.nl
  have hp := posR_lt rm.length f i n hi hn hf
  have ha := elsR_at rm f n i hi
  obtain ⟨g9, c, hv, _, hg9, _⟩ := Kd.R_form h.ow (by omega)
  subst hv
  have hb1 : W.cell? ⟨g, 1, none⟩ = some (.slice (some ⟨g9, 0, none⟩) rm.length c) := blk_cell h.bk 1
  obtain ⟨x1, x2, _, _⟩ := R2_cell h.ow (posR rm.length f i) hp
  rw [← ha] at x1 x2
  have k1 : decide ((i : Int) < 0) = false := decide_eq_false (by omega)
  have k2 : decide ((i : Int) ≥ (n : Int)) = false := decide_eq_false (by omega)
  have k3 : decide ((n : Int) ≤ (i : Int)) = false := decide_eq_false (by omega)
  have k4 : decide (n ≤ i) = false := decide_eq_false (by omega)
  have HR := Aside0.mk h.bk
  have HL := Aside0.mk (show rm.length ≤ 1048576 ∧ f ≤ 1048576 ∧ i ≤ 1048576 from ⟨hL, by omega, by omega⟩)
  obtain ⟨x, hx⟩ : ∃ x, (elsR rm f n).getD i d2 = x := ⟨_, rfl⟩
  rw [hx] at x1 x2 ⊢
  obtain ⟨L, hLL⟩ : ∃ L, rm.length = L := ⟨_, rfl⟩
  have HC := Aside0.mk (fun (W2 : World) (h2 : RB W2 g most (.slice (some ⟨g9, 0, none⟩) rm.length c) f n) => place_calls W2 g most (some ⟨g9, 0, none⟩) rm.length c f n i h2 HL.out.1 HL.out.2.1 HL.out.2.2)
  obtain ⟨p, hpe⟩ : ∃ p, posR rm.length f i = p := ⟨_, rfl⟩
  rw [hpe] at hp x1 x2 HC
  have HP := Aside0.mk hpe
  rw [hLL] at HC hb1 HR hp
  have p1 := eq_true (show (0 : Int) ≤ (p : Int) by omega)
  have p2 := eq_true (show (p : Int) < (L : Int) by omega)
  have p3 := eq_true (show p < L by omega)
  have HAT := Aside0.mk (show AtS W g most g9 c L f n p x from ⟨HR.out, hb1, x1, x2⟩)
  obtain ⟨rb, hrb⟩ : ∃ rb, W.heap.size = rb := ⟨_, rfl⟩
  clear h hL hf hn hp ha hpe hi hx hLL hb1 x1 x2
  have HBA := Aside0.mk (below_alloc (Below.refl W.heap.size W) (.cells #[.int .i64 0, .int .i64 0] 29 (0, 0)))
  have hbx := heap_alloc_new W (.cells #[.int .i64 0, .int .i64 0] 29 (0, 0))
  have HRA := Aside0.mk (show RB (W.alloc (.cells #[.int .i64 0, .int .i64 0] 29 (0, 0))) g most (.slice (some ⟨g9, 0, none⟩) L c) f n from blk_below HR.out HBA.out)
  rw [hrb] at hbx
  go_enter Try.func78, Try.ntmps78
  go_wp2_with ((go_at_call 44); (with_reducible refine (len_calls _ g most _ f n HRA.out).mono ?_); rintro e w1 ⟨rfl, ⟨nd, rfl⟩⟩)
  obtain ⟨V, hV⟩ : ∃ V, W.alloc (.cells #[.int .i64 0, .int .i64 0] 29 (0, 0)) = V := ⟨_, rfl⟩
  rw [hV] at hbx HBA
  rw [hV]
  have HX := Aside0.mk (show AtS V g most g9 c L f n p x from ⟨blk_below HAT.out.1 HBA.out, pw_cell_below HBA.out HAT.out.2.1, pw_cell_below HBA.out HAT.out.2.2.1, pw_cell_below HBA.out HAT.out.2.2.2⟩)
  have hne : rb ≠ g9 := by omega
  have hne1 : rb ≠ g := by have := blk_lt HR.out; omega
  have r0 := blk_cell hbx 0
  have r1 := blk_cell hbx 1
  have fr := blk_frozen hbx
  have HBX := Aside0.mk hbx
  have HSZ : Aside0 (W.heap.size ≤ rb) := ⟨Nat.le_of_eq hrb⟩
  have HNE := Aside0.mk (And.intro hne1 hne)
  clear hV hbx hrb hg9 HRA k1 k2 k3 k4
  go_region_held3 (fun W2 => RB W2 g most (.slice (some ⟨g9, 0, none⟩) L c) f n ∧ W2.cell? ⟨g, 1, none⟩ = some (.slice (some ⟨g9, 0, none⟩) L c) ∧ W2.cell? ⟨g9, p * 2, none⟩ = some (.int .i64 x.1) ∧ W2.cell? ⟨g9, p * 2 + 1, none⟩ = some (.int .i64 x.2)) (first | assumption | exact HX.out | exact at_dr _ HX.out | exact at_dw (at_dr _ HX.out) | exact at_dw HX.out | exact at_st HNE.out.1 HNE.out.2 (at_dr _ HX.out) | exact at_dw (at_st HNE.out.1 HNE.out.2 (at_dr _ HX.out)))
    (first
      | (go_at_call 84; refine (HC.out (V.drewN _) (show RB (V.drewN _) _ _ _ _ _ from HX.out.1)).mono ?_; rintro e w2 ⟨rfl, ⟨m, rfl⟩⟩; rw [World.drewN_drewN]))
  go_wp2
  refine bodyPost_ret (results_ct rfl _ _ rb 29 #[.int .i64 x.1, .int .i64 x.2] (0, 0) _ rfl (by refine blk_put (cs := #[.int .i64 x.1, .int .i64 0]) ?_ 1 _ rfl; refine blk_put (cs := #[.int .i64 0, .int .i64 0]) ?_ 0 _ rfl; exact HBX.out) Try.underlying29 rfl (by kernel_rfl)) rfl ?_
  exact ⟨rfl, below_set (below_set (pw_below_drewN HBA.out _) HSZ.out) HSZ.out⟩
end Go.Proofs.Ytekjkookkjjbcaa.RX
