/- wakes of the statements (walked by hand): the sums that the document names. -/
import Derived.Test.YtlaglidgjnpncaaSumP
import Derived.Deep.RegionHeld3
namespace Go.Proofs.Ytlaglidgjnpncaa.SumF
set_option linter.unusedVariables false
set_option linter.unusedSimpArgs false
set_option linter.unusedVariables false
set_option linter.unusedSimpArgs false
open Go.RowKit Go.Proofs.YtlaglidgjnpncaaW.PrintWords Go.Proofs.YtlaglidgjnpncaaW.PrintLast Go.Proofs.YtlaglidgjnpncaaW.PrintMore Go.Proofs.Ytlaglidgjnpncaa.B Go.Proofs.Ytlaglidgjnpncaa.M Go.Proofs.Ytlaglidgjnpncaa.Mtx Go.Proofs.Ytlaglidgjnpncaa.Crc Go.Proofs.Ytlaglidgjnpncaa.SumP

def posthornlaw02_wakes.f : Option Bool := some true
def digs : Array Value := #[.int .u8 49, .int .u8 50, .int .u8 51, .int .u8 52, .int .u8 53, .int .u8 54, .int .u8 55, .int .u8 56, .int .u8 57]
/-- The digits' block stands. -/
def Hd (w : World) (g : Nat) (w' : World) : Prop := w'.heap[g]? = some (.cells digs 5 (0, 0)) ∧ Below w.heap.size w w'
theorem Hd.drew {w w' : World} {g : Nat} (h : Hd w g w') : Hd w g w'.drew := ⟨h.1, below_drew1 h.2⟩
theorem Hd.drewN {w w' : World} {g : Nat} (h : Hd w g w') (n : Nat) : Hd w g (w'.drewN n) := ⟨h.1, pw_below_drewN h.2 n⟩
theorem Hd.below {w w' w2 : World} {g : Nat} (h : Hd w g w') (hb : Below w'.heap.size w' w2) : Hd w g w2 := ⟨blk_below h.1 hb, below_step h.2 hb⟩

set_option maxHeartbeats 4000000 in
set_option maxRecDepth 100000 in
theorem digits_calls (w : World) :
    Calls Try.prog 37 #[] w fun e w' => ∃ g, e = .returned (.slice (some ⟨g, 0, none⟩) 9 9) ∧ Hd w g w' := by
  go_enter Try.func37, Try.ntmps37
  go_wp2
  go_ret
  exact ⟨w.heap.size, rfl, blk_new _ _, below_alloc (Below.refl _ _) _⟩

theorem C_piece {w : World} {g o : Nat} {t : TypeId} {cs : Array Value} {fr : Nat × Nat} {xs : List Int} (h : w.heap[g]? = some (.cells cs t fr)) (hs : xs.length ≤ 9223372036854775807) (hcs : (cs.toList.drop o).take xs.length = nums .u8 xs) : (Kd.int .u8).C w (some ⟨g, o, none⟩) xs.length xs := by
  refine Kd.C_of_reads (d := (0 : Int)) (h1 := fun _ => rfl) ⟨rfl, hs, fun _ => ⟨_, rfl, fun j hj => ?_⟩⟩
  have ha : (⟨g, o, none⟩ : Addr).add j = ⟨g, o + j, none⟩ := by unfold Addr.add; split <;> simp_all
  rw [ha, cell_of_row w g (o + j) cs t fr h]
  have h1 : ((cs.toList.drop o).take xs.length)[j]? = (nums .u8 xs)[j]? := by rw [hcs]
  rw [List.getElem?_take, if_pos hj, List.getElem?_drop, Array.getElem?_toList] at h1
  rw [h1]
  simp [nums, List.getD_eq_getElem?_getD, List.getElem?_eq_getElem hj]
theorem Of_piece (xs : List Int) (o c : Nat) (r : Int) (hx : sum_Of.f xs = some r) (hcs : (digs.toList.drop o).take xs.length = nums .u8 xs) (hl : xs.length ≤ 9) (hc : xs.length ≤ c) {w W : World} {g : Nat} (h : Hd w g W) :
    Calls Try.prog 12 #[.slice (some ⟨g, o, none⟩) xs.length c] W fun e w' => e = .returned (.int .u32 r) ∧ Below W.heap.size W w' :=
  sum_Of.calls _ _ xs r W (C_piece h.1 (by omega) hcs) hc hx
theorem More_piece (a : Int) (xs : List Int) (o c : Nat) (r : Int) (hx : sum_More.f a xs = some r) (hcs : (digs.toList.drop o).take xs.length = nums .u8 xs) (hl : xs.length ≤ 9) (hc : xs.length ≤ c) {w W : World} {g : Nat} (h : Hd w g W) :
    Calls Try.prog 14 #[.int .u32 a, .slice (some ⟨g, o, none⟩) xs.length c] W fun e w' => e = .returned (.int .u32 r) ∧ Below W.heap.size W w' :=
  sum_More.calls a _ _ xs r W (C_piece h.1 (by omega) hcs) hc hx
theorem of_five : sum_Of.f [49, 50, 51, 52, 53] = some (ofW (more 0#32 (ws [49, 50, 51, 52, 53]))) := Of_w _ (dig_in _ (by decide))
theorem of_four : sum_Of.f [49, 50, 51, 52] = some (ofW (more 0#32 (ws [49, 50, 51, 52]))) := Of_w _ (dig_in _ (by decide))
theorem of_last : sum_Of.f [54, 55, 56, 57] = some (ofW (more 0#32 (ws [54, 55, 56, 57]))) := Of_w _ (dig_in _ (by decide))
theorem of_all : sum_Of.f [49, 50, 51, 52, 53, 54, 55, 56, 57] = some 3808858755 := by
  rw [Of_w _ (dig_in _ (by decide))]
  decide +kernel
theorem more_all : sum_More.f (ofW (more 0#32 (ws [49, 50, 51, 52]))) [53, 54, 55, 56, 57] = some 3808858755 := by
  rw [More_w _ _ (dig_in _ (by decide)), toW_ofW]
  decide +kernel
theorem join_all : sum_Join.f (ofW (more 0#32 (ws [49, 50, 51, 52, 53]))) (ofW (more 0#32 (ws [54, 55, 56, 57]))) 4 = some (3808858755, 0) := by
  have h := Join_w (more 0#32 (ws [49, 50, 51, 52, 53])) (more 0#32 (ws [54, 55, 56, 57])) 4 (by decide)
  rw [show ((4 : Nat) : Int) = 4 from rfl] at h
  rw [h]
  decide +kernel

set_option maxHeartbeats 8000000 in
set_option maxRecDepth 100000 in
theorem posthornlaw02_wakes.calls (r : Bool) (w : World) (h : posthornlaw02_wakes.f = some r) :
    Calls Try.prog 16 #[] w fun e w' => e = .returned (.bool r) ∧ Below w.heap.size w w' := by
  obtain rfl := Option.some.inj h
  clear h
  have J := Aside0.mk join_all
  have M := Aside0.mk more_all
  obtain ⟨r5, h5⟩ : ∃ r, r = ofW (more 0#32 (ws [49, 50, 51, 52, 53])) := ⟨_, rfl⟩
  obtain ⟨r4, h4⟩ : ∃ r, r = ofW (more 0#32 (ws [54, 55, 56, 57])) := ⟨_, rfl⟩
  obtain ⟨q4, k4⟩ : ∃ r, r = ofW (more 0#32 (ws [49, 50, 51, 52])) := ⟨_, rfl⟩
  have O5 := Aside0.mk of_five
  have O4 := Aside0.mk of_last
  have Q4 := Aside0.mk of_four
  rw [← h5] at J O5
  rw [← h4] at J O4
  rw [← k4] at M Q4
  clear h5 h4 k4
  go_enter Try.func16, Try.ntmps16
  go_wp2_with (go_at_call 37; refine (digits_calls _).mono ?_; rintro e w1 ⟨g, rfl, hd⟩)
  go_region_held3 (Hd w g) (first | assumption | exact Hd.drew (by assumption) | exact Hd.drewN (by assumption) _)
    (first
      | (go_at_call 12; refine (Of_piece [49, 50, 51, 52, 53] 0 9 r5 O5.out rfl (by decide) (by decide) (by assumption : Hd w g _)).mono ?_; rintro e w2 ⟨rfl, hb⟩; have hd2 := Hd.below (by assumption : Hd w g _) hb; clear hb)
      | (go_at_call 12; refine (Of_piece [54, 55, 56, 57] 5 4 r4 O4.out rfl (by decide) (by decide) (by assumption : Hd w g _)).mono ?_; rintro e w2 ⟨rfl, hb⟩; have hd2 := Hd.below (by assumption : Hd w g _) hb; clear hb)
      | (go_at_call 18; refine (sum_Join.calls r5 r4 4 3808858755 0 _ J.out).mono ?_; rintro e w2 ⟨rfl, hb⟩; have hd2 := Hd.below (by assumption : Hd w g _) hb; clear hb))
  go_wp2
  go_region_held3 (Hd w g) (first | assumption | exact Hd.drew (by assumption) | exact Hd.drewN (by assumption) _)
    (first
      | (go_at_call 12; refine (Of_piece [49, 50, 51, 52, 53, 54, 55, 56, 57] 0 9 3808858755 of_all rfl (by decide) (by decide) (by assumption : Hd w g _)).mono ?_; rintro e w2 ⟨rfl, hb⟩; have hd2 := Hd.below (by assumption : Hd w g _) hb; clear hb)
      | (go_at_call 12; refine (Of_piece [49, 50, 51, 52] 0 9 q4 Q4.out rfl (by decide) (by decide) (by assumption : Hd w g _)).mono ?_; rintro e w2 ⟨rfl, hb⟩; have hd2 := Hd.below (by assumption : Hd w g _) hb; clear hb)
      | (go_at_call 14; refine (More_piece q4 [53, 54, 55, 56, 57] 4 5 3808858755 M.out rfl (by decide) (by decide) (by assumption : Hd w g _)).mono ?_; rintro e w2 ⟨rfl, hb⟩; have hd2 := Hd.below (by assumption : Hd w g _) hb; clear hb))
  go_wp2
  go_ret
  exact ⟨rfl, (by assumption : Hd w g _).2⟩
end Go.Proofs.Ytlaglidgjnpncaa.SumF
