/- The reference's Print of a date that may be (walked by hand). -/
import Derived.Test.YtnmhkmkaklhapaaDoorPrint
import Derived.Test.YtnmhkmkaklhapaaDoorRefs
import Derived.Test.YtnmhkmkaklhapaaDoorWrt
namespace Go.Proofs.YtnmhkmkaklhapaaDoor.DP
set_option linter.unusedVariables false
set_option linter.unusedSimpArgs false
open Go.RowKit Go.Proofs.YtnmhkmkaklhapaaDoorW.PrintWords Go.Proofs.YtnmhkmkaklhapaaDoorW.PrintLast Go.Proofs.YtnmhkmkaklhapaaDoorW.PrintMore Go.Proofs.YtnmhkmkaklhapaaDoor.B Go.Proofs.YtnmhkmkaklhapaaDoor.Cal Go.Proofs.YtnmhkmkaklhapaaDoor.Chk Go.Proofs.YtnmhkmkaklhapaaDoor.MN Go.Proofs.YtnmhkmkaklhapaaDoor.T Go.Proofs.YtnmhkmkaklhapaaDoor.M Go.Proofs.YtnmhkmkaklhapaaDoor.Dec
def WKDU : List Int := [83, 85, 78, 77, 79, 78, 84, 85, 69, 87, 69, 68, 84, 72, 85, 70, 82, 73, 83, 65, 84]
def MONU : List Int := [74, 65, 78, 70, 69, 66, 77, 65, 82, 65, 80, 82, 77, 65, 89, 74, 85, 78, 74, 85, 76, 65, 85, 71, 83, 69, 80, 79, 67, 84, 78, 79, 86, 68, 69, 67]
theorem wkdu_in : InB WKDU := by intro x hx; unfold WKDU at hx; simp only [List.mem_cons, List.not_mem_nil, or_false] at hx; omega
theorem monu_in : InB MONU := by intro x hx; unfold MONU at hx; simp only [List.mem_cons, List.not_mem_nil, or_false] at hx; omega
theorem written_wkd (k : Nat) (hk : k < 7) (w : World) : Calls Tryd.prog 53 #[.string (strOfNums WKDU), .int .i64 (k : Int)] w fun e w' => e = .returned (.string (strOfNums ((WKD.drop (3 * k)).take 3))) ∧ Below w.heap.size w w' := by
  have : ∃ a b c : Int, (WKDU.drop (3 * k)).take 3 = [a, b, c] ∧ b ≤ 223 ∧ c ≤ 223 ∧ (WKD.drop (3 * k)).take 3 = [a, b + 32, c + 32] := by
    have : k = 0 ∨ k = 1 ∨ k = 2 ∨ k = 3 ∨ k = 4 ∨ k = 5 ∨ k = 6 := by omega
    rcases this with rfl | rfl | rfl | rfl | rfl | rfl | rfl <;> exact ⟨_, _, _, rfl, by decide, by decide, rfl⟩
  obtain ⟨a, b, c, h1, h2, h3, h4⟩ := this
  rw [h4]
  exact written_calls WKDU wkdu_in k a b c h1 (by rw [show WKDU.length = 21 from rfl]; omega) (by decide) h2 h3 w
theorem written_mon (k : Nat) (hk : k < 12) (w : World) : Calls Tryd.prog 53 #[.string (strOfNums MONU), .int .i64 (k : Int)] w fun e w' => e = .returned (.string (strOfNums ((MON.drop (3 * k)).take 3))) ∧ Below w.heap.size w w' := by
  have : ∃ a b c : Int, (MONU.drop (3 * k)).take 3 = [a, b, c] ∧ b ≤ 223 ∧ c ≤ 223 ∧ (MON.drop (3 * k)).take 3 = [a, b + 32, c + 32] := by
    have : k = 0 ∨ k = 1 ∨ k = 2 ∨ k = 3 ∨ k = 4 ∨ k = 5 ∨ k = 6 ∨ k = 7 ∨ k = 8 ∨ k = 9 ∨ k = 10 ∨ k = 11 := by omega
    rcases this with rfl | rfl | rfl | rfl | rfl | rfl | rfl | rfl | rfl | rfl | rfl | rfl <;> exact ⟨_, _, _, rfl, by decide, by decide, rfl⟩
  obtain ⟨a, b, c, h1, h2, h3, h4⟩ := this
  rw [h4]
  exact written_calls MONU monu_in k a b c h1 (by rw [show MONU.length = 36 from rfl]; omega) (by decide) h2 h3 w
theorem written_wkd' (k : Nat) (hk : k < 7) (w : World) : Calls Tryd.prog 53 #[.string (⟨#[83, 85, 78, 77, 79, 78, 84, 85, 69, 87, 69, 68, 84, 72, 85, 70, 82, 73, 83, 65, 84]⟩ : ByteArray), .int .i64 (k : Int)] w fun e w' => e = .returned (.string (strOfNums ((WKD.drop (3 * k)).take 3))) ∧ Below w.heap.size w w' := by
  rw [show (⟨#[83, 85, 78, 77, 79, 78, 84, 85, 69, 87, 69, 68, 84, 72, 85, 70, 82, 73, 83, 65, 84]⟩ : ByteArray) = strOfNums WKDU from by kernel_rfl]
  exact written_wkd k hk w
theorem written_mon' (k : Nat) (hk : k < 12) (w : World) : Calls Tryd.prog 53 #[.string (⟨#[74, 65, 78, 70, 69, 66, 77, 65, 82, 65, 80, 82, 77, 65, 89, 74, 85, 78, 74, 85, 76, 65, 85, 71, 83, 69, 80, 79, 67, 84, 78, 79, 86, 68, 69, 67]⟩ : ByteArray), .int .i64 (k : Int)] w fun e w' => e = .returned (.string (strOfNums ((MON.drop (3 * k)).take 3))) ∧ Below w.heap.size w w' := by
  rw [show (⟨#[74, 65, 78, 70, 69, 66, 77, 65, 82, 65, 80, 82, 77, 65, 89, 74, 85, 78, 74, 85, 76, 65, 85, 71, 83, 69, 80, 79, 67, 84, 78, 79, 86, 68, 69, 67]⟩ : ByteArray) = strOfNums MONU from by kernel_rfl]
  exact written_mon k hk w
set_option maxHeartbeats 4000000 in
set_option maxRecDepth 100000 in
theorem rprint_way (y mo d h m s z zz : Int) (neg : Bool) (hn : decide (z < 0) = neg) (hI : allI y mo d h m s z) (hc : chkV y mo d h m s z = 0) (hb : (1 ≤ y ∧ y ≤ 9999) ∧ (1 ≤ mo ∧ mo ≤ 12) ∧ (1 ≤ d ∧ d ≤ 31) ∧ (0 ≤ h ∧ h ≤ 23) ∧ (0 ≤ m ∧ m ≤ 59) ∧ (0 ≤ s ∧ s ≤ 59) ∧ (-1439 ≤ z ∧ z ≤ 1439)) (hzz : zz = if z < 0 then -z else z) (w : World) :
    Calls Tryd.prog 27 #[.agg #[.int .i16 y, .int .i8 mo, .int .i8 d, .int .i8 h, .int .i8 m, .int .i8 s, .int .i16 z]] w fun e w' => e = .returned (.tuple #[.string (strOfNums (printL (wkV (daysV y mo d).1) y mo d h m s z)), .int .i64 0]) ∧ Below w.heap.size w w' := by
  obtain ⟨hb1, hb2, hb3, hb4, hb5, hb6, hb7⟩ := hb
  obtain ⟨dv, hdv⟩ : ∃ c, (daysV y mo d).1 = c := ⟨_, rfl⟩
  obtain ⟨de, hde⟩ : ∃ c, (daysV y mo d).2 = c := ⟨_, rfl⟩
  obtain ⟨wk, hwk⟩ : ∃ c, wkV dv = c := ⟨_, rfl⟩
  rw [hdv, hwk]
  have h0 : PS w w.heap.size y mo d h m s z (w.alloc (.cells #[.int .i16 y, .int .i8 mo, .int .i8 d, .int .i8 h, .int .i8 m, .int .i8 s, .int .i16 z] 30)) := ⟨heap_alloc_new w _, below_alloc (Below.refl _ _) _⟩
  have HP0 := Aside0.mk h0
  have hI_ := Aside0.mk hI
  have hI1 := Aside0.mk (show I16 y from hI.1)
  have hI2 := Aside0.mk (show I8 mo from hI.2.1)
  have hI3 := Aside0.mk (show I8 d from hI.2.2.1)
  have hc_ := Aside0.mk hc
  have hwr := wk_range dv
  rw [hwk] at hwr
  have hz0 : 0 ≤ zz ∧ zz ≤ 1439 := by rw [hzz]; split <;> omega
  obtain ⟨K, eK⟩ : ∃ n : Nat, n = wk.toNat := ⟨_, rfl⟩
  obtain ⟨M1, eM1⟩ : ∃ n : Nat, n = (mo - 1).toNat := ⟨_, rfl⟩
  obtain ⟨D, eD⟩ : ∃ n : Nat, n = d.toNat := ⟨_, rfl⟩
  obtain ⟨Y, eY⟩ : ∃ n : Nat, n = y.toNat := ⟨_, rfl⟩
  obtain ⟨H, eH⟩ : ∃ n : Nat, n = h.toNat := ⟨_, rfl⟩
  obtain ⟨M, eM⟩ : ∃ n : Nat, n = m.toNat := ⟨_, rfl⟩
  obtain ⟨SS, eS⟩ : ∃ n : Nat, n = s.toNat := ⟨_, rfl⟩
  obtain ⟨ZH, eZH⟩ : ∃ n : Nat, n = z.natAbs / 60 := ⟨_, rfl⟩
  obtain ⟨ZM, eZM⟩ : ∃ n : Nat, n = z.natAbs % 60 := ⟨_, rfl⟩
  have u1 : IntKind.i64.wrap wk = (K : Int) := by rw [i64_w, wrap_id _ (by omega) (by omega)]; omega
  have u2 : IntKind.i64.wrap mo = mo := by rw [i64_w, wrap_id _ (by omega) (by omega)]
  have u3 : IntKind.i64.wrap (mo - 1) = (M1 : Int) := by rw [i64_w, wrap_id _ (by omega) (by omega)]; omega
  have u4 : IntKind.i64.wrap d = (D : Int) := by rw [i64_w, wrap_id _ (by omega) (by omega)]; omega
  have u5 : IntKind.i64.wrap y = (Y : Int) := by rw [i64_w, wrap_id _ (by omega) (by omega)]; omega
  have u6 : IntKind.i64.wrap h = (H : Int) := by rw [i64_w, wrap_id _ (by omega) (by omega)]; omega
  have u7 : IntKind.i64.wrap m = (M : Int) := by rw [i64_w, wrap_id _ (by omega) (by omega)]; omega
  have u8 : IntKind.i64.wrap s = (SS : Int) := by rw [i64_w, wrap_id _ (by omega) (by omega)]; omega
  have u9 : IntKind.i64.wrap z = z := by rw [i64_w, wrap_id _ (by omega) (by omega)]
  have hK := Aside0.mk (show K < 7 by omega)
  have hM1 := Aside0.mk (show M1 < 12 by omega)
  have HN : Aside0 (D < 10000 ∧ Y < 10000 ∧ H < 10000 ∧ M < 10000 ∧ SS < 10000 ∧ ZH < 10000 ∧ ZM < 10000) := ⟨by omega, by omega, by omega, by omega, by omega, by omega, by omega⟩
  obtain ⟨wk3, hw3⟩ : ∃ l, (WKD.drop (3 * K)).take 3 = l := ⟨_, rfl⟩
  obtain ⟨mo3, hm3⟩ : ∃ l, (MON.drop (3 * M1)).take 3 = l := ⟨_, rfl⟩
  have HZ := Aside0.mk (And.intro eK (And.intro eM1 (And.intro eD (And.intro eY (And.intro eH (And.intro eM (And.intro eS (And.intro eZH eZM))))))))
  have HW := Aside0.mk (And.intro hw3 hm3)
  cases neg with
  | true =>
    have n1 : z < 0 := of_decide_eq_true hn
    have HN1 := Aside0.mk n1
    have n2 : IntKind.i64.wrap (-z) = -z := by rw [i64_w, wrap_id _ (by omega) (by omega)]
    have t0 : -z = zz := by rw [if_pos n1] at hzz; exact hzz.symm
    have n3 : -(z.tdiv 60) = (ZH : Int) := by rw [← Int.neg_tdiv, Int.tdiv_eq_ediv_of_nonneg (by omega)]; omega
    have n4 : -(z.tmod 60) = (ZM : Int) := by rw [← Int.neg_tmod, Int.tmod_eq_emod_of_nonneg (by omega)]; omega
    have n5 : IntKind.i64.wrap (ZH : Int) = (ZH : Int) := by rw [i64_w, wrap_id _ (by omega) (by omega)]
    clear t0
    have l0 : wk3.length ≤ 3 := by rw [← hw3, List.length_take]; omega
    have lm : mo3.length ≤ 3 := by rw [← hm3, List.length_take]; omega
    obtain ⟨L1, hL1⟩ : ∃ l, wk3 ++ [44, 32] = l := ⟨_, rfl⟩
    have l1 : L1.length ≤ 8 := by have := (by decide : ([44, 32] : List Int).length ≤ 4); rw [← hL1, List.length_append]; omega
    have k1 : Op.stringOp .add (strOfNums wk3) (⟨#[44, 32]⟩ : ByteArray) = pure (.string (strOfNums L1)) := by rw [show (⟨#[44, 32]⟩ : ByteArray) = strOfNums [44, 32] from by kernel_rfl]; refine (add_str _ _ (by have := (by decide : ([44, 32] : List Int).length ≤ 4); omega)).trans (by rw [hL1])
    clear l0
    obtain ⟨L2, hL2⟩ : ∃ l, L1 ++ padL D 1 = l := ⟨_, rfl⟩
    have l2 : L2.length ≤ 12 := by have := padL_len D 1 (by omega) (by decide); rw [← hL2, List.length_append]; omega
    have k2 : Op.stringOp .add (strOfNums L1) (strOfNums (padL D 1)) = pure (.string (strOfNums L2)) := by refine (add_str _ _ (by have := padL_len D 1 (by omega) (by decide); omega)).trans (by rw [hL2])
    clear l1
    obtain ⟨L3, hL3⟩ : ∃ l, L2 ++ [32] = l := ⟨_, rfl⟩
    have l3 : L3.length ≤ 16 := by have := (by decide : ([32] : List Int).length ≤ 4); rw [← hL3, List.length_append]; omega
    have k3 : Op.stringOp .add (strOfNums L2) (⟨#[32]⟩ : ByteArray) = pure (.string (strOfNums L3)) := by rw [show (⟨#[32]⟩ : ByteArray) = strOfNums [32] from by kernel_rfl]; refine (add_str _ _ (by have := (by decide : ([32] : List Int).length ≤ 4); omega)).trans (by rw [hL3])
    clear l2
    obtain ⟨L4, hL4⟩ : ∃ l, L3 ++ mo3 = l := ⟨_, rfl⟩
    have l4 : L4.length ≤ 20 := by have := (by omega : mo3.length ≤ 4); rw [← hL4, List.length_append]; omega
    have k4 : Op.stringOp .add (strOfNums L3) (strOfNums mo3) = pure (.string (strOfNums L4)) := by refine (add_str _ _ (by have := (by omega : mo3.length ≤ 4); omega)).trans (by rw [hL4])
    clear l3
    obtain ⟨L5, hL5⟩ : ∃ l, L4 ++ [32] = l := ⟨_, rfl⟩
    have l5 : L5.length ≤ 24 := by have := (by decide : ([32] : List Int).length ≤ 4); rw [← hL5, List.length_append]; omega
    have k5 : Op.stringOp .add (strOfNums L4) (⟨#[32]⟩ : ByteArray) = pure (.string (strOfNums L5)) := by rw [show (⟨#[32]⟩ : ByteArray) = strOfNums [32] from by kernel_rfl]; refine (add_str _ _ (by have := (by decide : ([32] : List Int).length ≤ 4); omega)).trans (by rw [hL5])
    clear l4
    obtain ⟨L6, hL6⟩ : ∃ l, L5 ++ padL Y 4 = l := ⟨_, rfl⟩
    have l6 : L6.length ≤ 28 := by have := padL_len Y 4 (by omega) (by decide); rw [← hL6, List.length_append]; omega
    have k6 : Op.stringOp .add (strOfNums L5) (strOfNums (padL Y 4)) = pure (.string (strOfNums L6)) := by refine (add_str _ _ (by have := padL_len Y 4 (by omega) (by decide); omega)).trans (by rw [hL6])
    clear l5
    obtain ⟨L7, hL7⟩ : ∃ l, L6 ++ [32] = l := ⟨_, rfl⟩
    have l7 : L7.length ≤ 32 := by have := (by decide : ([32] : List Int).length ≤ 4); rw [← hL7, List.length_append]; omega
    have k7 : Op.stringOp .add (strOfNums L6) (⟨#[32]⟩ : ByteArray) = pure (.string (strOfNums L7)) := by rw [show (⟨#[32]⟩ : ByteArray) = strOfNums [32] from by kernel_rfl]; refine (add_str _ _ (by have := (by decide : ([32] : List Int).length ≤ 4); omega)).trans (by rw [hL7])
    clear l6
    obtain ⟨L8, hL8⟩ : ∃ l, L7 ++ padL H 2 = l := ⟨_, rfl⟩
    have l8 : L8.length ≤ 36 := by have := padL_len H 2 (by omega) (by decide); rw [← hL8, List.length_append]; omega
    have k8 : Op.stringOp .add (strOfNums L7) (strOfNums (padL H 2)) = pure (.string (strOfNums L8)) := by refine (add_str _ _ (by have := padL_len H 2 (by omega) (by decide); omega)).trans (by rw [hL8])
    clear l7
    obtain ⟨L9, hL9⟩ : ∃ l, L8 ++ [58] = l := ⟨_, rfl⟩
    have l9 : L9.length ≤ 40 := by have := (by decide : ([58] : List Int).length ≤ 4); rw [← hL9, List.length_append]; omega
    have k9 : Op.stringOp .add (strOfNums L8) (⟨#[58]⟩ : ByteArray) = pure (.string (strOfNums L9)) := by rw [show (⟨#[58]⟩ : ByteArray) = strOfNums [58] from by kernel_rfl]; refine (add_str _ _ (by have := (by decide : ([58] : List Int).length ≤ 4); omega)).trans (by rw [hL9])
    clear l8
    obtain ⟨L10, hL10⟩ : ∃ l, L9 ++ padL M 2 = l := ⟨_, rfl⟩
    have l10 : L10.length ≤ 44 := by have := padL_len M 2 (by omega) (by decide); rw [← hL10, List.length_append]; omega
    have k10 : Op.stringOp .add (strOfNums L9) (strOfNums (padL M 2)) = pure (.string (strOfNums L10)) := by refine (add_str _ _ (by have := padL_len M 2 (by omega) (by decide); omega)).trans (by rw [hL10])
    clear l9
    obtain ⟨L11, hL11⟩ : ∃ l, L10 ++ [58] = l := ⟨_, rfl⟩
    have l11 : L11.length ≤ 48 := by have := (by decide : ([58] : List Int).length ≤ 4); rw [← hL11, List.length_append]; omega
    have k11 : Op.stringOp .add (strOfNums L10) (⟨#[58]⟩ : ByteArray) = pure (.string (strOfNums L11)) := by rw [show (⟨#[58]⟩ : ByteArray) = strOfNums [58] from by kernel_rfl]; refine (add_str _ _ (by have := (by decide : ([58] : List Int).length ≤ 4); omega)).trans (by rw [hL11])
    clear l10
    obtain ⟨L12, hL12⟩ : ∃ l, L11 ++ padL SS 2 = l := ⟨_, rfl⟩
    have l12 : L12.length ≤ 52 := by have := padL_len SS 2 (by omega) (by decide); rw [← hL12, List.length_append]; omega
    have k12 : Op.stringOp .add (strOfNums L11) (strOfNums (padL SS 2)) = pure (.string (strOfNums L12)) := by refine (add_str _ _ (by have := padL_len SS 2 (by omega) (by decide); omega)).trans (by rw [hL12])
    clear l11
    obtain ⟨L13, hL13⟩ : ∃ l, L12 ++ [32] = l := ⟨_, rfl⟩
    have l13 : L13.length ≤ 56 := by have := (by decide : ([32] : List Int).length ≤ 4); rw [← hL13, List.length_append]; omega
    have k13 : Op.stringOp .add (strOfNums L12) (⟨#[32]⟩ : ByteArray) = pure (.string (strOfNums L13)) := by rw [show (⟨#[32]⟩ : ByteArray) = strOfNums [32] from by kernel_rfl]; refine (add_str _ _ (by have := (by decide : ([32] : List Int).length ≤ 4); omega)).trans (by rw [hL13])
    clear l12
    obtain ⟨L14, hL14⟩ : ∃ l, L13 ++ [45] = l := ⟨_, rfl⟩
    have l14 : L14.length ≤ 60 := by have := (by decide : ([45] : List Int).length ≤ 4); rw [← hL14, List.length_append]; omega
    have k14 : Op.stringOp .add (strOfNums L13) (⟨#[45]⟩ : ByteArray) = pure (.string (strOfNums L14)) := by rw [show (⟨#[45]⟩ : ByteArray) = strOfNums [45] from by kernel_rfl]; refine (add_str _ _ (by have := (by decide : ([45] : List Int).length ≤ 4); omega)).trans (by rw [hL14])
    clear l13
    obtain ⟨L15, hL15⟩ : ∃ l, L14 ++ padL ZH 2 = l := ⟨_, rfl⟩
    have l15 : L15.length ≤ 64 := by have := padL_len ZH 2 (by omega) (by decide); rw [← hL15, List.length_append]; omega
    have k15 : Op.stringOp .add (strOfNums L14) (strOfNums (padL ZH 2)) = pure (.string (strOfNums L15)) := by refine (add_str _ _ (by have := padL_len ZH 2 (by omega) (by decide); omega)).trans (by rw [hL15])
    clear l14
    obtain ⟨L16, hL16⟩ : ∃ l, L15 ++ padL ZM 2 = l := ⟨_, rfl⟩
    have l16 : L16.length ≤ 68 := by have := padL_len ZM 2 (by omega) (by decide); rw [← hL16, List.length_append]; omega
    have k16 : Op.stringOp .add (strOfNums L15) (strOfNums (padL ZM 2)) = pure (.string (strOfNums L16)) := by refine (add_str _ _ (by have := padL_len ZM 2 (by omega) (by decide); omega)).trans (by rw [hL16])
    clear l15
    have HL : Aside0 (L16 = wk3 ++ [44, 32] ++ padL D 1 ++ [32] ++ mo3 ++ [32] ++ padL Y 4 ++ [32] ++ padL H 2 ++ [58] ++ padL M 2 ++ [58] ++ padL SS 2 ++ [32] ++ [45] ++ padL ZH 2 ++ padL ZM 2) := ⟨by rw [← hL16, ← hL15, ← hL14, ← hL13, ← hL12, ← hL11, ← hL10, ← hL9, ← hL8, ← hL7, ← hL6, ← hL5, ← hL4, ← hL3, ← hL2, ← hL1]⟩
    clear hL1 hL2 hL3 hL4 hL5 hL6 hL7 hL8 hL9 hL10 hL11 hL12 hL13 hL14 hL15 hL16 l16 lm
    have hdv_ := Aside0.mk hdv
    have hde_ := Aside0.mk hde
    have hwk_ := Aside0.mk hwk
    clear hdv hde hwk hw3 hm3
    clear h0 hI hc hwr hz0 eK eM1 eD eY eH eM eS eZH eZM hb1 hb2 hb3 hb4 hb5 hb6 hb7 hzz
    go_enter Tryd.func27, Tryd.ntmps27
    go_wp2_with (first
      | ((go_at_call 30); (with_reducible refine (refCheck_calls y mo d h m s z hI_.out _).mono ?_); rintro e w1 ⟨rfl, hb⟩; rw [hc_.out]; have HP1 := Aside0.mk (HP0.out.below hb); obtain ⟨a1, a2, a3, a4, a5, a6, a7, a8⟩ := DT.all HP1.out.1; clear hb)
      | ((go_at_call 13); (with_reducible refine (refDays_calls y mo d hI1.out hI2.out hI3.out _).mono ?_); rintro e w2 ⟨rfl, hb⟩; rw [hdv_.out, hde_.out]; have HP2 := Aside0.mk (HP1.out.below hb.below); obtain ⟨b1, b2, b3, b4, b5, b6, b7, b8⟩ := DT.all HP2.out.1; clear hb))
    go_region_held3 (fun W => PS w w.heap.size y mo d h m s z W ∧ W.cell? ⟨w.heap.size, 0, none⟩ = some (.int .i16 y) ∧ W.cell? ⟨w.heap.size, 1, none⟩ = some (.int .i8 mo) ∧ W.cell? ⟨w.heap.size, 2, none⟩ = some (.int .i8 d) ∧ W.cell? ⟨w.heap.size, 3, none⟩ = some (.int .i8 h) ∧ W.cell? ⟨w.heap.size, 4, none⟩ = some (.int .i8 m) ∧ W.cell? ⟨w.heap.size, 5, none⟩ = some (.int .i8 s) ∧ W.cell? ⟨w.heap.size, 6, none⟩ = some (.int .i16 z)) (first | assumption | exact PS.full HP2.out | exact PS.full HP2.out.drew | exact PS.full (by assumption) | exact PS.full (PS.drew (PS.of_full (by assumption))))
      (((first
      | (go_at_call 21; (with_reducible refine (refWeekday_calls dv _).mono ?_); rintro e wp ⟨rfl, hb⟩; rw [hwk_.out]; have hb := hb.below; have hpp : PS w w.heap.size y mo d h m s z wp := PS.below (PS.of_full (by first | assumption | exact PS.full HP2.out.drew | exact PS.full HP2.out)) hb; clear hb)
      | (go_at_call 53; (first | (with_reducible refine (written_wkd' K hK.out _).mono ?_) | (with_reducible refine (written_mon' M1 hM1.out _).mono ?_)); rintro e wp ⟨rfl, hb⟩; (first | rw [HW.out.1] | rw [HW.out.2]); have hpp : PS w w.heap.size y mo d h m s z wp := PS.below (PS.of_full (by first | assumption | exact PS.full HP2.out.drew | exact PS.full HP2.out)) hb; clear hb)
      | (go_at_call 54; (first | (refine (calls_of_args (args' := #[.int .i64 ((D : Nat) : Int), .int .i64 ((1 : Nat) : Int)]) rfl ?_); (with_reducible refine (refDigits_calls D 1 HN.out.1 (by decide) (by decide) _).mono ?_)) | (refine (calls_of_args (args' := #[.int .i64 ((Y : Nat) : Int), .int .i64 ((4 : Nat) : Int)]) rfl ?_); (with_reducible refine (refDigits_calls Y 4 HN.out.2.1 (by decide) (by decide) _).mono ?_)) | (refine (calls_of_args (args' := #[.int .i64 ((H : Nat) : Int), .int .i64 ((2 : Nat) : Int)]) rfl ?_); (with_reducible refine (refDigits_calls H 2 HN.out.2.2.1 (by decide) (by decide) _).mono ?_)) | (refine (calls_of_args (args' := #[.int .i64 ((M : Nat) : Int), .int .i64 ((2 : Nat) : Int)]) rfl ?_); (with_reducible refine (refDigits_calls M 2 HN.out.2.2.2.1 (by decide) (by decide) _).mono ?_)) | (refine (calls_of_args (args' := #[.int .i64 ((SS : Nat) : Int), .int .i64 ((2 : Nat) : Int)]) rfl ?_); (with_reducible refine (refDigits_calls SS 2 HN.out.2.2.2.2.1 (by decide) (by decide) _).mono ?_)) | (refine (calls_of_args (args' := #[.int .i64 ((ZH : Nat) : Int), .int .i64 ((2 : Nat) : Int)]) rfl ?_); (with_reducible refine (refDigits_calls ZH 2 HN.out.2.2.2.2.2.1 (by decide) (by decide) _).mono ?_)) | (refine (calls_of_args (args' := #[.int .i64 ((ZM : Nat) : Int), .int .i64 ((2 : Nat) : Int)]) rfl ?_); (with_reducible refine (refDigits_calls ZM 2 HN.out.2.2.2.2.2.2 (by decide) (by decide) _).mono ?_))); rintro e wp ⟨rfl, hb⟩; have hpp : PS w w.heap.size y mo d h m s z wp := PS.below (PS.of_full (by first | assumption | exact PS.full HP2.out.drew | exact PS.full HP2.out)) hb; clear hb))))
    go_wp2
    go_ret2
    refine ⟨?_, (PS.of_full (by assumption)).2⟩
    have e : L16 = printL wk y mo d h m s z := by
      rw [HL.out]
      unfold printL
      obtain ⟨z1, z2, z3, z4, z5, z6, z7, z8, z9⟩ := HZ.out
      rw [← z1, ← z2, ← z3, ← z4, ← z5, ← z6, ← z7, ← z8, ← z9, HW.out.1, HW.out.2, if_pos (by have := HN1.out; omega)]
    rw [e]
    rfl
  | false =>
    have n1 : ¬ z < 0 := of_decide_eq_false hn
    have HN1 := Aside0.mk n1
    have n3 : z.tdiv 60 = (ZH : Int) := by rw [Int.tdiv_eq_ediv_of_nonneg (by omega)]; omega
    have n4 : z.tmod 60 = (ZM : Int) := by rw [Int.tmod_eq_emod_of_nonneg (by omega)]; omega
    have n5 : IntKind.i64.wrap (ZH : Int) = (ZH : Int) := by rw [i64_w, wrap_id _ (by omega) (by omega)]
    have l0 : wk3.length ≤ 3 := by rw [← hw3, List.length_take]; omega
    have lm : mo3.length ≤ 3 := by rw [← hm3, List.length_take]; omega
    obtain ⟨L1, hL1⟩ : ∃ l, wk3 ++ [44, 32] = l := ⟨_, rfl⟩
    have l1 : L1.length ≤ 8 := by have := (by decide : ([44, 32] : List Int).length ≤ 4); rw [← hL1, List.length_append]; omega
    have k1 : Op.stringOp .add (strOfNums wk3) (⟨#[44, 32]⟩ : ByteArray) = pure (.string (strOfNums L1)) := by rw [show (⟨#[44, 32]⟩ : ByteArray) = strOfNums [44, 32] from by kernel_rfl]; refine (add_str _ _ (by have := (by decide : ([44, 32] : List Int).length ≤ 4); omega)).trans (by rw [hL1])
    clear l0
    obtain ⟨L2, hL2⟩ : ∃ l, L1 ++ padL D 1 = l := ⟨_, rfl⟩
    have l2 : L2.length ≤ 12 := by have := padL_len D 1 (by omega) (by decide); rw [← hL2, List.length_append]; omega
    have k2 : Op.stringOp .add (strOfNums L1) (strOfNums (padL D 1)) = pure (.string (strOfNums L2)) := by refine (add_str _ _ (by have := padL_len D 1 (by omega) (by decide); omega)).trans (by rw [hL2])
    clear l1
    obtain ⟨L3, hL3⟩ : ∃ l, L2 ++ [32] = l := ⟨_, rfl⟩
    have l3 : L3.length ≤ 16 := by have := (by decide : ([32] : List Int).length ≤ 4); rw [← hL3, List.length_append]; omega
    have k3 : Op.stringOp .add (strOfNums L2) (⟨#[32]⟩ : ByteArray) = pure (.string (strOfNums L3)) := by rw [show (⟨#[32]⟩ : ByteArray) = strOfNums [32] from by kernel_rfl]; refine (add_str _ _ (by have := (by decide : ([32] : List Int).length ≤ 4); omega)).trans (by rw [hL3])
    clear l2
    obtain ⟨L4, hL4⟩ : ∃ l, L3 ++ mo3 = l := ⟨_, rfl⟩
    have l4 : L4.length ≤ 20 := by have := (by omega : mo3.length ≤ 4); rw [← hL4, List.length_append]; omega
    have k4 : Op.stringOp .add (strOfNums L3) (strOfNums mo3) = pure (.string (strOfNums L4)) := by refine (add_str _ _ (by have := (by omega : mo3.length ≤ 4); omega)).trans (by rw [hL4])
    clear l3
    obtain ⟨L5, hL5⟩ : ∃ l, L4 ++ [32] = l := ⟨_, rfl⟩
    have l5 : L5.length ≤ 24 := by have := (by decide : ([32] : List Int).length ≤ 4); rw [← hL5, List.length_append]; omega
    have k5 : Op.stringOp .add (strOfNums L4) (⟨#[32]⟩ : ByteArray) = pure (.string (strOfNums L5)) := by rw [show (⟨#[32]⟩ : ByteArray) = strOfNums [32] from by kernel_rfl]; refine (add_str _ _ (by have := (by decide : ([32] : List Int).length ≤ 4); omega)).trans (by rw [hL5])
    clear l4
    obtain ⟨L6, hL6⟩ : ∃ l, L5 ++ padL Y 4 = l := ⟨_, rfl⟩
    have l6 : L6.length ≤ 28 := by have := padL_len Y 4 (by omega) (by decide); rw [← hL6, List.length_append]; omega
    have k6 : Op.stringOp .add (strOfNums L5) (strOfNums (padL Y 4)) = pure (.string (strOfNums L6)) := by refine (add_str _ _ (by have := padL_len Y 4 (by omega) (by decide); omega)).trans (by rw [hL6])
    clear l5
    obtain ⟨L7, hL7⟩ : ∃ l, L6 ++ [32] = l := ⟨_, rfl⟩
    have l7 : L7.length ≤ 32 := by have := (by decide : ([32] : List Int).length ≤ 4); rw [← hL7, List.length_append]; omega
    have k7 : Op.stringOp .add (strOfNums L6) (⟨#[32]⟩ : ByteArray) = pure (.string (strOfNums L7)) := by rw [show (⟨#[32]⟩ : ByteArray) = strOfNums [32] from by kernel_rfl]; refine (add_str _ _ (by have := (by decide : ([32] : List Int).length ≤ 4); omega)).trans (by rw [hL7])
    clear l6
    obtain ⟨L8, hL8⟩ : ∃ l, L7 ++ padL H 2 = l := ⟨_, rfl⟩
    have l8 : L8.length ≤ 36 := by have := padL_len H 2 (by omega) (by decide); rw [← hL8, List.length_append]; omega
    have k8 : Op.stringOp .add (strOfNums L7) (strOfNums (padL H 2)) = pure (.string (strOfNums L8)) := by refine (add_str _ _ (by have := padL_len H 2 (by omega) (by decide); omega)).trans (by rw [hL8])
    clear l7
    obtain ⟨L9, hL9⟩ : ∃ l, L8 ++ [58] = l := ⟨_, rfl⟩
    have l9 : L9.length ≤ 40 := by have := (by decide : ([58] : List Int).length ≤ 4); rw [← hL9, List.length_append]; omega
    have k9 : Op.stringOp .add (strOfNums L8) (⟨#[58]⟩ : ByteArray) = pure (.string (strOfNums L9)) := by rw [show (⟨#[58]⟩ : ByteArray) = strOfNums [58] from by kernel_rfl]; refine (add_str _ _ (by have := (by decide : ([58] : List Int).length ≤ 4); omega)).trans (by rw [hL9])
    clear l8
    obtain ⟨L10, hL10⟩ : ∃ l, L9 ++ padL M 2 = l := ⟨_, rfl⟩
    have l10 : L10.length ≤ 44 := by have := padL_len M 2 (by omega) (by decide); rw [← hL10, List.length_append]; omega
    have k10 : Op.stringOp .add (strOfNums L9) (strOfNums (padL M 2)) = pure (.string (strOfNums L10)) := by refine (add_str _ _ (by have := padL_len M 2 (by omega) (by decide); omega)).trans (by rw [hL10])
    clear l9
    obtain ⟨L11, hL11⟩ : ∃ l, L10 ++ [58] = l := ⟨_, rfl⟩
    have l11 : L11.length ≤ 48 := by have := (by decide : ([58] : List Int).length ≤ 4); rw [← hL11, List.length_append]; omega
    have k11 : Op.stringOp .add (strOfNums L10) (⟨#[58]⟩ : ByteArray) = pure (.string (strOfNums L11)) := by rw [show (⟨#[58]⟩ : ByteArray) = strOfNums [58] from by kernel_rfl]; refine (add_str _ _ (by have := (by decide : ([58] : List Int).length ≤ 4); omega)).trans (by rw [hL11])
    clear l10
    obtain ⟨L12, hL12⟩ : ∃ l, L11 ++ padL SS 2 = l := ⟨_, rfl⟩
    have l12 : L12.length ≤ 52 := by have := padL_len SS 2 (by omega) (by decide); rw [← hL12, List.length_append]; omega
    have k12 : Op.stringOp .add (strOfNums L11) (strOfNums (padL SS 2)) = pure (.string (strOfNums L12)) := by refine (add_str _ _ (by have := padL_len SS 2 (by omega) (by decide); omega)).trans (by rw [hL12])
    clear l11
    obtain ⟨L13, hL13⟩ : ∃ l, L12 ++ [32] = l := ⟨_, rfl⟩
    have l13 : L13.length ≤ 56 := by have := (by decide : ([32] : List Int).length ≤ 4); rw [← hL13, List.length_append]; omega
    have k13 : Op.stringOp .add (strOfNums L12) (⟨#[32]⟩ : ByteArray) = pure (.string (strOfNums L13)) := by rw [show (⟨#[32]⟩ : ByteArray) = strOfNums [32] from by kernel_rfl]; refine (add_str _ _ (by have := (by decide : ([32] : List Int).length ≤ 4); omega)).trans (by rw [hL13])
    clear l12
    obtain ⟨L14, hL14⟩ : ∃ l, L13 ++ [43] = l := ⟨_, rfl⟩
    have l14 : L14.length ≤ 60 := by have := (by decide : ([43] : List Int).length ≤ 4); rw [← hL14, List.length_append]; omega
    have k14 : Op.stringOp .add (strOfNums L13) (⟨#[43]⟩ : ByteArray) = pure (.string (strOfNums L14)) := by rw [show (⟨#[43]⟩ : ByteArray) = strOfNums [43] from by kernel_rfl]; refine (add_str _ _ (by have := (by decide : ([43] : List Int).length ≤ 4); omega)).trans (by rw [hL14])
    clear l13
    obtain ⟨L15, hL15⟩ : ∃ l, L14 ++ padL ZH 2 = l := ⟨_, rfl⟩
    have l15 : L15.length ≤ 64 := by have := padL_len ZH 2 (by omega) (by decide); rw [← hL15, List.length_append]; omega
    have k15 : Op.stringOp .add (strOfNums L14) (strOfNums (padL ZH 2)) = pure (.string (strOfNums L15)) := by refine (add_str _ _ (by have := padL_len ZH 2 (by omega) (by decide); omega)).trans (by rw [hL15])
    clear l14
    obtain ⟨L16, hL16⟩ : ∃ l, L15 ++ padL ZM 2 = l := ⟨_, rfl⟩
    have l16 : L16.length ≤ 68 := by have := padL_len ZM 2 (by omega) (by decide); rw [← hL16, List.length_append]; omega
    have k16 : Op.stringOp .add (strOfNums L15) (strOfNums (padL ZM 2)) = pure (.string (strOfNums L16)) := by refine (add_str _ _ (by have := padL_len ZM 2 (by omega) (by decide); omega)).trans (by rw [hL16])
    clear l15
    have HL : Aside0 (L16 = wk3 ++ [44, 32] ++ padL D 1 ++ [32] ++ mo3 ++ [32] ++ padL Y 4 ++ [32] ++ padL H 2 ++ [58] ++ padL M 2 ++ [58] ++ padL SS 2 ++ [32] ++ [43] ++ padL ZH 2 ++ padL ZM 2) := ⟨by rw [← hL16, ← hL15, ← hL14, ← hL13, ← hL12, ← hL11, ← hL10, ← hL9, ← hL8, ← hL7, ← hL6, ← hL5, ← hL4, ← hL3, ← hL2, ← hL1]⟩
    clear hL1 hL2 hL3 hL4 hL5 hL6 hL7 hL8 hL9 hL10 hL11 hL12 hL13 hL14 hL15 hL16 l16 lm
    have hdv_ := Aside0.mk hdv
    have hde_ := Aside0.mk hde
    have hwk_ := Aside0.mk hwk
    clear hdv hde hwk hw3 hm3
    clear h0 hI hc hwr hz0 eK eM1 eD eY eH eM eS eZH eZM hb1 hb2 hb3 hb4 hb5 hb6 hb7 hzz
    go_enter Tryd.func27, Tryd.ntmps27
    go_wp2_with (first
      | ((go_at_call 30); (with_reducible refine (refCheck_calls y mo d h m s z hI_.out _).mono ?_); rintro e w1 ⟨rfl, hb⟩; rw [hc_.out]; have HP1 := Aside0.mk (HP0.out.below hb); obtain ⟨a1, a2, a3, a4, a5, a6, a7, a8⟩ := DT.all HP1.out.1; clear hb)
      | ((go_at_call 13); (with_reducible refine (refDays_calls y mo d hI1.out hI2.out hI3.out _).mono ?_); rintro e w2 ⟨rfl, hb⟩; rw [hdv_.out, hde_.out]; have HP2 := Aside0.mk (HP1.out.below hb.below); obtain ⟨b1, b2, b3, b4, b5, b6, b7, b8⟩ := DT.all HP2.out.1; clear hb))
    go_region_held3 (fun W => PS w w.heap.size y mo d h m s z W ∧ W.cell? ⟨w.heap.size, 0, none⟩ = some (.int .i16 y) ∧ W.cell? ⟨w.heap.size, 1, none⟩ = some (.int .i8 mo) ∧ W.cell? ⟨w.heap.size, 2, none⟩ = some (.int .i8 d) ∧ W.cell? ⟨w.heap.size, 3, none⟩ = some (.int .i8 h) ∧ W.cell? ⟨w.heap.size, 4, none⟩ = some (.int .i8 m) ∧ W.cell? ⟨w.heap.size, 5, none⟩ = some (.int .i8 s) ∧ W.cell? ⟨w.heap.size, 6, none⟩ = some (.int .i16 z)) (first | assumption | exact PS.full HP2.out | exact PS.full HP2.out.drew | exact PS.full (by assumption) | exact PS.full (PS.drew (PS.of_full (by assumption))))
      (((first
      | (go_at_call 21; (with_reducible refine (refWeekday_calls dv _).mono ?_); rintro e wp ⟨rfl, hb⟩; rw [hwk_.out]; have hb := hb.below; have hpp : PS w w.heap.size y mo d h m s z wp := PS.below (PS.of_full (by first | assumption | exact PS.full HP2.out.drew | exact PS.full HP2.out)) hb; clear hb)
      | (go_at_call 53; (first | (with_reducible refine (written_wkd' K hK.out _).mono ?_) | (with_reducible refine (written_mon' M1 hM1.out _).mono ?_)); rintro e wp ⟨rfl, hb⟩; (first | rw [HW.out.1] | rw [HW.out.2]); have hpp : PS w w.heap.size y mo d h m s z wp := PS.below (PS.of_full (by first | assumption | exact PS.full HP2.out.drew | exact PS.full HP2.out)) hb; clear hb)
      | (go_at_call 54; (first | (refine (calls_of_args (args' := #[.int .i64 ((D : Nat) : Int), .int .i64 ((1 : Nat) : Int)]) rfl ?_); (with_reducible refine (refDigits_calls D 1 HN.out.1 (by decide) (by decide) _).mono ?_)) | (refine (calls_of_args (args' := #[.int .i64 ((Y : Nat) : Int), .int .i64 ((4 : Nat) : Int)]) rfl ?_); (with_reducible refine (refDigits_calls Y 4 HN.out.2.1 (by decide) (by decide) _).mono ?_)) | (refine (calls_of_args (args' := #[.int .i64 ((H : Nat) : Int), .int .i64 ((2 : Nat) : Int)]) rfl ?_); (with_reducible refine (refDigits_calls H 2 HN.out.2.2.1 (by decide) (by decide) _).mono ?_)) | (refine (calls_of_args (args' := #[.int .i64 ((M : Nat) : Int), .int .i64 ((2 : Nat) : Int)]) rfl ?_); (with_reducible refine (refDigits_calls M 2 HN.out.2.2.2.1 (by decide) (by decide) _).mono ?_)) | (refine (calls_of_args (args' := #[.int .i64 ((SS : Nat) : Int), .int .i64 ((2 : Nat) : Int)]) rfl ?_); (with_reducible refine (refDigits_calls SS 2 HN.out.2.2.2.2.1 (by decide) (by decide) _).mono ?_)) | (refine (calls_of_args (args' := #[.int .i64 ((ZH : Nat) : Int), .int .i64 ((2 : Nat) : Int)]) rfl ?_); (with_reducible refine (refDigits_calls ZH 2 HN.out.2.2.2.2.2.1 (by decide) (by decide) _).mono ?_)) | (refine (calls_of_args (args' := #[.int .i64 ((ZM : Nat) : Int), .int .i64 ((2 : Nat) : Int)]) rfl ?_); (with_reducible refine (refDigits_calls ZM 2 HN.out.2.2.2.2.2.2 (by decide) (by decide) _).mono ?_))); rintro e wp ⟨rfl, hb⟩; have hpp : PS w w.heap.size y mo d h m s z wp := PS.below (PS.of_full (by first | assumption | exact PS.full HP2.out.drew | exact PS.full HP2.out)) hb; clear hb))))
    go_wp2
    go_ret2
    refine ⟨?_, (PS.of_full (by assumption)).2⟩
    have e : L16 = printL wk y mo d h m s z := by
      rw [HL.out]
      unfold printL
      obtain ⟨z1, z2, z3, z4, z5, z6, z7, z8, z9⟩ := HZ.out
      rw [← z1, ← z2, ← z3, ← z4, ← z5, ← z6, ← z7, ← z8, ← z9, HW.out.1, HW.out.2, if_neg (by have := HN1.out; omega)]
    rw [e]
    rfl
end Go.Proofs.YtnmhkmkaklhapaaDoor.DP
