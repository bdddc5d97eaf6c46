/- date.Print: a date's text (walked by hand). -/
import Derived.Test.YtnmhkmkaklhapaaDoorPad
import Derived.Test.YtnmhkmkaklhapaaDoorMA
import Derived.Test.YtnmhkmkaklhapaaDoorME
import Derived.Deep.RegionHeld3
namespace Go.Proofs.YtnmhkmkaklhapaaDoor.DP
set_option linter.unusedVariables false
set_option linter.unusedSimpArgs false
open Go.RowKit Go.Proofs.YtnmhkmkaklhapaaDoorW.PrintWords Go.Proofs.YtnmhkmkaklhapaaDoorW.PrintLast Go.Proofs.YtnmhkmkaklhapaaDoorW.PrintMore Go.Proofs.YtnmhkmkaklhapaaDoor.B Go.Proofs.YtnmhkmkaklhapaaDoor.Cal Go.Proofs.YtnmhkmkaklhapaaDoor.Chk Go.Proofs.YtnmhkmkaklhapaaDoor.MN Go.Proofs.YtnmhkmkaklhapaaDoor.T Go.Proofs.YtnmhkmkaklhapaaDoor.M Go.Proofs.YtnmhkmkaklhapaaDoor.Dec
/-- The date's cells stand, and all is new behind w. -/
def PS (w : World) (g : Nat) (y mo d h m s z : Int) (W : World) : Prop := DT g y mo d h m s z W ∧ Below w.heap.size w W
theorem PS.below {w W W' : World} {g : Nat} {y mo d h m s z : Int} (k : PS w g y mo d h m s z W) (hb : Below W.heap.size W W') : PS w g y mo d h m s z W' := ⟨blk_below k.1 hb, k.2.trans (hb.mono k.2.size)⟩
theorem PS.drew {w W : World} {g : Nat} {y mo d h m s z : Int} (k : PS w g y mo d h m s z W) : PS w g y mo d h m s z W.drew := ⟨blk_drew k.1, below_drew1 k.2⟩
theorem PS.full {w W : World} {g : Nat} {y mo d h m s z : Int} (k : PS w g y mo d h m s z W) : PS w g y mo d h m s z W ∧ W.cell? ⟨g, 0, none⟩ = some (.int .i16 y) ∧ W.cell? ⟨g, 1, none⟩ = some (.int .i8 mo) ∧ W.cell? ⟨g, 2, none⟩ = some (.int .i8 d) ∧ W.cell? ⟨g, 3, none⟩ = some (.int .i8 h) ∧ W.cell? ⟨g, 4, none⟩ = some (.int .i8 m) ∧ W.cell? ⟨g, 5, none⟩ = some (.int .i8 s) ∧ W.cell? ⟨g, 6, none⟩ = some (.int .i16 z) := ⟨k, blk_cell k.1 0, blk_cell k.1 1, blk_cell k.1 2, blk_cell k.1 3, blk_cell k.1 4, blk_cell k.1 5, blk_cell k.1 6⟩
theorem PS.of_full {w W : World} {g : Nat} {y mo d h m s z : Int} (k : PS w g y mo d h m s z W ∧ W.cell? ⟨g, 0, none⟩ = some (.int .i16 y) ∧ W.cell? ⟨g, 1, none⟩ = some (.int .i8 mo) ∧ W.cell? ⟨g, 2, none⟩ = some (.int .i8 d) ∧ W.cell? ⟨g, 3, none⟩ = some (.int .i8 h) ∧ W.cell? ⟨g, 4, none⟩ = some (.int .i8 m) ∧ W.cell? ⟨g, 5, none⟩ = some (.int .i8 s) ∧ W.cell? ⟨g, 6, none⟩ = some (.int .i16 z)) : PS w g y mo d h m s z W := k.1
theorem add_str (a b : List Int) (h : a.length + b.length ≤ 1000) : Op.stringOp .add (strOfNums a) (strOfNums b) = pure (.string (strOfNums (a ++ b))) := by
  unfold Op.stringOp
  simp only
  rw [if_neg (by rw [strOfNums_len, strOfNums_len, show IntKind.i64.max = 9223372036854775807 from by decide]; omega), str_app]
theorem padL_len (n k : Nat) (hn : n < 10000) (hk : k ≤ 4) : (padL n k).length ≤ 4 := by
  unfold padL
  have := decN_len 3 n (by omega)
  rw [List.length_append, List.length_replicate]
  omega
theorem wkd_str : (⟨#[83, 117, 110, 77, 111, 110, 84, 117, 101, 87, 101, 100, 84, 104, 117, 70, 114, 105, 83, 97, 116]⟩ : ByteArray) = strOfNums WKD := by kernel_rfl
theorem mon_str : (⟨#[74, 97, 110, 70, 101, 98, 77, 97, 114, 65, 112, 114, 77, 97, 121, 74, 117, 110, 74, 117, 108, 65, 117, 103, 83, 101, 112, 79, 99, 116, 78, 111, 118, 68, 101, 99]⟩ : ByteArray) = strOfNums MON := by kernel_rfl
/-- The text, piece by piece. -/
def printL (wk y mo d h m s z : Int) : List Int :=
  (WKD.drop (3 * wk.toNat)).take 3 ++ [44, 32] ++ padL d.toNat 1 ++ [32] ++ (MON.drop (3 * (mo - 1).toNat)).take 3 ++ [32] ++ padL y.toNat 4 ++ [32] ++ padL h.toNat 2 ++ [58] ++ padL m.toNat 2 ++ [58] ++ padL s.toNat 2 ++ [32] ++ [if z < 0 then 45 else 43] ++ padL (z.natAbs / 60) 2 ++ padL (z.natAbs % 60) 2
set_option maxHeartbeats 4000000 in
set_option maxRecDepth 100000 in
theorem print_way (y mo d h m s z zz : Int) (sg : List UInt8) (neg : Bool) (hn : decide (z < 0) = neg) (hI : allI y mo d h m s z) (hc : chkV y mo d h m s z = 0) (hb : (1 ≤ y ∧ y ≤ 9999) ∧ (1 ≤ mo ∧ mo ≤ 12) ∧ (1 ≤ d ∧ d ≤ 31) ∧ (0 ≤ h ∧ h ≤ 23) ∧ (0 ≤ m ∧ m ≤ 59) ∧ (0 ≤ s ∧ s ≤ 59) ∧ (-1439 ≤ z ∧ z ≤ 1439)) (hzz : zz = if z < 0 then -z else z) (w : World) :
    Calls Tryd.prog 28 #[.agg #[.int .i16 y, .int .i8 mo, .int .i8 d, .int .i8 h, .int .i8 m, .int .i8 s, .int .i16 z]] w fun e w' => e = .returned (.tuple #[.string (strOfNums (printL (wkV (daysV y mo d).1) y mo d h m s z)), .int .i64 0]) ∧ Below w.heap.size w w' := by
  obtain ⟨hb1, hb2, hb3, hb4, hb5, hb6, hb7⟩ := hb
  obtain ⟨dv, hdv⟩ : ∃ c, (daysV y mo d).1 = c := ⟨_, rfl⟩
  obtain ⟨de, hde⟩ : ∃ c, (daysV y mo d).2 = c := ⟨_, rfl⟩
  obtain ⟨wk, hwk⟩ : ∃ c, wkV dv = c := ⟨_, rfl⟩
  have hck : date_Check.f y mo d h m s z = some 0 := by unfold date_Check.f; rw [if_pos ⟨hI.1, hI.2.1, hI.2.2.1⟩, hc]
  have hdd : date_Days.f y mo d = some (dv, de) := by unfold date_Days.f; rw [if_pos ⟨hI.1, hI.2.1, hI.2.2.1⟩, ← hdv, ← hde]
  have hww : date_Weekday.f dv = some wk := by unfold date_Weekday.f; rw [hwk]
  rw [hdv, hwk]
  have h0 : PS w w.heap.size y mo d h m s z (w.alloc (.cells #[.int .i16 y, .int .i8 mo, .int .i8 d, .int .i8 h, .int .i8 m, .int .i8 s, .int .i16 z] 30)) := ⟨heap_alloc_new w _, below_alloc (Below.refl _ _) _⟩
  have HP0 := Aside0.mk h0
  have hwr := wk_range dv
  rw [hwk] at hwr
  obtain ⟨i, hi⟩ : ∃ i : Nat, i = 3 * wk.toNat := ⟨_, rfl⟩
  obtain ⟨i2, hi2⟩ : ∃ j : Nat, j = i + 3 := ⟨_, rfl⟩
  obtain ⟨j, hj⟩ : ∃ i : Nat, i = 3 * (mo - 1).toNat := ⟨_, rfl⟩
  obtain ⟨j2, hj2⟩ : ∃ i : Nat, i = j + 3 := ⟨_, rfl⟩
  have q7 : IntKind.i64.wrap (3 * IntKind.i64.wrap wk) = (i : Int) := by rw [i64_w, i64_w, wrap_id wk (by omega) (by omega), wrap_id _ (by omega) (by omega)]; omega
  have q8 : IntKind.i64.wrap (3 * IntKind.i64.wrap (IntKind.i8.wrap (mo - 1))) = (j : Int) := by rw [i64_w, i64_w, wrapi8' _ (by omega) (by omega), wrap_id (mo - 1) (by omega) (by omega), wrap_id _ (by omega) (by omega)]; omega
  obtain ⟨zh, hzh⟩ : ∃ x, x = zz / 60 := ⟨_, rfl⟩
  obtain ⟨zm, hzm⟩ : ∃ x, x = zz % 60 := ⟨_, rfl⟩
  have hz0 : 0 ≤ zz ∧ zz ≤ 1439 := by rw [hzz]; split <;> omega
  have u1 : Int.tdiv zz 60 = zh := by rw [Int.tdiv_eq_ediv_of_nonneg hz0.1, hzh]
  have u2 : Int.tmod zz 60 = zm := by rw [Int.tmod_eq_emod_of_nonneg hz0.1, hzm]
  have u3 : IntKind.i16.wrap zh = zh := wrap16 _ (by omega) (by omega)
  have u4 : IntKind.i16.wrap zm = zm := wrap16 _ (by omega) (by omega)
  have u5 : IntKind.i16.wrap d = d := wrap16 _ (by omega) (by omega)
  have u6 : IntKind.i16.wrap h = h := wrap16 _ (by omega) (by omega)
  have u7 : IntKind.i16.wrap m = m := wrap16 _ (by omega) (by omega)
  have u8 : IntKind.i16.wrap s = s := wrap16 _ (by omega) (by omega)
  have u9 : IntKind.i64.wrap ((i : Int) + 3) = (i2 : Int) := by rw [i64_w, wrap_id _ (by omega) (by omega)]; omega
  have u10 : IntKind.i64.wrap ((j : Int) + 3) = (j2 : Int) := by rw [i64_w, wrap_id _ (by omega) (by omega)]; omega
  have v1 : (0 : Int) ≤ (i : Int) := by omega
  have v2 : (i : Int) ≤ (i2 : Int) := by omega
  have v3 : (i2 : Int) ≤ 21 := by omega
  have v4 : i ≤ i2 := by omega
  have v5 : i2 ≤ 21 := by omega
  have v6 : (0 : Int) ≤ (j : Int) := by omega
  have v7 : (j : Int) ≤ (j2 : Int) := by omega
  have v8 : (j2 : Int) ≤ 36 := by omega
  have v9 : j ≤ j2 := by omega
  have v10 : j2 ≤ 36 := by omega
  have p1 : date_padded.f d 1 = some (strOfNums (padL (d).toNat 1)) := if_pos ⟨⟨by omega, by omega⟩, by decide, by decide⟩
  have p2 : date_padded.f y 4 = some (strOfNums (padL (y).toNat 4)) := if_pos ⟨⟨by omega, by omega⟩, by decide, by decide⟩
  have p3 : date_padded.f h 2 = some (strOfNums (padL (h).toNat 2)) := if_pos ⟨⟨by omega, by omega⟩, by decide, by decide⟩
  have p4 : date_padded.f m 2 = some (strOfNums (padL (m).toNat 2)) := if_pos ⟨⟨by omega, by omega⟩, by decide, by decide⟩
  have p5 : date_padded.f s 2 = some (strOfNums (padL (s).toNat 2)) := if_pos ⟨⟨by omega, by omega⟩, by decide, by decide⟩
  have p6 : date_padded.f zh 2 = some (strOfNums (padL (zh).toNat 2)) := if_pos ⟨⟨by omega, by omega⟩, by decide, by decide⟩
  have p7 : date_padded.f zm 2 = some (strOfNums (padL (zm).toNat 2)) := if_pos ⟨⟨by omega, by omega⟩, by decide, by decide⟩
  have HZ := Aside0.mk (And.intro hi (And.intro hi2 (And.intro hj (And.intro hj2 (And.intro hzh (And.intro hzm hzz))))))
  have hI' := Aside0.mk hb7
  obtain ⟨wk3, hw3⟩ : ∃ l, (WKD.drop i).take 3 = l := ⟨_, rfl⟩
  obtain ⟨mo3, hm3⟩ : ∃ l, (MON.drop j).take 3 = l := ⟨_, rfl⟩
  cases neg with
  | true =>
    have n1 : z < 0 := of_decide_eq_true hn
    have HN1 := Aside0.mk n1
    have n2 : IntKind.i16.wrap (-z) = zz := by rw [if_pos n1] at hzz; rw [wrap16 _ (by omega) (by omega), hzz]
    have n0 : zz = -z := by rw [if_pos n1] at hzz; exact hzz
    have n3 : -(z.tdiv 60) = zh := by rw [← Int.neg_tdiv, ← n0]; exact u1
    have n4 : -(z.tmod 60) = zm := by rw [← Int.neg_tmod, ← n0]; exact u2
    have HN0 := Aside0.mk n0
    clear n0
    have eA : (⟨#[83, 117, 110, 77, 111, 110, 84, 117, 101, 87, 101, 100, 84, 104, 117, 70, 114, 105, 83, 97, 116]⟩ : ByteArray).extract i i2 = strOfNums wk3 := by rw [wkd_str, cut_is WKD wkd_in _ _ (by rw [show WKD.length = 21 from rfl]; omega), show i2 - i = 3 from by omega, hw3]
    have eM : (⟨#[74, 97, 110, 70, 101, 98, 77, 97, 114, 65, 112, 114, 77, 97, 121, 74, 117, 110, 74, 117, 108, 65, 117, 103, 83, 101, 112, 79, 99, 116, 78, 111, 118, 68, 101, 99]⟩ : ByteArray).extract j j2 = strOfNums mo3 := by rw [mon_str, cut_is MON mon_in _ _ (by rw [show MON.length = 36 from rfl]; omega), show j2 - j = 3 from by omega, hm3]
    have l0 : wk3.length ≤ 3 := by rw [← hw3, List.length_take]; omega
    have lm : mo3.length ≤ 3 := by rw [← hm3, List.length_take]; omega
    obtain ⟨L1, hL1⟩ : ∃ l, wk3 ++ [44, 32] = l := ⟨_, rfl⟩
    have l1 : L1.length ≤ 8 := by have := (by decide : ([44, 32] : List Int).length ≤ 4); rw [← hL1, List.length_append]; omega
    have k1 : Op.stringOp .add ((⟨#[83, 117, 110, 77, 111, 110, 84, 117, 101, 87, 101, 100, 84, 104, 117, 70, 114, 105, 83, 97, 116]⟩ : ByteArray).extract i i2) (⟨#[44, 32]⟩ : ByteArray) = pure (.string (strOfNums L1)) := by rw [eA, show (⟨#[44, 32]⟩ : ByteArray) = strOfNums [44, 32] from by kernel_rfl]; refine (add_str _ _ (by have := (by decide : ([44, 32] : List Int).length ≤ 4); omega)).trans (by rw [hL1])
    clear l0
    obtain ⟨L2, hL2⟩ : ∃ l, L1 ++ padL (d).toNat 1 = l := ⟨_, rfl⟩
    have l2 : L2.length ≤ 12 := by have := padL_len (d).toNat 1 (by omega) (by decide); rw [← hL2, List.length_append]; omega
    have k2 : Op.stringOp .add (strOfNums L1) (strOfNums (padL (d).toNat 1)) = pure (.string (strOfNums L2)) := by refine (add_str _ _ (by have := padL_len (d).toNat 1 (by omega) (by decide); omega)).trans (by rw [hL2])
    clear l1
    obtain ⟨L3, hL3⟩ : ∃ l, L2 ++ [32] = l := ⟨_, rfl⟩
    have l3 : L3.length ≤ 16 := by have := (by decide : ([32] : List Int).length ≤ 4); rw [← hL3, List.length_append]; omega
    have k3 : Op.stringOp .add (strOfNums L2) (⟨#[32]⟩ : ByteArray) = pure (.string (strOfNums L3)) := by rw [show (⟨#[32]⟩ : ByteArray) = strOfNums [32] from by kernel_rfl]; refine (add_str _ _ (by have := (by decide : ([32] : List Int).length ≤ 4); omega)).trans (by rw [hL3])
    clear l2
    obtain ⟨L4, hL4⟩ : ∃ l, L3 ++ mo3 = l := ⟨_, rfl⟩
    have l4 : L4.length ≤ 20 := by have := (by omega : mo3.length ≤ 4); rw [← hL4, List.length_append]; omega
    have k4 : Op.stringOp .add (strOfNums L3) ((⟨#[74, 97, 110, 70, 101, 98, 77, 97, 114, 65, 112, 114, 77, 97, 121, 74, 117, 110, 74, 117, 108, 65, 117, 103, 83, 101, 112, 79, 99, 116, 78, 111, 118, 68, 101, 99]⟩ : ByteArray).extract j j2) = pure (.string (strOfNums L4)) := by rw [eM]; refine (add_str _ _ (by have := (by omega : mo3.length ≤ 4); omega)).trans (by rw [hL4])
    clear l3
    obtain ⟨L5, hL5⟩ : ∃ l, L4 ++ [32] = l := ⟨_, rfl⟩
    have l5 : L5.length ≤ 24 := by have := (by decide : ([32] : List Int).length ≤ 4); rw [← hL5, List.length_append]; omega
    have k5 : Op.stringOp .add (strOfNums L4) (⟨#[32]⟩ : ByteArray) = pure (.string (strOfNums L5)) := by rw [show (⟨#[32]⟩ : ByteArray) = strOfNums [32] from by kernel_rfl]; refine (add_str _ _ (by have := (by decide : ([32] : List Int).length ≤ 4); omega)).trans (by rw [hL5])
    clear l4
    obtain ⟨L6, hL6⟩ : ∃ l, L5 ++ padL (y).toNat 4 = l := ⟨_, rfl⟩
    have l6 : L6.length ≤ 28 := by have := padL_len (y).toNat 4 (by omega) (by decide); rw [← hL6, List.length_append]; omega
    have k6 : Op.stringOp .add (strOfNums L5) (strOfNums (padL (y).toNat 4)) = pure (.string (strOfNums L6)) := by refine (add_str _ _ (by have := padL_len (y).toNat 4 (by omega) (by decide); omega)).trans (by rw [hL6])
    clear l5
    obtain ⟨L7, hL7⟩ : ∃ l, L6 ++ [32] = l := ⟨_, rfl⟩
    have l7 : L7.length ≤ 32 := by have := (by decide : ([32] : List Int).length ≤ 4); rw [← hL7, List.length_append]; omega
    have k7 : Op.stringOp .add (strOfNums L6) (⟨#[32]⟩ : ByteArray) = pure (.string (strOfNums L7)) := by rw [show (⟨#[32]⟩ : ByteArray) = strOfNums [32] from by kernel_rfl]; refine (add_str _ _ (by have := (by decide : ([32] : List Int).length ≤ 4); omega)).trans (by rw [hL7])
    clear l6
    obtain ⟨L8, hL8⟩ : ∃ l, L7 ++ padL (h).toNat 2 = l := ⟨_, rfl⟩
    have l8 : L8.length ≤ 36 := by have := padL_len (h).toNat 2 (by omega) (by decide); rw [← hL8, List.length_append]; omega
    have k8 : Op.stringOp .add (strOfNums L7) (strOfNums (padL (h).toNat 2)) = pure (.string (strOfNums L8)) := by refine (add_str _ _ (by have := padL_len (h).toNat 2 (by omega) (by decide); omega)).trans (by rw [hL8])
    clear l7
    obtain ⟨L9, hL9⟩ : ∃ l, L8 ++ [58] = l := ⟨_, rfl⟩
    have l9 : L9.length ≤ 40 := by have := (by decide : ([58] : List Int).length ≤ 4); rw [← hL9, List.length_append]; omega
    have k9 : Op.stringOp .add (strOfNums L8) (⟨#[58]⟩ : ByteArray) = pure (.string (strOfNums L9)) := by rw [show (⟨#[58]⟩ : ByteArray) = strOfNums [58] from by kernel_rfl]; refine (add_str _ _ (by have := (by decide : ([58] : List Int).length ≤ 4); omega)).trans (by rw [hL9])
    clear l8
    obtain ⟨L10, hL10⟩ : ∃ l, L9 ++ padL (m).toNat 2 = l := ⟨_, rfl⟩
    have l10 : L10.length ≤ 44 := by have := padL_len (m).toNat 2 (by omega) (by decide); rw [← hL10, List.length_append]; omega
    have k10 : Op.stringOp .add (strOfNums L9) (strOfNums (padL (m).toNat 2)) = pure (.string (strOfNums L10)) := by refine (add_str _ _ (by have := padL_len (m).toNat 2 (by omega) (by decide); omega)).trans (by rw [hL10])
    clear l9
    obtain ⟨L11, hL11⟩ : ∃ l, L10 ++ [58] = l := ⟨_, rfl⟩
    have l11 : L11.length ≤ 48 := by have := (by decide : ([58] : List Int).length ≤ 4); rw [← hL11, List.length_append]; omega
    have k11 : Op.stringOp .add (strOfNums L10) (⟨#[58]⟩ : ByteArray) = pure (.string (strOfNums L11)) := by rw [show (⟨#[58]⟩ : ByteArray) = strOfNums [58] from by kernel_rfl]; refine (add_str _ _ (by have := (by decide : ([58] : List Int).length ≤ 4); omega)).trans (by rw [hL11])
    clear l10
    obtain ⟨L12, hL12⟩ : ∃ l, L11 ++ padL (s).toNat 2 = l := ⟨_, rfl⟩
    have l12 : L12.length ≤ 52 := by have := padL_len (s).toNat 2 (by omega) (by decide); rw [← hL12, List.length_append]; omega
    have k12 : Op.stringOp .add (strOfNums L11) (strOfNums (padL (s).toNat 2)) = pure (.string (strOfNums L12)) := by refine (add_str _ _ (by have := padL_len (s).toNat 2 (by omega) (by decide); omega)).trans (by rw [hL12])
    clear l11
    obtain ⟨L13, hL13⟩ : ∃ l, L12 ++ [32] = l := ⟨_, rfl⟩
    have l13 : L13.length ≤ 56 := by have := (by decide : ([32] : List Int).length ≤ 4); rw [← hL13, List.length_append]; omega
    have k13 : Op.stringOp .add (strOfNums L12) (⟨#[32]⟩ : ByteArray) = pure (.string (strOfNums L13)) := by rw [show (⟨#[32]⟩ : ByteArray) = strOfNums [32] from by kernel_rfl]; refine (add_str _ _ (by have := (by decide : ([32] : List Int).length ≤ 4); omega)).trans (by rw [hL13])
    clear l12
    obtain ⟨L14, hL14⟩ : ∃ l, L13 ++ [45] = l := ⟨_, rfl⟩
    have l14 : L14.length ≤ 60 := by have := (by decide : ([45] : List Int).length ≤ 4); rw [← hL14, List.length_append]; omega
    have k14 : Op.stringOp .add (strOfNums L13) (⟨#[45]⟩ : ByteArray) = pure (.string (strOfNums L14)) := by rw [show (⟨#[45]⟩ : ByteArray) = strOfNums [45] from by kernel_rfl]; refine (add_str _ _ (by have := (by decide : ([45] : List Int).length ≤ 4); omega)).trans (by rw [hL14])
    clear l13
    obtain ⟨L15, hL15⟩ : ∃ l, L14 ++ padL (zh).toNat 2 = l := ⟨_, rfl⟩
    have l15 : L15.length ≤ 64 := by have := padL_len (zh).toNat 2 (by omega) (by decide); rw [← hL15, List.length_append]; omega
    have k15 : Op.stringOp .add (strOfNums L14) (strOfNums (padL (zh).toNat 2)) = pure (.string (strOfNums L15)) := by refine (add_str _ _ (by have := padL_len (zh).toNat 2 (by omega) (by decide); omega)).trans (by rw [hL15])
    clear l14
    obtain ⟨L16, hL16⟩ : ∃ l, L15 ++ padL (zm).toNat 2 = l := ⟨_, rfl⟩
    have l16 : L16.length ≤ 68 := by have := padL_len (zm).toNat 2 (by omega) (by decide); rw [← hL16, List.length_append]; omega
    have k16 : Op.stringOp .add (strOfNums L15) (strOfNums (padL (zm).toNat 2)) = pure (.string (strOfNums L16)) := by refine (add_str _ _ (by have := padL_len (zm).toNat 2 (by omega) (by decide); omega)).trans (by rw [hL16])
    clear l15
    have HL : Aside0 (L16 = wk3 ++ [44, 32] ++ padL (d).toNat 1 ++ [32] ++ mo3 ++ [32] ++ padL (y).toNat 4 ++ [32] ++ padL (h).toNat 2 ++ [58] ++ padL (m).toNat 2 ++ [58] ++ padL (s).toNat 2 ++ [32] ++ [45] ++ padL (zh).toNat 2 ++ padL (zm).toNat 2) := ⟨by rw [← hL16, ← hL15, ← hL14, ← hL13, ← hL12, ← hL11, ← hL10, ← hL9, ← hL8, ← hL7, ← hL6, ← hL5, ← hL4, ← hL3, ← hL2, ← hL1]⟩
    clear hL1 hL2 hL3 hL4 hL5 hL6 hL7 hL8 hL9 hL10 hL11 hL12 hL13 hL14 hL15 hL16 l16 lm eA eM
    have HW := Aside0.mk (And.intro hw3 hm3)
    clear hdv hde hwk h0 hi hi2 hj hj2 hzh hzm hz0 hwr hb1 hb2 hb3 hb4 hb5 hb6 hb7 hI hc hw3 hm3
    go_enter Tryd.func28, Tryd.ntmps28
    go_wp2_with (first
      | ((go_at_call 29); (with_reducible refine (date_Check.calls y mo d h m s z 0 _ hck).mono ?_); rintro e w1 ⟨rfl, hb⟩; have HP1 := Aside0.mk (HP0.out.below hb); obtain ⟨a1, a2, a3, a4, a5, a6, a7, a8⟩ := DT.all HP1.out.1; clear hb)
      | ((go_at_call 14); (with_reducible refine (date_Days.calls y mo d dv de _ hdd).mono ?_); rintro e w2 ⟨rfl, hb⟩; have HP2 := Aside0.mk (HP1.out.below hb.below); obtain ⟨b1, b2, b3, b4, b5, b6, b7, b8⟩ := DT.all HP2.out.1; clear hb))
    go_region_held3 (fun W => PS w w.heap.size y mo d h m s z W ∧ W.cell? ⟨w.heap.size, 0, none⟩ = some (.int .i16 y) ∧ W.cell? ⟨w.heap.size, 1, none⟩ = some (.int .i8 mo) ∧ W.cell? ⟨w.heap.size, 2, none⟩ = some (.int .i8 d) ∧ W.cell? ⟨w.heap.size, 3, none⟩ = some (.int .i8 h) ∧ W.cell? ⟨w.heap.size, 4, none⟩ = some (.int .i8 m) ∧ W.cell? ⟨w.heap.size, 5, none⟩ = some (.int .i8 s) ∧ W.cell? ⟨w.heap.size, 6, none⟩ = some (.int .i16 z)) (first | assumption | exact PS.full HP2.out | exact PS.full HP2.out.drew | exact PS.full (by assumption) | exact PS.full (PS.drew (PS.of_full (by assumption))))
      ((go_at_call 20; refine (date_Weekday.calls dv wk _ hww).mono ?_; rintro e w3 ⟨rfl, hb⟩; have hps3 : PS w w.heap.size y mo d h m s z w3 := PS.below (PS.of_full (by first | assumption | exact PS.full HP2.out.drew)) hb.below; clear hb))
    have HP3 := Aside0.mk hps3
    clear hps3
    try clear hHeld
    go_wp2_with (fail)
    go_region_held3 (fun W => PS w w.heap.size y mo d h m s z W ∧ W.cell? ⟨w.heap.size, 0, none⟩ = some (.int .i16 y) ∧ W.cell? ⟨w.heap.size, 1, none⟩ = some (.int .i8 mo) ∧ W.cell? ⟨w.heap.size, 2, none⟩ = some (.int .i8 d) ∧ W.cell? ⟨w.heap.size, 3, none⟩ = some (.int .i8 h) ∧ W.cell? ⟨w.heap.size, 4, none⟩ = some (.int .i8 m) ∧ W.cell? ⟨w.heap.size, 5, none⟩ = some (.int .i8 s) ∧ W.cell? ⟨w.heap.size, 6, none⟩ = some (.int .i16 z)) (first | assumption | exact PS.full HP3.out | exact PS.full HP3.out.drew | exact PS.full (by assumption) | exact PS.full (PS.drew (PS.of_full (by assumption))))
      (((go_at_call 55); (first | (with_reducible refine (date_padded.calls d 1 _ _ p1).mono ?_) | (with_reducible refine (date_padded.calls y 4 _ _ p2).mono ?_) | (with_reducible refine (date_padded.calls h 2 _ _ p3).mono ?_) | (with_reducible refine (date_padded.calls m 2 _ _ p4).mono ?_) | (with_reducible refine (date_padded.calls s 2 _ _ p5).mono ?_) | (with_reducible refine (date_padded.calls zh 2 _ _ p6).mono ?_) | (with_reducible refine (date_padded.calls zm 2 _ _ p7).mono ?_)); rintro e wp ⟨rfl, hb⟩; have hpp : PS w w.heap.size y mo d h m s z wp := PS.below (PS.of_full (by first | assumption | exact PS.full (HP3.out).drew | exact PS.full (HP3.out))) hb; clear hb))
    go_wp2
    go_ret2
    refine ⟨?_, (PS.of_full (by assumption)).2⟩
    have e : L16 = printL wk y mo d h m s z := by
      rw [HL.out]
      unfold printL
      rw [← HW.out.1, ← HW.out.2, HZ.out.1, HZ.out.2.2.1, if_pos (by have := HN1.out; omega), show z.natAbs / 60 = zh.toNat from by have := HZ.out.2.2.2.2.1; have := HN0.out; have := HN1.out; omega, show z.natAbs % 60 = zm.toNat from by have := HZ.out.2.2.2.2.2.1; have := HN0.out; have := HN1.out; omega]
    rw [e]
    rfl
  | false =>
    have n1 : ¬ z < 0 := of_decide_eq_false hn
    have HN1 := Aside0.mk n1
    rw [if_neg n1] at hzz
    obtain rfl : z = zz := hzz.symm
    have eA : (⟨#[83, 117, 110, 77, 111, 110, 84, 117, 101, 87, 101, 100, 84, 104, 117, 70, 114, 105, 83, 97, 116]⟩ : ByteArray).extract i i2 = strOfNums wk3 := by rw [wkd_str, cut_is WKD wkd_in _ _ (by rw [show WKD.length = 21 from rfl]; omega), show i2 - i = 3 from by omega, hw3]
    have eM : (⟨#[74, 97, 110, 70, 101, 98, 77, 97, 114, 65, 112, 114, 77, 97, 121, 74, 117, 110, 74, 117, 108, 65, 117, 103, 83, 101, 112, 79, 99, 116, 78, 111, 118, 68, 101, 99]⟩ : ByteArray).extract j j2 = strOfNums mo3 := by rw [mon_str, cut_is MON mon_in _ _ (by rw [show MON.length = 36 from rfl]; omega), show j2 - j = 3 from by omega, hm3]
    have l0 : wk3.length ≤ 3 := by rw [← hw3, List.length_take]; omega
    have lm : mo3.length ≤ 3 := by rw [← hm3, List.length_take]; omega
    obtain ⟨L1, hL1⟩ : ∃ l, wk3 ++ [44, 32] = l := ⟨_, rfl⟩
    have l1 : L1.length ≤ 8 := by have := (by decide : ([44, 32] : List Int).length ≤ 4); rw [← hL1, List.length_append]; omega
    have k1 : Op.stringOp .add ((⟨#[83, 117, 110, 77, 111, 110, 84, 117, 101, 87, 101, 100, 84, 104, 117, 70, 114, 105, 83, 97, 116]⟩ : ByteArray).extract i i2) (⟨#[44, 32]⟩ : ByteArray) = pure (.string (strOfNums L1)) := by rw [eA, show (⟨#[44, 32]⟩ : ByteArray) = strOfNums [44, 32] from by kernel_rfl]; refine (add_str _ _ (by have := (by decide : ([44, 32] : List Int).length ≤ 4); omega)).trans (by rw [hL1])
    clear l0
    obtain ⟨L2, hL2⟩ : ∃ l, L1 ++ padL (d).toNat 1 = l := ⟨_, rfl⟩
    have l2 : L2.length ≤ 12 := by have := padL_len (d).toNat 1 (by omega) (by decide); rw [← hL2, List.length_append]; omega
    have k2 : Op.stringOp .add (strOfNums L1) (strOfNums (padL (d).toNat 1)) = pure (.string (strOfNums L2)) := by refine (add_str _ _ (by have := padL_len (d).toNat 1 (by omega) (by decide); omega)).trans (by rw [hL2])
    clear l1
    obtain ⟨L3, hL3⟩ : ∃ l, L2 ++ [32] = l := ⟨_, rfl⟩
    have l3 : L3.length ≤ 16 := by have := (by decide : ([32] : List Int).length ≤ 4); rw [← hL3, List.length_append]; omega
    have k3 : Op.stringOp .add (strOfNums L2) (⟨#[32]⟩ : ByteArray) = pure (.string (strOfNums L3)) := by rw [show (⟨#[32]⟩ : ByteArray) = strOfNums [32] from by kernel_rfl]; refine (add_str _ _ (by have := (by decide : ([32] : List Int).length ≤ 4); omega)).trans (by rw [hL3])
    clear l2
    obtain ⟨L4, hL4⟩ : ∃ l, L3 ++ mo3 = l := ⟨_, rfl⟩
    have l4 : L4.length ≤ 20 := by have := (by omega : mo3.length ≤ 4); rw [← hL4, List.length_append]; omega
    have k4 : Op.stringOp .add (strOfNums L3) ((⟨#[74, 97, 110, 70, 101, 98, 77, 97, 114, 65, 112, 114, 77, 97, 121, 74, 117, 110, 74, 117, 108, 65, 117, 103, 83, 101, 112, 79, 99, 116, 78, 111, 118, 68, 101, 99]⟩ : ByteArray).extract j j2) = pure (.string (strOfNums L4)) := by rw [eM]; refine (add_str _ _ (by have := (by omega : mo3.length ≤ 4); omega)).trans (by rw [hL4])
    clear l3
    obtain ⟨L5, hL5⟩ : ∃ l, L4 ++ [32] = l := ⟨_, rfl⟩
    have l5 : L5.length ≤ 24 := by have := (by decide : ([32] : List Int).length ≤ 4); rw [← hL5, List.length_append]; omega
    have k5 : Op.stringOp .add (strOfNums L4) (⟨#[32]⟩ : ByteArray) = pure (.string (strOfNums L5)) := by rw [show (⟨#[32]⟩ : ByteArray) = strOfNums [32] from by kernel_rfl]; refine (add_str _ _ (by have := (by decide : ([32] : List Int).length ≤ 4); omega)).trans (by rw [hL5])
    clear l4
    obtain ⟨L6, hL6⟩ : ∃ l, L5 ++ padL (y).toNat 4 = l := ⟨_, rfl⟩
    have l6 : L6.length ≤ 28 := by have := padL_len (y).toNat 4 (by omega) (by decide); rw [← hL6, List.length_append]; omega
    have k6 : Op.stringOp .add (strOfNums L5) (strOfNums (padL (y).toNat 4)) = pure (.string (strOfNums L6)) := by refine (add_str _ _ (by have := padL_len (y).toNat 4 (by omega) (by decide); omega)).trans (by rw [hL6])
    clear l5
    obtain ⟨L7, hL7⟩ : ∃ l, L6 ++ [32] = l := ⟨_, rfl⟩
    have l7 : L7.length ≤ 32 := by have := (by decide : ([32] : List Int).length ≤ 4); rw [← hL7, List.length_append]; omega
    have k7 : Op.stringOp .add (strOfNums L6) (⟨#[32]⟩ : ByteArray) = pure (.string (strOfNums L7)) := by rw [show (⟨#[32]⟩ : ByteArray) = strOfNums [32] from by kernel_rfl]; refine (add_str _ _ (by have := (by decide : ([32] : List Int).length ≤ 4); omega)).trans (by rw [hL7])
    clear l6
    obtain ⟨L8, hL8⟩ : ∃ l, L7 ++ padL (h).toNat 2 = l := ⟨_, rfl⟩
    have l8 : L8.length ≤ 36 := by have := padL_len (h).toNat 2 (by omega) (by decide); rw [← hL8, List.length_append]; omega
    have k8 : Op.stringOp .add (strOfNums L7) (strOfNums (padL (h).toNat 2)) = pure (.string (strOfNums L8)) := by refine (add_str _ _ (by have := padL_len (h).toNat 2 (by omega) (by decide); omega)).trans (by rw [hL8])
    clear l7
    obtain ⟨L9, hL9⟩ : ∃ l, L8 ++ [58] = l := ⟨_, rfl⟩
    have l9 : L9.length ≤ 40 := by have := (by decide : ([58] : List Int).length ≤ 4); rw [← hL9, List.length_append]; omega
    have k9 : Op.stringOp .add (strOfNums L8) (⟨#[58]⟩ : ByteArray) = pure (.string (strOfNums L9)) := by rw [show (⟨#[58]⟩ : ByteArray) = strOfNums [58] from by kernel_rfl]; refine (add_str _ _ (by have := (by decide : ([58] : List Int).length ≤ 4); omega)).trans (by rw [hL9])
    clear l8
    obtain ⟨L10, hL10⟩ : ∃ l, L9 ++ padL (m).toNat 2 = l := ⟨_, rfl⟩
    have l10 : L10.length ≤ 44 := by have := padL_len (m).toNat 2 (by omega) (by decide); rw [← hL10, List.length_append]; omega
    have k10 : Op.stringOp .add (strOfNums L9) (strOfNums (padL (m).toNat 2)) = pure (.string (strOfNums L10)) := by refine (add_str _ _ (by have := padL_len (m).toNat 2 (by omega) (by decide); omega)).trans (by rw [hL10])
    clear l9
    obtain ⟨L11, hL11⟩ : ∃ l, L10 ++ [58] = l := ⟨_, rfl⟩
    have l11 : L11.length ≤ 48 := by have := (by decide : ([58] : List Int).length ≤ 4); rw [← hL11, List.length_append]; omega
    have k11 : Op.stringOp .add (strOfNums L10) (⟨#[58]⟩ : ByteArray) = pure (.string (strOfNums L11)) := by rw [show (⟨#[58]⟩ : ByteArray) = strOfNums [58] from by kernel_rfl]; refine (add_str _ _ (by have := (by decide : ([58] : List Int).length ≤ 4); omega)).trans (by rw [hL11])
    clear l10
    obtain ⟨L12, hL12⟩ : ∃ l, L11 ++ padL (s).toNat 2 = l := ⟨_, rfl⟩
    have l12 : L12.length ≤ 52 := by have := padL_len (s).toNat 2 (by omega) (by decide); rw [← hL12, List.length_append]; omega
    have k12 : Op.stringOp .add (strOfNums L11) (strOfNums (padL (s).toNat 2)) = pure (.string (strOfNums L12)) := by refine (add_str _ _ (by have := padL_len (s).toNat 2 (by omega) (by decide); omega)).trans (by rw [hL12])
    clear l11
    obtain ⟨L13, hL13⟩ : ∃ l, L12 ++ [32] = l := ⟨_, rfl⟩
    have l13 : L13.length ≤ 56 := by have := (by decide : ([32] : List Int).length ≤ 4); rw [← hL13, List.length_append]; omega
    have k13 : Op.stringOp .add (strOfNums L12) (⟨#[32]⟩ : ByteArray) = pure (.string (strOfNums L13)) := by rw [show (⟨#[32]⟩ : ByteArray) = strOfNums [32] from by kernel_rfl]; refine (add_str _ _ (by have := (by decide : ([32] : List Int).length ≤ 4); omega)).trans (by rw [hL13])
    clear l12
    obtain ⟨L14, hL14⟩ : ∃ l, L13 ++ [43] = l := ⟨_, rfl⟩
    have l14 : L14.length ≤ 60 := by have := (by decide : ([43] : List Int).length ≤ 4); rw [← hL14, List.length_append]; omega
    have k14 : Op.stringOp .add (strOfNums L13) (⟨#[43]⟩ : ByteArray) = pure (.string (strOfNums L14)) := by rw [show (⟨#[43]⟩ : ByteArray) = strOfNums [43] from by kernel_rfl]; refine (add_str _ _ (by have := (by decide : ([43] : List Int).length ≤ 4); omega)).trans (by rw [hL14])
    clear l13
    obtain ⟨L15, hL15⟩ : ∃ l, L14 ++ padL (zh).toNat 2 = l := ⟨_, rfl⟩
    have l15 : L15.length ≤ 64 := by have := padL_len (zh).toNat 2 (by omega) (by decide); rw [← hL15, List.length_append]; omega
    have k15 : Op.stringOp .add (strOfNums L14) (strOfNums (padL (zh).toNat 2)) = pure (.string (strOfNums L15)) := by refine (add_str _ _ (by have := padL_len (zh).toNat 2 (by omega) (by decide); omega)).trans (by rw [hL15])
    clear l14
    obtain ⟨L16, hL16⟩ : ∃ l, L15 ++ padL (zm).toNat 2 = l := ⟨_, rfl⟩
    have l16 : L16.length ≤ 68 := by have := padL_len (zm).toNat 2 (by omega) (by decide); rw [← hL16, List.length_append]; omega
    have k16 : Op.stringOp .add (strOfNums L15) (strOfNums (padL (zm).toNat 2)) = pure (.string (strOfNums L16)) := by refine (add_str _ _ (by have := padL_len (zm).toNat 2 (by omega) (by decide); omega)).trans (by rw [hL16])
    clear l15
    have HL : Aside0 (L16 = wk3 ++ [44, 32] ++ padL (d).toNat 1 ++ [32] ++ mo3 ++ [32] ++ padL (y).toNat 4 ++ [32] ++ padL (h).toNat 2 ++ [58] ++ padL (m).toNat 2 ++ [58] ++ padL (s).toNat 2 ++ [32] ++ [43] ++ padL (zh).toNat 2 ++ padL (zm).toNat 2) := ⟨by rw [← hL16, ← hL15, ← hL14, ← hL13, ← hL12, ← hL11, ← hL10, ← hL9, ← hL8, ← hL7, ← hL6, ← hL5, ← hL4, ← hL3, ← hL2, ← hL1]⟩
    clear hL1 hL2 hL3 hL4 hL5 hL6 hL7 hL8 hL9 hL10 hL11 hL12 hL13 hL14 hL15 hL16 l16 lm eA eM
    have HW := Aside0.mk (And.intro hw3 hm3)
    clear hdv hde hwk h0 hi hi2 hj hj2 hzh hzm hz0 hwr hb1 hb2 hb3 hb4 hb5 hb6 hb7 hI hc hw3 hm3
    go_enter Tryd.func28, Tryd.ntmps28
    go_wp2_with (first
      | ((go_at_call 29); (with_reducible refine (date_Check.calls y mo d h m s z 0 _ hck).mono ?_); rintro e w1 ⟨rfl, hb⟩; have HP1 := Aside0.mk (HP0.out.below hb); obtain ⟨a1, a2, a3, a4, a5, a6, a7, a8⟩ := DT.all HP1.out.1; clear hb)
      | ((go_at_call 14); (with_reducible refine (date_Days.calls y mo d dv de _ hdd).mono ?_); rintro e w2 ⟨rfl, hb⟩; have HP2 := Aside0.mk (HP1.out.below hb.below); obtain ⟨b1, b2, b3, b4, b5, b6, b7, b8⟩ := DT.all HP2.out.1; clear hb))
    go_region_held3 (fun W => PS w w.heap.size y mo d h m s z W ∧ W.cell? ⟨w.heap.size, 0, none⟩ = some (.int .i16 y) ∧ W.cell? ⟨w.heap.size, 1, none⟩ = some (.int .i8 mo) ∧ W.cell? ⟨w.heap.size, 2, none⟩ = some (.int .i8 d) ∧ W.cell? ⟨w.heap.size, 3, none⟩ = some (.int .i8 h) ∧ W.cell? ⟨w.heap.size, 4, none⟩ = some (.int .i8 m) ∧ W.cell? ⟨w.heap.size, 5, none⟩ = some (.int .i8 s) ∧ W.cell? ⟨w.heap.size, 6, none⟩ = some (.int .i16 z)) (first | assumption | exact PS.full HP2.out | exact PS.full HP2.out.drew | exact PS.full (by assumption) | exact PS.full (PS.drew (PS.of_full (by assumption))))
      ((go_at_call 20; refine (date_Weekday.calls dv wk _ hww).mono ?_; rintro e w3 ⟨rfl, hb⟩; have hps3 : PS w w.heap.size y mo d h m s z w3 := PS.below (PS.of_full (by first | assumption | exact PS.full HP2.out.drew)) hb.below; clear hb))
    have HP3 := Aside0.mk hps3
    clear hps3
    try clear hHeld
    go_wp2_with (fail)
    go_region_held3 (fun W => PS w w.heap.size y mo d h m s z W ∧ W.cell? ⟨w.heap.size, 0, none⟩ = some (.int .i16 y) ∧ W.cell? ⟨w.heap.size, 1, none⟩ = some (.int .i8 mo) ∧ W.cell? ⟨w.heap.size, 2, none⟩ = some (.int .i8 d) ∧ W.cell? ⟨w.heap.size, 3, none⟩ = some (.int .i8 h) ∧ W.cell? ⟨w.heap.size, 4, none⟩ = some (.int .i8 m) ∧ W.cell? ⟨w.heap.size, 5, none⟩ = some (.int .i8 s) ∧ W.cell? ⟨w.heap.size, 6, none⟩ = some (.int .i16 z)) (first | assumption | exact PS.full HP3.out | exact PS.full HP3.out.drew | exact PS.full (by assumption) | exact PS.full (PS.drew (PS.of_full (by assumption))))
      (((go_at_call 55); (first | (with_reducible refine (date_padded.calls d 1 _ _ p1).mono ?_) | (with_reducible refine (date_padded.calls y 4 _ _ p2).mono ?_) | (with_reducible refine (date_padded.calls h 2 _ _ p3).mono ?_) | (with_reducible refine (date_padded.calls m 2 _ _ p4).mono ?_) | (with_reducible refine (date_padded.calls s 2 _ _ p5).mono ?_) | (with_reducible refine (date_padded.calls zh 2 _ _ p6).mono ?_) | (with_reducible refine (date_padded.calls zm 2 _ _ p7).mono ?_)); rintro e wp ⟨rfl, hb⟩; have hpp : PS w w.heap.size y mo d h m s z wp := PS.below (PS.of_full (by first | assumption | exact PS.full (HP3.out).drew | exact PS.full (HP3.out))) hb; clear hb))
    go_wp2
    go_ret2
    refine ⟨?_, (PS.of_full (by assumption)).2⟩
    have e : L16 = printL wk y mo d h m s z := by
      rw [HL.out]
      unfold printL
      rw [← HW.out.1, ← HW.out.2, HZ.out.1, HZ.out.2.2.1, if_neg (by have := HN1.out; omega), show z.natAbs / 60 = zh.toNat from by have := HZ.out.2.2.2.2.1; have := HN1.out; omega, show z.natAbs % 60 = zm.toNat from by have := HZ.out.2.2.2.2.2.1; have := HN1.out; omega]
    rw [e]
    rfl
/-- Print of a date that may be. -/
theorem print_calls (y mo d h m s z : Int) (hI : allI y mo d h m s z) (hc : chkV y mo d h m s z = 0) (w : World) :
    Calls Tryd.prog 28 #[.agg #[.int .i16 y, .int .i8 mo, .int .i8 d, .int .i8 h, .int .i8 m, .int .i8 s, .int .i16 z]] w fun e w' => e = .returned (.tuple #[.string (strOfNums (printL (wkV (daysV y mo d).1) y mo d h m s z)), .int .i64 0]) ∧ Below w.heap.size w w' := by
  refine print_way y mo d h m s z _ [] _ rfl hI hc ?_ rfl w
  unfold chkV at hc
  split at hc
  · cases hc
  · rename_i h1
    split at hc
    · cases hc
    · rename_i h2
      split at hc
      · cases hc
      · have a := of_decide_eq_true (Bool.of_not_eq_false h1)
        have b := of_decide_eq_true (Bool.of_not_eq_false h2)
        have c := long_range y.toNat mo.toNat
        unfold longI at a
        omega
end Go.Proofs.YtnmhkmkaklhapaaDoor.DP
