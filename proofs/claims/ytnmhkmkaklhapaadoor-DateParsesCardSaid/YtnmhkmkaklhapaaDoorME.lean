/- date.Parse: a text is read. date.Parse as a printed function would stand. -/
import Derived.Test.YtnmhkmkaklhapaaDoorMD
namespace Go.Proofs.YtnmhkmkaklhapaaDoor.T
set_option linter.unusedVariables false
set_option linter.unusedSimpArgs false
open Go.RowKit Go.Proofs.YtnmhkmkaklhapaaDoorW.PrintWords Go.Proofs.YtnmhkmkaklhapaaDoorW.PrintLast Go.Proofs.YtnmhkmkaklhapaaDoorW.PrintMore Go.Proofs.YtnmhkmkaklhapaaDoor.B Go.Proofs.YtnmhkmkaklhapaaDoor.M Go.Proofs.YtnmhkmkaklhapaaDoor.Glob Go.Proofs.YtnmhkmkaklhapaaDoor.D Go.Proofs.YtnmhkmkaklhapaaDoor.U Go.Proofs.YtnmhkmkaklhapaaDoor.Chk
theorem PW.end {N : Nat} {l : List Int} {w W : World} (h : PW N l w W) : Below w.heap.size w W := h.bl
set_option maxHeartbeats 8000000 in
set_option maxRecDepth 100000 in
theorem parse_calls (N : Nat) (L : List Int) (hl : OK N L) (hN : N = L.length) (w : World) (HG0 : GOk w) :
  Calls Tryd.prog 17 #[.string (strOfNums L)] w fun e w' => e = .returned (.tuple #[.agg #[.int .i16 (parseP L).y, .int .i8 (parseP L).mo, .int .i8 (parseP L).d, .int .i8 (parseP L).h, .int .i8 (parseP L).m, .int .i8 (parseP L).s, .int .i16 (parseP L).z], .agg #[.int .i64 (parseP L).e, .int .i64 (parseP L).at_]]) ∧ Below w.heap.size w w' := by
 have hneD : w.heap.size + 1 + 1 + 1 ≠ w.heap.size + 1 + 1 := by omega
 obtain ⟨R, hR⟩ : ∃ R, parseP L = R := ⟨_, rfl⟩
 rw [hR]
 unfold parseP at hR
 rw [← hN] at hR
 obtain ⟨l0, e0⟩ : ∃ r, L.drop (blN L) = r := ⟨_, rfl⟩
 rw [e0] at hR
 have h0 : OK N l0 := by rw [← e0]; exact hl.drop _
 obtain ⟨n, hn⟩ : ∃ n, run 1 l0 = n := ⟨_, rfl⟩
 obtain ⟨at0, hat0⟩ : ∃ a, atI N l0 = a := ⟨_, rfl⟩
 by_cases hz : n = 0
 ·have t1 : ¬ (0 : Int) < (n : Int) := by omega
  have t2 : ¬ 0 < n := by omega
  have hH : headP l0 = (some (-1), l0) := by unfold headP; rw [if_pos (hn.trans hz)]
  rw [hH] at hR
  simp only at hR
  have HZ := Aside0.mk hz
  clear hH hz
  have h5 := h0
  unfold bodyP at hR
  rw [hat0] at hR
  rcases o6 : dateP l0 with ⟨od, r⟩
  rw [o6] at hR
  cases od with
  | none =>
   simp only at hR
   obtain ⟨ar, hatr⟩ : ∃ a, atI N r = a := ⟨_, rfl⟩
   rw [hatr] at hR
   have HR := Aside0.mk hR
   clear hR
   go_enter Tryd.func17, Tryd.ntmps17
   go_wp2_with (first
    | ((go_at_call 46); (with_reducible refine (blanks_calls (w.heap.size + 1 + 1) N L hl _ (PW.start N L w HG0 hN).tx).mono ?_); rintro e w1 ⟨rfl, hk, hA⟩; rw [e0] at hk; have HP1 := Aside0.mk ((PW.start N L w HG0 hN).step hA hk); have HD1 := Aside0.mk (hA.heap hneD (DT.start N L w)); have tx1_0 := PW.tx0 HP1.out; clear hk hA)
    | ((go_at_call 47); (with_reducible refine (span_calls 1 N l0 h0 w1 HP1.out.gk).mono ?_); rintro e w2 ⟨rfl, hb⟩; rw [hn]; have HP2 := Aside0.mk (HP1.out.stepB hb); have HD2 := Aside0.mk (show DT (w.heap.size + 1 + 1 + 1) 0 0 0 0 0 0 0 w2 from blk_below HD1.out hb); have tx2_1 := PW.tx1 HP2.out hat0; obtain ⟨r2_0, r2_1, r2_2, r2_3, r2_4, r2_5, r2_6, r2_7, r2_8, r2_9, r2_10, r2_11, r2_12, r2_13, r2_14, r2_15, r2_16, r2_17⟩ := PW.res HP2.out; clear hb)
    | ((go_at_call 50); (with_reducible refine (date_no (w.heap.size + 1 + 1) (w.heap.size + 1 + 1 + 1) N l0 h5 r o6 _ HP2.out.gk HP2.out.tx (by omega) (by omega) hneD HD2.out).mono ?_); rintro e w6 ⟨rfl, hk, hA⟩; have HP6 := Aside0.mk (HP2.out.step2 hA hk); have tx6_1 := PW.tx1 HP6.out hatr; obtain ⟨r6_0, r6_1, r6_2, r6_3, r6_4, r6_5, r6_6, r6_7, r6_8, r6_9, r6_10, r6_11, r6_12, r6_13, r6_14, r6_15, r6_16, r6_17⟩ := PW.res HP6.out; clear hk hA)
   )
   go_region
   go_wp2
   skip
   have HF := fin_world HP6.out 0 0 0 0 0 0 0 60 ar
   with_reducible refine fin_post ?_ ?_ ?_ HF.drew ?_
   rfl
   rfl
   rfl
   rw [← HR.out]
   exact fun hB => ⟨rfl, hB⟩
  | some dt =>
   obtain ⟨y, mo, dd, hh, mi, ss⟩ := dt
   simp only at hR
   unfold tailP at hR
   obtain ⟨l6, e6⟩ : ∃ l6, r = l6 := ⟨_, rfl⟩
   rw [e6] at hR o6
   have h6 : OK N l6 := by have := date_ok h5; rw [o6] at this; exact this
   obtain ⟨y1, m1, d1, hh1, mi1, ss1⟩ := date_range h5 o6
   obtain ⟨za, hatz⟩ : ∃ a, atI N l6 = a := ⟨_, rfl⟩
   rw [hatz] at hR
   rcases o7 : zoneP l6 with ⟨z, zb, l7⟩
   rw [o7] at hR
   obtain ⟨h7, z1⟩ := zone_ok h6 o7
   cases zb with
   | false =>
    simp only at hR
    have HR := Aside0.mk hR
    clear hR
    go_enter Tryd.func17, Tryd.ntmps17
    go_wp2_with (first
     | ((go_at_call 46); (with_reducible refine (blanks_calls (w.heap.size + 1 + 1) N L hl _ (PW.start N L w HG0 hN).tx).mono ?_); rintro e w1 ⟨rfl, hk, hA⟩; rw [e0] at hk; have HP1 := Aside0.mk ((PW.start N L w HG0 hN).step hA hk); have HD1 := Aside0.mk (hA.heap hneD (DT.start N L w)); have tx1_0 := PW.tx0 HP1.out; clear hk hA)
     | ((go_at_call 47); (with_reducible refine (span_calls 1 N l0 h0 w1 HP1.out.gk).mono ?_); rintro e w2 ⟨rfl, hb⟩; rw [hn]; have HP2 := Aside0.mk (HP1.out.stepB hb); have HD2 := Aside0.mk (show DT (w.heap.size + 1 + 1 + 1) 0 0 0 0 0 0 0 w2 from blk_below HD1.out hb); have tx2_1 := PW.tx1 HP2.out hat0; obtain ⟨r2_0, r2_1, r2_2, r2_3, r2_4, r2_5, r2_6, r2_7, r2_8, r2_9, r2_10, r2_11, r2_12, r2_13, r2_14, r2_15, r2_16, r2_17⟩ := PW.res HP2.out; clear hb)
     | ((go_at_call 50); (with_reducible refine (date_yes (w.heap.size + 1 + 1) (w.heap.size + 1 + 1 + 1) N l0 h5 y mo dd hh mi ss l6 o6 _ HP2.out.gk HP2.out.tx (by omega) (by omega) hneD HD2.out).mono ?_); rintro e w6 ⟨rfl, hk, hd, hA⟩; have HP6 := Aside0.mk (HP2.out.step2 hA hk); have HD6 := Aside0.mk hd; have tx6_1 := PW.tx1 HP6.out hatz; clear hk hd hA)
     | ((go_at_call 51); (with_reducible refine (zone_calls (w.heap.size + 1 + 1) N l6 h6 z false l7 o7 _ HP6.out.gk HP6.out.tx (by omega)).mono ?_); rintro e w7 ⟨rfl, hk, hA⟩; have HP7 := Aside0.mk (HP6.out.step hA hk); have HD7 := Aside0.mk (hA.heap hneD HD6.out); obtain ⟨r7_0, r7_1, r7_2, r7_3, r7_4, r7_5, r7_6, r7_7, r7_8, r7_9, r7_10, r7_11, r7_12, r7_13, r7_14, r7_15, r7_16, r7_17⟩ := PW.res HP7.out; obtain ⟨d7_0, d7_1, d7_2, d7_3, d7_4, d7_5, d7_6, d7_7⟩ := DT.all HD7.out; clear hk hA)
    )
    skip
    have HF := fin_world (HP7.out.step2 (l' := l7) ((Apart2.refl (w.heap.size + 1 + 1) (w.heap.size + 1 + 1 + 1) w7).set 6 (.int .i16 z)) (HP7.out.tx.set (by omega))) 0 0 0 0 0 0 0 61 za
    with_reducible refine fin_post ?_ ?_ ?_ HF ?_
    rfl
    rfl
    rfl
    rw [← HR.out]
    exact fun hB => ⟨rfl, hB⟩
   | true =>
    simp only at hR
    rcases o8 : restB l7 with ⟨rb, r8⟩
    rw [o8] at hR
    cases rb with
    | false =>
     simp only at hR
     obtain ⟨ar, hatr⟩ : ∃ a, atI N r8 = a := ⟨_, rfl⟩
     rw [hatr] at hR
     have HR := Aside0.mk hR
     clear hR
     go_enter Tryd.func17, Tryd.ntmps17
     go_wp2_with (first
      | ((go_at_call 46); (with_reducible refine (blanks_calls (w.heap.size + 1 + 1) N L hl _ (PW.start N L w HG0 hN).tx).mono ?_); rintro e w1 ⟨rfl, hk, hA⟩; rw [e0] at hk; have HP1 := Aside0.mk ((PW.start N L w HG0 hN).step hA hk); have HD1 := Aside0.mk (hA.heap hneD (DT.start N L w)); have tx1_0 := PW.tx0 HP1.out; clear hk hA)
      | ((go_at_call 47); (with_reducible refine (span_calls 1 N l0 h0 w1 HP1.out.gk).mono ?_); rintro e w2 ⟨rfl, hb⟩; rw [hn]; have HP2 := Aside0.mk (HP1.out.stepB hb); have HD2 := Aside0.mk (show DT (w.heap.size + 1 + 1 + 1) 0 0 0 0 0 0 0 w2 from blk_below HD1.out hb); have tx2_1 := PW.tx1 HP2.out hat0; obtain ⟨r2_0, r2_1, r2_2, r2_3, r2_4, r2_5, r2_6, r2_7, r2_8, r2_9, r2_10, r2_11, r2_12, r2_13, r2_14, r2_15, r2_16, r2_17⟩ := PW.res HP2.out; clear hb)
      | ((go_at_call 50); (with_reducible refine (date_yes (w.heap.size + 1 + 1) (w.heap.size + 1 + 1 + 1) N l0 h5 y mo dd hh mi ss l6 o6 _ HP2.out.gk HP2.out.tx (by omega) (by omega) hneD HD2.out).mono ?_); rintro e w6 ⟨rfl, hk, hd, hA⟩; have HP6 := Aside0.mk (HP2.out.step2 hA hk); have HD6 := Aside0.mk hd; have tx6_1 := PW.tx1 HP6.out hatz; clear hk hd hA)
      | ((go_at_call 51); (with_reducible refine (zone_calls (w.heap.size + 1 + 1) N l6 h6 z true l7 o7 _ HP6.out.gk HP6.out.tx (by omega)).mono ?_); rintro e w7 ⟨rfl, hk, hA⟩; have HP7 := Aside0.mk (HP6.out.step hA hk); have HD7 := Aside0.mk (hA.heap hneD HD6.out); obtain ⟨d7_0, d7_1, d7_2, d7_3, d7_4, d7_5, d7_6, d7_7⟩ := DT.all HD7.out; clear hk hA)
      | ((go_at_call 52); have hp8 : PW N l7 w (w7.setCell ⟨w.heap.size + 1 + 1 + 1, 6, none⟩ (.int .i16 z)) := HP7.out.step2 ((Apart2.refl _ _ _).set 6 _) (HP7.out.tx.set (by omega)); have hd8 : DT (w.heap.size + 1 + 1 + 1) y mo dd hh mi ss z (w7.setCell ⟨w.heap.size + 1 + 1 + 1, 6, none⟩ (.int .i16 z)) := blk_put HD7.out 6 _ rfl; (with_reducible refine (rest_no (w.heap.size + 1 + 1) N l7 h7 r8 o8 _ hp8.tx).mono ?_); rintro e w8 ⟨rfl, hk, hA⟩; have HP8 := Aside0.mk (hp8.step hA hk); have HD8 := Aside0.mk (hA.heap hneD hd8); have tx8_1 := PW.tx1 HP8.out hatr; obtain ⟨r8_0, r8_1, r8_2, r8_3, r8_4, r8_5, r8_6, r8_7, r8_8, r8_9, r8_10, r8_11, r8_12, r8_13, r8_14, r8_15, r8_16, r8_17⟩ := PW.res HP8.out; clear hk hA hp8 hd8)
     )
     go_region
     go_wp2
     skip
     have HF := fin_world HP8.out 0 0 0 0 0 0 0 60 ar
     with_reducible refine fin_post ?_ ?_ ?_ HF.drew ?_
     rfl
     rfl
     rfl
     rw [← HR.out]
     exact fun hB => ⟨rfl, hB⟩
    | true =>
     simp only at hR
     unfold finP at hR
     simp only at hR
     obtain ⟨ce, hc⟩ : ∃ c, chkV y mo dd hh mi ss z = c := ⟨_, rfl⟩
     obtain ⟨dv, hdv⟩ : ∃ c, (daysV y mo dd).1 = c := ⟨_, rfl⟩
     obtain ⟨de, hde⟩ : ∃ c, (daysV y mo dd).2 = c := ⟨_, rfl⟩
     obtain ⟨wk, hwk⟩ : ∃ c, wkV dv = c := ⟨_, rfl⟩
     have hw7 := wk_range dv
     rw [hwk] at hw7
     rw [hc, hdv, hwk] at hR
     by_cases c60 : ce = 60
     ·rw [if_pos c60] at hR
      have HR := Aside0.mk hR
      have t60 : (ce == 60) = true := beq_iff_eq.2 c60
      have HC := Aside0.mk c60
      clear hR c60
      go_enter Tryd.func17, Tryd.ntmps17
      go_wp2_with (first
       | ((go_at_call 46); (with_reducible refine (blanks_calls (w.heap.size + 1 + 1) N L hl _ (PW.start N L w HG0 hN).tx).mono ?_); rintro e w1 ⟨rfl, hk, hA⟩; rw [e0] at hk; have HP1 := Aside0.mk ((PW.start N L w HG0 hN).step hA hk); have HD1 := Aside0.mk (hA.heap hneD (DT.start N L w)); have tx1_0 := PW.tx0 HP1.out; clear hk hA)
       | ((go_at_call 47); (with_reducible refine (span_calls 1 N l0 h0 w1 HP1.out.gk).mono ?_); rintro e w2 ⟨rfl, hb⟩; rw [hn]; have HP2 := Aside0.mk (HP1.out.stepB hb); have HD2 := Aside0.mk (show DT (w.heap.size + 1 + 1 + 1) 0 0 0 0 0 0 0 w2 from blk_below HD1.out hb); have tx2_1 := PW.tx1 HP2.out hat0; obtain ⟨r2_0, r2_1, r2_2, r2_3, r2_4, r2_5, r2_6, r2_7, r2_8, r2_9, r2_10, r2_11, r2_12, r2_13, r2_14, r2_15, r2_16, r2_17⟩ := PW.res HP2.out; clear hb)
       | ((go_at_call 50); (with_reducible refine (date_yes (w.heap.size + 1 + 1) (w.heap.size + 1 + 1 + 1) N l0 h5 y mo dd hh mi ss l6 o6 _ HP2.out.gk HP2.out.tx (by omega) (by omega) hneD HD2.out).mono ?_); rintro e w6 ⟨rfl, hk, hd, hA⟩; have HP6 := Aside0.mk (HP2.out.step2 hA hk); have HD6 := Aside0.mk hd; have tx6_1 := PW.tx1 HP6.out hatz; clear hk hd hA)
       | ((go_at_call 51); (with_reducible refine (zone_calls (w.heap.size + 1 + 1) N l6 h6 z true l7 o7 _ HP6.out.gk HP6.out.tx (by omega)).mono ?_); rintro e w7 ⟨rfl, hk, hA⟩; have HP7 := Aside0.mk (HP6.out.step hA hk); have HD7 := Aside0.mk (hA.heap hneD HD6.out); obtain ⟨d7_0, d7_1, d7_2, d7_3, d7_4, d7_5, d7_6, d7_7⟩ := DT.all HD7.out; clear hk hA)
       | ((go_at_call 52); have hp8 : PW N l7 w (w7.setCell ⟨w.heap.size + 1 + 1 + 1, 6, none⟩ (.int .i16 z)) := HP7.out.step2 ((Apart2.refl _ _ _).set 6 _) (HP7.out.tx.set (by omega)); have hd8 : DT (w.heap.size + 1 + 1 + 1) y mo dd hh mi ss z (w7.setCell ⟨w.heap.size + 1 + 1 + 1, 6, none⟩ (.int .i16 z)) := blk_put HD7.out 6 _ rfl; (with_reducible refine (rest_yes (w.heap.size + 1 + 1) N l7 h7 r8 o8 _ hp8.tx).mono ?_); rintro e w8 ⟨rfl, hk, hA⟩; have HP8 := Aside0.mk (hp8.step hA hk); have HD8 := Aside0.mk (hA.heap hneD hd8); obtain ⟨d8_0, d8_1, d8_2, d8_3, d8_4, d8_5, d8_6, d8_7⟩ := DT.all HD8.out; clear hk hA hp8 hd8)
       | ((go_at_call 29); (with_reducible refine (Check_calls y mo dd hh mi ss z (by omega) (by omega) (by omega) (by omega) (by omega) (by omega) _).mono ?_); rintro e w9 ⟨rfl, hb⟩; rw [hc]; have HP9 := Aside0.mk (HP8.out.stepB hb); have HD9 := Aside0.mk (show DT (w.heap.size + 1 + 1 + 1) y mo dd hh mi ss z w9 from blk_below HD8.out hb); obtain ⟨d9_0, d9_1, d9_2, d9_3, d9_4, d9_5, d9_6, d9_7⟩ := DT.all HD9.out; clear hb)
       | ((go_at_call 14); (with_reducible refine (Days_calls y mo dd (by omega) (by omega) (by omega) (by omega) (by omega) (by omega) _).mono ?_); rintro e w10 ⟨rfl, hb⟩; rw [hdv, hde]; have HP10 := Aside0.mk (HP9.out.stepB hb.below); have HD10 := Aside0.mk (show DT (w.heap.size + 1 + 1 + 1) y mo dd hh mi ss z w10 from blk_below HD9.out hb.below); obtain ⟨r10_0, r10_1, r10_2, r10_3, r10_4, r10_5, r10_6, r10_7, r10_8, r10_9, r10_10, r10_11, r10_12, r10_13, r10_14, r10_15, r10_16, r10_17⟩ := PW.res HP10.out; obtain ⟨d10_0, d10_1, d10_2, d10_3, d10_4, d10_5, d10_6, d10_7⟩ := DT.all HD10.out; clear hb)
      )
      skip
      have HF := fin_world HP10.out 0 0 0 0 0 0 0 60 at0
      with_reducible refine fin_post ?_ ?_ ?_ HF ?_
      rfl
      rfl
      rfl
      rw [← HR.out]
      exact fun hB => ⟨rfl, hB⟩
     rw [if_neg c60] at hR
     have t60 : (ce == 60) = false := beq_eq_false_iff_ne.2 c60
     have HC := Aside0.mk c60
     clear c60
     rw [if_neg (fun h => absurd h.1 (by decide))] at hR
     by_cases c0 : ce = 0
     ·rw [if_neg (fun h => h c0)] at hR
      have HR := Aside0.mk hR
      have t0 : (ce != 0) = false := by rw [c0]; rfl
      have HC0 := Aside0.mk c0
      clear hR c0
      go_enter Tryd.func17, Tryd.ntmps17
      go_wp2_with (first
       | ((go_at_call 46); (with_reducible refine (blanks_calls (w.heap.size + 1 + 1) N L hl _ (PW.start N L w HG0 hN).tx).mono ?_); rintro e w1 ⟨rfl, hk, hA⟩; rw [e0] at hk; have HP1 := Aside0.mk ((PW.start N L w HG0 hN).step hA hk); have HD1 := Aside0.mk (hA.heap hneD (DT.start N L w)); have tx1_0 := PW.tx0 HP1.out; clear hk hA)
       | ((go_at_call 47); (with_reducible refine (span_calls 1 N l0 h0 w1 HP1.out.gk).mono ?_); rintro e w2 ⟨rfl, hb⟩; rw [hn]; have HP2 := Aside0.mk (HP1.out.stepB hb); have HD2 := Aside0.mk (show DT (w.heap.size + 1 + 1 + 1) 0 0 0 0 0 0 0 w2 from blk_below HD1.out hb); have tx2_1 := PW.tx1 HP2.out hat0; obtain ⟨r2_0, r2_1, r2_2, r2_3, r2_4, r2_5, r2_6, r2_7, r2_8, r2_9, r2_10, r2_11, r2_12, r2_13, r2_14, r2_15, r2_16, r2_17⟩ := PW.res HP2.out; clear hb)
       | ((go_at_call 50); (with_reducible refine (date_yes (w.heap.size + 1 + 1) (w.heap.size + 1 + 1 + 1) N l0 h5 y mo dd hh mi ss l6 o6 _ HP2.out.gk HP2.out.tx (by omega) (by omega) hneD HD2.out).mono ?_); rintro e w6 ⟨rfl, hk, hd, hA⟩; have HP6 := Aside0.mk (HP2.out.step2 hA hk); have HD6 := Aside0.mk hd; have tx6_1 := PW.tx1 HP6.out hatz; clear hk hd hA)
       | ((go_at_call 51); (with_reducible refine (zone_calls (w.heap.size + 1 + 1) N l6 h6 z true l7 o7 _ HP6.out.gk HP6.out.tx (by omega)).mono ?_); rintro e w7 ⟨rfl, hk, hA⟩; have HP7 := Aside0.mk (HP6.out.step hA hk); have HD7 := Aside0.mk (hA.heap hneD HD6.out); obtain ⟨d7_0, d7_1, d7_2, d7_3, d7_4, d7_5, d7_6, d7_7⟩ := DT.all HD7.out; clear hk hA)
       | ((go_at_call 52); have hp8 : PW N l7 w (w7.setCell ⟨w.heap.size + 1 + 1 + 1, 6, none⟩ (.int .i16 z)) := HP7.out.step2 ((Apart2.refl _ _ _).set 6 _) (HP7.out.tx.set (by omega)); have hd8 : DT (w.heap.size + 1 + 1 + 1) y mo dd hh mi ss z (w7.setCell ⟨w.heap.size + 1 + 1 + 1, 6, none⟩ (.int .i16 z)) := blk_put HD7.out 6 _ rfl; (with_reducible refine (rest_yes (w.heap.size + 1 + 1) N l7 h7 r8 o8 _ hp8.tx).mono ?_); rintro e w8 ⟨rfl, hk, hA⟩; have HP8 := Aside0.mk (hp8.step hA hk); have HD8 := Aside0.mk (hA.heap hneD hd8); obtain ⟨d8_0, d8_1, d8_2, d8_3, d8_4, d8_5, d8_6, d8_7⟩ := DT.all HD8.out; clear hk hA hp8 hd8)
       | ((go_at_call 29); (with_reducible refine (Check_calls y mo dd hh mi ss z (by omega) (by omega) (by omega) (by omega) (by omega) (by omega) _).mono ?_); rintro e w9 ⟨rfl, hb⟩; rw [hc]; have HP9 := Aside0.mk (HP8.out.stepB hb); have HD9 := Aside0.mk (show DT (w.heap.size + 1 + 1 + 1) y mo dd hh mi ss z w9 from blk_below HD8.out hb); obtain ⟨d9_0, d9_1, d9_2, d9_3, d9_4, d9_5, d9_6, d9_7⟩ := DT.all HD9.out; clear hb)
       | ((go_at_call 14); (with_reducible refine (Days_calls y mo dd (by omega) (by omega) (by omega) (by omega) (by omega) (by omega) _).mono ?_); rintro e w10 ⟨rfl, hb⟩; rw [hdv, hde]; have HP10 := Aside0.mk (HP9.out.stepB hb.below); have HD10 := Aside0.mk (show DT (w.heap.size + 1 + 1 + 1) y mo dd hh mi ss z w10 from blk_below HD9.out hb.below); obtain ⟨r10_0, r10_1, r10_2, r10_3, r10_4, r10_5, r10_6, r10_7, r10_8, r10_9, r10_10, r10_11, r10_12, r10_13, r10_14, r10_15, r10_16, r10_17⟩ := PW.res HP10.out; obtain ⟨d10_0, d10_1, d10_2, d10_3, d10_4, d10_5, d10_6, d10_7⟩ := DT.all HD10.out; clear hb)
      )
      skip
      have HF := fin_world HP10.out y mo dd hh mi ss z 0 0
      with_reducible refine fin_post ?_ ?_ ?_ HF ?_
      rfl
      rfl
      rfl
      rw [← HR.out]
      exact fun hB => ⟨rfl, hB⟩
     ·rw [if_pos c0] at hR
      have HR := Aside0.mk hR
      have t0 : (ce != 0) = true := bne_iff_ne.2 c0
      have HC0 := Aside0.mk c0
      clear hR c0
      go_enter Tryd.func17, Tryd.ntmps17
      go_wp2_with (first
       | ((go_at_call 46); (with_reducible refine (blanks_calls (w.heap.size + 1 + 1) N L hl _ (PW.start N L w HG0 hN).tx).mono ?_); rintro e w1 ⟨rfl, hk, hA⟩; rw [e0] at hk; have HP1 := Aside0.mk ((PW.start N L w HG0 hN).step hA hk); have HD1 := Aside0.mk (hA.heap hneD (DT.start N L w)); have tx1_0 := PW.tx0 HP1.out; clear hk hA)
       | ((go_at_call 47); (with_reducible refine (span_calls 1 N l0 h0 w1 HP1.out.gk).mono ?_); rintro e w2 ⟨rfl, hb⟩; rw [hn]; have HP2 := Aside0.mk (HP1.out.stepB hb); have HD2 := Aside0.mk (show DT (w.heap.size + 1 + 1 + 1) 0 0 0 0 0 0 0 w2 from blk_below HD1.out hb); have tx2_1 := PW.tx1 HP2.out hat0; obtain ⟨r2_0, r2_1, r2_2, r2_3, r2_4, r2_5, r2_6, r2_7, r2_8, r2_9, r2_10, r2_11, r2_12, r2_13, r2_14, r2_15, r2_16, r2_17⟩ := PW.res HP2.out; clear hb)
       | ((go_at_call 50); (with_reducible refine (date_yes (w.heap.size + 1 + 1) (w.heap.size + 1 + 1 + 1) N l0 h5 y mo dd hh mi ss l6 o6 _ HP2.out.gk HP2.out.tx (by omega) (by omega) hneD HD2.out).mono ?_); rintro e w6 ⟨rfl, hk, hd, hA⟩; have HP6 := Aside0.mk (HP2.out.step2 hA hk); have HD6 := Aside0.mk hd; have tx6_1 := PW.tx1 HP6.out hatz; clear hk hd hA)
       | ((go_at_call 51); (with_reducible refine (zone_calls (w.heap.size + 1 + 1) N l6 h6 z true l7 o7 _ HP6.out.gk HP6.out.tx (by omega)).mono ?_); rintro e w7 ⟨rfl, hk, hA⟩; have HP7 := Aside0.mk (HP6.out.step hA hk); have HD7 := Aside0.mk (hA.heap hneD HD6.out); obtain ⟨d7_0, d7_1, d7_2, d7_3, d7_4, d7_5, d7_6, d7_7⟩ := DT.all HD7.out; clear hk hA)
       | ((go_at_call 52); have hp8 : PW N l7 w (w7.setCell ⟨w.heap.size + 1 + 1 + 1, 6, none⟩ (.int .i16 z)) := HP7.out.step2 ((Apart2.refl _ _ _).set 6 _) (HP7.out.tx.set (by omega)); have hd8 : DT (w.heap.size + 1 + 1 + 1) y mo dd hh mi ss z (w7.setCell ⟨w.heap.size + 1 + 1 + 1, 6, none⟩ (.int .i16 z)) := blk_put HD7.out 6 _ rfl; (with_reducible refine (rest_yes (w.heap.size + 1 + 1) N l7 h7 r8 o8 _ hp8.tx).mono ?_); rintro e w8 ⟨rfl, hk, hA⟩; have HP8 := Aside0.mk (hp8.step hA hk); have HD8 := Aside0.mk (hA.heap hneD hd8); obtain ⟨d8_0, d8_1, d8_2, d8_3, d8_4, d8_5, d8_6, d8_7⟩ := DT.all HD8.out; clear hk hA hp8 hd8)
       | ((go_at_call 29); (with_reducible refine (Check_calls y mo dd hh mi ss z (by omega) (by omega) (by omega) (by omega) (by omega) (by omega) _).mono ?_); rintro e w9 ⟨rfl, hb⟩; rw [hc]; have HP9 := Aside0.mk (HP8.out.stepB hb); have HD9 := Aside0.mk (show DT (w.heap.size + 1 + 1 + 1) y mo dd hh mi ss z w9 from blk_below HD8.out hb); obtain ⟨d9_0, d9_1, d9_2, d9_3, d9_4, d9_5, d9_6, d9_7⟩ := DT.all HD9.out; clear hb)
       | ((go_at_call 14); (with_reducible refine (Days_calls y mo dd (by omega) (by omega) (by omega) (by omega) (by omega) (by omega) _).mono ?_); rintro e w10 ⟨rfl, hb⟩; rw [hdv, hde]; have HP10 := Aside0.mk (HP9.out.stepB hb.below); have HD10 := Aside0.mk (show DT (w.heap.size + 1 + 1 + 1) y mo dd hh mi ss z w10 from blk_below HD9.out hb.below); obtain ⟨r10_0, r10_1, r10_2, r10_3, r10_4, r10_5, r10_6, r10_7, r10_8, r10_9, r10_10, r10_11, r10_12, r10_13, r10_14, r10_15, r10_16, r10_17⟩ := PW.res HP10.out; obtain ⟨d10_0, d10_1, d10_2, d10_3, d10_4, d10_5, d10_6, d10_7⟩ := DT.all HD10.out; clear hb)
      )
      skip
      have HF := fin_world HP10.out 0 0 0 0 0 0 0 ce za
      with_reducible refine fin_post ?_ ?_ ?_ HF ?_
      rfl
      rfl
      rfl
      rw [← HR.out]
      exact fun hB => ⟨rfl, hB⟩
 have t1 : (0 : Int) < (n : Int) := by omega
 have t2 : 0 < n := by omega
 have HZ := Aside0.mk hz
 cases o3 : wordF WKD l0 with
 | none =>
  have hH : headP l0 = (none, l0) := by unfold headP; rw [if_neg (fun h => hz (hn.symm.trans h)), o3]
  rw [hH] at hR
  simp only at hR
  rw [hat0] at hR
  have HR := Aside0.mk hR
  clear hR hH hz
  go_enter Tryd.func17, Tryd.ntmps17
  go_wp2_with (first
   | ((go_at_call 46); (with_reducible refine (blanks_calls (w.heap.size + 1 + 1) N L hl _ (PW.start N L w HG0 hN).tx).mono ?_); rintro e w1 ⟨rfl, hk, hA⟩; rw [e0] at hk; have HP1 := Aside0.mk ((PW.start N L w HG0 hN).step hA hk); have HD1 := Aside0.mk (hA.heap hneD (DT.start N L w)); have tx1_0 := PW.tx0 HP1.out; clear hk hA)
   | ((go_at_call 47); (with_reducible refine (span_calls 1 N l0 h0 w1 HP1.out.gk).mono ?_); rintro e w2 ⟨rfl, hb⟩; rw [hn]; have HP2 := Aside0.mk (HP1.out.stepB hb); have HD2 := Aside0.mk (show DT (w.heap.size + 1 + 1 + 1) 0 0 0 0 0 0 0 w2 from blk_below HD1.out hb); have tx2_1 := PW.tx1 HP2.out hat0; obtain ⟨r2_0, r2_1, r2_2, r2_3, r2_4, r2_5, r2_6, r2_7, r2_8, r2_9, r2_10, r2_11, r2_12, r2_13, r2_14, r2_15, r2_16, r2_17⟩ := PW.res HP2.out; clear hb)
   | ((go_at_call 48); refine (calls_of_args (args' := #[.pointer (some ⟨w.heap.size + 1 + 1, 0, none⟩), .string (strOfNums WKD)]) (by first | rfl | kernel_rfl) ?_); (with_reducible refine (word_no WKD 7 rfl (by decide) wkd_in (w.heap.size + 1 + 1) N l0 h0 o3 _ HP2.out.gk HP2.out.tx).mono ?_); rintro e w3 ⟨rfl, hk, hA⟩; have HP3 := Aside0.mk (HP2.out.step hA hk); have HD3 := Aside0.mk (show DT (w.heap.size + 1 + 1 + 1) 0 0 0 0 0 0 0 w3 from hA.heap hneD HD2.out); have tx3_1 := PW.tx1 HP3.out hat0; obtain ⟨r3_0, r3_1, r3_2, r3_3, r3_4, r3_5, r3_6, r3_7, r3_8, r3_9, r3_10, r3_11, r3_12, r3_13, r3_14, r3_15, r3_16, r3_17⟩ := PW.res HP3.out; clear hk hA)
  )
  go_region
  go_wp2
  skip
  have HF := fin_world HP3.out 0 0 0 0 0 0 0 60 at0
  with_reducible refine fin_post ?_ ?_ ?_ HF.drew ?_
  rfl
  rfl
  rfl
  rw [← HR.out]
  exact fun hB => ⟨rfl, hB⟩
 | some nm =>
  have hnm := wkd_lt o3
  obtain ⟨l3, e3⟩ : ∃ r, l0.drop 3 = r := ⟨_, rfl⟩
  have h3 : OK N l3 := by rw [← e3]; exact h0.drop _
  obtain ⟨at3, hat3⟩ : ∃ a, atI N l3 = a := ⟨_, rfl⟩
  have m1 : ¬ (nm : Int) < 0 := by omega
  have m2 : (0 : Int) ≤ (nm : Int) := by omega
  cases o4 : begB l3 44 with
  | false =>
   have hH : headP l0 = (none, l3) := by unfold headP; rw [if_neg (fun h => hz (hn.symm.trans h)), o3]; simp only [e3]; rw [if_pos o4]
   rw [hH] at hR
   simp only at hR
   rw [hat3] at hR
   have HR := Aside0.mk hR
   clear hR hH hz
   go_enter Tryd.func17, Tryd.ntmps17
   go_wp2_with (first
    | ((go_at_call 46); (with_reducible refine (blanks_calls (w.heap.size + 1 + 1) N L hl _ (PW.start N L w HG0 hN).tx).mono ?_); rintro e w1 ⟨rfl, hk, hA⟩; rw [e0] at hk; have HP1 := Aside0.mk ((PW.start N L w HG0 hN).step hA hk); have HD1 := Aside0.mk (hA.heap hneD (DT.start N L w)); have tx1_0 := PW.tx0 HP1.out; clear hk hA)
    | ((go_at_call 47); (with_reducible refine (span_calls 1 N l0 h0 w1 HP1.out.gk).mono ?_); rintro e w2 ⟨rfl, hb⟩; rw [hn]; have HP2 := Aside0.mk (HP1.out.stepB hb); have HD2 := Aside0.mk (show DT (w.heap.size + 1 + 1 + 1) 0 0 0 0 0 0 0 w2 from blk_below HD1.out hb); have tx2_1 := PW.tx1 HP2.out hat0; obtain ⟨r2_0, r2_1, r2_2, r2_3, r2_4, r2_5, r2_6, r2_7, r2_8, r2_9, r2_10, r2_11, r2_12, r2_13, r2_14, r2_15, r2_16, r2_17⟩ := PW.res HP2.out; clear hb)
    | ((go_at_call 48); refine (calls_of_args (args' := #[.pointer (some ⟨w.heap.size + 1 + 1, 0, none⟩), .string (strOfNums WKD)]) (by first | rfl | kernel_rfl) ?_); (with_reducible refine (word_yes WKD 7 rfl (by decide) wkd_in (w.heap.size + 1 + 1) N l0 h0 nm o3 _ HP2.out.gk HP2.out.tx).mono ?_); rintro e w3 ⟨rfl, hk, hA⟩; rw [e3] at hk; have HP3 := Aside0.mk (HP2.out.step hA hk); have HD3 := Aside0.mk (show DT (w.heap.size + 1 + 1 + 1) 0 0 0 0 0 0 0 w3 from hA.heap hneD HD2.out); clear hk hA)
    | ((go_at_call 49); (with_reducible refine (begins_no (w.heap.size + 1 + 1) N l3 h3 44 o4 _ HP3.out.tx).mono ?_); rintro e w4 ⟨rfl, hk, hA⟩; have HP4 := Aside0.mk (HP3.out.step hA hk); have HD4 := Aside0.mk (show DT (w.heap.size + 1 + 1 + 1) 0 0 0 0 0 0 0 w4 from hA.heap hneD HD3.out); have tx4_1 := PW.tx1 HP4.out hat3; obtain ⟨r4_0, r4_1, r4_2, r4_3, r4_4, r4_5, r4_6, r4_7, r4_8, r4_9, r4_10, r4_11, r4_12, r4_13, r4_14, r4_15, r4_16, r4_17⟩ := PW.res HP4.out; clear hk hA)
   )
   go_region
   go_wp2
   skip
   have HF := fin_world HP4.out 0 0 0 0 0 0 0 60 at3
   with_reducible refine fin_post ?_ ?_ ?_ HF.drew ?_
   rfl
   rfl
   rfl
   rw [← HR.out]
   exact fun hB => ⟨rfl, hB⟩
  | true =>
   obtain ⟨l4, e4⟩ : ∃ r, l3.drop 1 = r := ⟨_, rfl⟩
   have h4 : OK N l4 := by rw [← e4]; exact h3.drop _
   obtain ⟨l5, e5⟩ : ∃ r, l4.drop (blN l4) = r := ⟨_, rfl⟩
   have h5 : OK N l5 := by rw [← e5]; exact h4.drop _
   have hH : headP l0 = (some (nm : Int), l5) := by unfold headP; rw [if_neg (fun h => hz (hn.symm.trans h)), o3]; simp only [e3, e4, e5]; rw [if_neg (by rw [o4]; decide)]
   rw [hH] at hR
   simp only at hR
   clear hH hz
   obtain ⟨a, hata⟩ : ∃ a, atI N l5 = a := ⟨_, rfl⟩
   unfold bodyP at hR
   rw [hata] at hR
   rcases o6 : dateP l5 with ⟨od, r⟩
   rw [o6] at hR
   cases od with
   | none =>
    simp only at hR
    obtain ⟨ar, hatr⟩ : ∃ a, atI N r = a := ⟨_, rfl⟩
    rw [hatr] at hR
    have HR := Aside0.mk hR
    clear hR
    go_enter Tryd.func17, Tryd.ntmps17
    go_wp2_with (first
     | ((go_at_call 46); (with_reducible refine (blanks_calls (w.heap.size + 1 + 1) N L hl _ (PW.start N L w HG0 hN).tx).mono ?_); rintro e w1 ⟨rfl, hk, hA⟩; rw [e0] at hk; have HP1 := Aside0.mk ((PW.start N L w HG0 hN).step hA hk); have HD1 := Aside0.mk (hA.heap hneD (DT.start N L w)); have tx1_0 := PW.tx0 HP1.out; clear hk hA)
     | ((go_at_call 47); (with_reducible refine (span_calls 1 N l0 h0 w1 HP1.out.gk).mono ?_); rintro e w2 ⟨rfl, hb⟩; rw [hn]; have HP2 := Aside0.mk (HP1.out.stepB hb); have HD2 := Aside0.mk (show DT (w.heap.size + 1 + 1 + 1) 0 0 0 0 0 0 0 w2 from blk_below HD1.out hb); have tx2_1 := PW.tx1 HP2.out hat0; obtain ⟨r2_0, r2_1, r2_2, r2_3, r2_4, r2_5, r2_6, r2_7, r2_8, r2_9, r2_10, r2_11, r2_12, r2_13, r2_14, r2_15, r2_16, r2_17⟩ := PW.res HP2.out; clear hb)
     | ((go_at_call 48); refine (calls_of_args (args' := #[.pointer (some ⟨w.heap.size + 1 + 1, 0, none⟩), .string (strOfNums WKD)]) (by first | rfl | kernel_rfl) ?_); (with_reducible refine (word_yes WKD 7 rfl (by decide) wkd_in (w.heap.size + 1 + 1) N l0 h0 nm o3 _ HP2.out.gk HP2.out.tx).mono ?_); rintro e w3 ⟨rfl, hk, hA⟩; rw [e3] at hk; have HP3 := Aside0.mk (HP2.out.step hA hk); have HD3 := Aside0.mk (show DT (w.heap.size + 1 + 1 + 1) 0 0 0 0 0 0 0 w3 from hA.heap hneD HD2.out); clear hk hA)
     | ((go_at_call 49); (with_reducible refine (begins_yes (w.heap.size + 1 + 1) N l3 h3 44 o4 _ HP3.out.tx).mono ?_); rintro e w4 ⟨rfl, hk, hA⟩; rw [e4] at hk; have HP4 := Aside0.mk (HP3.out.step hA hk); have HD4 := Aside0.mk (show DT (w.heap.size + 1 + 1 + 1) 0 0 0 0 0 0 0 w4 from hA.heap hneD HD3.out); clear hk hA)
     | ((go_at_call 46); (with_reducible refine (blanks_calls (w.heap.size + 1 + 1) N l4 h4 _ HP4.out.tx).mono ?_); rintro e w5 ⟨rfl, hk, hA⟩; rw [e5] at hk; have HP5 := Aside0.mk (HP4.out.step hA hk); have HD5 := Aside0.mk (show DT (w.heap.size + 1 + 1 + 1) 0 0 0 0 0 0 0 w5 from hA.heap hneD HD4.out); have tx5_1 := PW.tx1 HP5.out hata; clear hk hA)
     | ((go_at_call 50); (with_reducible refine (date_no (w.heap.size + 1 + 1) (w.heap.size + 1 + 1 + 1) N l5 h5 r o6 _ HP5.out.gk HP5.out.tx (by omega) (by omega) hneD HD5.out).mono ?_); rintro e w6 ⟨rfl, hk, hA⟩; have HP6 := Aside0.mk (HP5.out.step2 hA hk); have tx6_1 := PW.tx1 HP6.out hatr; obtain ⟨r6_0, r6_1, r6_2, r6_3, r6_4, r6_5, r6_6, r6_7, r6_8, r6_9, r6_10, r6_11, r6_12, r6_13, r6_14, r6_15, r6_16, r6_17⟩ := PW.res HP6.out; clear hk hA)
    )
    go_region
    go_wp2
    skip
    have HF := fin_world HP6.out 0 0 0 0 0 0 0 60 ar
    with_reducible refine fin_post ?_ ?_ ?_ HF.drew ?_
    rfl
    rfl
    rfl
    rw [← HR.out]
    exact fun hB => ⟨rfl, hB⟩
   | some dt =>
    obtain ⟨y, mo, dd, hh, mi, ss⟩ := dt
    simp only at hR
    unfold tailP at hR
    obtain ⟨l6, e6⟩ : ∃ l6, r = l6 := ⟨_, rfl⟩
    rw [e6] at hR o6
    have h6 : OK N l6 := by have := date_ok h5; rw [o6] at this; exact this
    obtain ⟨y1, m1, d1, hh1, mi1, ss1⟩ := date_range h5 o6
    obtain ⟨za, hatz⟩ : ∃ a, atI N l6 = a := ⟨_, rfl⟩
    rw [hatz] at hR
    rcases o7 : zoneP l6 with ⟨z, zb, l7⟩
    rw [o7] at hR
    obtain ⟨h7, z1⟩ := zone_ok h6 o7
    cases zb with
    | false =>
     simp only at hR
     have HR := Aside0.mk hR
     clear hR
     go_enter Tryd.func17, Tryd.ntmps17
     go_wp2_with (first
      | ((go_at_call 46); (with_reducible refine (blanks_calls (w.heap.size + 1 + 1) N L hl _ (PW.start N L w HG0 hN).tx).mono ?_); rintro e w1 ⟨rfl, hk, hA⟩; rw [e0] at hk; have HP1 := Aside0.mk ((PW.start N L w HG0 hN).step hA hk); have HD1 := Aside0.mk (hA.heap hneD (DT.start N L w)); have tx1_0 := PW.tx0 HP1.out; clear hk hA)
      | ((go_at_call 47); (with_reducible refine (span_calls 1 N l0 h0 w1 HP1.out.gk).mono ?_); rintro e w2 ⟨rfl, hb⟩; rw [hn]; have HP2 := Aside0.mk (HP1.out.stepB hb); have HD2 := Aside0.mk (show DT (w.heap.size + 1 + 1 + 1) 0 0 0 0 0 0 0 w2 from blk_below HD1.out hb); have tx2_1 := PW.tx1 HP2.out hat0; obtain ⟨r2_0, r2_1, r2_2, r2_3, r2_4, r2_5, r2_6, r2_7, r2_8, r2_9, r2_10, r2_11, r2_12, r2_13, r2_14, r2_15, r2_16, r2_17⟩ := PW.res HP2.out; clear hb)
      | ((go_at_call 48); refine (calls_of_args (args' := #[.pointer (some ⟨w.heap.size + 1 + 1, 0, none⟩), .string (strOfNums WKD)]) (by first | rfl | kernel_rfl) ?_); (with_reducible refine (word_yes WKD 7 rfl (by decide) wkd_in (w.heap.size + 1 + 1) N l0 h0 nm o3 _ HP2.out.gk HP2.out.tx).mono ?_); rintro e w3 ⟨rfl, hk, hA⟩; rw [e3] at hk; have HP3 := Aside0.mk (HP2.out.step hA hk); have HD3 := Aside0.mk (show DT (w.heap.size + 1 + 1 + 1) 0 0 0 0 0 0 0 w3 from hA.heap hneD HD2.out); clear hk hA)
      | ((go_at_call 49); (with_reducible refine (begins_yes (w.heap.size + 1 + 1) N l3 h3 44 o4 _ HP3.out.tx).mono ?_); rintro e w4 ⟨rfl, hk, hA⟩; rw [e4] at hk; have HP4 := Aside0.mk (HP3.out.step hA hk); have HD4 := Aside0.mk (show DT (w.heap.size + 1 + 1 + 1) 0 0 0 0 0 0 0 w4 from hA.heap hneD HD3.out); clear hk hA)
      | ((go_at_call 46); (with_reducible refine (blanks_calls (w.heap.size + 1 + 1) N l4 h4 _ HP4.out.tx).mono ?_); rintro e w5 ⟨rfl, hk, hA⟩; rw [e5] at hk; have HP5 := Aside0.mk (HP4.out.step hA hk); have HD5 := Aside0.mk (show DT (w.heap.size + 1 + 1 + 1) 0 0 0 0 0 0 0 w5 from hA.heap hneD HD4.out); have tx5_1 := PW.tx1 HP5.out hata; clear hk hA)
      | ((go_at_call 50); (with_reducible refine (date_yes (w.heap.size + 1 + 1) (w.heap.size + 1 + 1 + 1) N l5 h5 y mo dd hh mi ss l6 o6 _ HP5.out.gk HP5.out.tx (by omega) (by omega) hneD HD5.out).mono ?_); rintro e w6 ⟨rfl, hk, hd, hA⟩; have HP6 := Aside0.mk (HP5.out.step2 hA hk); have HD6 := Aside0.mk hd; have tx6_1 := PW.tx1 HP6.out hatz; clear hk hd hA)
      | ((go_at_call 51); (with_reducible refine (zone_calls (w.heap.size + 1 + 1) N l6 h6 z false l7 o7 _ HP6.out.gk HP6.out.tx (by omega)).mono ?_); rintro e w7 ⟨rfl, hk, hA⟩; have HP7 := Aside0.mk (HP6.out.step hA hk); have HD7 := Aside0.mk (hA.heap hneD HD6.out); obtain ⟨r7_0, r7_1, r7_2, r7_3, r7_4, r7_5, r7_6, r7_7, r7_8, r7_9, r7_10, r7_11, r7_12, r7_13, r7_14, r7_15, r7_16, r7_17⟩ := PW.res HP7.out; obtain ⟨d7_0, d7_1, d7_2, d7_3, d7_4, d7_5, d7_6, d7_7⟩ := DT.all HD7.out; clear hk hA)
     )
     skip
     have HF := fin_world (HP7.out.step2 (l' := l7) ((Apart2.refl (w.heap.size + 1 + 1) (w.heap.size + 1 + 1 + 1) w7).set 6 (.int .i16 z)) (HP7.out.tx.set (by omega))) 0 0 0 0 0 0 0 61 za
     with_reducible refine fin_post ?_ ?_ ?_ HF ?_
     rfl
     rfl
     rfl
     rw [← HR.out]
     exact fun hB => ⟨rfl, hB⟩
    | true =>
     simp only at hR
     rcases o8 : restB l7 with ⟨rb, r8⟩
     rw [o8] at hR
     cases rb with
     | false =>
      simp only at hR
      obtain ⟨ar, hatr⟩ : ∃ a, atI N r8 = a := ⟨_, rfl⟩
      rw [hatr] at hR
      have HR := Aside0.mk hR
      clear hR
      go_enter Tryd.func17, Tryd.ntmps17
      go_wp2_with (first
       | ((go_at_call 46); (with_reducible refine (blanks_calls (w.heap.size + 1 + 1) N L hl _ (PW.start N L w HG0 hN).tx).mono ?_); rintro e w1 ⟨rfl, hk, hA⟩; rw [e0] at hk; have HP1 := Aside0.mk ((PW.start N L w HG0 hN).step hA hk); have HD1 := Aside0.mk (hA.heap hneD (DT.start N L w)); have tx1_0 := PW.tx0 HP1.out; clear hk hA)
       | ((go_at_call 47); (with_reducible refine (span_calls 1 N l0 h0 w1 HP1.out.gk).mono ?_); rintro e w2 ⟨rfl, hb⟩; rw [hn]; have HP2 := Aside0.mk (HP1.out.stepB hb); have HD2 := Aside0.mk (show DT (w.heap.size + 1 + 1 + 1) 0 0 0 0 0 0 0 w2 from blk_below HD1.out hb); have tx2_1 := PW.tx1 HP2.out hat0; obtain ⟨r2_0, r2_1, r2_2, r2_3, r2_4, r2_5, r2_6, r2_7, r2_8, r2_9, r2_10, r2_11, r2_12, r2_13, r2_14, r2_15, r2_16, r2_17⟩ := PW.res HP2.out; clear hb)
       | ((go_at_call 48); refine (calls_of_args (args' := #[.pointer (some ⟨w.heap.size + 1 + 1, 0, none⟩), .string (strOfNums WKD)]) (by first | rfl | kernel_rfl) ?_); (with_reducible refine (word_yes WKD 7 rfl (by decide) wkd_in (w.heap.size + 1 + 1) N l0 h0 nm o3 _ HP2.out.gk HP2.out.tx).mono ?_); rintro e w3 ⟨rfl, hk, hA⟩; rw [e3] at hk; have HP3 := Aside0.mk (HP2.out.step hA hk); have HD3 := Aside0.mk (show DT (w.heap.size + 1 + 1 + 1) 0 0 0 0 0 0 0 w3 from hA.heap hneD HD2.out); clear hk hA)
       | ((go_at_call 49); (with_reducible refine (begins_yes (w.heap.size + 1 + 1) N l3 h3 44 o4 _ HP3.out.tx).mono ?_); rintro e w4 ⟨rfl, hk, hA⟩; rw [e4] at hk; have HP4 := Aside0.mk (HP3.out.step hA hk); have HD4 := Aside0.mk (show DT (w.heap.size + 1 + 1 + 1) 0 0 0 0 0 0 0 w4 from hA.heap hneD HD3.out); clear hk hA)
       | ((go_at_call 46); (with_reducible refine (blanks_calls (w.heap.size + 1 + 1) N l4 h4 _ HP4.out.tx).mono ?_); rintro e w5 ⟨rfl, hk, hA⟩; rw [e5] at hk; have HP5 := Aside0.mk (HP4.out.step hA hk); have HD5 := Aside0.mk (show DT (w.heap.size + 1 + 1 + 1) 0 0 0 0 0 0 0 w5 from hA.heap hneD HD4.out); have tx5_1 := PW.tx1 HP5.out hata; clear hk hA)
       | ((go_at_call 50); (with_reducible refine (date_yes (w.heap.size + 1 + 1) (w.heap.size + 1 + 1 + 1) N l5 h5 y mo dd hh mi ss l6 o6 _ HP5.out.gk HP5.out.tx (by omega) (by omega) hneD HD5.out).mono ?_); rintro e w6 ⟨rfl, hk, hd, hA⟩; have HP6 := Aside0.mk (HP5.out.step2 hA hk); have HD6 := Aside0.mk hd; have tx6_1 := PW.tx1 HP6.out hatz; clear hk hd hA)
       | ((go_at_call 51); (with_reducible refine (zone_calls (w.heap.size + 1 + 1) N l6 h6 z true l7 o7 _ HP6.out.gk HP6.out.tx (by omega)).mono ?_); rintro e w7 ⟨rfl, hk, hA⟩; have HP7 := Aside0.mk (HP6.out.step hA hk); have HD7 := Aside0.mk (hA.heap hneD HD6.out); obtain ⟨d7_0, d7_1, d7_2, d7_3, d7_4, d7_5, d7_6, d7_7⟩ := DT.all HD7.out; clear hk hA)
       | ((go_at_call 52); have hp8 : PW N l7 w (w7.setCell ⟨w.heap.size + 1 + 1 + 1, 6, none⟩ (.int .i16 z)) := HP7.out.step2 ((Apart2.refl _ _ _).set 6 _) (HP7.out.tx.set (by omega)); have hd8 : DT (w.heap.size + 1 + 1 + 1) y mo dd hh mi ss z (w7.setCell ⟨w.heap.size + 1 + 1 + 1, 6, none⟩ (.int .i16 z)) := blk_put HD7.out 6 _ rfl; (with_reducible refine (rest_no (w.heap.size + 1 + 1) N l7 h7 r8 o8 _ hp8.tx).mono ?_); rintro e w8 ⟨rfl, hk, hA⟩; have HP8 := Aside0.mk (hp8.step hA hk); have HD8 := Aside0.mk (hA.heap hneD hd8); have tx8_1 := PW.tx1 HP8.out hatr; obtain ⟨r8_0, r8_1, r8_2, r8_3, r8_4, r8_5, r8_6, r8_7, r8_8, r8_9, r8_10, r8_11, r8_12, r8_13, r8_14, r8_15, r8_16, r8_17⟩ := PW.res HP8.out; clear hk hA hp8 hd8)
      )
      go_region
      go_wp2
      skip
      have HF := fin_world HP8.out 0 0 0 0 0 0 0 60 ar
      with_reducible refine fin_post ?_ ?_ ?_ HF.drew ?_
      rfl
      rfl
      rfl
      rw [← HR.out]
      exact fun hB => ⟨rfl, hB⟩
     | true =>
      simp only at hR
      unfold finP at hR
      simp only at hR
      obtain ⟨ce, hc⟩ : ∃ c, chkV y mo dd hh mi ss z = c := ⟨_, rfl⟩
      obtain ⟨dv, hdv⟩ : ∃ c, (daysV y mo dd).1 = c := ⟨_, rfl⟩
      obtain ⟨de, hde⟩ : ∃ c, (daysV y mo dd).2 = c := ⟨_, rfl⟩
      obtain ⟨wk, hwk⟩ : ∃ c, wkV dv = c := ⟨_, rfl⟩
      have hw7 := wk_range dv
      rw [hwk] at hw7
      rw [hc, hdv, hwk] at hR
      by_cases c60 : ce = 60
      ·rw [if_pos c60] at hR
       have HR := Aside0.mk hR
       have t60 : (ce == 60) = true := beq_iff_eq.2 c60
       have HC := Aside0.mk c60
       clear hR c60
       go_enter Tryd.func17, Tryd.ntmps17
       go_wp2_with (first
        | ((go_at_call 46); (with_reducible refine (blanks_calls (w.heap.size + 1 + 1) N L hl _ (PW.start N L w HG0 hN).tx).mono ?_); rintro e w1 ⟨rfl, hk, hA⟩; rw [e0] at hk; have HP1 := Aside0.mk ((PW.start N L w HG0 hN).step hA hk); have HD1 := Aside0.mk (hA.heap hneD (DT.start N L w)); have tx1_0 := PW.tx0 HP1.out; clear hk hA)
        | ((go_at_call 47); (with_reducible refine (span_calls 1 N l0 h0 w1 HP1.out.gk).mono ?_); rintro e w2 ⟨rfl, hb⟩; rw [hn]; have HP2 := Aside0.mk (HP1.out.stepB hb); have HD2 := Aside0.mk (show DT (w.heap.size + 1 + 1 + 1) 0 0 0 0 0 0 0 w2 from blk_below HD1.out hb); have tx2_1 := PW.tx1 HP2.out hat0; obtain ⟨r2_0, r2_1, r2_2, r2_3, r2_4, r2_5, r2_6, r2_7, r2_8, r2_9, r2_10, r2_11, r2_12, r2_13, r2_14, r2_15, r2_16, r2_17⟩ := PW.res HP2.out; clear hb)
        | ((go_at_call 48); refine (calls_of_args (args' := #[.pointer (some ⟨w.heap.size + 1 + 1, 0, none⟩), .string (strOfNums WKD)]) (by first | rfl | kernel_rfl) ?_); (with_reducible refine (word_yes WKD 7 rfl (by decide) wkd_in (w.heap.size + 1 + 1) N l0 h0 nm o3 _ HP2.out.gk HP2.out.tx).mono ?_); rintro e w3 ⟨rfl, hk, hA⟩; rw [e3] at hk; have HP3 := Aside0.mk (HP2.out.step hA hk); have HD3 := Aside0.mk (show DT (w.heap.size + 1 + 1 + 1) 0 0 0 0 0 0 0 w3 from hA.heap hneD HD2.out); clear hk hA)
        | ((go_at_call 49); (with_reducible refine (begins_yes (w.heap.size + 1 + 1) N l3 h3 44 o4 _ HP3.out.tx).mono ?_); rintro e w4 ⟨rfl, hk, hA⟩; rw [e4] at hk; have HP4 := Aside0.mk (HP3.out.step hA hk); have HD4 := Aside0.mk (show DT (w.heap.size + 1 + 1 + 1) 0 0 0 0 0 0 0 w4 from hA.heap hneD HD3.out); clear hk hA)
        | ((go_at_call 46); (with_reducible refine (blanks_calls (w.heap.size + 1 + 1) N l4 h4 _ HP4.out.tx).mono ?_); rintro e w5 ⟨rfl, hk, hA⟩; rw [e5] at hk; have HP5 := Aside0.mk (HP4.out.step hA hk); have HD5 := Aside0.mk (show DT (w.heap.size + 1 + 1 + 1) 0 0 0 0 0 0 0 w5 from hA.heap hneD HD4.out); have tx5_1 := PW.tx1 HP5.out hata; clear hk hA)
        | ((go_at_call 50); (with_reducible refine (date_yes (w.heap.size + 1 + 1) (w.heap.size + 1 + 1 + 1) N l5 h5 y mo dd hh mi ss l6 o6 _ HP5.out.gk HP5.out.tx (by omega) (by omega) hneD HD5.out).mono ?_); rintro e w6 ⟨rfl, hk, hd, hA⟩; have HP6 := Aside0.mk (HP5.out.step2 hA hk); have HD6 := Aside0.mk hd; have tx6_1 := PW.tx1 HP6.out hatz; clear hk hd hA)
        | ((go_at_call 51); (with_reducible refine (zone_calls (w.heap.size + 1 + 1) N l6 h6 z true l7 o7 _ HP6.out.gk HP6.out.tx (by omega)).mono ?_); rintro e w7 ⟨rfl, hk, hA⟩; have HP7 := Aside0.mk (HP6.out.step hA hk); have HD7 := Aside0.mk (hA.heap hneD HD6.out); obtain ⟨d7_0, d7_1, d7_2, d7_3, d7_4, d7_5, d7_6, d7_7⟩ := DT.all HD7.out; clear hk hA)
        | ((go_at_call 52); have hp8 : PW N l7 w (w7.setCell ⟨w.heap.size + 1 + 1 + 1, 6, none⟩ (.int .i16 z)) := HP7.out.step2 ((Apart2.refl _ _ _).set 6 _) (HP7.out.tx.set (by omega)); have hd8 : DT (w.heap.size + 1 + 1 + 1) y mo dd hh mi ss z (w7.setCell ⟨w.heap.size + 1 + 1 + 1, 6, none⟩ (.int .i16 z)) := blk_put HD7.out 6 _ rfl; (with_reducible refine (rest_yes (w.heap.size + 1 + 1) N l7 h7 r8 o8 _ hp8.tx).mono ?_); rintro e w8 ⟨rfl, hk, hA⟩; have HP8 := Aside0.mk (hp8.step hA hk); have HD8 := Aside0.mk (hA.heap hneD hd8); obtain ⟨d8_0, d8_1, d8_2, d8_3, d8_4, d8_5, d8_6, d8_7⟩ := DT.all HD8.out; clear hk hA hp8 hd8)
        | ((go_at_call 29); (with_reducible refine (Check_calls y mo dd hh mi ss z (by omega) (by omega) (by omega) (by omega) (by omega) (by omega) _).mono ?_); rintro e w9 ⟨rfl, hb⟩; rw [hc]; have HP9 := Aside0.mk (HP8.out.stepB hb); have HD9 := Aside0.mk (show DT (w.heap.size + 1 + 1 + 1) y mo dd hh mi ss z w9 from blk_below HD8.out hb); obtain ⟨d9_0, d9_1, d9_2, d9_3, d9_4, d9_5, d9_6, d9_7⟩ := DT.all HD9.out; clear hb)
        | ((go_at_call 14); (with_reducible refine (Days_calls y mo dd (by omega) (by omega) (by omega) (by omega) (by omega) (by omega) _).mono ?_); rintro e w10 ⟨rfl, hb⟩; rw [hdv, hde]; have HP10 := Aside0.mk (HP9.out.stepB hb.below); have HD10 := Aside0.mk (show DT (w.heap.size + 1 + 1 + 1) y mo dd hh mi ss z w10 from blk_below HD9.out hb.below); obtain ⟨r10_0, r10_1, r10_2, r10_3, r10_4, r10_5, r10_6, r10_7, r10_8, r10_9, r10_10, r10_11, r10_12, r10_13, r10_14, r10_15, r10_16, r10_17⟩ := PW.res HP10.out; obtain ⟨d10_0, d10_1, d10_2, d10_3, d10_4, d10_5, d10_6, d10_7⟩ := DT.all HD10.out; clear hb)
       )
       skip
       have HF := fin_world HP10.out 0 0 0 0 0 0 0 60 a
       with_reducible refine fin_post ?_ ?_ ?_ HF ?_
       rfl
       rfl
       rfl
       rw [← HR.out]
       exact fun hB => ⟨rfl, hB⟩
      rw [if_neg c60] at hR
      have t60 : (ce == 60) = false := beq_eq_false_iff_ne.2 c60
      have HC := Aside0.mk c60
      clear c60
      by_cases cw : wk = (nm : Int)
      ·rw [if_neg (fun h => h.2 cw)] at hR
       have tw : (wk != (nm : Int)) = false := by rw [cw]; simp
       have HW := Aside0.mk cw
       clear cw
       by_cases c0 : ce = 0
       ·rw [if_neg (fun h => h c0)] at hR
        have HR := Aside0.mk hR
        have t0 : (ce != 0) = false := by rw [c0]; rfl
        have HC0 := Aside0.mk c0
        clear hR c0
        go_enter Tryd.func17, Tryd.ntmps17
        go_wp2_with (first
         | ((go_at_call 46); (with_reducible refine (blanks_calls (w.heap.size + 1 + 1) N L hl _ (PW.start N L w HG0 hN).tx).mono ?_); rintro e w1 ⟨rfl, hk, hA⟩; rw [e0] at hk; have HP1 := Aside0.mk ((PW.start N L w HG0 hN).step hA hk); have HD1 := Aside0.mk (hA.heap hneD (DT.start N L w)); have tx1_0 := PW.tx0 HP1.out; clear hk hA)
         | ((go_at_call 47); (with_reducible refine (span_calls 1 N l0 h0 w1 HP1.out.gk).mono ?_); rintro e w2 ⟨rfl, hb⟩; rw [hn]; have HP2 := Aside0.mk (HP1.out.stepB hb); have HD2 := Aside0.mk (show DT (w.heap.size + 1 + 1 + 1) 0 0 0 0 0 0 0 w2 from blk_below HD1.out hb); have tx2_1 := PW.tx1 HP2.out hat0; obtain ⟨r2_0, r2_1, r2_2, r2_3, r2_4, r2_5, r2_6, r2_7, r2_8, r2_9, r2_10, r2_11, r2_12, r2_13, r2_14, r2_15, r2_16, r2_17⟩ := PW.res HP2.out; clear hb)
         | ((go_at_call 48); refine (calls_of_args (args' := #[.pointer (some ⟨w.heap.size + 1 + 1, 0, none⟩), .string (strOfNums WKD)]) (by first | rfl | kernel_rfl) ?_); (with_reducible refine (word_yes WKD 7 rfl (by decide) wkd_in (w.heap.size + 1 + 1) N l0 h0 nm o3 _ HP2.out.gk HP2.out.tx).mono ?_); rintro e w3 ⟨rfl, hk, hA⟩; rw [e3] at hk; have HP3 := Aside0.mk (HP2.out.step hA hk); have HD3 := Aside0.mk (show DT (w.heap.size + 1 + 1 + 1) 0 0 0 0 0 0 0 w3 from hA.heap hneD HD2.out); clear hk hA)
         | ((go_at_call 49); (with_reducible refine (begins_yes (w.heap.size + 1 + 1) N l3 h3 44 o4 _ HP3.out.tx).mono ?_); rintro e w4 ⟨rfl, hk, hA⟩; rw [e4] at hk; have HP4 := Aside0.mk (HP3.out.step hA hk); have HD4 := Aside0.mk (show DT (w.heap.size + 1 + 1 + 1) 0 0 0 0 0 0 0 w4 from hA.heap hneD HD3.out); clear hk hA)
         | ((go_at_call 46); (with_reducible refine (blanks_calls (w.heap.size + 1 + 1) N l4 h4 _ HP4.out.tx).mono ?_); rintro e w5 ⟨rfl, hk, hA⟩; rw [e5] at hk; have HP5 := Aside0.mk (HP4.out.step hA hk); have HD5 := Aside0.mk (show DT (w.heap.size + 1 + 1 + 1) 0 0 0 0 0 0 0 w5 from hA.heap hneD HD4.out); have tx5_1 := PW.tx1 HP5.out hata; clear hk hA)
         | ((go_at_call 50); (with_reducible refine (date_yes (w.heap.size + 1 + 1) (w.heap.size + 1 + 1 + 1) N l5 h5 y mo dd hh mi ss l6 o6 _ HP5.out.gk HP5.out.tx (by omega) (by omega) hneD HD5.out).mono ?_); rintro e w6 ⟨rfl, hk, hd, hA⟩; have HP6 := Aside0.mk (HP5.out.step2 hA hk); have HD6 := Aside0.mk hd; have tx6_1 := PW.tx1 HP6.out hatz; clear hk hd hA)
         | ((go_at_call 51); (with_reducible refine (zone_calls (w.heap.size + 1 + 1) N l6 h6 z true l7 o7 _ HP6.out.gk HP6.out.tx (by omega)).mono ?_); rintro e w7 ⟨rfl, hk, hA⟩; have HP7 := Aside0.mk (HP6.out.step hA hk); have HD7 := Aside0.mk (hA.heap hneD HD6.out); obtain ⟨d7_0, d7_1, d7_2, d7_3, d7_4, d7_5, d7_6, d7_7⟩ := DT.all HD7.out; clear hk hA)
         | ((go_at_call 52); have hp8 : PW N l7 w (w7.setCell ⟨w.heap.size + 1 + 1 + 1, 6, none⟩ (.int .i16 z)) := HP7.out.step2 ((Apart2.refl _ _ _).set 6 _) (HP7.out.tx.set (by omega)); have hd8 : DT (w.heap.size + 1 + 1 + 1) y mo dd hh mi ss z (w7.setCell ⟨w.heap.size + 1 + 1 + 1, 6, none⟩ (.int .i16 z)) := blk_put HD7.out 6 _ rfl; (with_reducible refine (rest_yes (w.heap.size + 1 + 1) N l7 h7 r8 o8 _ hp8.tx).mono ?_); rintro e w8 ⟨rfl, hk, hA⟩; have HP8 := Aside0.mk (hp8.step hA hk); have HD8 := Aside0.mk (hA.heap hneD hd8); obtain ⟨d8_0, d8_1, d8_2, d8_3, d8_4, d8_5, d8_6, d8_7⟩ := DT.all HD8.out; clear hk hA hp8 hd8)
         | ((go_at_call 29); (with_reducible refine (Check_calls y mo dd hh mi ss z (by omega) (by omega) (by omega) (by omega) (by omega) (by omega) _).mono ?_); rintro e w9 ⟨rfl, hb⟩; rw [hc]; have HP9 := Aside0.mk (HP8.out.stepB hb); have HD9 := Aside0.mk (show DT (w.heap.size + 1 + 1 + 1) y mo dd hh mi ss z w9 from blk_below HD8.out hb); obtain ⟨d9_0, d9_1, d9_2, d9_3, d9_4, d9_5, d9_6, d9_7⟩ := DT.all HD9.out; clear hb)
         | ((go_at_call 14); (with_reducible refine (Days_calls y mo dd (by omega) (by omega) (by omega) (by omega) (by omega) (by omega) _).mono ?_); rintro e w10 ⟨rfl, hb⟩; rw [hdv, hde]; have HP10 := Aside0.mk (HP9.out.stepB hb.below); have HD10 := Aside0.mk (show DT (w.heap.size + 1 + 1 + 1) y mo dd hh mi ss z w10 from blk_below HD9.out hb.below); obtain ⟨r10_0, r10_1, r10_2, r10_3, r10_4, r10_5, r10_6, r10_7, r10_8, r10_9, r10_10, r10_11, r10_12, r10_13, r10_14, r10_15, r10_16, r10_17⟩ := PW.res HP10.out; obtain ⟨d10_0, d10_1, d10_2, d10_3, d10_4, d10_5, d10_6, d10_7⟩ := DT.all HD10.out; clear hb)
         | ((go_at_call 20); (with_reducible refine (Weekday_calls dv _).mono ?_); rintro e w11 ⟨rfl, hb⟩; rw [hwk]; have HP11 := Aside0.mk (HP10.out.stepB hb.below); have HD11 := Aside0.mk (show DT (w.heap.size + 1 + 1 + 1) y mo dd hh mi ss z w11 from blk_below HD10.out hb.below); obtain ⟨r11_0, r11_1, r11_2, r11_3, r11_4, r11_5, r11_6, r11_7, r11_8, r11_9, r11_10, r11_11, r11_12, r11_13, r11_14, r11_15, r11_16, r11_17⟩ := PW.res HP11.out; obtain ⟨d11_0, d11_1, d11_2, d11_3, d11_4, d11_5, d11_6, d11_7⟩ := DT.all HD11.out; clear hb)
        )
        skip
        have HF := fin_world HP11.out y mo dd hh mi ss z 0 0
        with_reducible refine fin_post ?_ ?_ ?_ HF ?_
        rfl
        rfl
        rfl
        rw [← HR.out]
        exact fun hB => ⟨rfl, hB⟩
       ·rw [if_pos c0] at hR
        have HR := Aside0.mk hR
        have t0 : (ce != 0) = true := bne_iff_ne.2 c0
        have HC0 := Aside0.mk c0
        clear hR c0
        go_enter Tryd.func17, Tryd.ntmps17
        go_wp2_with (first
         | ((go_at_call 46); (with_reducible refine (blanks_calls (w.heap.size + 1 + 1) N L hl _ (PW.start N L w HG0 hN).tx).mono ?_); rintro e w1 ⟨rfl, hk, hA⟩; rw [e0] at hk; have HP1 := Aside0.mk ((PW.start N L w HG0 hN).step hA hk); have HD1 := Aside0.mk (hA.heap hneD (DT.start N L w)); have tx1_0 := PW.tx0 HP1.out; clear hk hA)
         | ((go_at_call 47); (with_reducible refine (span_calls 1 N l0 h0 w1 HP1.out.gk).mono ?_); rintro e w2 ⟨rfl, hb⟩; rw [hn]; have HP2 := Aside0.mk (HP1.out.stepB hb); have HD2 := Aside0.mk (show DT (w.heap.size + 1 + 1 + 1) 0 0 0 0 0 0 0 w2 from blk_below HD1.out hb); have tx2_1 := PW.tx1 HP2.out hat0; obtain ⟨r2_0, r2_1, r2_2, r2_3, r2_4, r2_5, r2_6, r2_7, r2_8, r2_9, r2_10, r2_11, r2_12, r2_13, r2_14, r2_15, r2_16, r2_17⟩ := PW.res HP2.out; clear hb)
         | ((go_at_call 48); refine (calls_of_args (args' := #[.pointer (some ⟨w.heap.size + 1 + 1, 0, none⟩), .string (strOfNums WKD)]) (by first | rfl | kernel_rfl) ?_); (with_reducible refine (word_yes WKD 7 rfl (by decide) wkd_in (w.heap.size + 1 + 1) N l0 h0 nm o3 _ HP2.out.gk HP2.out.tx).mono ?_); rintro e w3 ⟨rfl, hk, hA⟩; rw [e3] at hk; have HP3 := Aside0.mk (HP2.out.step hA hk); have HD3 := Aside0.mk (show DT (w.heap.size + 1 + 1 + 1) 0 0 0 0 0 0 0 w3 from hA.heap hneD HD2.out); clear hk hA)
         | ((go_at_call 49); (with_reducible refine (begins_yes (w.heap.size + 1 + 1) N l3 h3 44 o4 _ HP3.out.tx).mono ?_); rintro e w4 ⟨rfl, hk, hA⟩; rw [e4] at hk; have HP4 := Aside0.mk (HP3.out.step hA hk); have HD4 := Aside0.mk (show DT (w.heap.size + 1 + 1 + 1) 0 0 0 0 0 0 0 w4 from hA.heap hneD HD3.out); clear hk hA)
         | ((go_at_call 46); (with_reducible refine (blanks_calls (w.heap.size + 1 + 1) N l4 h4 _ HP4.out.tx).mono ?_); rintro e w5 ⟨rfl, hk, hA⟩; rw [e5] at hk; have HP5 := Aside0.mk (HP4.out.step hA hk); have HD5 := Aside0.mk (show DT (w.heap.size + 1 + 1 + 1) 0 0 0 0 0 0 0 w5 from hA.heap hneD HD4.out); have tx5_1 := PW.tx1 HP5.out hata; clear hk hA)
         | ((go_at_call 50); (with_reducible refine (date_yes (w.heap.size + 1 + 1) (w.heap.size + 1 + 1 + 1) N l5 h5 y mo dd hh mi ss l6 o6 _ HP5.out.gk HP5.out.tx (by omega) (by omega) hneD HD5.out).mono ?_); rintro e w6 ⟨rfl, hk, hd, hA⟩; have HP6 := Aside0.mk (HP5.out.step2 hA hk); have HD6 := Aside0.mk hd; have tx6_1 := PW.tx1 HP6.out hatz; clear hk hd hA)
         | ((go_at_call 51); (with_reducible refine (zone_calls (w.heap.size + 1 + 1) N l6 h6 z true l7 o7 _ HP6.out.gk HP6.out.tx (by omega)).mono ?_); rintro e w7 ⟨rfl, hk, hA⟩; have HP7 := Aside0.mk (HP6.out.step hA hk); have HD7 := Aside0.mk (hA.heap hneD HD6.out); obtain ⟨d7_0, d7_1, d7_2, d7_3, d7_4, d7_5, d7_6, d7_7⟩ := DT.all HD7.out; clear hk hA)
         | ((go_at_call 52); have hp8 : PW N l7 w (w7.setCell ⟨w.heap.size + 1 + 1 + 1, 6, none⟩ (.int .i16 z)) := HP7.out.step2 ((Apart2.refl _ _ _).set 6 _) (HP7.out.tx.set (by omega)); have hd8 : DT (w.heap.size + 1 + 1 + 1) y mo dd hh mi ss z (w7.setCell ⟨w.heap.size + 1 + 1 + 1, 6, none⟩ (.int .i16 z)) := blk_put HD7.out 6 _ rfl; (with_reducible refine (rest_yes (w.heap.size + 1 + 1) N l7 h7 r8 o8 _ hp8.tx).mono ?_); rintro e w8 ⟨rfl, hk, hA⟩; have HP8 := Aside0.mk (hp8.step hA hk); have HD8 := Aside0.mk (hA.heap hneD hd8); obtain ⟨d8_0, d8_1, d8_2, d8_3, d8_4, d8_5, d8_6, d8_7⟩ := DT.all HD8.out; clear hk hA hp8 hd8)
         | ((go_at_call 29); (with_reducible refine (Check_calls y mo dd hh mi ss z (by omega) (by omega) (by omega) (by omega) (by omega) (by omega) _).mono ?_); rintro e w9 ⟨rfl, hb⟩; rw [hc]; have HP9 := Aside0.mk (HP8.out.stepB hb); have HD9 := Aside0.mk (show DT (w.heap.size + 1 + 1 + 1) y mo dd hh mi ss z w9 from blk_below HD8.out hb); obtain ⟨d9_0, d9_1, d9_2, d9_3, d9_4, d9_5, d9_6, d9_7⟩ := DT.all HD9.out; clear hb)
         | ((go_at_call 14); (with_reducible refine (Days_calls y mo dd (by omega) (by omega) (by omega) (by omega) (by omega) (by omega) _).mono ?_); rintro e w10 ⟨rfl, hb⟩; rw [hdv, hde]; have HP10 := Aside0.mk (HP9.out.stepB hb.below); have HD10 := Aside0.mk (show DT (w.heap.size + 1 + 1 + 1) y mo dd hh mi ss z w10 from blk_below HD9.out hb.below); obtain ⟨r10_0, r10_1, r10_2, r10_3, r10_4, r10_5, r10_6, r10_7, r10_8, r10_9, r10_10, r10_11, r10_12, r10_13, r10_14, r10_15, r10_16, r10_17⟩ := PW.res HP10.out; obtain ⟨d10_0, d10_1, d10_2, d10_3, d10_4, d10_5, d10_6, d10_7⟩ := DT.all HD10.out; clear hb)
         | ((go_at_call 20); (with_reducible refine (Weekday_calls dv _).mono ?_); rintro e w11 ⟨rfl, hb⟩; rw [hwk]; have HP11 := Aside0.mk (HP10.out.stepB hb.below); have HD11 := Aside0.mk (show DT (w.heap.size + 1 + 1 + 1) y mo dd hh mi ss z w11 from blk_below HD10.out hb.below); obtain ⟨r11_0, r11_1, r11_2, r11_3, r11_4, r11_5, r11_6, r11_7, r11_8, r11_9, r11_10, r11_11, r11_12, r11_13, r11_14, r11_15, r11_16, r11_17⟩ := PW.res HP11.out; obtain ⟨d11_0, d11_1, d11_2, d11_3, d11_4, d11_5, d11_6, d11_7⟩ := DT.all HD11.out; clear hb)
        )
        skip
        have HF := fin_world HP11.out 0 0 0 0 0 0 0 ce za
        with_reducible refine fin_post ?_ ?_ ?_ HF ?_
        rfl
        rfl
        rfl
        rw [← HR.out]
        exact fun hB => ⟨rfl, hB⟩
      ·rw [if_pos ⟨by omega, cw⟩] at hR
       have HR := Aside0.mk hR
       have tw : (wk != (nm : Int)) = true := bne_iff_ne.2 cw
       have HW := Aside0.mk cw
       clear hR cw
       go_enter Tryd.func17, Tryd.ntmps17
       go_wp2_with (first
        | ((go_at_call 46); (with_reducible refine (blanks_calls (w.heap.size + 1 + 1) N L hl _ (PW.start N L w HG0 hN).tx).mono ?_); rintro e w1 ⟨rfl, hk, hA⟩; rw [e0] at hk; have HP1 := Aside0.mk ((PW.start N L w HG0 hN).step hA hk); have HD1 := Aside0.mk (hA.heap hneD (DT.start N L w)); have tx1_0 := PW.tx0 HP1.out; clear hk hA)
        | ((go_at_call 47); (with_reducible refine (span_calls 1 N l0 h0 w1 HP1.out.gk).mono ?_); rintro e w2 ⟨rfl, hb⟩; rw [hn]; have HP2 := Aside0.mk (HP1.out.stepB hb); have HD2 := Aside0.mk (show DT (w.heap.size + 1 + 1 + 1) 0 0 0 0 0 0 0 w2 from blk_below HD1.out hb); have tx2_1 := PW.tx1 HP2.out hat0; obtain ⟨r2_0, r2_1, r2_2, r2_3, r2_4, r2_5, r2_6, r2_7, r2_8, r2_9, r2_10, r2_11, r2_12, r2_13, r2_14, r2_15, r2_16, r2_17⟩ := PW.res HP2.out; clear hb)
        | ((go_at_call 48); refine (calls_of_args (args' := #[.pointer (some ⟨w.heap.size + 1 + 1, 0, none⟩), .string (strOfNums WKD)]) (by first | rfl | kernel_rfl) ?_); (with_reducible refine (word_yes WKD 7 rfl (by decide) wkd_in (w.heap.size + 1 + 1) N l0 h0 nm o3 _ HP2.out.gk HP2.out.tx).mono ?_); rintro e w3 ⟨rfl, hk, hA⟩; rw [e3] at hk; have HP3 := Aside0.mk (HP2.out.step hA hk); have HD3 := Aside0.mk (show DT (w.heap.size + 1 + 1 + 1) 0 0 0 0 0 0 0 w3 from hA.heap hneD HD2.out); clear hk hA)
        | ((go_at_call 49); (with_reducible refine (begins_yes (w.heap.size + 1 + 1) N l3 h3 44 o4 _ HP3.out.tx).mono ?_); rintro e w4 ⟨rfl, hk, hA⟩; rw [e4] at hk; have HP4 := Aside0.mk (HP3.out.step hA hk); have HD4 := Aside0.mk (show DT (w.heap.size + 1 + 1 + 1) 0 0 0 0 0 0 0 w4 from hA.heap hneD HD3.out); clear hk hA)
        | ((go_at_call 46); (with_reducible refine (blanks_calls (w.heap.size + 1 + 1) N l4 h4 _ HP4.out.tx).mono ?_); rintro e w5 ⟨rfl, hk, hA⟩; rw [e5] at hk; have HP5 := Aside0.mk (HP4.out.step hA hk); have HD5 := Aside0.mk (show DT (w.heap.size + 1 + 1 + 1) 0 0 0 0 0 0 0 w5 from hA.heap hneD HD4.out); have tx5_1 := PW.tx1 HP5.out hata; clear hk hA)
        | ((go_at_call 50); (with_reducible refine (date_yes (w.heap.size + 1 + 1) (w.heap.size + 1 + 1 + 1) N l5 h5 y mo dd hh mi ss l6 o6 _ HP5.out.gk HP5.out.tx (by omega) (by omega) hneD HD5.out).mono ?_); rintro e w6 ⟨rfl, hk, hd, hA⟩; have HP6 := Aside0.mk (HP5.out.step2 hA hk); have HD6 := Aside0.mk hd; have tx6_1 := PW.tx1 HP6.out hatz; clear hk hd hA)
        | ((go_at_call 51); (with_reducible refine (zone_calls (w.heap.size + 1 + 1) N l6 h6 z true l7 o7 _ HP6.out.gk HP6.out.tx (by omega)).mono ?_); rintro e w7 ⟨rfl, hk, hA⟩; have HP7 := Aside0.mk (HP6.out.step hA hk); have HD7 := Aside0.mk (hA.heap hneD HD6.out); obtain ⟨d7_0, d7_1, d7_2, d7_3, d7_4, d7_5, d7_6, d7_7⟩ := DT.all HD7.out; clear hk hA)
        | ((go_at_call 52); have hp8 : PW N l7 w (w7.setCell ⟨w.heap.size + 1 + 1 + 1, 6, none⟩ (.int .i16 z)) := HP7.out.step2 ((Apart2.refl _ _ _).set 6 _) (HP7.out.tx.set (by omega)); have hd8 : DT (w.heap.size + 1 + 1 + 1) y mo dd hh mi ss z (w7.setCell ⟨w.heap.size + 1 + 1 + 1, 6, none⟩ (.int .i16 z)) := blk_put HD7.out 6 _ rfl; (with_reducible refine (rest_yes (w.heap.size + 1 + 1) N l7 h7 r8 o8 _ hp8.tx).mono ?_); rintro e w8 ⟨rfl, hk, hA⟩; have HP8 := Aside0.mk (hp8.step hA hk); have HD8 := Aside0.mk (hA.heap hneD hd8); obtain ⟨d8_0, d8_1, d8_2, d8_3, d8_4, d8_5, d8_6, d8_7⟩ := DT.all HD8.out; clear hk hA hp8 hd8)
        | ((go_at_call 29); (with_reducible refine (Check_calls y mo dd hh mi ss z (by omega) (by omega) (by omega) (by omega) (by omega) (by omega) _).mono ?_); rintro e w9 ⟨rfl, hb⟩; rw [hc]; have HP9 := Aside0.mk (HP8.out.stepB hb); have HD9 := Aside0.mk (show DT (w.heap.size + 1 + 1 + 1) y mo dd hh mi ss z w9 from blk_below HD8.out hb); obtain ⟨d9_0, d9_1, d9_2, d9_3, d9_4, d9_5, d9_6, d9_7⟩ := DT.all HD9.out; clear hb)
        | ((go_at_call 14); (with_reducible refine (Days_calls y mo dd (by omega) (by omega) (by omega) (by omega) (by omega) (by omega) _).mono ?_); rintro e w10 ⟨rfl, hb⟩; rw [hdv, hde]; have HP10 := Aside0.mk (HP9.out.stepB hb.below); have HD10 := Aside0.mk (show DT (w.heap.size + 1 + 1 + 1) y mo dd hh mi ss z w10 from blk_below HD9.out hb.below); obtain ⟨r10_0, r10_1, r10_2, r10_3, r10_4, r10_5, r10_6, r10_7, r10_8, r10_9, r10_10, r10_11, r10_12, r10_13, r10_14, r10_15, r10_16, r10_17⟩ := PW.res HP10.out; obtain ⟨d10_0, d10_1, d10_2, d10_3, d10_4, d10_5, d10_6, d10_7⟩ := DT.all HD10.out; clear hb)
        | ((go_at_call 20); (with_reducible refine (Weekday_calls dv _).mono ?_); rintro e w11 ⟨rfl, hb⟩; rw [hwk]; have HP11 := Aside0.mk (HP10.out.stepB hb.below); have HD11 := Aside0.mk (show DT (w.heap.size + 1 + 1 + 1) y mo dd hh mi ss z w11 from blk_below HD10.out hb.below); obtain ⟨r11_0, r11_1, r11_2, r11_3, r11_4, r11_5, r11_6, r11_7, r11_8, r11_9, r11_10, r11_11, r11_12, r11_13, r11_14, r11_15, r11_16, r11_17⟩ := PW.res HP11.out; obtain ⟨d11_0, d11_1, d11_2, d11_3, d11_4, d11_5, d11_6, d11_7⟩ := DT.all HD11.out; clear hb)
       )
       skip
       have HF := fin_world HP11.out 0 0 0 0 0 0 0 60 a
       with_reducible refine fin_post ?_ ?_ ?_ HF ?_
       rfl
       rfl
       rfl
       rw [← HR.out]
       exact fun hB => ⟨rfl, hB⟩
end Go.Proofs.YtnmhkmkaklhapaaDoor.T
namespace Go.Proofs.YtnmhkmkaklhapaaDoor.T
set_option linter.unusedVariables false
set_option linter.unusedSimpArgs false
open Go.RowKit Go.Proofs.YtnmhkmkaklhapaaDoorW.PrintWords Go.Proofs.YtnmhkmkaklhapaaDoorW.PrintLast Go.Proofs.YtnmhkmkaklhapaaDoorW.PrintMore Go.Proofs.YtnmhkmkaklhapaaDoor.B Go.Proofs.YtnmhkmkaklhapaaDoor.M Go.Proofs.YtnmhkmkaklhapaaDoor.Glob Go.Proofs.YtnmhkmkaklhapaaDoor.D Go.Proofs.YtnmhkmkaklhapaaDoor.U

def PR.tup (p : PR) : Int × Int × Int × Int × Int × Int × Int × Int × Int := (p.y, p.mo, p.d, p.h, p.m, p.s, p.z, p.e, p.at_)
def date_Parse.f (a0 : ByteArray) : Option (Int × Int × Int × Int × Int × Int × Int × Int × Int) := if a0.size ≤ 140737488351232 then some (parseP (bytesOf a0)).tup else none
theorem date_Parse.calls (a0 : ByteArray) (r1 r2 r3 r4 r5 r6 r7 r8 r9 : Int) (w : World) (HG : GOk w) (h : date_Parse.f a0 = some (r1, r2, r3, r4, r5, r6, r7, r8, r9)) :
  Calls Tryd.prog 17 #[.string a0] w fun e w' => e = .returned (.tuple #[.agg #[.int .i16 r1, .int .i8 r2, .int .i8 r3, .int .i8 r4, .int .i8 r5, .int .i8 r6, .int .i16 r7], .agg #[.int .i64 r8, .int .i64 r9]]) ∧ Below w.heap.size w w' := by
 unfold date_Parse.f at h
 split at h
 ·rename_i hs
  have hl : OK (bytesOf a0).length (bytesOf a0) := ⟨Nat.le_refl _, by rw [bytesOf_len]; exact hs, bytesOf_in a0⟩
  have := parse_calls (bytesOf a0).length (bytesOf a0) hl rfl w HG
  rw [strOfNums_bytesOf] at this
  simp only [PR.tup, Option.some.injEq, Prod.mk.injEq] at h
  obtain ⟨rfl, rfl, rfl, rfl, rfl, rfl, rfl, rfl, rfl⟩ := h
  exact this
 ·cases h
end Go.Proofs.YtnmhkmkaklhapaaDoor.T
