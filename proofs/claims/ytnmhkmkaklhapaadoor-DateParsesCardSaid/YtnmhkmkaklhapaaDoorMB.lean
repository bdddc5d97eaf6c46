/- date's text: a word of a list of threes. date's text: a zone. date's text: a zone with a sign. date's text: what may stand behind a zone. date's text: hour, minute and second. -/
import Derived.Test.YtnmhkmkaklhapaaDoorMA
namespace Go.Proofs.YtnmhkmkaklhapaaDoor.T
set_option linter.unusedVariables false
set_option linter.unusedSimpArgs false
open Go.RowKit Go.Proofs.YtnmhkmkaklhapaaDoorW.PrintWords Go.Proofs.YtnmhkmkaklhapaaDoorW.PrintLast Go.Proofs.YtnmhkmkaklhapaaDoorW.PrintMore Go.Proofs.YtnmhkmkaklhapaaDoor.B Go.Proofs.YtnmhkmkaklhapaaDoor.M Go.Proofs.YtnmhkmkaklhapaaDoor.Glob Go.Proofs.YtnmhkmkaklhapaaDoor.D Go.Proofs.YtnmhkmkaklhapaaDoor.U

def fwd (A t : List Int) : Nat → Nat → Option Nat
 | _, 0 => none
 | k, n + 1 => if upL ((A.drop (3 * k)).take 3) = upL t then some k else fwd A t (k + 1) n
def wordF (A l : List Int) : Option Nat := if run 1 l = 3 then fwd A (l.take 3) 0 (A.length / 3) else none
theorem drawn_trans {a b c : World} (h : Drawn0 a b) (k : Drawn0 b c) : Drawn0 a c := by
 obtain ⟨n, rfl⟩ := k.out
 exact h.step n
theorem drawn_seen {w1 W : World} {p : Addr} {v : Value} (hc : w1.cell? p = some v) (h : Drawn0 w1 W) : Drawn0 w1 W ∧ W.cell? p = some v := ⟨h, pw_cell_below h.below hc⟩
def wordV : Option Nat → Int
 | none => -1
 | some k => (k : Int)
def wordL (o : Option Nat) (l : List Int) : List Int := match o with | none => l | some _ => l.drop 3
set_option maxHeartbeats 4000000 in
set_option maxRecDepth 100000 in
theorem word_calls (A : List Int) (m : Nat) (hA : A.length = 3 * m) (hm : m ≤ 100) (hAin : InB A) (g N : Nat) (l : List Int) (h : OK N l) (w : World) (HG : GOk w) (hk : TX g N l w) :
  Calls Tryd.prog 48 #[.pointer (some ⟨g, 0, none⟩), .string (strOfNums A)] w fun e w' => e = .returned (.int .i64 (wordV (wordF A l))) ∧ TX g N (wordL (wordF A l) l) w' ∧ Apart g w w' := by
 have h0 : w.cell? ⟨g, 0, none⟩ = some (.string (strOfNums l)) := blk_cell hk 0
 have HK := Aside0.mk hk
 clear hk
 obtain ⟨n, hn⟩ : ∃ n, run 1 l = n := ⟨_, rfl⟩
 by_cases h3 : n = 3
 ·subst h3
  have h3l : 3 ≤ l.length := by rw [← hn]; exact run_le 1 l
  have HZ : Aside0 ((strOfNums l).size = l.length) := ⟨strOfNums_len _⟩
  have HZA : Aside0 ((strOfNums A).size = 3 * m) := ⟨by rw [strOfNums_len]; exact hA⟩
  have h3s : 3 ≤ (strOfNums l).size := by rw [HZ.out]; exact h3l
  have h3i : (3 : Int) ≤ ((strOfNums l).size : Int) := by omega
  have HF : Aside0 (wordF A l = fwd A (l.take 3) 0 m) := ⟨by unfold wordF; rw [if_pos hn, hA, Nat.mul_div_cancel_left _ (by decide)]⟩
  have HX : Aside0 ((strOfNums l).extract 0 3 = strOfNums (l.take 3)) := ⟨by have := cut_is l h.inb 0 3 h3l; rw [List.drop_zero, Nat.sub_zero] at this; exact this⟩
  have H3 := Aside0.mk h3l
  have HA := Aside0.mk hA
  have HM := Aside0.mk hm
  clear hA h3l hm
  go_enter Tryd.func48, Tryd.ntmps48
  go_wp2_with ((go_at_call 47); (with_reducible refine (span_calls 1 N l h w HG).mono ?_); rintro e w1 ⟨rfl, hb⟩; rw [hn]; have HB := Aside0.mk hb; have h01 := pw_cell_below hb h0; clear hb)
  go_loopw [6] (fun v6 w' => ∃ i : Nat, v6 = .int .i64 (i : Int) ∧ (∃ k, Aside0 (i = 3 * k ∧ k ≤ m ∧ fwd A (l.take 3) k (m - k) = wordF A l)) ∧ Aside0 (Drawn0 w1 w')) (fun v6 _ => 3 * m + 1 - (intOf v6).toNat)
  case atStart => exact ⟨0, rfl, ⟨0, ⟨rfl, Nat.zero_le _, HF.out.symm⟩⟩, ⟨Drawn0.refl _⟩⟩
  case round =>
   obtain ⟨i, rfl, ⟨k, HKF⟩, HD⟩ := hrel
   have h0r : wr.cell? ⟨g, 0, none⟩ = some (.string (strOfNums l)) := pw_cell_below HD.out.below h01
   obtain ⟨hik, hkm', hf⟩ := HKF.out
   have hmm := HM.out
   by_cases hkm : k < m
   ·have hlt : ((i : Int) < ((strOfNums A).size : Int)) := by rw [HZA.out]; omega
    have hlt2 : i < (strOfNums A).size := by rw [HZA.out]; omega
    obtain ⟨j, hj⟩ : ∃ j : Nat, j = i + 3 := ⟨_, rfl⟩
    have hw : IntKind.i64.wrap ((i : Int) + 3) = (j : Int) := by rw [i64_w, wrap_id _ (by omega) (by omega)]; omega
    have b1 : (0 : Int) ≤ (i : Int) := by omega
    have b2 : (i : Int) ≤ (j : Int) := by omega
    have b3 : (j : Int) ≤ ((strOfNums A).size : Int) := by rw [HZA.out]; omega
    have b4 : i ≤ j := by omega
    have b5 : j ≤ (strOfNums A).size := by rw [HZA.out]; omega
    have hq : wrap64 ((i : Int) / 3) = (k : Int) := by rw [wrap_id _ (by omega) (by omega)]; omega
    have HXA : Aside0 ((strOfNums A).extract i j = strOfNums ((A.drop i).take 3)) := ⟨by rw [cut_is A hAin _ _ (by rw [HA.out]; omega), show j - i = 3 from by omega]⟩
    have hsz : (strOfNums ((A.drop i).take 3)).size ≤ 140737488351232 := by rw [strOfNums_len, List.length_take]; omega
    have HIJ := Aside0.mk (show i = 3 * k ∧ j = 3 * (k + 1) ∧ k < m from ⟨hik, by omega, hkm⟩)
    have HSB : Aside0 (sameB (strOfNums ((A.drop i).take 3)) (strOfNums (l.take 3)) = decide (upL ((A.drop (3 * k)).take 3) = upL (l.take 3))) := ⟨by
     unfold sameB
     rw [bytesOf_strOfNums _ (fun x hx => hAin x (List.mem_of_mem_drop (List.mem_of_mem_take hx))), bytesOf_strOfNums _ (fun x hx => h.inb x (List.mem_of_mem_take hx)), hik]⟩
    rw [show m - k = (m - (k + 1)) + 1 from by omega, fwd] at hf
    have HFF := Aside0.mk hf
    clear hkm hmm hj hik hkm' hf HKF
    by_cases hc : upL ((A.drop (3 * k)).take 3) = upL (l.take 3)
    ·have hcb : sameB (strOfNums ((A.drop i).take 3)) (strOfNums (l.take 3)) = true := by rw [HSB.out]; exact decide_eq_true hc
     have hff := HFF.out
     rw [if_pos hc] at hff
     have HFK := Aside0.mk hff
     clear hff hc HFF HSB
     go_wp2_with (fail)
     go_region_held3 (fun W => Drawn0 w1 W ∧ W.cell? ⟨g, 0, none⟩ = some (.string (strOfNums l))) (first | assumption | exact drawn_seen h01 (by assumption) | exact drawn_seen h01 HD.out | exact drawn_seen h01 (Drawn0.step HD.out 1) | exact drawn_seen h01 (And.left (by assumption)))
      ((go_at_call 61; rw [HXA.out, HX.out]; refine (same_calls _ _ hsz _).mono ?_; rintro e w2 ⟨rfl, hd⟩; rw [hcb]; have hd2 := drawn_trans (by first | assumption | exact Drawn0.step HD.out 1 : Drawn0 w1 _) hd; clear hd))
     have hd3 := Aside0.mk (by assumption : Drawn0 w1 w2)
     go_wp2_with (go_at_call 59; refine (calls_of_args (args' := #[.pointer (some ⟨g, 0, none⟩), .int .i64 ((3 : Nat) : Int)]) rfl ?_); go_must (refine (take_calls g N l h 3 H3.out _ ((HK.out.below HB.out).below hd3.out.below)).mono ?_; rintro e w4 ⟨rfl, hk4, hA4⟩; have HK4 := Aside0.mk hk4; have HA4 := Aside0.mk (((Apart.of_below HB.out).trans (Apart.of_below hd3.out.below)).trans hA4); clear hk4 hA4))
     go_ret
     rw [← HFK.out]
     refine ⟨?_, HK4.out, HA4.out⟩
     show Ending.returned (.int .i64 (wrap64 ((i : Int) / 3))) = _
     rw [hq]
     rfl
    ·have hcb : sameB (strOfNums ((A.drop i).take 3)) (strOfNums (l.take 3)) = false := by rw [HSB.out]; exact decide_eq_false hc
     have hff := HFF.out
     rw [if_neg hc] at hff
     have HFK := Aside0.mk hff
     clear hff hc HFF HSB
     go_wp2_with (fail)
     go_region_held3 (fun W => Drawn0 w1 W ∧ W.cell? ⟨g, 0, none⟩ = some (.string (strOfNums l))) (first | assumption | exact drawn_seen h01 (by assumption) | exact drawn_seen h01 HD.out | exact drawn_seen h01 (Drawn0.step HD.out 1) | exact drawn_seen h01 (And.left (by assumption)))
      ((go_at_call 61; rw [HXA.out, HX.out]; refine (same_calls _ _ hsz _).mono ?_; rintro e w2 ⟨rfl, hd⟩; rw [hcb]; have hd2 := drawn_trans (by first | assumption | exact Drawn0.step HD.out 1 : Drawn0 w1 _) hd; clear hd))
     have hd3 := Aside0.mk (by assumption : Drawn0 w1 w2)
     go_wp2_with (fail)
     go_roundw
     case measure => have := HIJ.out; show 3 * m + 1 - ((j : Nat) : Int).toNat < 3 * m + 1 - ((i : Nat) : Int).toNat; omega
     case rel => exact ⟨j, rfl, ⟨k + 1, ⟨HIJ.out.2.1, HIJ.out.2.2, HFK.out⟩⟩, hd3⟩
   ·obtain rfl : k = m := by omega
    have hlt : ¬ ((i : Int) < ((strOfNums A).size : Int)) := by rw [HZA.out]; omega
    have hlt2 : ¬ i < (strOfNums A).size := by rw [HZA.out]; omega
    rw [Nat.sub_self, fwd] at hf
    have HFK := Aside0.mk hf
    clear hkm hmm hik hkm' hf HKF
    go_wp2_with (fail)
    go_ret
    rw [← HFK.out]
    exact ⟨rfl, (HK.out.below HB.out).below HD.out.below, (Apart.of_below HB.out).trans (Apart.of_below HD.out.below)⟩
 ·have t1 : ((n : Int) != 3) = true := by simp; omega
  have HF : wordF A l = none := if_neg (by rw [hn]; exact h3)
  rw [HF]
  have HN := Aside0.mk h3
  clear h3 hA
  go_enter Tryd.func48, Tryd.ntmps48
  go_wp2_with ((go_at_call 47); (with_reducible refine (span_calls 1 N l h w HG).mono ?_); rintro e w1 ⟨rfl, hb⟩; rw [hn]; have HB := Aside0.mk hb; clear hb)
  all_goals go_ret
  all_goals exact ⟨rfl, HK.out.below HB.out, Apart.of_below HB.out⟩
end Go.Proofs.YtnmhkmkaklhapaaDoor.T
namespace Go.Proofs.YtnmhkmkaklhapaaDoor.T
set_option linter.unusedVariables false
set_option linter.unusedSimpArgs false
open Go.RowKit Go.Proofs.YtnmhkmkaklhapaaDoorW.PrintWords Go.Proofs.YtnmhkmkaklhapaaDoorW.PrintLast Go.Proofs.YtnmhkmkaklhapaaDoorW.PrintMore Go.Proofs.YtnmhkmkaklhapaaDoor.B Go.Proofs.YtnmhkmkaklhapaaDoor.M Go.Proofs.YtnmhkmkaklhapaaDoor.Glob Go.Proofs.YtnmhkmkaklhapaaDoor.D Go.Proofs.YtnmhkmkaklhapaaDoor.U

def zoneN (w : List Int) : Int × Bool :=
 if w = [85, 84] then (0, true) else if w = [71, 77, 84] then (0, true) else if w = [69, 68, 84] then (-240, true) else if w = [69, 83, 84] then (-300, true) else if w = [67, 68, 84] then (-300, true)
 else if w = [67, 83, 84] then (-360, true) else if w = [77, 68, 84] then (-360, true) else if w = [77, 83, 84] then (-420, true) else if w = [80, 68, 84] then (-420, true) else if w = [80, 83, 84] then (-480, true)
 else (0, decide (w.length = 1) && !decide (w = [74]))
theorem str_is (wl : List Int) (h : InB wl) (K : List UInt8) : ((strOfNums wl).toList == K) = decide (wl = K.map fun b => (b.toNat : Int)) := by
 rw [toList_data]
 have e := bytesOf_strOfNums wl h
 have e2 : (strOfNums wl).data.toList = K ↔ wl = K.map fun b => (b.toNat : Int) := by
  constructor
  ·intro hk
   rw [← e]
   unfold bytesOf
   rw [hk]
  ·intro hk
   have : strOfNums (bytesOf ⟨K.toArray⟩) = ⟨K.toArray⟩ := strOfNums_bytesOf _
   have e3 : bytesOf ⟨K.toArray⟩ = wl := hk.symm
   rw [e3] at this
   rw [this]
 by_cases hk : wl = K.map fun b => (b.toNat : Int)
 ·rw [decide_eq_true hk, e2.2 hk]; simp
 ·rw [decide_eq_false hk]
  exact beq_eq_false_iff_ne.2 fun hc => hk (e2.1 hc)
def isSign (l : List Int) : Bool := match l with | [] => false | c :: _ => c == 43 || c == 45
set_option maxHeartbeats 8000000 in
set_option maxRecDepth 100000 in
theorem zone_word (g N : Nat) (l : List Int) (h : OK N l) (hs : isSign l = false) (w : World) (HG : GOk w) (hk : TX g N l w) (hg : 0 < g) :
  Calls Tryd.prog 51 #[.pointer (some ⟨g, 0, none⟩)] w fun e w' => e = .returned (.tuple #[.int .i16 (zoneN (upL (l.take (run 1 l)))).1, .bool (zoneN (upL (l.take (run 1 l)))).2]) ∧ TX g N (l.drop (run 1 l)) w' ∧ Apart g w w' := by
 have h0 : w.cell? ⟨g, 0, none⟩ = some (.string (strOfNums l)) := blk_cell hk 0
 have HK := Aside0.mk hk
 clear hk
 obtain ⟨n, hn⟩ : ∃ n, run 1 l = n := ⟨_, rfl⟩
 have hnl : n ≤ l.length := by rw [← hn]; exact run_le 1 l
 have HNL := Aside0.mk hnl
 have HBIG := Aside0.mk h.big
 have HLEN := Aside0.mk h.len
 obtain ⟨wl, hwl⟩ : ∃ wl, upL (l.take n) = wl := ⟨_, rfl⟩
 have HU : Aside0 (upS (strOfNums (l.take n)) = strOfNums wl) := ⟨by unfold upS; rw [bytesOf_strOfNums _ (fun x hx => h.inb x (List.mem_of_mem_take hx)), hwl]⟩
 have HWI : Aside0 (InB wl) := ⟨by rw [← hwl]; exact upL_in (fun x hx => h.inb x (List.mem_of_mem_take hx))⟩
 have HWS : Aside0 ((strOfNums wl).size = wl.length) := ⟨strOfNums_len _⟩
 have HSZ : Aside0 ((strOfNums (l.take n)).size ≤ 140737488351232) := ⟨by rw [strOfNums_len, List.length_take]; have := HBIG.out; have := HLEN.out; omega⟩
 rw [hn, hwl]
 clear hnl hwl
 have hcase : ((strOfNums l).toList.isEmpty = true) ∨ ∃ c : Int, (∃ hp : 0 < (strOfNums l).size, (((strOfNums l)[0]'hp).toNat : Int) = c) ∧ (strOfNums l).toList.isEmpty = false ∧ (c == 43) = false ∧ (c == 45) = false := by
  cases l with
  | nil => exact .inl (by rw [toList_data]; rfl)
  | cons c r =>
   have hz : (strOfNums (c :: r)).size = r.length + 1 := by rw [strOfNums_len]; rfl
   have hp : 0 < (strOfNums (c :: r)).size := by omega
   have hs2 : (c == 43 || c == 45) = false := hs
   have := Bool.or_eq_false_iff.1 hs2
   exact .inr ⟨c, ⟨hp, at_byte (l := c :: r) h.inb (j := 0) (by simp) rfl hp⟩, str_full hp, this.1, this.2⟩
 clear hs
 by_cases z0 : wl = [85, 84]
 ·have t0 : ((strOfNums wl).toList == [85, 84]) = true := (str_is wl HWI.out [85, 84]).trans (decide_eq_true z0)
  have hzn : zoneN wl = (0, true) := by rw [z0]; rfl
  rw [hzn]
  clear hzn z0
  rcases hcase with hE | ⟨c, ⟨hp, hx⟩, hE, h43, h45⟩
  all_goals go_enter Tryd.func51, Tryd.ntmps51
  all_goals go_wp2_with (first | (go_at_call 47; go_must ((with_reducible refine (span_calls 1 N l h w HG).mono ?_); rintro e w1 ⟨rfl, hb⟩; rw [hn]; have HB := Aside0.mk hb; clear hb)) | (go_at_call 59; go_must (refine (take_calls g N l h n HNL.out _ (HK.out.below HB.out)).mono ?_; rintro e w2 ⟨rfl, hk2, hA⟩; have HK2 := Aside0.mk hk2; have HA := Aside0.mk ((Apart.of_below HB.out).trans hA); clear hk2 hA)) | (go_at_call 64; go_must (refine (upper_calls _ HSZ.out _).mono ?_; rintro e w3 ⟨rfl, hb3⟩; rw [HU.out]; have HK3 := Aside0.mk (HK2.out.below hb3); have HA3 := Aside0.mk (HA.out.trans (Apart.of_below hb3)); clear hb3)))
  all_goals go_ret2
  all_goals exact ⟨rfl, HK3.out, HA3.out⟩
 have t0 : ((strOfNums wl).toList == [85, 84]) = false := (str_is wl HWI.out [85, 84]).trans (decide_eq_false z0)
 by_cases z1 : wl = [71, 77, 84]
 ·have t1 : ((strOfNums wl).toList == [71, 77, 84]) = true := (str_is wl HWI.out [71, 77, 84]).trans (decide_eq_true z1)
  have hzn : zoneN wl = (0, true) := by rw [z1]; rfl
  rw [hzn]
  clear hzn z1
  rcases hcase with hE | ⟨c, ⟨hp, hx⟩, hE, h43, h45⟩
  all_goals go_enter Tryd.func51, Tryd.ntmps51
  all_goals go_wp2_with (first | (go_at_call 47; go_must ((with_reducible refine (span_calls 1 N l h w HG).mono ?_); rintro e w1 ⟨rfl, hb⟩; rw [hn]; have HB := Aside0.mk hb; clear hb)) | (go_at_call 59; go_must (refine (take_calls g N l h n HNL.out _ (HK.out.below HB.out)).mono ?_; rintro e w2 ⟨rfl, hk2, hA⟩; have HK2 := Aside0.mk hk2; have HA := Aside0.mk ((Apart.of_below HB.out).trans hA); clear hk2 hA)) | (go_at_call 64; go_must (refine (upper_calls _ HSZ.out _).mono ?_; rintro e w3 ⟨rfl, hb3⟩; rw [HU.out]; have HK3 := Aside0.mk (HK2.out.below hb3); have HA3 := Aside0.mk (HA.out.trans (Apart.of_below hb3)); clear hb3)))
  all_goals go_ret2
  all_goals exact ⟨rfl, HK3.out, HA3.out⟩
 have t1 : ((strOfNums wl).toList == [71, 77, 84]) = false := (str_is wl HWI.out [71, 77, 84]).trans (decide_eq_false z1)
 by_cases z2 : wl = [69, 68, 84]
 ·have t2 : ((strOfNums wl).toList == [69, 68, 84]) = true := (str_is wl HWI.out [69, 68, 84]).trans (decide_eq_true z2)
  have hzn : zoneN wl = (-240, true) := by rw [z2]; rfl
  rw [hzn]
  clear hzn z2
  rcases hcase with hE | ⟨c, ⟨hp, hx⟩, hE, h43, h45⟩
  all_goals go_enter Tryd.func51, Tryd.ntmps51
  all_goals go_wp2_with (first | (go_at_call 47; go_must ((with_reducible refine (span_calls 1 N l h w HG).mono ?_); rintro e w1 ⟨rfl, hb⟩; rw [hn]; have HB := Aside0.mk hb; clear hb)) | (go_at_call 59; go_must (refine (take_calls g N l h n HNL.out _ (HK.out.below HB.out)).mono ?_; rintro e w2 ⟨rfl, hk2, hA⟩; have HK2 := Aside0.mk hk2; have HA := Aside0.mk ((Apart.of_below HB.out).trans hA); clear hk2 hA)) | (go_at_call 64; go_must (refine (upper_calls _ HSZ.out _).mono ?_; rintro e w3 ⟨rfl, hb3⟩; rw [HU.out]; have HK3 := Aside0.mk (HK2.out.below hb3); have HA3 := Aside0.mk (HA.out.trans (Apart.of_below hb3)); clear hb3)))
  all_goals go_ret2
  all_goals exact ⟨rfl, HK3.out, HA3.out⟩
 have t2 : ((strOfNums wl).toList == [69, 68, 84]) = false := (str_is wl HWI.out [69, 68, 84]).trans (decide_eq_false z2)
 by_cases z3 : wl = [69, 83, 84]
 ·have t3 : ((strOfNums wl).toList == [69, 83, 84]) = true := (str_is wl HWI.out [69, 83, 84]).trans (decide_eq_true z3)
  have hzn : zoneN wl = (-300, true) := by rw [z3]; rfl
  rw [hzn]
  clear hzn z3
  rcases hcase with hE | ⟨c, ⟨hp, hx⟩, hE, h43, h45⟩
  all_goals go_enter Tryd.func51, Tryd.ntmps51
  all_goals go_wp2_with (first | (go_at_call 47; go_must ((with_reducible refine (span_calls 1 N l h w HG).mono ?_); rintro e w1 ⟨rfl, hb⟩; rw [hn]; have HB := Aside0.mk hb; clear hb)) | (go_at_call 59; go_must (refine (take_calls g N l h n HNL.out _ (HK.out.below HB.out)).mono ?_; rintro e w2 ⟨rfl, hk2, hA⟩; have HK2 := Aside0.mk hk2; have HA := Aside0.mk ((Apart.of_below HB.out).trans hA); clear hk2 hA)) | (go_at_call 64; go_must (refine (upper_calls _ HSZ.out _).mono ?_; rintro e w3 ⟨rfl, hb3⟩; rw [HU.out]; have HK3 := Aside0.mk (HK2.out.below hb3); have HA3 := Aside0.mk (HA.out.trans (Apart.of_below hb3)); clear hb3)))
  all_goals go_ret2
  all_goals exact ⟨rfl, HK3.out, HA3.out⟩
 have t3 : ((strOfNums wl).toList == [69, 83, 84]) = false := (str_is wl HWI.out [69, 83, 84]).trans (decide_eq_false z3)
 by_cases z4 : wl = [67, 68, 84]
 ·have t4 : ((strOfNums wl).toList == [67, 68, 84]) = true := (str_is wl HWI.out [67, 68, 84]).trans (decide_eq_true z4)
  have hzn : zoneN wl = (-300, true) := by rw [z4]; rfl
  rw [hzn]
  clear hzn z4
  rcases hcase with hE | ⟨c, ⟨hp, hx⟩, hE, h43, h45⟩
  all_goals go_enter Tryd.func51, Tryd.ntmps51
  all_goals go_wp2_with (first | (go_at_call 47; go_must ((with_reducible refine (span_calls 1 N l h w HG).mono ?_); rintro e w1 ⟨rfl, hb⟩; rw [hn]; have HB := Aside0.mk hb; clear hb)) | (go_at_call 59; go_must (refine (take_calls g N l h n HNL.out _ (HK.out.below HB.out)).mono ?_; rintro e w2 ⟨rfl, hk2, hA⟩; have HK2 := Aside0.mk hk2; have HA := Aside0.mk ((Apart.of_below HB.out).trans hA); clear hk2 hA)) | (go_at_call 64; go_must (refine (upper_calls _ HSZ.out _).mono ?_; rintro e w3 ⟨rfl, hb3⟩; rw [HU.out]; have HK3 := Aside0.mk (HK2.out.below hb3); have HA3 := Aside0.mk (HA.out.trans (Apart.of_below hb3)); clear hb3)))
  all_goals go_ret2
  all_goals exact ⟨rfl, HK3.out, HA3.out⟩
 have t4 : ((strOfNums wl).toList == [67, 68, 84]) = false := (str_is wl HWI.out [67, 68, 84]).trans (decide_eq_false z4)
 by_cases z5 : wl = [67, 83, 84]
 ·have t5 : ((strOfNums wl).toList == [67, 83, 84]) = true := (str_is wl HWI.out [67, 83, 84]).trans (decide_eq_true z5)
  have hzn : zoneN wl = (-360, true) := by rw [z5]; rfl
  rw [hzn]
  clear hzn z5
  rcases hcase with hE | ⟨c, ⟨hp, hx⟩, hE, h43, h45⟩
  all_goals go_enter Tryd.func51, Tryd.ntmps51
  all_goals go_wp2_with (first | (go_at_call 47; go_must ((with_reducible refine (span_calls 1 N l h w HG).mono ?_); rintro e w1 ⟨rfl, hb⟩; rw [hn]; have HB := Aside0.mk hb; clear hb)) | (go_at_call 59; go_must (refine (take_calls g N l h n HNL.out _ (HK.out.below HB.out)).mono ?_; rintro e w2 ⟨rfl, hk2, hA⟩; have HK2 := Aside0.mk hk2; have HA := Aside0.mk ((Apart.of_below HB.out).trans hA); clear hk2 hA)) | (go_at_call 64; go_must (refine (upper_calls _ HSZ.out _).mono ?_; rintro e w3 ⟨rfl, hb3⟩; rw [HU.out]; have HK3 := Aside0.mk (HK2.out.below hb3); have HA3 := Aside0.mk (HA.out.trans (Apart.of_below hb3)); clear hb3)))
  all_goals go_ret2
  all_goals exact ⟨rfl, HK3.out, HA3.out⟩
 have t5 : ((strOfNums wl).toList == [67, 83, 84]) = false := (str_is wl HWI.out [67, 83, 84]).trans (decide_eq_false z5)
 by_cases z6 : wl = [77, 68, 84]
 ·have t6 : ((strOfNums wl).toList == [77, 68, 84]) = true := (str_is wl HWI.out [77, 68, 84]).trans (decide_eq_true z6)
  have hzn : zoneN wl = (-360, true) := by rw [z6]; rfl
  rw [hzn]
  clear hzn z6
  rcases hcase with hE | ⟨c, ⟨hp, hx⟩, hE, h43, h45⟩
  all_goals go_enter Tryd.func51, Tryd.ntmps51
  all_goals go_wp2_with (first | (go_at_call 47; go_must ((with_reducible refine (span_calls 1 N l h w HG).mono ?_); rintro e w1 ⟨rfl, hb⟩; rw [hn]; have HB := Aside0.mk hb; clear hb)) | (go_at_call 59; go_must (refine (take_calls g N l h n HNL.out _ (HK.out.below HB.out)).mono ?_; rintro e w2 ⟨rfl, hk2, hA⟩; have HK2 := Aside0.mk hk2; have HA := Aside0.mk ((Apart.of_below HB.out).trans hA); clear hk2 hA)) | (go_at_call 64; go_must (refine (upper_calls _ HSZ.out _).mono ?_; rintro e w3 ⟨rfl, hb3⟩; rw [HU.out]; have HK3 := Aside0.mk (HK2.out.below hb3); have HA3 := Aside0.mk (HA.out.trans (Apart.of_below hb3)); clear hb3)))
  all_goals go_ret2
  all_goals exact ⟨rfl, HK3.out, HA3.out⟩
 have t6 : ((strOfNums wl).toList == [77, 68, 84]) = false := (str_is wl HWI.out [77, 68, 84]).trans (decide_eq_false z6)
 by_cases z7 : wl = [77, 83, 84]
 ·have t7 : ((strOfNums wl).toList == [77, 83, 84]) = true := (str_is wl HWI.out [77, 83, 84]).trans (decide_eq_true z7)
  have hzn : zoneN wl = (-420, true) := by rw [z7]; rfl
  rw [hzn]
  clear hzn z7
  rcases hcase with hE | ⟨c, ⟨hp, hx⟩, hE, h43, h45⟩
  all_goals go_enter Tryd.func51, Tryd.ntmps51
  all_goals go_wp2_with (first | (go_at_call 47; go_must ((with_reducible refine (span_calls 1 N l h w HG).mono ?_); rintro e w1 ⟨rfl, hb⟩; rw [hn]; have HB := Aside0.mk hb; clear hb)) | (go_at_call 59; go_must (refine (take_calls g N l h n HNL.out _ (HK.out.below HB.out)).mono ?_; rintro e w2 ⟨rfl, hk2, hA⟩; have HK2 := Aside0.mk hk2; have HA := Aside0.mk ((Apart.of_below HB.out).trans hA); clear hk2 hA)) | (go_at_call 64; go_must (refine (upper_calls _ HSZ.out _).mono ?_; rintro e w3 ⟨rfl, hb3⟩; rw [HU.out]; have HK3 := Aside0.mk (HK2.out.below hb3); have HA3 := Aside0.mk (HA.out.trans (Apart.of_below hb3)); clear hb3)))
  all_goals go_ret2
  all_goals exact ⟨rfl, HK3.out, HA3.out⟩
 have t7 : ((strOfNums wl).toList == [77, 83, 84]) = false := (str_is wl HWI.out [77, 83, 84]).trans (decide_eq_false z7)
 by_cases z8 : wl = [80, 68, 84]
 ·have t8 : ((strOfNums wl).toList == [80, 68, 84]) = true := (str_is wl HWI.out [80, 68, 84]).trans (decide_eq_true z8)
  have hzn : zoneN wl = (-420, true) := by rw [z8]; rfl
  rw [hzn]
  clear hzn z8
  rcases hcase with hE | ⟨c, ⟨hp, hx⟩, hE, h43, h45⟩
  all_goals go_enter Tryd.func51, Tryd.ntmps51
  all_goals go_wp2_with (first | (go_at_call 47; go_must ((with_reducible refine (span_calls 1 N l h w HG).mono ?_); rintro e w1 ⟨rfl, hb⟩; rw [hn]; have HB := Aside0.mk hb; clear hb)) | (go_at_call 59; go_must (refine (take_calls g N l h n HNL.out _ (HK.out.below HB.out)).mono ?_; rintro e w2 ⟨rfl, hk2, hA⟩; have HK2 := Aside0.mk hk2; have HA := Aside0.mk ((Apart.of_below HB.out).trans hA); clear hk2 hA)) | (go_at_call 64; go_must (refine (upper_calls _ HSZ.out _).mono ?_; rintro e w3 ⟨rfl, hb3⟩; rw [HU.out]; have HK3 := Aside0.mk (HK2.out.below hb3); have HA3 := Aside0.mk (HA.out.trans (Apart.of_below hb3)); clear hb3)))
  all_goals go_ret2
  all_goals exact ⟨rfl, HK3.out, HA3.out⟩
 have t8 : ((strOfNums wl).toList == [80, 68, 84]) = false := (str_is wl HWI.out [80, 68, 84]).trans (decide_eq_false z8)
 by_cases z9 : wl = [80, 83, 84]
 ·have t9 : ((strOfNums wl).toList == [80, 83, 84]) = true := (str_is wl HWI.out [80, 83, 84]).trans (decide_eq_true z9)
  have hzn : zoneN wl = (-480, true) := by rw [z9]; rfl
  rw [hzn]
  clear hzn z9
  rcases hcase with hE | ⟨c, ⟨hp, hx⟩, hE, h43, h45⟩
  all_goals go_enter Tryd.func51, Tryd.ntmps51
  all_goals go_wp2_with (first | (go_at_call 47; go_must ((with_reducible refine (span_calls 1 N l h w HG).mono ?_); rintro e w1 ⟨rfl, hb⟩; rw [hn]; have HB := Aside0.mk hb; clear hb)) | (go_at_call 59; go_must (refine (take_calls g N l h n HNL.out _ (HK.out.below HB.out)).mono ?_; rintro e w2 ⟨rfl, hk2, hA⟩; have HK2 := Aside0.mk hk2; have HA := Aside0.mk ((Apart.of_below HB.out).trans hA); clear hk2 hA)) | (go_at_call 64; go_must (refine (upper_calls _ HSZ.out _).mono ?_; rintro e w3 ⟨rfl, hb3⟩; rw [HU.out]; have HK3 := Aside0.mk (HK2.out.below hb3); have HA3 := Aside0.mk (HA.out.trans (Apart.of_below hb3)); clear hb3)))
  all_goals go_ret2
  all_goals exact ⟨rfl, HK3.out, HA3.out⟩
 have t9 : ((strOfNums wl).toList == [80, 83, 84]) = false := (str_is wl HWI.out [80, 83, 84]).trans (decide_eq_false z9)
 have hzn : zoneN wl = (0, decide (wl.length = 1) && !decide (wl = [74])) := by
  unfold zoneN
  rw [if_neg z0, if_neg z1, if_neg z2, if_neg z3, if_neg z4, if_neg z5, if_neg z6, if_neg z7, if_neg z8, if_neg z9]
 rw [hzn]
 clear hzn z0 z1 z2 z3 z4 z5 z6 z7 z8 z9
 have hws := HWS.out
 by_cases h1 : wl.length = 1
 ·have s1 : (((strOfNums wl).size : Int) == 1) = true := by rw [HWS.out, h1]; rfl
  by_cases hJ : wl = [74]
  ·have tJ : ((strOfNums wl).toList == [74]) = true := (str_is wl HWI.out [74]).trans (decide_eq_true hJ)
   have tJ2 : ((strOfNums wl).toList != [74]) = false := by unfold bne; rw [tJ]; rfl
   rw [decide_eq_true h1, decide_eq_true hJ]
   clear h1 hJ hws
   rcases hcase with hE | ⟨c, ⟨hp, hx⟩, hE, h43, h45⟩
   all_goals go_enter Tryd.func51, Tryd.ntmps51
   all_goals go_wp2_with (first | (go_at_call 47; go_must ((with_reducible refine (span_calls 1 N l h w HG).mono ?_); rintro e w1 ⟨rfl, hb⟩; rw [hn]; have HB := Aside0.mk hb; clear hb)) | (go_at_call 59; go_must (refine (take_calls g N l h n HNL.out _ (HK.out.below HB.out)).mono ?_; rintro e w2 ⟨rfl, hk2, hA⟩; have HK2 := Aside0.mk hk2; have HA := Aside0.mk ((Apart.of_below HB.out).trans hA); clear hk2 hA)) | (go_at_call 64; go_must (refine (upper_calls _ HSZ.out _).mono ?_; rintro e w3 ⟨rfl, hb3⟩; rw [HU.out]; have HK3 := Aside0.mk (HK2.out.below hb3); have HA3 := Aside0.mk (HA.out.trans (Apart.of_below hb3)); clear hb3)))
   all_goals go_ret2
   all_goals exact ⟨rfl, HK3.out, HA3.out⟩
  ·have tJ : ((strOfNums wl).toList == [74]) = false := (str_is wl HWI.out [74]).trans (decide_eq_false hJ)
   have tJ2 : ((strOfNums wl).toList != [74]) = true := by unfold bne; rw [tJ]; rfl
   rw [decide_eq_true h1, decide_eq_false hJ]
   clear h1 hJ hws
   rcases hcase with hE | ⟨c, ⟨hp, hx⟩, hE, h43, h45⟩
   all_goals go_enter Tryd.func51, Tryd.ntmps51
   all_goals go_wp2_with (first | (go_at_call 47; go_must ((with_reducible refine (span_calls 1 N l h w HG).mono ?_); rintro e w1 ⟨rfl, hb⟩; rw [hn]; have HB := Aside0.mk hb; clear hb)) | (go_at_call 59; go_must (refine (take_calls g N l h n HNL.out _ (HK.out.below HB.out)).mono ?_; rintro e w2 ⟨rfl, hk2, hA⟩; have HK2 := Aside0.mk hk2; have HA := Aside0.mk ((Apart.of_below HB.out).trans hA); clear hk2 hA)) | (go_at_call 64; go_must (refine (upper_calls _ HSZ.out _).mono ?_; rintro e w3 ⟨rfl, hb3⟩; rw [HU.out]; have HK3 := Aside0.mk (HK2.out.below hb3); have HA3 := Aside0.mk (HA.out.trans (Apart.of_below hb3)); clear hb3)))
   all_goals go_ret2
   all_goals exact ⟨rfl, HK3.out, HA3.out⟩
 ·have s1 : (((strOfNums wl).size : Int) == 1) = false := by rw [HWS.out]; simp; omega
  rw [decide_eq_false h1]
  clear h1 hws
  rcases hcase with hE | ⟨c, ⟨hp, hx⟩, hE, h43, h45⟩
  all_goals go_enter Tryd.func51, Tryd.ntmps51
  all_goals go_wp2_with (first | (go_at_call 47; go_must ((with_reducible refine (span_calls 1 N l h w HG).mono ?_); rintro e w1 ⟨rfl, hb⟩; rw [hn]; have HB := Aside0.mk hb; clear hb)) | (go_at_call 59; go_must (refine (take_calls g N l h n HNL.out _ (HK.out.below HB.out)).mono ?_; rintro e w2 ⟨rfl, hk2, hA⟩; have HK2 := Aside0.mk hk2; have HA := Aside0.mk ((Apart.of_below HB.out).trans hA); clear hk2 hA)) | (go_at_call 64; go_must (refine (upper_calls _ HSZ.out _).mono ?_; rintro e w3 ⟨rfl, hb3⟩; rw [HU.out]; have HK3 := Aside0.mk (HK2.out.below hb3); have HA3 := Aside0.mk (HA.out.trans (Apart.of_below hb3)); clear hb3)))
  all_goals go_ret2
  all_goals exact ⟨rfl, HK3.out, HA3.out⟩
end Go.Proofs.YtnmhkmkaklhapaaDoor.T
namespace Go.Proofs.YtnmhkmkaklhapaaDoor.T
set_option linter.unusedVariables false
set_option linter.unusedSimpArgs false
open Go.RowKit Go.Proofs.YtnmhkmkaklhapaaDoorW.PrintWords Go.Proofs.YtnmhkmkaklhapaaDoorW.PrintLast Go.Proofs.YtnmhkmkaklhapaaDoorW.PrintMore Go.Proofs.YtnmhkmkaklhapaaDoor.B Go.Proofs.YtnmhkmkaklhapaaDoor.M Go.Proofs.YtnmhkmkaklhapaaDoor.Glob Go.Proofs.YtnmhkmkaklhapaaDoor.D Go.Proofs.YtnmhkmkaklhapaaDoor.U

theorem num_range : ∀ (xs : List Int), (∀ x ∈ xs, 48 ≤ x ∧ x ≤ 57) → 0 ≤ num xs ∧ num xs < 10 ^ xs.length := by
 intro xs
 induction h : xs.length generalizing xs with
 | zero =>
  intro _
  obtain rfl : xs = [] := List.length_eq_zero_iff.1 h
  exact ⟨by decide, by decide⟩
 | succ n ih =>
  intro hx
  obtain ⟨ys, c, rfl⟩ : ∃ ys c, xs = ys ++ [c] := ⟨xs.dropLast, xs.getLast (by intro e; rw [e] at h; simp at h), (List.dropLast_concat_getLast _).symm⟩
  have hl : ys.length = n := by simpa using h
  have := ih ys hl (fun x hy => hx x (List.mem_append_left _ hy))
  have hc := hx c (by simp)
  rw [num_snoc, Int.pow_succ]
  omega
theorem num_digits (l : List Int) (h : InB l) (n : Nat) (hn : n ≤ digN l) : 0 ≤ num (l.take n) ∧ num (l.take n) < 10 ^ n := by
 have hnl : n ≤ l.length := Nat.le_trans hn (run_le 2 l)
 have := num_range (l.take n) (fun x hx => by
  obtain ⟨i, hi, e⟩ := List.mem_iff_getElem.1 hx
  rw [List.length_take] at hi
  rw [List.getElem_take] at e
  rw [← e]
  exact isB2_of _ (h _ (List.getElem_mem _)) (run_in 2 l i (by omega) (by unfold digN at hn; omega)))
 rw [List.length_take, Nat.min_eq_left hnl] at this
 exact this

def signV (c x : Int) : Int := if c = 45 then -(x / 100 * 60 + x % 100) else x / 100 * 60 + x % 100
def zoneS (c : Int) (r : List Int) : Int × Bool × List Int :=
 if digOk r 4 4 = true then (if num (r.take 4) % 100 > 59 then (0, false, r.drop 4) else (signV c (num (r.take 4)), true, r.drop 4)) else (0, false, r)
set_option maxHeartbeats 8000000 in
set_option maxRecDepth 100000 in
theorem zone_sign (g N : Nat) (c : Int) (r : List Int) (h : OK N (c :: r)) (hs : c = 43 ∨ c = 45) (w : World) (HG : GOk w) (hk : TX g N (c :: r) w) (hg : 0 < g) :
  Calls Tryd.prog 51 #[.pointer (some ⟨g, 0, none⟩)] w fun e w' => e = .returned (.tuple #[.int .i16 (zoneS c r).1, .bool (zoneS c r).2.1]) ∧ TX g N (zoneS c r).2.2 w' ∧ Apart g w w' := by
 have h0 : w.cell? ⟨g, 0, none⟩ = some (.string (strOfNums (c :: r))) := blk_cell hk 0
 have HK := Aside0.mk hk
 clear hk
 have hr : OK N r := h.drop 1
 have hz : (strOfNums (c :: r)).size = r.length + 1 := by rw [strOfNums_len]; rfl
 have hp : 0 < (strOfNums (c :: r)).size := by omega
 have hx : (((strOfNums (c :: r))[0]'hp).toNat : Int) = c := at_byte (l := c :: r) h.inb (j := 0) (by simp) rfl hp
 have hE := str_full hp
 have hc1 : InB [c] := fun x hx => h.inb x (by rw [List.mem_singleton.1 hx]; exact List.mem_cons_self)
 have hb : (c == 43) = true ∧ ((strOfNums [c]).toList == [45]) = false ∧ Aside0 (c ≠ 45) ∨ (c == 43) = false ∧ (c == 45) = true ∧ ((strOfNums [c]).toList == [45]) = true ∧ Aside0 (c = 45) := by
  rcases hs with rfl | rfl
  ·exact .inl ⟨rfl, (str_is _ hc1 [45]).trans (by decide), ⟨by decide⟩⟩
  ·exact .inr ⟨rfl, rfl, (str_is _ hc1 [45]).trans (by decide), ⟨rfl⟩⟩
 have htk : (c :: r).take 1 = [c] := rfl
 clear hs hz
 by_cases hd : digOk r 4 4 = true
 ·have HD := Aside0.mk hd
  have hq := Bool.and_eq_true_iff.1 hd
  have hn : digN r = 4 := by have := of_decide_eq_true hq.1; have := of_decide_eq_true hq.2; omega
  obtain ⟨x, hxn⟩ : ∃ x, num (r.take 4) = x := ⟨_, rfl⟩
  have hxr := num_digits r hr.inb 4 (by omega)
  rw [hxn] at hxr
  have hxr2 : 0 ≤ x ∧ x ≤ 9999 := by omega
  clear hxr hq
  by_cases h59 : x % 100 > 59
  ·have hzs : zoneS c r = (0, false, r.drop 4) := by unfold zoneS; rw [if_pos hd, hxn, if_pos h59]
   rw [hzs]
   have hm : Int.tmod x 100 = x % 100 := Int.tmod_eq_emod_of_nonneg hxr2.1
   have hm2 : IntKind.i16.wrap (Int.tmod x 100) = x % 100 := by rw [hm]; exact wrap16 _ (by omega) (by omega)
   have t59 : decide (59 < x % 100) = true := decide_eq_true h59
   clear hzs hd
   rcases hb with ⟨b1, b2, _⟩ | ⟨b1, b2, b3, _⟩
   all_goals go_enter Tryd.func51, Tryd.ntmps51
   all_goals go_wp2_with (first | (go_at_call 59; refine (calls_of_args (args' := #[.pointer (some ⟨g, 0, none⟩), .int .i64 ((1 : Nat) : Int)]) rfl ?_); go_must (refine (take_calls g N (c :: r) h 1 (by simp) _ HK.out).mono ?_; rintro e w2 ⟨rfl, hk2, hA⟩; have HK2 := Aside0.mk hk2; have HG2 := hA.gok hg HG; have HA := Aside0.mk hA; clear hk2 hA; rw [htk])) | (go_at_call 62; go_must (refine (digits_yes g N r hr 4 4 (by decide) HD.out _ HG2 HK2.out hg).mono ?_; rintro e w3 ⟨rfl, hk3, hA3⟩; rw [hn, hxn]; rw [hn] at hk3; have HK3 := Aside0.mk hk3; have HA3 := Aside0.mk (HA.out.trans hA3); clear hk3 hA3)))
   all_goals go_ret2
   all_goals exact ⟨rfl, HK3.out, HA3.out⟩
  ·have hzs : zoneS c r = (signV c x, true, r.drop 4) := by unfold zoneS; rw [if_pos hd, hxn, if_neg h59]
   rw [hzs]
   have hm : Int.tmod x 100 = x % 100 := Int.tmod_eq_emod_of_nonneg hxr2.1
   have hm2 : IntKind.i16.wrap (Int.tmod x 100) = x % 100 := by rw [hm]; exact wrap16 _ (by omega) (by omega)
   have hq : Int.tdiv x 100 = x / 100 := Int.tdiv_eq_ediv_of_nonneg hxr2.1
   have hq2 : IntKind.i16.wrap (Int.tdiv x 100) = x / 100 := by rw [hq]; exact wrap16 _ (by omega) (by omega)
   have hq3 : IntKind.i16.wrap (x / 100) = x / 100 := wrap16 _ (by omega) (by omega)
   have hm3 : IntKind.i16.wrap (x % 100) = x % 100 := wrap16 _ (by omega) (by omega)
   have hs1 : IntKind.i16.wrap (x / 100 * 60) = x / 100 * 60 := wrap16 _ (by omega) (by omega)
   have hs2 : IntKind.i16.wrap (x / 100 * 60 + x % 100) = x / 100 * 60 + x % 100 := wrap16 _ (by omega) (by omega)
   have hs3 : IntKind.i16.wrap (-(x / 100 * 60 + x % 100)) = -(x / 100 * 60 + x % 100) := wrap16 _ (by omega) (by omega)
   have t59 : decide (59 < x % 100) = false := decide_eq_false h59
   have HV : Aside0 (∀ h : c = 45, signV c x = -(x / 100 * 60 + x % 100)) := ⟨fun h => if_pos h⟩
   have HV2 : Aside0 (∀ h : c ≠ 45, signV c x = x / 100 * 60 + x % 100) := ⟨fun h => if_neg h⟩
   clear hzs hd
   rcases hb with ⟨b1, b2, c45⟩ | ⟨b1, b2, b3, c45⟩
   ·go_enter Tryd.func51, Tryd.ntmps51
    go_wp2_with (first | (go_at_call 59; refine (calls_of_args (args' := #[.pointer (some ⟨g, 0, none⟩), .int .i64 ((1 : Nat) : Int)]) rfl ?_); go_must (refine (take_calls g N (c :: r) h 1 (by simp) _ HK.out).mono ?_; rintro e w2 ⟨rfl, hk2, hA⟩; have HK2 := Aside0.mk hk2; have HG2 := hA.gok hg HG; have HA := Aside0.mk hA; clear hk2 hA; rw [htk])) | (go_at_call 62; go_must (refine (digits_yes g N r hr 4 4 (by decide) HD.out _ HG2 HK2.out hg).mono ?_; rintro e w3 ⟨rfl, hk3, hA3⟩; rw [hn, hxn]; rw [hn] at hk3; have HK3 := Aside0.mk hk3; have HA3 := Aside0.mk (HA.out.trans hA3); clear hk3 hA3)))
    go_ret2
    refine ⟨?_, HK3.out, HA3.out⟩
    rw [HV2.out c45.out]; rfl
   ·go_enter Tryd.func51, Tryd.ntmps51
    go_wp2_with (first | (go_at_call 59; refine (calls_of_args (args' := #[.pointer (some ⟨g, 0, none⟩), .int .i64 ((1 : Nat) : Int)]) rfl ?_); go_must (refine (take_calls g N (c :: r) h 1 (by simp) _ HK.out).mono ?_; rintro e w2 ⟨rfl, hk2, hA⟩; have HK2 := Aside0.mk hk2; have HG2 := hA.gok hg HG; have HA := Aside0.mk hA; clear hk2 hA; rw [htk])) | (go_at_call 62; go_must (refine (digits_yes g N r hr 4 4 (by decide) HD.out _ HG2 HK2.out hg).mono ?_; rintro e w3 ⟨rfl, hk3, hA3⟩; rw [hn, hxn]; rw [hn] at hk3; have HK3 := Aside0.mk hk3; have HA3 := Aside0.mk (HA.out.trans hA3); clear hk3 hA3)))
    go_ret2
    refine ⟨?_, HK3.out, HA3.out⟩
    rw [HV.out c45.out]; rfl
 ·have hzs : zoneS c r = (0, false, r) := if_neg hd
  have hd2 : digOk r 4 4 = false := Bool.eq_false_iff.2 hd
  rw [hzs]
  clear hzs hd
  rcases hb with ⟨b1, b2, _⟩ | ⟨b1, b2, b3, _⟩
  all_goals go_enter Tryd.func51, Tryd.ntmps51
  all_goals go_wp2_with (first | (go_at_call 59; refine (calls_of_args (args' := #[.pointer (some ⟨g, 0, none⟩), .int .i64 ((1 : Nat) : Int)]) rfl ?_); go_must (refine (take_calls g N (c :: r) h 1 (by simp) _ HK.out).mono ?_; rintro e w2 ⟨rfl, hk2, hA⟩; have HK2 := Aside0.mk hk2; have HG2 := hA.gok hg HG; have HA := Aside0.mk hA; clear hk2 hA; rw [htk])) | (go_at_call 62; go_must (refine (digits_no g N r hr 4 4 hd2 _ HG2 HK2.out).mono ?_; rintro e w3 ⟨rfl, hk3, hA3⟩; have HK3 := Aside0.mk hk3; have HA3 := Aside0.mk (HA.out.trans hA3); clear hk3 hA3)))
  all_goals go_ret2
  all_goals exact ⟨rfl, HK3.out, HA3.out⟩
end Go.Proofs.YtnmhkmkaklhapaaDoor.T
namespace Go.Proofs.YtnmhkmkaklhapaaDoor.T
set_option linter.unusedVariables false
set_option linter.unusedSimpArgs false
open Go.RowKit Go.Proofs.YtnmhkmkaklhapaaDoorW.PrintWords Go.Proofs.YtnmhkmkaklhapaaDoorW.PrintLast Go.Proofs.YtnmhkmkaklhapaaDoorW.PrintMore Go.Proofs.YtnmhkmkaklhapaaDoor.B Go.Proofs.YtnmhkmkaklhapaaDoor.M Go.Proofs.YtnmhkmkaklhapaaDoor.Glob Go.Proofs.YtnmhkmkaklhapaaDoor.D Go.Proofs.YtnmhkmkaklhapaaDoor.U

/-- Behind the opening bracket: the remark's end (how many letters lie ahead of the closing one), or none. -/
def remN : List Int → Option Nat
 | [] => none
 | c :: r => if c = 41 then some 0 else if c < 32 ∨ c > 126 ∨ c = 40 ∨ c = 92 then none else (remN r).map (· + 1)
def restB (l : List Int) : Bool × List Int :=
 let m := l.drop (blN l)
 match m with
 | 40 :: r => match remN r with
  | none => (false, m)
  | some n => let q := m.drop (n + 2); (decide (q.drop (blN q) = []), q.drop (blN q))
 | _ => let q := m.drop (blN m); (decide (q = []), q)
theorem rem_none {r : List Int} {j : Nat} (h : remN r = (remN (r.drop j)).map (· + j)) (hn : remN (r.drop j) = none) : remN r = none := by rw [h, hn]; rfl
theorem str_empty (l : List Int) : (strOfNums l).toList.isEmpty = decide (l = []) := by
 cases l with
 | nil => rw [toList_data]; rfl
 | cons c r => rw [str_full (by rw [strOfNums_len]; simp)]; simp
set_option maxHeartbeats 4000000 in
set_option maxRecDepth 100000 in
theorem rest_calls (g N : Nat) (l : List Int) (h : OK N l) (w : World) (hk : TX g N l w) :
  Calls Tryd.prog 52 #[.pointer (some ⟨g, 0, none⟩)] w fun e w' => e = .returned (.bool (restB l).1) ∧ TX g N (restB l).2 w' ∧ Apart g w w' := by
 have HK := Aside0.mk hk
 clear hk
 obtain ⟨m, hm⟩ : ∃ m, l.drop (blN l) = m := ⟨_, rfl⟩
 have hom : OK N m := by rw [← hm]; exact h.drop _
 cases m with
 | nil =>
  have hr : restB l = (decide (([] : List Int).drop (blN []) = []), ([] : List Int).drop (blN [])) := by unfold restB; rw [hm]
  have hE := str_empty []
  have hE2 := str_empty (([] : List Int).drop (blN []))
  rw [hr]
  clear hr
  go_enter Tryd.func52, Tryd.ntmps52
  go_wp2_with (first
   | (go_at_call 46; (with_reducible refine (blanks_calls g N l h w HK.out).mono ?_); rintro e w1 ⟨rfl, hk1, hA⟩; rw [hm] at hk1; have HK1 := Aside0.mk hk1; have HA := Aside0.mk hA; have h01 := (blk_cell hk1 0 : w1.cell? ⟨g, 0, none⟩ = some (.string (strOfNums []))); clear hk1 hA)
   | (go_at_call 46; (with_reducible refine (blanks_calls g N [] hom _ HK1.out).mono ?_); rintro e w2 ⟨rfl, hk2, hA2⟩; have HK2 := Aside0.mk hk2; have HA2 := Aside0.mk (HA.out.trans hA2); have h02 := (blk_cell hk2 0 : w2.cell? ⟨g, 0, none⟩ = some (.string (strOfNums ([].drop (blN []))))); clear hk2 hA2))
  go_ret
  exact ⟨rfl, HK2.out, HA2.out⟩
 | cons c r =>
  have hz : (strOfNums (c :: r)).size = r.length + 1 := by rw [strOfNums_len]; rfl
  have hp : 0 < (strOfNums (c :: r)).size := by omega
  have hx : (((strOfNums (c :: r))[0]'hp).toNat : Int) = c := at_byte (l := c :: r) hom.inb (j := 0) (by simp) rfl hp
  have hE := str_full hp
  by_cases h40 : c = 40
  ·subst h40
   obtain ⟨rb, hrb⟩ : ∃ rb, restB l = rb := ⟨_, rfl⟩
   rw [hrb]
   have hb : ((40 : Int) == 40) = true := rfl
   clear hz
   go_enter Tryd.func52, Tryd.ntmps52
   go_wp2_with (go_at_call 46; (with_reducible refine (blanks_calls g N l h w HK.out).mono ?_); rintro e w1 ⟨rfl, hk1, hA⟩; rw [hm] at hk1; have HK1 := Aside0.mk hk1; have HA := Aside0.mk hA; have h01 := (blk_cell hk1 0 : w1.cell? ⟨g, 0, none⟩ = some (.string (strOfNums (40 :: r)))); clear hk1 hA)
   go_loopw [3, 4] (fun v3 v4 w' => ∃ i : Nat, v3 = .int .i64 (i : Int) ∧ (∃ j, Aside0 (i = j + 1 ∧ j ≤ r.length ∧ remN r = (remN (r.drop j)).map (· + j))) ∧ w' = w1) (fun v3 _ _ => r.length + 2 - (intOf v3).toNat)
   case atStart => exact ⟨1, rfl, ⟨0, ⟨rfl, Nat.zero_le _, by simp⟩⟩, rfl⟩
   case round =>
    obtain ⟨i, rfl, ⟨j, HJ⟩, rfl⟩ := hrel
    obtain ⟨hij, hjl, hrem⟩ := HJ.out
    have hlen := hom.len
    have hbig := hom.big
    simp only [List.length_cons] at hlen
    by_cases hj : j < r.length
    ·obtain ⟨c, hc⟩ : ∃ c, r[j] = c := ⟨_, rfl⟩
     have hdr : r.drop j = c :: r.drop (j + 1) := by rw [List.drop_eq_getElem_cons hj, hc]
     have hlt : (i : Int) < ((strOfNums (40 :: r)).size : Int) := by rw [strOfNums_len, List.length_cons]; omega
     have hlt2 : i < (strOfNums (40 :: r)).size := by rw [strOfNums_len, List.length_cons]; omega
     have hxi := at_byte (l := 40 :: r) hom.inb (j := i) (c := c) (by rw [List.length_cons]; omega) (by simp only [hij, List.getElem_cons_succ]; exact hc)
     by_cases h41 : c = 41
     ·have hb1 : (c == 41) = true := by simp [h41]
      have hb2 : (c != 41) = false := by simp [h41]
      have hr1 : remN r = some j := by rw [hrem, hdr, remN, if_pos h41]; simp
      obtain ⟨i2, hi2⟩ : ∃ i2, i2 = j + 2 := ⟨_, rfl⟩
      obtain ⟨q, hq⟩ : ∃ q, (40 :: r).drop i2 = q := ⟨_, rfl⟩
      obtain ⟨q2, hq2⟩ : ∃ q2, q.drop (blN q) = q2 := ⟨_, rfl⟩
      have hoq : OK N q := by rw [← hq]; exact hom.drop _
      have hr : rb = (decide (q2 = []), q2) := by
       rw [← hrb]
       unfold restB
       rw [hm]
       simp only [hr1]
       rw [← hi2, hq, hq2]
      have hE2 := str_empty q2
      obtain ⟨b, hbq⟩ : ∃ b, decide (q2 = []) = b := ⟨_, rfl⟩
      rw [hbq] at hE2 hr
      have HR := Aside0.mk hr
      have hne : ((i : Int) == ((strOfNums (40 :: r)).size : Int)) = false := by rw [strOfNums_len, List.length_cons]; simp; omega
      have hne2 : (i == (strOfNums (40 :: r)).size) = false := by rw [strOfNums_len, List.length_cons]; simp; omega
      have hw : IntKind.i64.wrap ((i : Int) + 1) = (i2 : Int) := by rw [i64_w, wrap_id _ (by omega) (by omega)]; omega
      have HI2 : Aside0 (i2 ≤ (40 :: r).length) := ⟨by rw [List.length_cons]; omega⟩
      have HC := Aside0.mk h41
      clear hr hbq hr1 hdr hrem hjl hij hlen hbig h41 hc hi2 HJ
      go_wp2_with (first
       | (go_at_call 59; (with_reducible refine (take_calls g N (40 :: r) hom i2 HI2.out _ HK1.out).mono ?_); rintro e w3 ⟨rfl, hk3, hA3⟩; rw [hq] at hk3; have HK3 := Aside0.mk hk3; have HA3 := Aside0.mk (HA.out.trans hA3); clear hk3 hA3)
       | (go_at_call 46; (with_reducible refine (blanks_calls g N q hoq _ HK3.out).mono ?_); rintro e w2 ⟨rfl, hk2, hA2⟩; rw [hq2] at hk2; have HK2 := Aside0.mk hk2; have HA2 := Aside0.mk (HA3.out.trans hA2); have h02 := (blk_cell hk2 0 : w2.cell? ⟨g, 0, none⟩ = some (.string (strOfNums q2))); clear hk2 hA2))
      go_ret
      rw [HR.out]
      exact ⟨rfl, HK2.out, HA2.out⟩
     ·have hb2 : (c != 41) = true := by simp [h41]
      have hb1 : (c == 41) = false := by simp [h41]
      by_cases hbad : c < 32 ∨ c > 126 ∨ c = 40 ∨ c = 92
      ·have hr1 : remN r = none := by rw [hrem, hdr, remN, if_neg h41, if_pos hbad]; rfl
       have hr : rb = (false, 40 :: r) := by rw [← hrb]; unfold restB; rw [hm]; simp only [hr1]
       have HR := Aside0.mk hr
       have HBAD := Aside0.mk hbad
       have t : (decide (c < 32) || (decide (126 < c) || (c == 40 || c == 92))) = true := by
        rcases hbad with x | x | x | x <;> simp [x]
       clear hr hr1 hdr hrem hjl hij hlen hbig h41 hc HJ hbad
       cases e1 : decide (c < 32)
       ·cases e2 : decide (126 < c)
        ·cases e3 : (c == 40)
         ·have e4 : (c == 92) = true := by rw [e1, e2, e3] at t; exact t
          clear t
          go_wp2_with (fail)
          go_ret
          rw [HR.out]
          exact ⟨rfl, HK1.out, HA.out⟩
         ·clear t
          go_wp2_with (fail)
          go_ret
          rw [HR.out]
          exact ⟨rfl, HK1.out, HA.out⟩
        ·clear t
         go_wp2_with (fail)
         go_ret
         rw [HR.out]
         exact ⟨rfl, HK1.out, HA.out⟩
       ·clear t
        go_wp2_with (fail)
        go_ret
        rw [HR.out]
        exact ⟨rfl, HK1.out, HA.out⟩
      ·have hcc : ¬ c < 32 ∧ ¬ c > 126 ∧ c ≠ 40 ∧ c ≠ 92 := by omega
       have e1 : decide (c < 32) = false := decide_eq_false hcc.1
       have e2 : decide (126 < c) = false := decide_eq_false hcc.2.1
       have e3 : (c == 40) = false := by simp [hcc.2.2.1]
       have e4 : (c == 92) = false := by simp [hcc.2.2.2]
       have hw : IntKind.i64.wrap ((i : Int) + 1) = ((i + 1 : Nat) : Int) := by rw [i64_w, wrap_id _ (by omega) (by omega)]; omega
       have hw2 : wrap64 ((i : Int) + 1) = ((i + 1 : Nat) : Int) := by rw [wrap_id _ (by omega) (by omega)]; omega
       have HN : Aside0 (i + 1 = (j + 1) + 1 ∧ j + 1 ≤ r.length ∧ remN r = (remN (r.drop (j + 1))).map (· + (j + 1))) := ⟨by omega, hj, by
        rw [hrem, hdr, remN, if_neg h41, if_neg hbad]
        cases remN (r.drop (j + 1)) with
        | none => rfl
        | some n => simp; omega⟩
       clear hdr hrem hjl hlen hbig h41 hc hcc hbad hij
       go_wp2_with (fail)
       go_roundw
       case measure => have := HJ.out; have := HN.out; show r.length + 2 - (((i + 1 : Nat) : Int)).toNat < r.length + 2 - ((i : Nat) : Int).toNat; omega
       case rel => exact ⟨i + 1, by go_num, ⟨j + 1, HN⟩, by first | rfl | trivial⟩
    ·have hr1 : remN r = none := by rw [hrem, List.drop_eq_nil_of_le (by omega)]; rfl
     have hr : rb = (false, 40 :: r) := by rw [← hrb]; unfold restB; rw [hm]; simp only [hr1]
     have HR := Aside0.mk hr
     have hlt : ¬ (i : Int) < ((strOfNums (40 :: r)).size : Int) := by rw [strOfNums_len, List.length_cons]; omega
     have hlt2 : ¬ i < (strOfNums (40 :: r)).size := by rw [strOfNums_len, List.length_cons]; omega
     have hne : ((i : Int) == ((strOfNums (40 :: r)).size : Int)) = true := by rw [strOfNums_len, List.length_cons]; simp; omega
     have hne2 : (i == (strOfNums (40 :: r)).size) = true := by rw [strOfNums_len, List.length_cons]; simp; omega
     clear hr hr1 hrem hjl hij hlen hbig hj HJ
     go_wp2_with (fail)
     go_ret
     rw [HR.out]
     exact ⟨rfl, HK1.out, HA.out⟩
  ·have hb : (c == 40) = false := by simp [h40]
   obtain ⟨q, hq⟩ : ∃ q, (c :: r).drop (blN (c :: r)) = q := ⟨_, rfl⟩
   have hr : restB l = (decide (q = []), q) := by
    unfold restB
    rw [hm]
    simp only
    split
    ·rename_i e; exact absurd (List.cons.inj e).1 h40
    ·rw [hq]
   have hE2 := str_empty q
   obtain ⟨b, hbq⟩ : ∃ b, decide (q = []) = b := ⟨_, rfl⟩
   rw [hbq] at hE2 hr
   rw [hr]
   clear hr h40 hbq hz
   go_enter Tryd.func52, Tryd.ntmps52
   go_wp2_with (first
    | (go_at_call 46; (with_reducible refine (blanks_calls g N l h w HK.out).mono ?_); rintro e w1 ⟨rfl, hk1, hA⟩; rw [hm] at hk1; have HK1 := Aside0.mk hk1; have HA := Aside0.mk hA; have h01 := (blk_cell hk1 0 : w1.cell? ⟨g, 0, none⟩ = some (.string (strOfNums (c :: r)))); clear hk1 hA)
    | (go_at_call 46; (with_reducible refine (blanks_calls g N (c :: r) hom _ HK1.out).mono ?_); rintro e w2 ⟨rfl, hk2, hA2⟩; rw [hq] at hk2; have HK2 := Aside0.mk hk2; have HA2 := Aside0.mk (HA.out.trans hA2); have h02 := (blk_cell hk2 0 : w2.cell? ⟨g, 0, none⟩ = some (.string (strOfNums (q)))); clear hk2 hA2))
   go_ret
   exact ⟨rfl, HK2.out, HA2.out⟩
end Go.Proofs.YtnmhkmkaklhapaaDoor.T
namespace Go.Proofs.YtnmhkmkaklhapaaDoor.T
set_option linter.unusedVariables false
set_option linter.unusedSimpArgs false
open Go.RowKit Go.Proofs.YtnmhkmkaklhapaaDoorW.PrintWords Go.Proofs.YtnmhkmkaklhapaaDoorW.PrintLast Go.Proofs.YtnmhkmkaklhapaaDoorW.PrintMore Go.Proofs.YtnmhkmkaklhapaaDoor.B Go.Proofs.YtnmhkmkaklhapaaDoor.M Go.Proofs.YtnmhkmkaklhapaaDoor.Glob Go.Proofs.YtnmhkmkaklhapaaDoor.D Go.Proofs.YtnmhkmkaklhapaaDoor.U

/-- All blocks but two stand as they stood. -/
structure Apart2 (g h : Nat) (w w' : World) : Prop where
 os : w'.os = w.os
 tape : w'.tape = w.tape
 output : w'.output = w.output
 size : w.heap.size ≤ w'.heap.size
 block : ∀ k, k < w.heap.size → k ≠ g → k ≠ h → w'.heap[k]? = w.heap[k]?
theorem Apart2.refl (g h : Nat) (w : World) : Apart2 g h w w := ⟨rfl, rfl, rfl, Nat.le_refl _, fun _ _ _ _ => rfl⟩
theorem Apart2.trans {g h : Nat} {a b c : World} (x : Apart2 g h a b) (k : Apart2 g h b c) : Apart2 g h a c :=
 ⟨k.os.trans x.os, k.tape.trans x.tape, k.output.trans x.output, Nat.le_trans x.size k.size, fun i hi hn hm => (k.block i (Nat.lt_of_lt_of_le hi x.size) hn hm).trans (x.block i hi hn hm)⟩
theorem Apart.two {g : Nat} {w w' : World} (x : Apart g w w') (h : Nat) : Apart2 g h w w' := ⟨x.os, x.tape, x.output, x.size, fun k hk hn _ => x.block k hk hn⟩
theorem Apart2.below {g h B : Nat} {w w' : World} (x : Apart2 g h w w') (hg : B ≤ g) (hh : B ≤ h) (hB : B ≤ w.heap.size) : Below B w w' :=
 ⟨x.os, x.tape, x.output, x.size, fun k hk => x.block k (Nat.lt_of_lt_of_le hk hB) (Nat.ne_of_lt (Nat.lt_of_lt_of_le hk hg)) (Nat.ne_of_lt (Nat.lt_of_lt_of_le hk hh))⟩
theorem Apart2.set {g h : Nat} {w w' : World} (x : Apart2 g h w w') (o : Nat) (v : Value) : Apart2 g h w (w'.setCell ⟨h, o, none⟩ v) := by
 have hb := (Below.refl h w').setCell (p := ⟨h, o, none⟩) (Nat.le_refl h) v
 exact ⟨hb.os.trans x.os, hb.tape.trans x.tape, hb.output.trans x.output, Nat.le_trans x.size hb.size, fun k hk hn hm => (Below.heap_setCell w' ⟨h, o, none⟩ v k hm).trans (x.block k hk hn hm)⟩
theorem Apart2.drew {g h : Nat} {w w' : World} (x : Apart2 g h w w') : Apart2 g h w w'.drew := ⟨x.os, x.tape, x.output, x.size, x.block⟩
theorem Apart2.gok {g h : Nat} {w w' : World} (x : Apart2 g h w w') (hg : 0 < g) (hh : 0 < h) (HG : GOk w) : GOk w' := by
 obtain ⟨h0, h1⟩ := HG
 have hb : w'.heap[0]? = w.heap[0]? := x.block 0 h0 (by omega) (by omega)
 refine ⟨Nat.lt_of_lt_of_le h0 x.size, fun i hi => ?_⟩
 have e : ∀ o, w'.cell? ⟨0, o, none⟩ = w.cell? ⟨0, o, none⟩ := fun o => by simp only [World.cell?, hb]
 obtain ⟨a, b, c⟩ := h1 i hi
 exact ⟨(e _).trans a, (e _).trans b, (e _).trans c⟩
theorem TX.set {g N h o : Nat} {l : List Int} {w : World} {v : Value} (hk : TX g N l w) (hn : g ≠ h) : TX g N l (w.setCell ⟨h, o, none⟩ v) := (Below.heap_setCell w ⟨h, o, none⟩ v g hn).trans hk

/-- The date's block. -/
def DT (gd : Nat) (y mo dd h m s z : Int) (w : World) : Prop := w.heap[gd]? = some (.cells #[.int .i16 y, .int .i8 mo, .int .i8 dd, .int .i8 h, .int .i8 m, .int .i8 s, .int .i16 z] 30 (0, 0))
theorem digits_yes' (g N : Nat) (l : List Int) (h : OK N l) (least most : Int) (hm : most ≤ 4) (hok : digOk l least most = true) (n : Nat) (hn : digN l = n) (x : Int) (hx : num (l.take n) = x) (w : World) (HG : GOk w) (hk : TX g N l w) (hg : 0 < g) :
  Calls Tryd.prog 62 #[.pointer (some ⟨g, 0, none⟩), .int .i64 least, .int .i64 most] w fun e w' => e = .returned (.tuple #[.int .i16 x, .int .i64 (n : Int), .bool true]) ∧ TX g N (l.drop n) w' ∧ Apart g w w' := by
 have := digits_yes g N l h least most hm hok w HG hk hg
 rw [hn, hx] at this
 exact this
theorem begins_yes (g N : Nat) (l : List Int) (h : OK N l) (b : Int) (hb : begB l b = true) (w : World) (hk : TX g N l w) :
  Calls Tryd.prog 49 #[.pointer (some ⟨g, 0, none⟩), .int .u8 b] w fun e w' => e = .returned (.bool true) ∧ TX g N (l.drop 1) w' ∧ Apart g w w' := by
 have := begins_calls g N l h b w hk
 unfold begL at this
 rw [hb, if_pos rfl] at this
 exact this
theorem begins_no (g N : Nat) (l : List Int) (h : OK N l) (b : Int) (hb : begB l b = false) (w : World) (hk : TX g N l w) :
  Calls Tryd.prog 49 #[.pointer (some ⟨g, 0, none⟩), .int .u8 b] w fun e w' => e = .returned (.bool false) ∧ TX g N l w' ∧ Apart g w w' := by
 have := begins_calls g N l h b w hk
 unfold begL at this
 rw [hb, if_neg (by decide)] at this
 exact this
theorem dig_two {l : List Int} {a b : Int} (h : digOk l a b = true) (n : Nat) (ha : a = n) (hb : b = n) : digN l = n := by
 have hq := Bool.and_eq_true_iff.1 h
 have := of_decide_eq_true hq.1
 have := of_decide_eq_true hq.2
 omega

/-- What clock makes of a text: whether it is one, what is left, hour, minute, second (no second: the one that stood there). -/
structure Clk where
 ok : Bool
 l : List Int
 h : Int
 m : Int
 s : Int
def clockP (l : List Int) (h0 m0 s0 : Int) : Clk :=
 if digOk l 2 2 = false then ⟨false, l, h0, m0, s0⟩ else
 let r := l.drop 2
 if begB r 58 = false then ⟨false, r, h0, m0, s0⟩ else
 let q := r.drop 1
 if digOk q 2 2 = false then ⟨false, q, h0, m0, s0⟩ else
 let p := q.drop 2
 if begB p 58 = false then ⟨true, p, num (l.take 2), num (q.take 2), s0⟩ else
 let o := p.drop 1
 if digOk o 2 2 = false then ⟨false, o, num (l.take 2), num (q.take 2), 0⟩ else ⟨true, o.drop 2, num (l.take 2), num (q.take 2), num (o.take 2)⟩
set_option maxHeartbeats 8000000 in
set_option maxRecDepth 100000 in
theorem clock_calls (g gd N : Nat) (l : List Int) (hl : OK N l) (y mo dd h0 m0 s0 z : Int) (w0 : World) (HG0 : GOk w0) (hk0 : TX g N l w0) (hg : 0 < g) (hgd : 0 < gd) (hne : gd ≠ g) (hd0 : DT gd y mo dd h0 m0 s0 z w0) :
  Calls Tryd.prog 63 #[.pointer (some ⟨g, 0, none⟩), .pointer (some ⟨gd, 0, none⟩)] w0 fun e w' => e = .returned (.bool (clockP l h0 m0 s0).ok) ∧ TX g N (clockP l h0 m0 s0).l w' ∧ DT gd y mo dd (clockP l h0 m0 s0).h (clockP l h0 m0 s0).m (clockP l h0 m0 s0).s z w' ∧ Apart2 g gd w0 w' := by
 have HK0 := Aside0.mk hk0
 have HD0 := Aside0.mk hd0
 have HA0 := Aside0.mk (Apart2.refl g gd w0)
 have hne2 : g ≠ gd := fun e => hne e.symm
 clear hk0 hd0
 obtain ⟨ck, hck⟩ : ∃ ck, clockP l h0 m0 s0 = ck := ⟨_, rfl⟩
 rw [hck]
 unfold clockP at hck
 cases o1 : digOk l 2 2 with
 | false =>
  rw [if_pos o1] at hck
  have HCK := Aside0.mk hck
  clear hck
  go_enter Tryd.func63, Tryd.ntmps63
  go_wp2_with (first
   | (go_at_call 62; (with_reducible refine (digits_no g N l hl 2 2 o1 _ HG0 HK0.out).mono ?_); rintro e w1 ⟨rfl, hk, hA⟩; have HK1 := Aside0.mk hk; have HA1 := Aside0.mk (HA0.out.trans (hA.two gd)); have HG1 := hA.gok hg HG0; have HD1 := Aside0.mk (hA.heap hne HD0.out); clear hk hA)
  )
  go_ret
  rw [← HCK.out]
  exact ⟨rfl, HK1.out, HD1.out, HA1.out⟩
 | true =>
  rw [if_neg (by rw [o1]; decide)] at hck
  have n1 := dig_two o1 2 rfl rfl
  obtain ⟨x1, e1⟩ : ∃ x, num (l.take 2) = x := ⟨_, rfl⟩
  obtain ⟨r, er⟩ : ∃ r, l.drop 2 = r := ⟨_, rfl⟩
  have hr : OK N r := by rw [← er]; exact hl.drop _
  have v1 : 0 ≤ x1 ∧ x1 < 100 := by have := num_digits l hl.inb 2 (by omega); rw [e1] at this; omega
  have i1 : IntKind.i8.wrap x1 = x1 := wrapi8 _ (by omega) (by omega)
  simp only [er, e1] at hck
  cases o2 : begB r 58 with
  | false =>
   rw [if_pos o2] at hck
   have HCK := Aside0.mk hck
   clear hck
   go_enter Tryd.func63, Tryd.ntmps63
   go_wp2_with (first
    | (go_at_call 62; (with_reducible refine (digits_yes' g N l hl 2 2 (by decide) o1 2 n1 x1 e1 _ HG0 HK0.out hg).mono ?_); rintro e w1 ⟨rfl, hk, hA⟩; rw [er] at hk; have HK1 := Aside0.mk hk; have HA1 := Aside0.mk (HA0.out.trans (hA.two gd)); have HG1 := hA.gok hg HG0; have HD1 := Aside0.mk (hA.heap hne HD0.out); clear hk hA)
    | (go_at_call 49; (with_reducible refine (begins_no g N r hr 58 o2 _ HK1.out).mono ?_); rintro e w2 ⟨rfl, hk, hA⟩; have HK2 := Aside0.mk hk; have HA2 := Aside0.mk (HA1.out.trans (hA.two gd)); have HG2 := hA.gok hg HG1; have HD2 := Aside0.mk (hA.heap hne HD1.out); clear hk hA)
   )
   go_ret
   rw [← HCK.out]
   exact ⟨rfl, HK2.out, HD2.out, HA2.out⟩
  | true =>
   rw [if_neg (by rw [o2]; decide)] at hck
   obtain ⟨q, eq⟩ : ∃ q, r.drop 1 = q := ⟨_, rfl⟩
   have hq : OK N q := by rw [← eq]; exact hr.drop _
   simp only [eq] at hck
   cases o3 : digOk q 2 2 with
   | false =>
    rw [if_pos o3] at hck
    have HCK := Aside0.mk hck
    clear hck
    go_enter Tryd.func63, Tryd.ntmps63
    go_wp2_with (first
     | (go_at_call 62; (with_reducible refine (digits_yes' g N l hl 2 2 (by decide) o1 2 n1 x1 e1 _ HG0 HK0.out hg).mono ?_); rintro e w1 ⟨rfl, hk, hA⟩; rw [er] at hk; have HK1 := Aside0.mk hk; have HA1 := Aside0.mk (HA0.out.trans (hA.two gd)); have HG1 := hA.gok hg HG0; have HD1 := Aside0.mk (hA.heap hne HD0.out); clear hk hA)
     | (go_at_call 49; (with_reducible refine (begins_yes g N r hr 58 o2 _ HK1.out).mono ?_); rintro e w2 ⟨rfl, hk, hA⟩; rw [eq] at hk; have HK2 := Aside0.mk hk; have HA2 := Aside0.mk (HA1.out.trans (hA.two gd)); have HG2 := hA.gok hg HG1; have HD2 := Aside0.mk (hA.heap hne HD1.out); clear hk hA)
     | (go_at_call 62; (with_reducible refine (digits_no g N q hq 2 2 o3 _ HG2 HK2.out).mono ?_); rintro e w3 ⟨rfl, hk, hA⟩; have HK3 := Aside0.mk hk; have HA3 := Aside0.mk (HA2.out.trans (hA.two gd)); have HG3 := hA.gok hg HG2; have HD3 := Aside0.mk (hA.heap hne HD2.out); clear hk hA)
    )
    go_ret
    rw [← HCK.out]
    exact ⟨rfl, HK3.out, HD3.out, HA3.out⟩
   | true =>
    rw [if_neg (by rw [o3]; decide)] at hck
    have n3 := dig_two o3 2 rfl rfl
    obtain ⟨x3, e3⟩ : ∃ x, num (q.take 2) = x := ⟨_, rfl⟩
    obtain ⟨p, ep⟩ : ∃ p, q.drop 2 = p := ⟨_, rfl⟩
    have hp : OK N p := by rw [← ep]; exact hq.drop _
    have v3 : 0 ≤ x3 ∧ x3 < 100 := by have := num_digits q hq.inb 2 (by omega); rw [e3] at this; omega
    have i3 : IntKind.i8.wrap x3 = x3 := wrapi8 _ (by omega) (by omega)
    simp only [ep, e3] at hck
    cases o4 : begB p 58 with
    | false =>
     rw [if_pos o4] at hck
     have HCK := Aside0.mk hck
     clear hck
     go_enter Tryd.func63, Tryd.ntmps63
     go_wp2_with (first
      | (go_at_call 62; (with_reducible refine (digits_yes' g N l hl 2 2 (by decide) o1 2 n1 x1 e1 _ HG0 HK0.out hg).mono ?_); rintro e w1 ⟨rfl, hk, hA⟩; rw [er] at hk; have HK1 := Aside0.mk hk; have HA1 := Aside0.mk (HA0.out.trans (hA.two gd)); have HG1 := hA.gok hg HG0; have HD1 := Aside0.mk (hA.heap hne HD0.out); clear hk hA)
      | (go_at_call 49; (with_reducible refine (begins_yes g N r hr 58 o2 _ HK1.out).mono ?_); rintro e w2 ⟨rfl, hk, hA⟩; rw [eq] at hk; have HK2 := Aside0.mk hk; have HA2 := Aside0.mk (HA1.out.trans (hA.two gd)); have HG2 := hA.gok hg HG1; have HD2 := Aside0.mk (hA.heap hne HD1.out); clear hk hA)
      | (go_at_call 62; (with_reducible refine (digits_yes' g N q hq 2 2 (by decide) o3 2 n3 x3 e3 _ HG2 HK2.out hg).mono ?_); rintro e w3 ⟨rfl, hk, hA⟩; rw [ep] at hk; have HK3 := Aside0.mk hk; have HA3 := Aside0.mk (HA2.out.trans (hA.two gd)); have HG3 := hA.gok hg HG2; have HD3 := Aside0.mk (hA.heap hne HD2.out); have c3_3 := (blk_cell HD3.out 3 : w3.cell? ⟨gd, 3, none⟩ = some (.int .i8 h0)); have f3_3 := (blk_frozen HD3.out 3 : w3.frozen? ⟨gd, 3, none⟩ = false); have c3_4 := (blk_cell HD3.out 4 : w3.cell? ⟨gd, 4, none⟩ = some (.int .i8 m0)); have f3_4 := (blk_frozen HD3.out 4 : w3.frozen? ⟨gd, 4, none⟩ = false); have c3_5 := (blk_cell HD3.out 5 : w3.cell? ⟨gd, 5, none⟩ = some (.int .i8 s0)); have f3_5 := (blk_frozen HD3.out 5 : w3.frozen? ⟨gd, 5, none⟩ = false); clear hk hA)
      | (go_at_call 49; have hd4 : DT gd y mo dd x1 x3 s0 z ((w3.setCell ⟨gd, 3, none⟩ (.int .i8 x1)).setCell ⟨gd, 4, none⟩ (.int .i8 x3)) := blk_put (blk_put HD3.out 3 _ rfl) 4 _ rfl; have hk4 : TX g N p ((w3.setCell ⟨gd, 3, none⟩ (.int .i8 x1)).setCell ⟨gd, 4, none⟩ (.int .i8 x3)) := (HK3.out.set hne2).set hne2; (with_reducible refine (begins_no g N p hp 58 o4 _ hk4).mono ?_); rintro e w5 ⟨rfl, hk, hA⟩; have HK5 := Aside0.mk hk; have HA5 := Aside0.mk ((((HA3.out.set 3 _).set 4 _)).trans (hA.two gd)); have HG5 := hA.gok hg (((Apart2.refl g gd w3).set 3 _).set 4 _ |>.gok hg hgd HG3); have HD5 := Aside0.mk (hA.heap hne hd4); clear hk hA)
     )
     go_ret
     rw [← HCK.out]
     exact ⟨rfl, HK5.out, HD5.out, HA5.out⟩
    | true =>
     rw [if_neg (by rw [o4]; decide)] at hck
     obtain ⟨o, eo⟩ : ∃ o, p.drop 1 = o := ⟨_, rfl⟩
     have ho : OK N o := by rw [← eo]; exact hp.drop _
     simp only [eo] at hck
     cases o5 : digOk o 2 2 with
     | false =>
      rw [if_pos o5] at hck
      have HCK := Aside0.mk hck
      clear hck
      go_enter Tryd.func63, Tryd.ntmps63
      go_wp2_with (first
       | (go_at_call 62; (with_reducible refine (digits_yes' g N l hl 2 2 (by decide) o1 2 n1 x1 e1 _ HG0 HK0.out hg).mono ?_); rintro e w1 ⟨rfl, hk, hA⟩; rw [er] at hk; have HK1 := Aside0.mk hk; have HA1 := Aside0.mk (HA0.out.trans (hA.two gd)); have HG1 := hA.gok hg HG0; have HD1 := Aside0.mk (hA.heap hne HD0.out); clear hk hA)
       | (go_at_call 49; (with_reducible refine (begins_yes g N r hr 58 o2 _ HK1.out).mono ?_); rintro e w2 ⟨rfl, hk, hA⟩; rw [eq] at hk; have HK2 := Aside0.mk hk; have HA2 := Aside0.mk (HA1.out.trans (hA.two gd)); have HG2 := hA.gok hg HG1; have HD2 := Aside0.mk (hA.heap hne HD1.out); clear hk hA)
       | (go_at_call 62; (with_reducible refine (digits_yes' g N q hq 2 2 (by decide) o3 2 n3 x3 e3 _ HG2 HK2.out hg).mono ?_); rintro e w3 ⟨rfl, hk, hA⟩; rw [ep] at hk; have HK3 := Aside0.mk hk; have HA3 := Aside0.mk (HA2.out.trans (hA.two gd)); have HG3 := hA.gok hg HG2; have HD3 := Aside0.mk (hA.heap hne HD2.out); have c3_3 := (blk_cell HD3.out 3 : w3.cell? ⟨gd, 3, none⟩ = some (.int .i8 h0)); have f3_3 := (blk_frozen HD3.out 3 : w3.frozen? ⟨gd, 3, none⟩ = false); have c3_4 := (blk_cell HD3.out 4 : w3.cell? ⟨gd, 4, none⟩ = some (.int .i8 m0)); have f3_4 := (blk_frozen HD3.out 4 : w3.frozen? ⟨gd, 4, none⟩ = false); have c3_5 := (blk_cell HD3.out 5 : w3.cell? ⟨gd, 5, none⟩ = some (.int .i8 s0)); have f3_5 := (blk_frozen HD3.out 5 : w3.frozen? ⟨gd, 5, none⟩ = false); clear hk hA)
       | (go_at_call 49; have hd4 : DT gd y mo dd x1 x3 s0 z ((w3.setCell ⟨gd, 3, none⟩ (.int .i8 x1)).setCell ⟨gd, 4, none⟩ (.int .i8 x3)) := blk_put (blk_put HD3.out 3 _ rfl) 4 _ rfl; have hk4 : TX g N p ((w3.setCell ⟨gd, 3, none⟩ (.int .i8 x1)).setCell ⟨gd, 4, none⟩ (.int .i8 x3)) := (HK3.out.set hne2).set hne2; (with_reducible refine (begins_yes g N p hp 58 o4 _ hk4).mono ?_); rintro e w5 ⟨rfl, hk, hA⟩; rw [eo] at hk; have HK5 := Aside0.mk hk; have HA5 := Aside0.mk ((((HA3.out.set 3 _).set 4 _)).trans (hA.two gd)); have HG5 := hA.gok hg (((Apart2.refl g gd w3).set 3 _).set 4 _ |>.gok hg hgd HG3); have HD5 := Aside0.mk (hA.heap hne hd4); clear hk hA)
       | (go_at_call 62; (with_reducible refine (digits_no g N o ho 2 2 o5 _ HG5 HK5.out).mono ?_); rintro e w6 ⟨rfl, hk, hA⟩; have HK6 := Aside0.mk hk; have HA6 := Aside0.mk (HA5.out.trans (hA.two gd)); have HD6 := Aside0.mk (hA.heap hne HD5.out); have c6_5 := (blk_cell HD6.out 5 : w6.cell? ⟨gd, 5, none⟩ = some (.int .i8 s0)); have f6_5 := (blk_frozen HD6.out 5 : w6.frozen? ⟨gd, 5, none⟩ = false); clear hk hA)
      )
      go_ret
      rw [← HCK.out]
      exact ⟨rfl, HK6.out.set hne2, blk_put HD6.out 5 _ rfl, HA6.out.set 5 _⟩
     | true =>
      rw [if_neg (by rw [o5]; decide)] at hck
      have n5 := dig_two o5 2 rfl rfl
      obtain ⟨x5, e5⟩ : ∃ x, num (o.take 2) = x := ⟨_, rfl⟩
      have v5 : 0 ≤ x5 ∧ x5 < 100 := by have := num_digits o ho.inb 2 (by omega); rw [e5] at this; omega
      have i5 : IntKind.i8.wrap x5 = x5 := wrapi8 _ (by omega) (by omega)
      simp only [e5] at hck
      have HCK := Aside0.mk hck
      clear hck
      go_enter Tryd.func63, Tryd.ntmps63
      go_wp2_with (first
       | (go_at_call 62; (with_reducible refine (digits_yes' g N l hl 2 2 (by decide) o1 2 n1 x1 e1 _ HG0 HK0.out hg).mono ?_); rintro e w1 ⟨rfl, hk, hA⟩; rw [er] at hk; have HK1 := Aside0.mk hk; have HA1 := Aside0.mk (HA0.out.trans (hA.two gd)); have HG1 := hA.gok hg HG0; have HD1 := Aside0.mk (hA.heap hne HD0.out); clear hk hA)
       | (go_at_call 49; (with_reducible refine (begins_yes g N r hr 58 o2 _ HK1.out).mono ?_); rintro e w2 ⟨rfl, hk, hA⟩; rw [eq] at hk; have HK2 := Aside0.mk hk; have HA2 := Aside0.mk (HA1.out.trans (hA.two gd)); have HG2 := hA.gok hg HG1; have HD2 := Aside0.mk (hA.heap hne HD1.out); clear hk hA)
       | (go_at_call 62; (with_reducible refine (digits_yes' g N q hq 2 2 (by decide) o3 2 n3 x3 e3 _ HG2 HK2.out hg).mono ?_); rintro e w3 ⟨rfl, hk, hA⟩; rw [ep] at hk; have HK3 := Aside0.mk hk; have HA3 := Aside0.mk (HA2.out.trans (hA.two gd)); have HG3 := hA.gok hg HG2; have HD3 := Aside0.mk (hA.heap hne HD2.out); have c3_3 := (blk_cell HD3.out 3 : w3.cell? ⟨gd, 3, none⟩ = some (.int .i8 h0)); have f3_3 := (blk_frozen HD3.out 3 : w3.frozen? ⟨gd, 3, none⟩ = false); have c3_4 := (blk_cell HD3.out 4 : w3.cell? ⟨gd, 4, none⟩ = some (.int .i8 m0)); have f3_4 := (blk_frozen HD3.out 4 : w3.frozen? ⟨gd, 4, none⟩ = false); have c3_5 := (blk_cell HD3.out 5 : w3.cell? ⟨gd, 5, none⟩ = some (.int .i8 s0)); have f3_5 := (blk_frozen HD3.out 5 : w3.frozen? ⟨gd, 5, none⟩ = false); clear hk hA)
       | (go_at_call 49; have hd4 : DT gd y mo dd x1 x3 s0 z ((w3.setCell ⟨gd, 3, none⟩ (.int .i8 x1)).setCell ⟨gd, 4, none⟩ (.int .i8 x3)) := blk_put (blk_put HD3.out 3 _ rfl) 4 _ rfl; have hk4 : TX g N p ((w3.setCell ⟨gd, 3, none⟩ (.int .i8 x1)).setCell ⟨gd, 4, none⟩ (.int .i8 x3)) := (HK3.out.set hne2).set hne2; (with_reducible refine (begins_yes g N p hp 58 o4 _ hk4).mono ?_); rintro e w5 ⟨rfl, hk, hA⟩; rw [eo] at hk; have HK5 := Aside0.mk hk; have HA5 := Aside0.mk ((((HA3.out.set 3 _).set 4 _)).trans (hA.two gd)); have HG5 := hA.gok hg (((Apart2.refl g gd w3).set 3 _).set 4 _ |>.gok hg hgd HG3); have HD5 := Aside0.mk (hA.heap hne hd4); clear hk hA)
       | (go_at_call 62; (with_reducible refine (digits_yes' g N o ho 2 2 (by decide) o5 2 n5 x5 e5 _ HG5 HK5.out hg).mono ?_); rintro e w6 ⟨rfl, hk, hA⟩; have HK6 := Aside0.mk hk; have HA6 := Aside0.mk (HA5.out.trans (hA.two gd)); have HD6 := Aside0.mk (hA.heap hne HD5.out); have c6_5 := (blk_cell HD6.out 5 : w6.cell? ⟨gd, 5, none⟩ = some (.int .i8 s0)); have f6_5 := (blk_frozen HD6.out 5 : w6.frozen? ⟨gd, 5, none⟩ = false); clear hk hA)
      )
      go_ret
      rw [← HCK.out]
      exact ⟨rfl, HK6.out.set hne2, blk_put HD6.out 5 _ rfl, HA6.out.set 5 _⟩
end Go.Proofs.YtnmhkmkaklhapaaDoor.T
