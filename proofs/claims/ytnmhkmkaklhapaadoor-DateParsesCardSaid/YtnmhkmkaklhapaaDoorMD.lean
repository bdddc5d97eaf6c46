/- date's text: the day, its month and year, and the time. date.Parse: a text is read. -/
import Derived.Test.YtnmhkmkaklhapaaDoorMB
import Derived.Test.YtnmhkmkaklhapaaDoorMC
namespace Go.Proofs.YtnmhkmkaklhapaaDoor.T
set_option linter.unusedVariables false
set_option linter.unusedSimpArgs false
open Go.RowKit Go.Proofs.YtnmhkmkaklhapaaDoorW.PrintWords Go.Proofs.YtnmhkmkaklhapaaDoorW.PrintLast Go.Proofs.YtnmhkmkaklhapaaDoorW.PrintMore Go.Proofs.YtnmhkmkaklhapaaDoor.B Go.Proofs.YtnmhkmkaklhapaaDoor.M Go.Proofs.YtnmhkmkaklhapaaDoor.Glob Go.Proofs.YtnmhkmkaklhapaaDoor.D Go.Proofs.YtnmhkmkaklhapaaDoor.U

def MON : List Int := [74, 97, 110, 70, 101, 98, 77, 97, 114, 65, 112, 114, 77, 97, 121, 74, 117, 110, 74, 117, 108, 65, 117, 103, 83, 101, 112, 79, 99, 116, 78, 111, 118, 68, 101, 99]
theorem mon_in : InB MON := by intro x hx; unfold MON at hx; simp only [List.mem_cons, List.not_mem_nil, or_false] at hx; omega
theorem blanks_yes (g N : Nat) (l : List Int) (h : OK N l) (hb : decide (0 < blN l) = true) (w : World) (hk : TX g N l w) :
  Calls Tryd.prog 46 #[.pointer (some ⟨g, 0, none⟩)] w fun e w' => e = .returned (.bool true) ∧ TX g N (l.drop (blN l)) w' ∧ Apart g w w' := by
 have := blanks_calls g N l h w hk
 rw [hb] at this
 exact this
theorem blanks_no (g N : Nat) (l : List Int) (h : OK N l) (hb : decide (0 < blN l) = false) (w : World) (hk : TX g N l w) :
  Calls Tryd.prog 46 #[.pointer (some ⟨g, 0, none⟩)] w fun e w' => e = .returned (.bool false) ∧ TX g N l w' ∧ Apart g w w' := by
 have := blanks_calls g N l h w hk
 rw [hb, show blN l = 0 from by have := of_decide_eq_false hb; omega, List.drop_zero] at this
 exact this
theorem word_yes (A : List Int) (m : Nat) (hA : A.length = 3 * m) (hm : m ≤ 100) (hAin : InB A) (g N : Nat) (l : List Int) (h : OK N l) (k : Nat) (hw : wordF A l = some k) (w : World) (HG : GOk w) (hk : TX g N l w) :
  Calls Tryd.prog 48 #[.pointer (some ⟨g, 0, none⟩), .string (strOfNums A)] w fun e w' => e = .returned (.int .i64 (k : Int)) ∧ TX g N (l.drop 3) w' ∧ Apart g w w' := by
 have := word_calls A m hA hm hAin g N l h w HG hk
 rw [hw] at this
 exact this
theorem word_no (A : List Int) (m : Nat) (hA : A.length = 3 * m) (hm : m ≤ 100) (hAin : InB A) (g N : Nat) (l : List Int) (h : OK N l) (hw : wordF A l = none) (w : World) (HG : GOk w) (hk : TX g N l w) :
  Calls Tryd.prog 48 #[.pointer (some ⟨g, 0, none⟩), .string (strOfNums A)] w fun e w' => e = .returned (.int .i64 (-1)) ∧ TX g N l w' ∧ Apart g w w' := by
 have := word_calls A m hA hm hAin g N l h w HG hk
 rw [hw] at this
 exact this
theorem fwd_lt (A t : List Int) : ∀ (n k j : Nat), fwd A t k n = some j → j < k + n
 | 0, k, j, h => by unfold fwd at h; cases h
 | n + 1, k, j, h => by
  rw [fwd] at h
  split at h
  ·obtain rfl := Option.some.inj h; omega
  ·have := fwd_lt A t n (k + 1) j h; omega
theorem mon_lt {l : List Int} {k : Nat} (h : wordF MON l = some k) : k < 12 := by
 unfold wordF at h
 split at h
 ·have := fwd_lt _ _ _ _ _ h; rw [show MON.length / 3 = 12 from rfl] at this; omega
 ·cases h
theorem clock_yes (g gd N : Nat) (l : List Int) (hl : OK N l) (y mo dd h0 m0 s0 z : Int) (r : List Int) (h m s : Int) (hc : clockP l h0 m0 s0 = ⟨true, r, h, m, s⟩) (w0 : World) (HG0 : GOk w0) (hk0 : TX g N l w0) (hg : 0 < g) (hgd : 0 < gd) (hne : gd ≠ g) (hd0 : DT gd y mo dd h0 m0 s0 z w0) :
  Calls Tryd.prog 63 #[.pointer (some ⟨g, 0, none⟩), .pointer (some ⟨gd, 0, none⟩)] w0 fun e w' => e = .returned (.bool true) ∧ TX g N r w' ∧ DT gd y mo dd h m s z w' ∧ Apart2 g gd w0 w' := by
 have := clock_calls g gd N l hl y mo dd h0 m0 s0 z w0 HG0 hk0 hg hgd hne hd0
 rw [hc] at this
 exact this
theorem clock_no (g gd N : Nat) (l : List Int) (hl : OK N l) (y mo dd h0 m0 s0 z : Int) (r : List Int) (h m s : Int) (hc : clockP l h0 m0 s0 = ⟨false, r, h, m, s⟩) (w0 : World) (HG0 : GOk w0) (hk0 : TX g N l w0) (hg : 0 < g) (hgd : 0 < gd) (hne : gd ≠ g) (hd0 : DT gd y mo dd h0 m0 s0 z w0) :
  Calls Tryd.prog 63 #[.pointer (some ⟨g, 0, none⟩), .pointer (some ⟨gd, 0, none⟩)] w0 fun e w' => e = .returned (.bool false) ∧ TX g N r w' ∧ DT gd y mo dd h m s z w' ∧ Apart2 g gd w0 w' := by
 have := clock_calls g gd N l hl y mo dd h0 m0 s0 z w0 HG0 hk0 hg hgd hne hd0
 rw [hc] at this
 exact this

/-- A date's parts. -/
structure Dte where
 y : Int
 mo : Int
 d : Int
 h : Int
 m : Int
 s : Int
def yearV (k : Nat) (y : Int) : Int := if k = 2 ∧ y < 50 then y + 2000 else if k < 4 then y + 1900 else y
/-- What date makes of a text: the parts, if it is one, and what is left. -/
def dateP (l : List Int) : Option Dte × List Int :=
 if digOk l 1 2 = false then (none, l) else
 let l1 := l.drop (digN l)
 if decide (0 < blN l1) = false then (none, l1) else
 let l2 := l1.drop (blN l1)
 match wordF MON l2 with
 | none => (none, l2)
 | some mo =>
 let l3 := l2.drop 3
 if decide (0 < blN l3) = false then (none, l3) else
 let l4 := l3.drop (blN l3)
 if digOk l4 2 4 = false then (none, l4) else
 let l5 := l4.drop (digN l4)
 if decide (0 < blN l5) = false then (none, l5) else
 let l6 := l5.drop (blN l5)
 match clockP l6 0 0 0 with
 | ⟨false, l7, _, _, _⟩ => (none, l7)
 | ⟨true, l7, h, m, s⟩ =>
 if decide (0 < blN l7) = false then (none, l7) else
 (some ⟨yearV (digN l4) (num (l4.take (digN l4))), (mo : Int) + 1, num (l.take (digN l)), h, m, s⟩, l7.drop (blN l7))
def DD (gd : Nat) (o : Option Dte) (w : World) : Prop := ∀ d, o = some d → DT gd d.y d.mo d.d d.h d.m d.s 0 w
theorem DD.none' {gd : Nat} {w : World} : DD gd none w := fun d h => by cases h
theorem DD.some' {gd : Nat} {w : World} {y mo d h m s : Int} (k : DT gd y mo d h m s 0 w) : DD gd (some ⟨y, mo, d, h, m, s⟩) w := fun d e => by cases e; exact k
theorem clock_ok {N : Nat} {l : List Int} {h0 m0 s0 : Int} (h : OK N l) : OK N (clockP l h0 m0 s0).l := by
 unfold clockP
 simp only
 repeat' split
 all_goals first | exact h | exact ((((h.drop _).drop _).drop _).drop _).drop _ | exact (((h.drop _).drop _).drop _).drop _ | exact ((h.drop _).drop _).drop _ | exact (h.drop _).drop _ | exact h.drop _ | exact (((((h.drop _).drop _).drop _).drop _).drop _).drop _
set_option maxHeartbeats 8000000 in
set_option maxRecDepth 100000 in
theorem date_calls (g gd N : Nat) (l : List Int) (hl : OK N l) (w0 : World) (HG0 : GOk w0) (hk0 : TX g N l w0) (hg : 0 < g) (hgd : 0 < gd) (hne : gd ≠ g) (hd0 : DT gd 0 0 0 0 0 0 0 w0) :
  Calls Tryd.prog 50 #[.pointer (some ⟨g, 0, none⟩), .pointer (some ⟨gd, 0, none⟩)] w0 fun e w' => e = .returned (.bool (dateP l).1.isSome) ∧ TX g N (dateP l).2 w' ∧ DD gd (dateP l).1 w' ∧ Apart2 g gd w0 w' := by
 have HK0 := Aside0.mk hk0
 have HD0 := Aside0.mk hd0
 have HA0 := Aside0.mk (Apart2.refl g gd w0)
 have hne2 : g ≠ gd := fun e => hne e.symm
 clear hk0 hd0
 obtain ⟨R, hR⟩ : ∃ R, dateP l = R := ⟨_, rfl⟩
 rw [hR]
 unfold dateP at hR
 cases o1 : digOk l 1 2 with
 | false =>
  rw [if_pos o1] at hR
  have HR := Aside0.mk hR
  clear hR
  go_enter Tryd.func50, Tryd.ntmps50
  go_wp2_with (first
   | ((go_at_call 62); (with_reducible refine (digits_no g N l hl 1 2 o1 _ HG0 HK0.out).mono ?_); rintro e w1 ⟨rfl, hk, hA⟩; have HK1 := Aside0.mk hk; have HA1 := Aside0.mk (HA0.out.trans (hA.two gd)); have HG1 := hA.gok hg HG0; have HD1 := Aside0.mk (hA.heap hne HD0.out); clear hk hA)
  )
  go_ret
  rw [← HR.out]
  exact ⟨rfl, HK1.out, DD.none', HA1.out⟩
 | true =>
  rw [if_neg (by rw [o1]; decide)] at hR
  obtain ⟨n1, hn1⟩ : ∃ n, digN l = n := ⟨_, rfl⟩
  obtain ⟨x1, hx1⟩ : ∃ x, num (l.take n1) = x := ⟨_, rfl⟩
  obtain ⟨l1, e1⟩ : ∃ r, l.drop n1 = r := ⟨_, rfl⟩
  have h1 : OK N l1 := by rw [← e1]; exact hl.drop _
  have v1 : 0 ≤ x1 ∧ x1 < 100 := by
   have hq := of_decide_eq_true (Bool.and_eq_true_iff.1 o1).2
   have := num_digits l hl.inb n1 (by omega)
   rw [hx1] at this
   have h10 : (10 : Int) ^ n1 ≤ 100 := by
    have : n1 = 0 ∨ n1 = 1 ∨ n1 = 2 := by omega
    rcases this with rfl | rfl | rfl <;> decide
   omega
  have i1 : IntKind.i8.wrap x1 = x1 := wrapi8 _ (by omega) (by omega)
  simp only [hn1, hx1, e1] at hR
  cases o2 : decide (0 < blN l1) with
  | false =>
   rw [if_pos o2] at hR
   have HR := Aside0.mk hR
   clear hR
   go_enter Tryd.func50, Tryd.ntmps50
   go_wp2_with (first
    | ((go_at_call 62); (with_reducible refine (digits_yes' g N l hl 1 2 (by decide) o1 n1 hn1 x1 hx1 _ HG0 HK0.out hg).mono ?_); rintro e w1 ⟨rfl, hk, hA⟩; rw [e1] at hk; have HK1 := Aside0.mk hk; have HA1 := Aside0.mk (HA0.out.trans (hA.two gd)); have HG1 := hA.gok hg HG0; have HD1 := Aside0.mk (hA.heap hne HD0.out); clear hk hA)
    | ((go_at_call 46); (with_reducible refine (blanks_no g N l1 h1 o2 _ HK1.out).mono ?_); rintro e w2 ⟨rfl, hk, hA⟩; have HK2 := Aside0.mk hk; have HA2 := Aside0.mk (HA1.out.trans (hA.two gd)); have HG2 := hA.gok hg HG1; have HD2 := Aside0.mk (hA.heap hne HD1.out); clear hk hA)
   )
   go_ret
   rw [← HR.out]
   exact ⟨rfl, HK2.out, DD.none', HA2.out⟩
  | true =>
   rw [if_neg (by rw [o2]; decide)] at hR
   obtain ⟨l2, e2⟩ : ∃ r, l1.drop (blN l1) = r := ⟨_, rfl⟩
   have h2 : OK N l2 := by rw [← e2]; exact h1.drop _
   simp only [e2] at hR
   cases o3 : wordF MON l2 with
   | none =>
    simp only [o3] at hR
    have HR := Aside0.mk hR
    clear hR
    go_enter Tryd.func50, Tryd.ntmps50
    go_wp2_with (first
     | ((go_at_call 62); (with_reducible refine (digits_yes' g N l hl 1 2 (by decide) o1 n1 hn1 x1 hx1 _ HG0 HK0.out hg).mono ?_); rintro e w1 ⟨rfl, hk, hA⟩; rw [e1] at hk; have HK1 := Aside0.mk hk; have HA1 := Aside0.mk (HA0.out.trans (hA.two gd)); have HG1 := hA.gok hg HG0; have HD1 := Aside0.mk (hA.heap hne HD0.out); clear hk hA)
     | ((go_at_call 46); (with_reducible refine (blanks_yes g N l1 h1 o2 _ HK1.out).mono ?_); rintro e w2 ⟨rfl, hk, hA⟩; rw [e2] at hk; have HK2 := Aside0.mk hk; have HA2 := Aside0.mk (HA1.out.trans (hA.two gd)); have HG2 := hA.gok hg HG1; have HD2 := Aside0.mk (hA.heap hne HD1.out); clear hk hA)
     | ((go_at_call 48); refine (calls_of_args (args' := #[.pointer (some ⟨g, 0, none⟩), .string (strOfNums MON)]) (by first | rfl | kernel_rfl) ?_); (with_reducible refine (word_no MON 12 rfl (by decide) mon_in g N l2 h2 o3 _ HG2 HK2.out).mono ?_); rintro e w3 ⟨rfl, hk, hA⟩; have HK3 := Aside0.mk hk; have HA3 := Aside0.mk (HA2.out.trans (hA.two gd)); have HG3 := hA.gok hg HG2; have HD3 := Aside0.mk (hA.heap hne HD2.out); clear hk hA)
    )
    go_ret
    rw [← HR.out]
    exact ⟨rfl, HK3.out, DD.none', HA3.out⟩
   | some mo =>
    simp only [o3] at hR
    have hmo := mon_lt o3
    have m1 : ¬ (mo : Int) < 0 := by omega
    have m2 : IntKind.i64.wrap ((mo : Int) + 1) = (mo : Int) + 1 := by rw [i64_w]; exact wrap_id _ (by omega) (by omega)
    have m3 : IntKind.i8.wrap ((mo : Int) + 1) = (mo : Int) + 1 := wrapi8 _ (by omega) (by omega)
    obtain ⟨l3, e3⟩ : ∃ r, l2.drop 3 = r := ⟨_, rfl⟩
    have h3 : OK N l3 := by rw [← e3]; exact h2.drop _
    simp only [e3] at hR
    cases o4 : decide (0 < blN l3) with
    | false =>
     rw [if_pos o4] at hR
     have HR := Aside0.mk hR
     clear hR
     go_enter Tryd.func50, Tryd.ntmps50
     go_wp2_with (first
      | ((go_at_call 62); (with_reducible refine (digits_yes' g N l hl 1 2 (by decide) o1 n1 hn1 x1 hx1 _ HG0 HK0.out hg).mono ?_); rintro e w1 ⟨rfl, hk, hA⟩; rw [e1] at hk; have HK1 := Aside0.mk hk; have HA1 := Aside0.mk (HA0.out.trans (hA.two gd)); have HG1 := hA.gok hg HG0; have HD1 := Aside0.mk (hA.heap hne HD0.out); clear hk hA)
      | ((go_at_call 46); (with_reducible refine (blanks_yes g N l1 h1 o2 _ HK1.out).mono ?_); rintro e w2 ⟨rfl, hk, hA⟩; rw [e2] at hk; have HK2 := Aside0.mk hk; have HA2 := Aside0.mk (HA1.out.trans (hA.two gd)); have HG2 := hA.gok hg HG1; have HD2 := Aside0.mk (hA.heap hne HD1.out); clear hk hA)
      | ((go_at_call 48); refine (calls_of_args (args' := #[.pointer (some ⟨g, 0, none⟩), .string (strOfNums MON)]) (by first | rfl | kernel_rfl) ?_); (with_reducible refine (word_yes MON 12 rfl (by decide) mon_in g N l2 h2 mo o3 _ HG2 HK2.out).mono ?_); rintro e w3 ⟨rfl, hk, hA⟩; rw [e3] at hk; have HK3 := Aside0.mk hk; have HA3 := Aside0.mk (HA2.out.trans (hA.two gd)); have HG3 := hA.gok hg HG2; have HD3 := Aside0.mk (hA.heap hne HD2.out); clear hk hA)
      | ((go_at_call 46); (with_reducible refine (blanks_no g N l3 h3 o4 _ HK3.out).mono ?_); rintro e w4 ⟨rfl, hk, hA⟩; have HK4 := Aside0.mk hk; have HA4 := Aside0.mk (HA3.out.trans (hA.two gd)); have HG4 := hA.gok hg HG3; have HD4 := Aside0.mk (hA.heap hne HD3.out); clear hk hA)
     )
     go_ret
     rw [← HR.out]
     exact ⟨rfl, HK4.out, DD.none', HA4.out⟩
    | true =>
     rw [if_neg (by rw [o4]; decide)] at hR
     obtain ⟨l4, e4⟩ : ∃ r, l3.drop (blN l3) = r := ⟨_, rfl⟩
     have h4 : OK N l4 := by rw [← e4]; exact h3.drop _
     simp only [e4] at hR
     cases o5 : digOk l4 2 4 with
     | false =>
      rw [if_pos o5] at hR
      have HR := Aside0.mk hR
      clear hR
      go_enter Tryd.func50, Tryd.ntmps50
      go_wp2_with (first
       | ((go_at_call 62); (with_reducible refine (digits_yes' g N l hl 1 2 (by decide) o1 n1 hn1 x1 hx1 _ HG0 HK0.out hg).mono ?_); rintro e w1 ⟨rfl, hk, hA⟩; rw [e1] at hk; have HK1 := Aside0.mk hk; have HA1 := Aside0.mk (HA0.out.trans (hA.two gd)); have HG1 := hA.gok hg HG0; have HD1 := Aside0.mk (hA.heap hne HD0.out); clear hk hA)
       | ((go_at_call 46); (with_reducible refine (blanks_yes g N l1 h1 o2 _ HK1.out).mono ?_); rintro e w2 ⟨rfl, hk, hA⟩; rw [e2] at hk; have HK2 := Aside0.mk hk; have HA2 := Aside0.mk (HA1.out.trans (hA.two gd)); have HG2 := hA.gok hg HG1; have HD2 := Aside0.mk (hA.heap hne HD1.out); clear hk hA)
       | ((go_at_call 48); refine (calls_of_args (args' := #[.pointer (some ⟨g, 0, none⟩), .string (strOfNums MON)]) (by first | rfl | kernel_rfl) ?_); (with_reducible refine (word_yes MON 12 rfl (by decide) mon_in g N l2 h2 mo o3 _ HG2 HK2.out).mono ?_); rintro e w3 ⟨rfl, hk, hA⟩; rw [e3] at hk; have HK3 := Aside0.mk hk; have HA3 := Aside0.mk (HA2.out.trans (hA.two gd)); have HG3 := hA.gok hg HG2; have HD3 := Aside0.mk (hA.heap hne HD2.out); clear hk hA)
       | ((go_at_call 46); (with_reducible refine (blanks_yes g N l3 h3 o4 _ HK3.out).mono ?_); rintro e w4 ⟨rfl, hk, hA⟩; rw [e4] at hk; have HK4 := Aside0.mk hk; have HA4 := Aside0.mk (HA3.out.trans (hA.two gd)); have HG4 := hA.gok hg HG3; have HD4 := Aside0.mk (hA.heap hne HD3.out); clear hk hA)
       | ((go_at_call 62); (with_reducible refine (digits_no g N l4 h4 2 4 o5 _ HG4 HK4.out).mono ?_); rintro e w5 ⟨rfl, hk, hA⟩; have HK5 := Aside0.mk hk; have HA5 := Aside0.mk (HA4.out.trans (hA.two gd)); have HG5 := hA.gok hg HG4; have HD5 := Aside0.mk (hA.heap hne HD4.out); clear hk hA)
      )
      go_ret
      rw [← HR.out]
      exact ⟨rfl, HK5.out, DD.none', HA5.out⟩
     | true =>
      rw [if_neg (by rw [o5]; decide)] at hR
      obtain ⟨n5, hn5⟩ : ∃ n, digN l4 = n := ⟨_, rfl⟩
      obtain ⟨x5, hx5⟩ : ∃ x, num (l4.take n5) = x := ⟨_, rfl⟩
      obtain ⟨l5, e5⟩ : ∃ r, l4.drop n5 = r := ⟨_, rfl⟩
      have h5 : OK N l5 := by rw [← e5]; exact h4.drop _
      have q5 : 2 ≤ n5 ∧ n5 ≤ 4 := by have a := of_decide_eq_true (Bool.and_eq_true_iff.1 o5).2; have b := of_decide_eq_true (Bool.and_eq_true_iff.1 o5).1; omega
      have v5 : 0 ≤ x5 ∧ x5 < 10000 := by
       have := num_digits l4 h4.inb n5 (by omega)
       rw [hx5] at this
       have h10 : (10 : Int) ^ n5 ≤ 10000 := by
        have : n5 = 2 ∨ n5 = 3 ∨ n5 = 4 := by omega
        rcases this with rfl | rfl | rfl <;> decide
       omega
      simp only [hn5, hx5, e5] at hR
      cases o6 : decide (0 < blN l5) with
      | false =>
       rw [if_pos o6] at hR
       have HR := Aside0.mk hR
       clear hR
       go_enter Tryd.func50, Tryd.ntmps50
       go_wp2_with (first
        | ((go_at_call 62); (with_reducible refine (digits_yes' g N l hl 1 2 (by decide) o1 n1 hn1 x1 hx1 _ HG0 HK0.out hg).mono ?_); rintro e w1 ⟨rfl, hk, hA⟩; rw [e1] at hk; have HK1 := Aside0.mk hk; have HA1 := Aside0.mk (HA0.out.trans (hA.two gd)); have HG1 := hA.gok hg HG0; have HD1 := Aside0.mk (hA.heap hne HD0.out); clear hk hA)
        | ((go_at_call 46); (with_reducible refine (blanks_yes g N l1 h1 o2 _ HK1.out).mono ?_); rintro e w2 ⟨rfl, hk, hA⟩; rw [e2] at hk; have HK2 := Aside0.mk hk; have HA2 := Aside0.mk (HA1.out.trans (hA.two gd)); have HG2 := hA.gok hg HG1; have HD2 := Aside0.mk (hA.heap hne HD1.out); clear hk hA)
        | ((go_at_call 48); refine (calls_of_args (args' := #[.pointer (some ⟨g, 0, none⟩), .string (strOfNums MON)]) (by first | rfl | kernel_rfl) ?_); (with_reducible refine (word_yes MON 12 rfl (by decide) mon_in g N l2 h2 mo o3 _ HG2 HK2.out).mono ?_); rintro e w3 ⟨rfl, hk, hA⟩; rw [e3] at hk; have HK3 := Aside0.mk hk; have HA3 := Aside0.mk (HA2.out.trans (hA.two gd)); have HG3 := hA.gok hg HG2; have HD3 := Aside0.mk (hA.heap hne HD2.out); clear hk hA)
        | ((go_at_call 46); (with_reducible refine (blanks_yes g N l3 h3 o4 _ HK3.out).mono ?_); rintro e w4 ⟨rfl, hk, hA⟩; rw [e4] at hk; have HK4 := Aside0.mk hk; have HA4 := Aside0.mk (HA3.out.trans (hA.two gd)); have HG4 := hA.gok hg HG3; have HD4 := Aside0.mk (hA.heap hne HD3.out); clear hk hA)
        | ((go_at_call 62); (with_reducible refine (digits_yes' g N l4 h4 2 4 (by decide) o5 n5 hn5 x5 hx5 _ HG4 HK4.out hg).mono ?_); rintro e w5 ⟨rfl, hk, hA⟩; rw [e5] at hk; have HK5 := Aside0.mk hk; have HA5 := Aside0.mk (HA4.out.trans (hA.two gd)); have HG5 := hA.gok hg HG4; have HD5 := Aside0.mk (hA.heap hne HD4.out); clear hk hA)
        | ((go_at_call 46); (with_reducible refine (blanks_no g N l5 h5 o6 _ HK5.out).mono ?_); rintro e w6 ⟨rfl, hk, hA⟩; have HK6 := Aside0.mk hk; have HA6 := Aside0.mk (HA5.out.trans (hA.two gd)); have HG6 := hA.gok hg HG5; have HD6 := Aside0.mk (hA.heap hne HD5.out); clear hk hA)
       )
       go_ret
       rw [← HR.out]
       exact ⟨rfl, HK6.out, DD.none', HA6.out⟩
      | true =>
       rw [if_neg (by rw [o6]; decide)] at hR
       obtain ⟨l6, e6⟩ : ∃ r, l5.drop (blN l5) = r := ⟨_, rfl⟩
       have h6 : OK N l6 := by rw [← e6]; exact h5.drop _
       simp only [e6] at hR
       obtain ⟨y, hy⟩ : ∃ y, yearV n5 x5 = y := ⟨_, rfl⟩
       rw [hy] at hR
       have hcase : ((((n5 : Int) == 2) = true ∧ x5 < 50 ∧ Aside0 (yearV n5 x5 = x5 + 2000) ∧ IntKind.i16.wrap (x5 + 2000) = y) ∨ (((n5 : Int) == 2) = true ∧ ¬ x5 < 50 ∧ (n5 : Int) < 4 ∧ n5 < 4 ∧ IntKind.i16.wrap (x5 + 1900) = y) ∨ (((n5 : Int) == 2) = false ∧ (n5 : Int) < 4 ∧ n5 < 4 ∧ IntKind.i16.wrap (x5 + 1900) = y) ∨ (((n5 : Int) == 2) = false ∧ ¬ (n5 : Int) < 4 ∧ ¬ n5 < 4 ∧ x5 = y)) := by
        have : n5 = 2 ∧ x5 < 50 ∨ n5 = 2 ∧ ¬ x5 < 50 ∨ n5 = 3 ∨ n5 = 4 := by omega
        rcases this with ⟨rfl, h⟩ | ⟨rfl, h⟩ | rfl | rfl
        ·exact .inl ⟨rfl, h, ⟨if_pos ⟨rfl, h⟩⟩, by rw [wrap16 _ (by omega) (by omega), ← hy]; exact (if_pos ⟨rfl, h⟩).symm⟩
        ·exact .inr (.inl ⟨rfl, h, by omega, by omega, by rw [wrap16 _ (by omega) (by omega), ← hy]; unfold yearV; rw [if_neg (fun hc => h hc.2), if_pos (by decide)]⟩)
        ·exact .inr (.inr (.inl ⟨rfl, by omega, by omega, by rw [wrap16 _ (by omega) (by omega), ← hy]; unfold yearV; rw [if_neg (fun hc => absurd hc.1 (by decide)), if_pos (by decide)]⟩))
        ·exact .inr (.inr (.inr ⟨rfl, by omega, by omega, by rw [← hy]; unfold yearV; rw [if_neg (fun hc => absurd hc.1 (by decide)), if_neg (by decide)]⟩))
       have HQ5 := Aside0.mk q5
       have HV5 := Aside0.mk v5
       clear hy q5 hmo
       cases o7 : clockP l6 0 0 0 with
       | mk co l7 ch cm cs =>
        have h7 : OK N l7 := by have := clock_ok (h0 := 0) (m0 := 0) (s0 := 0) h6; rw [o7] at this; exact this
        rw [o7] at hR
        cases co with
        | false =>
         simp only at hR
         have HR := Aside0.mk hR
         clear hR
         rcases hcase with ⟨b1, b2, _, b3⟩ | ⟨b1, b2, b3, b4, b5⟩ | ⟨b1, b2, b3, b4⟩ | ⟨b1, b2, b3, rfl⟩
         ·go_enter Tryd.func50, Tryd.ntmps50
          go_wp2_with (first
          | ((go_at_call 62); (with_reducible refine (digits_yes' g N l hl 1 2 (by decide) o1 n1 hn1 x1 hx1 _ HG0 HK0.out hg).mono ?_); rintro e w1 ⟨rfl, hk, hA⟩; rw [e1] at hk; have HK1 := Aside0.mk hk; have HA1 := Aside0.mk (HA0.out.trans (hA.two gd)); have HG1 := hA.gok hg HG0; have HD1 := Aside0.mk (hA.heap hne HD0.out); clear hk hA)
          | ((go_at_call 46); (with_reducible refine (blanks_yes g N l1 h1 o2 _ HK1.out).mono ?_); rintro e w2 ⟨rfl, hk, hA⟩; rw [e2] at hk; have HK2 := Aside0.mk hk; have HA2 := Aside0.mk (HA1.out.trans (hA.two gd)); have HG2 := hA.gok hg HG1; have HD2 := Aside0.mk (hA.heap hne HD1.out); clear hk hA)
          | ((go_at_call 48); refine (calls_of_args (args' := #[.pointer (some ⟨g, 0, none⟩), .string (strOfNums MON)]) (by first | rfl | kernel_rfl) ?_); (with_reducible refine (word_yes MON 12 rfl (by decide) mon_in g N l2 h2 mo o3 _ HG2 HK2.out).mono ?_); rintro e w3 ⟨rfl, hk, hA⟩; rw [e3] at hk; have HK3 := Aside0.mk hk; have HA3 := Aside0.mk (HA2.out.trans (hA.two gd)); have HG3 := hA.gok hg HG2; have HD3 := Aside0.mk (hA.heap hne HD2.out); clear hk hA)
          | ((go_at_call 46); (with_reducible refine (blanks_yes g N l3 h3 o4 _ HK3.out).mono ?_); rintro e w4 ⟨rfl, hk, hA⟩; rw [e4] at hk; have HK4 := Aside0.mk hk; have HA4 := Aside0.mk (HA3.out.trans (hA.two gd)); have HG4 := hA.gok hg HG3; have HD4 := Aside0.mk (hA.heap hne HD3.out); clear hk hA)
          | ((go_at_call 62); (with_reducible refine (digits_yes' g N l4 h4 2 4 (by decide) o5 n5 hn5 x5 hx5 _ HG4 HK4.out hg).mono ?_); rintro e w5 ⟨rfl, hk, hA⟩; rw [e5] at hk; have HK5 := Aside0.mk hk; have HA5 := Aside0.mk (HA4.out.trans (hA.two gd)); have HG5 := hA.gok hg HG4; have HD5 := Aside0.mk (hA.heap hne HD4.out); clear hk hA)
          | ((go_at_call 46); (with_reducible refine (blanks_yes g N l5 h5 o6 _ HK5.out).mono ?_); rintro e w6 ⟨rfl, hk, hA⟩; rw [e6] at hk; have HK6 := Aside0.mk hk; have HA6 := Aside0.mk (HA5.out.trans (hA.two gd)); have HG6 := hA.gok hg HG5; have HD6 := Aside0.mk (hA.heap hne HD5.out); have c6_0 := (blk_cell HD6.out 0 : w6.cell? ⟨gd, 0, none⟩ = some (.int .i16 0)); have f6_0 := (blk_frozen HD6.out 0 : w6.frozen? ⟨gd, 0, none⟩ = false); have c6_1 := (blk_cell HD6.out 1 : w6.cell? ⟨gd, 1, none⟩ = some (.int .i8 0)); have f6_1 := (blk_frozen HD6.out 1 : w6.frozen? ⟨gd, 1, none⟩ = false); have c6_2 := (blk_cell HD6.out 2 : w6.cell? ⟨gd, 2, none⟩ = some (.int .i8 0)); have f6_2 := (blk_frozen HD6.out 2 : w6.frozen? ⟨gd, 2, none⟩ = false); clear hk hA)
          | ((go_at_call 63); have hd7 : DT gd y ((mo : Int) + 1) x1 0 0 0 0 (((w6.setCell ⟨gd, 0, none⟩ (.int .i16 y)).setCell ⟨gd, 1, none⟩ (.int .i8 ((mo : Int) + 1))).setCell ⟨gd, 2, none⟩ (.int .i8 x1)) := blk_put (blk_put (blk_put HD6.out 0 _ rfl) 1 _ rfl) 2 _ rfl; have hk7 : TX g N l6 (((w6.setCell ⟨gd, 0, none⟩ (.int .i16 y)).setCell ⟨gd, 1, none⟩ (.int .i8 ((mo : Int) + 1))).setCell ⟨gd, 2, none⟩ (.int .i8 x1)) := ((HK6.out.set hne2).set hne2).set hne2; have hA7 : Apart2 g gd w6 (((w6.setCell ⟨gd, 0, none⟩ (.int .i16 y)).setCell ⟨gd, 1, none⟩ (.int .i8 ((mo : Int) + 1))).setCell ⟨gd, 2, none⟩ (.int .i8 x1)) := (((Apart2.refl g gd w6).set 0 _).set 1 _).set 2 _; (with_reducible refine (clock_no g gd N l6 h6 y ((mo : Int) + 1) x1 0 0 0 0 l7 ch cm cs o7 _ (hA7.gok hg hgd HG6) hk7 hg hgd hne hd7).mono ?_); rintro e w8 ⟨rfl, hk, hdt, hA⟩; have HK8 := Aside0.mk hk; have HD8 := Aside0.mk hdt; have HA8 := Aside0.mk ((HA6.out.trans hA7).trans hA); have HG8 := (hA7.trans hA).gok hg hgd HG6; clear hk hA hdt hd7 hk7 hA7)
          )
          go_ret
          rw [← HR.out]
          exact ⟨rfl, HK8.out, DD.none', HA8.out⟩
         ·go_enter Tryd.func50, Tryd.ntmps50
          go_wp2_with (first
          | ((go_at_call 62); (with_reducible refine (digits_yes' g N l hl 1 2 (by decide) o1 n1 hn1 x1 hx1 _ HG0 HK0.out hg).mono ?_); rintro e w1 ⟨rfl, hk, hA⟩; rw [e1] at hk; have HK1 := Aside0.mk hk; have HA1 := Aside0.mk (HA0.out.trans (hA.two gd)); have HG1 := hA.gok hg HG0; have HD1 := Aside0.mk (hA.heap hne HD0.out); clear hk hA)
          | ((go_at_call 46); (with_reducible refine (blanks_yes g N l1 h1 o2 _ HK1.out).mono ?_); rintro e w2 ⟨rfl, hk, hA⟩; rw [e2] at hk; have HK2 := Aside0.mk hk; have HA2 := Aside0.mk (HA1.out.trans (hA.two gd)); have HG2 := hA.gok hg HG1; have HD2 := Aside0.mk (hA.heap hne HD1.out); clear hk hA)
          | ((go_at_call 48); refine (calls_of_args (args' := #[.pointer (some ⟨g, 0, none⟩), .string (strOfNums MON)]) (by first | rfl | kernel_rfl) ?_); (with_reducible refine (word_yes MON 12 rfl (by decide) mon_in g N l2 h2 mo o3 _ HG2 HK2.out).mono ?_); rintro e w3 ⟨rfl, hk, hA⟩; rw [e3] at hk; have HK3 := Aside0.mk hk; have HA3 := Aside0.mk (HA2.out.trans (hA.two gd)); have HG3 := hA.gok hg HG2; have HD3 := Aside0.mk (hA.heap hne HD2.out); clear hk hA)
          | ((go_at_call 46); (with_reducible refine (blanks_yes g N l3 h3 o4 _ HK3.out).mono ?_); rintro e w4 ⟨rfl, hk, hA⟩; rw [e4] at hk; have HK4 := Aside0.mk hk; have HA4 := Aside0.mk (HA3.out.trans (hA.two gd)); have HG4 := hA.gok hg HG3; have HD4 := Aside0.mk (hA.heap hne HD3.out); clear hk hA)
          | ((go_at_call 62); (with_reducible refine (digits_yes' g N l4 h4 2 4 (by decide) o5 n5 hn5 x5 hx5 _ HG4 HK4.out hg).mono ?_); rintro e w5 ⟨rfl, hk, hA⟩; rw [e5] at hk; have HK5 := Aside0.mk hk; have HA5 := Aside0.mk (HA4.out.trans (hA.two gd)); have HG5 := hA.gok hg HG4; have HD5 := Aside0.mk (hA.heap hne HD4.out); clear hk hA)
          | ((go_at_call 46); (with_reducible refine (blanks_yes g N l5 h5 o6 _ HK5.out).mono ?_); rintro e w6 ⟨rfl, hk, hA⟩; rw [e6] at hk; have HK6 := Aside0.mk hk; have HA6 := Aside0.mk (HA5.out.trans (hA.two gd)); have HG6 := hA.gok hg HG5; have HD6 := Aside0.mk (hA.heap hne HD5.out); have c6_0 := (blk_cell HD6.out 0 : w6.cell? ⟨gd, 0, none⟩ = some (.int .i16 0)); have f6_0 := (blk_frozen HD6.out 0 : w6.frozen? ⟨gd, 0, none⟩ = false); have c6_1 := (blk_cell HD6.out 1 : w6.cell? ⟨gd, 1, none⟩ = some (.int .i8 0)); have f6_1 := (blk_frozen HD6.out 1 : w6.frozen? ⟨gd, 1, none⟩ = false); have c6_2 := (blk_cell HD6.out 2 : w6.cell? ⟨gd, 2, none⟩ = some (.int .i8 0)); have f6_2 := (blk_frozen HD6.out 2 : w6.frozen? ⟨gd, 2, none⟩ = false); clear hk hA)
          | ((go_at_call 63); have hd7 : DT gd y ((mo : Int) + 1) x1 0 0 0 0 (((w6.setCell ⟨gd, 0, none⟩ (.int .i16 y)).setCell ⟨gd, 1, none⟩ (.int .i8 ((mo : Int) + 1))).setCell ⟨gd, 2, none⟩ (.int .i8 x1)) := blk_put (blk_put (blk_put HD6.out 0 _ rfl) 1 _ rfl) 2 _ rfl; have hk7 : TX g N l6 (((w6.setCell ⟨gd, 0, none⟩ (.int .i16 y)).setCell ⟨gd, 1, none⟩ (.int .i8 ((mo : Int) + 1))).setCell ⟨gd, 2, none⟩ (.int .i8 x1)) := ((HK6.out.set hne2).set hne2).set hne2; have hA7 : Apart2 g gd w6 (((w6.setCell ⟨gd, 0, none⟩ (.int .i16 y)).setCell ⟨gd, 1, none⟩ (.int .i8 ((mo : Int) + 1))).setCell ⟨gd, 2, none⟩ (.int .i8 x1)) := (((Apart2.refl g gd w6).set 0 _).set 1 _).set 2 _; (with_reducible refine (clock_no g gd N l6 h6 y ((mo : Int) + 1) x1 0 0 0 0 l7 ch cm cs o7 _ (hA7.gok hg hgd HG6) hk7 hg hgd hne hd7).mono ?_); rintro e w8 ⟨rfl, hk, hdt, hA⟩; have HK8 := Aside0.mk hk; have HD8 := Aside0.mk hdt; have HA8 := Aside0.mk ((HA6.out.trans hA7).trans hA); have HG8 := (hA7.trans hA).gok hg hgd HG6; clear hk hA hdt hd7 hk7 hA7)
          )
          go_ret
          rw [← HR.out]
          exact ⟨rfl, HK8.out, DD.none', HA8.out⟩
         ·go_enter Tryd.func50, Tryd.ntmps50
          go_wp2_with (first
          | ((go_at_call 62); (with_reducible refine (digits_yes' g N l hl 1 2 (by decide) o1 n1 hn1 x1 hx1 _ HG0 HK0.out hg).mono ?_); rintro e w1 ⟨rfl, hk, hA⟩; rw [e1] at hk; have HK1 := Aside0.mk hk; have HA1 := Aside0.mk (HA0.out.trans (hA.two gd)); have HG1 := hA.gok hg HG0; have HD1 := Aside0.mk (hA.heap hne HD0.out); clear hk hA)
          | ((go_at_call 46); (with_reducible refine (blanks_yes g N l1 h1 o2 _ HK1.out).mono ?_); rintro e w2 ⟨rfl, hk, hA⟩; rw [e2] at hk; have HK2 := Aside0.mk hk; have HA2 := Aside0.mk (HA1.out.trans (hA.two gd)); have HG2 := hA.gok hg HG1; have HD2 := Aside0.mk (hA.heap hne HD1.out); clear hk hA)
          | ((go_at_call 48); refine (calls_of_args (args' := #[.pointer (some ⟨g, 0, none⟩), .string (strOfNums MON)]) (by first | rfl | kernel_rfl) ?_); (with_reducible refine (word_yes MON 12 rfl (by decide) mon_in g N l2 h2 mo o3 _ HG2 HK2.out).mono ?_); rintro e w3 ⟨rfl, hk, hA⟩; rw [e3] at hk; have HK3 := Aside0.mk hk; have HA3 := Aside0.mk (HA2.out.trans (hA.two gd)); have HG3 := hA.gok hg HG2; have HD3 := Aside0.mk (hA.heap hne HD2.out); clear hk hA)
          | ((go_at_call 46); (with_reducible refine (blanks_yes g N l3 h3 o4 _ HK3.out).mono ?_); rintro e w4 ⟨rfl, hk, hA⟩; rw [e4] at hk; have HK4 := Aside0.mk hk; have HA4 := Aside0.mk (HA3.out.trans (hA.two gd)); have HG4 := hA.gok hg HG3; have HD4 := Aside0.mk (hA.heap hne HD3.out); clear hk hA)
          | ((go_at_call 62); (with_reducible refine (digits_yes' g N l4 h4 2 4 (by decide) o5 n5 hn5 x5 hx5 _ HG4 HK4.out hg).mono ?_); rintro e w5 ⟨rfl, hk, hA⟩; rw [e5] at hk; have HK5 := Aside0.mk hk; have HA5 := Aside0.mk (HA4.out.trans (hA.two gd)); have HG5 := hA.gok hg HG4; have HD5 := Aside0.mk (hA.heap hne HD4.out); clear hk hA)
          | ((go_at_call 46); (with_reducible refine (blanks_yes g N l5 h5 o6 _ HK5.out).mono ?_); rintro e w6 ⟨rfl, hk, hA⟩; rw [e6] at hk; have HK6 := Aside0.mk hk; have HA6 := Aside0.mk (HA5.out.trans (hA.two gd)); have HG6 := hA.gok hg HG5; have HD6 := Aside0.mk (hA.heap hne HD5.out); have c6_0 := (blk_cell HD6.out 0 : w6.cell? ⟨gd, 0, none⟩ = some (.int .i16 0)); have f6_0 := (blk_frozen HD6.out 0 : w6.frozen? ⟨gd, 0, none⟩ = false); have c6_1 := (blk_cell HD6.out 1 : w6.cell? ⟨gd, 1, none⟩ = some (.int .i8 0)); have f6_1 := (blk_frozen HD6.out 1 : w6.frozen? ⟨gd, 1, none⟩ = false); have c6_2 := (blk_cell HD6.out 2 : w6.cell? ⟨gd, 2, none⟩ = some (.int .i8 0)); have f6_2 := (blk_frozen HD6.out 2 : w6.frozen? ⟨gd, 2, none⟩ = false); clear hk hA)
          | ((go_at_call 63); have hd7 : DT gd y ((mo : Int) + 1) x1 0 0 0 0 (((w6.setCell ⟨gd, 0, none⟩ (.int .i16 y)).setCell ⟨gd, 1, none⟩ (.int .i8 ((mo : Int) + 1))).setCell ⟨gd, 2, none⟩ (.int .i8 x1)) := blk_put (blk_put (blk_put HD6.out 0 _ rfl) 1 _ rfl) 2 _ rfl; have hk7 : TX g N l6 (((w6.setCell ⟨gd, 0, none⟩ (.int .i16 y)).setCell ⟨gd, 1, none⟩ (.int .i8 ((mo : Int) + 1))).setCell ⟨gd, 2, none⟩ (.int .i8 x1)) := ((HK6.out.set hne2).set hne2).set hne2; have hA7 : Apart2 g gd w6 (((w6.setCell ⟨gd, 0, none⟩ (.int .i16 y)).setCell ⟨gd, 1, none⟩ (.int .i8 ((mo : Int) + 1))).setCell ⟨gd, 2, none⟩ (.int .i8 x1)) := (((Apart2.refl g gd w6).set 0 _).set 1 _).set 2 _; (with_reducible refine (clock_no g gd N l6 h6 y ((mo : Int) + 1) x1 0 0 0 0 l7 ch cm cs o7 _ (hA7.gok hg hgd HG6) hk7 hg hgd hne hd7).mono ?_); rintro e w8 ⟨rfl, hk, hdt, hA⟩; have HK8 := Aside0.mk hk; have HD8 := Aside0.mk hdt; have HA8 := Aside0.mk ((HA6.out.trans hA7).trans hA); have HG8 := (hA7.trans hA).gok hg hgd HG6; clear hk hA hdt hd7 hk7 hA7)
          )
          go_ret
          rw [← HR.out]
          exact ⟨rfl, HK8.out, DD.none', HA8.out⟩
         ·go_enter Tryd.func50, Tryd.ntmps50
          go_wp2_with (first
          | ((go_at_call 62); (with_reducible refine (digits_yes' g N l hl 1 2 (by decide) o1 n1 hn1 x1 hx1 _ HG0 HK0.out hg).mono ?_); rintro e w1 ⟨rfl, hk, hA⟩; rw [e1] at hk; have HK1 := Aside0.mk hk; have HA1 := Aside0.mk (HA0.out.trans (hA.two gd)); have HG1 := hA.gok hg HG0; have HD1 := Aside0.mk (hA.heap hne HD0.out); clear hk hA)
          | ((go_at_call 46); (with_reducible refine (blanks_yes g N l1 h1 o2 _ HK1.out).mono ?_); rintro e w2 ⟨rfl, hk, hA⟩; rw [e2] at hk; have HK2 := Aside0.mk hk; have HA2 := Aside0.mk (HA1.out.trans (hA.two gd)); have HG2 := hA.gok hg HG1; have HD2 := Aside0.mk (hA.heap hne HD1.out); clear hk hA)
          | ((go_at_call 48); refine (calls_of_args (args' := #[.pointer (some ⟨g, 0, none⟩), .string (strOfNums MON)]) (by first | rfl | kernel_rfl) ?_); (with_reducible refine (word_yes MON 12 rfl (by decide) mon_in g N l2 h2 mo o3 _ HG2 HK2.out).mono ?_); rintro e w3 ⟨rfl, hk, hA⟩; rw [e3] at hk; have HK3 := Aside0.mk hk; have HA3 := Aside0.mk (HA2.out.trans (hA.two gd)); have HG3 := hA.gok hg HG2; have HD3 := Aside0.mk (hA.heap hne HD2.out); clear hk hA)
          | ((go_at_call 46); (with_reducible refine (blanks_yes g N l3 h3 o4 _ HK3.out).mono ?_); rintro e w4 ⟨rfl, hk, hA⟩; rw [e4] at hk; have HK4 := Aside0.mk hk; have HA4 := Aside0.mk (HA3.out.trans (hA.two gd)); have HG4 := hA.gok hg HG3; have HD4 := Aside0.mk (hA.heap hne HD3.out); clear hk hA)
          | ((go_at_call 62); (with_reducible refine (digits_yes' g N l4 h4 2 4 (by decide) o5 n5 hn5 x5 hx5 _ HG4 HK4.out hg).mono ?_); rintro e w5 ⟨rfl, hk, hA⟩; rw [e5] at hk; have HK5 := Aside0.mk hk; have HA5 := Aside0.mk (HA4.out.trans (hA.two gd)); have HG5 := hA.gok hg HG4; have HD5 := Aside0.mk (hA.heap hne HD4.out); clear hk hA)
          | ((go_at_call 46); (with_reducible refine (blanks_yes g N l5 h5 o6 _ HK5.out).mono ?_); rintro e w6 ⟨rfl, hk, hA⟩; rw [e6] at hk; have HK6 := Aside0.mk hk; have HA6 := Aside0.mk (HA5.out.trans (hA.two gd)); have HG6 := hA.gok hg HG5; have HD6 := Aside0.mk (hA.heap hne HD5.out); have c6_0 := (blk_cell HD6.out 0 : w6.cell? ⟨gd, 0, none⟩ = some (.int .i16 0)); have f6_0 := (blk_frozen HD6.out 0 : w6.frozen? ⟨gd, 0, none⟩ = false); have c6_1 := (blk_cell HD6.out 1 : w6.cell? ⟨gd, 1, none⟩ = some (.int .i8 0)); have f6_1 := (blk_frozen HD6.out 1 : w6.frozen? ⟨gd, 1, none⟩ = false); have c6_2 := (blk_cell HD6.out 2 : w6.cell? ⟨gd, 2, none⟩ = some (.int .i8 0)); have f6_2 := (blk_frozen HD6.out 2 : w6.frozen? ⟨gd, 2, none⟩ = false); clear hk hA)
          | ((go_at_call 63); have hd7 : DT gd x5 ((mo : Int) + 1) x1 0 0 0 0 (((w6.setCell ⟨gd, 0, none⟩ (.int .i16 x5)).setCell ⟨gd, 1, none⟩ (.int .i8 ((mo : Int) + 1))).setCell ⟨gd, 2, none⟩ (.int .i8 x1)) := blk_put (blk_put (blk_put HD6.out 0 _ rfl) 1 _ rfl) 2 _ rfl; have hk7 : TX g N l6 (((w6.setCell ⟨gd, 0, none⟩ (.int .i16 x5)).setCell ⟨gd, 1, none⟩ (.int .i8 ((mo : Int) + 1))).setCell ⟨gd, 2, none⟩ (.int .i8 x1)) := ((HK6.out.set hne2).set hne2).set hne2; have hA7 : Apart2 g gd w6 (((w6.setCell ⟨gd, 0, none⟩ (.int .i16 x5)).setCell ⟨gd, 1, none⟩ (.int .i8 ((mo : Int) + 1))).setCell ⟨gd, 2, none⟩ (.int .i8 x1)) := (((Apart2.refl g gd w6).set 0 _).set 1 _).set 2 _; (with_reducible refine (clock_no g gd N l6 h6 x5 ((mo : Int) + 1) x1 0 0 0 0 l7 ch cm cs o7 _ (hA7.gok hg hgd HG6) hk7 hg hgd hne hd7).mono ?_); rintro e w8 ⟨rfl, hk, hdt, hA⟩; have HK8 := Aside0.mk hk; have HD8 := Aside0.mk hdt; have HA8 := Aside0.mk ((HA6.out.trans hA7).trans hA); have HG8 := (hA7.trans hA).gok hg hgd HG6; clear hk hA hdt hd7 hk7 hA7)
          )
          go_ret
          rw [← HR.out]
          exact ⟨rfl, HK8.out, DD.none', HA8.out⟩
        | true =>
         simp only at hR
         cases o8 : decide (0 < blN l7) with
         | false =>
          rw [if_pos o8] at hR
          have HR := Aside0.mk hR
          clear hR
          rcases hcase with ⟨b1, b2, _, b3⟩ | ⟨b1, b2, b3, b4, b5⟩ | ⟨b1, b2, b3, b4⟩ | ⟨b1, b2, b3, rfl⟩
          ·go_enter Tryd.func50, Tryd.ntmps50
           go_wp2_with (first
           | ((go_at_call 62); (with_reducible refine (digits_yes' g N l hl 1 2 (by decide) o1 n1 hn1 x1 hx1 _ HG0 HK0.out hg).mono ?_); rintro e w1 ⟨rfl, hk, hA⟩; rw [e1] at hk; have HK1 := Aside0.mk hk; have HA1 := Aside0.mk (HA0.out.trans (hA.two gd)); have HG1 := hA.gok hg HG0; have HD1 := Aside0.mk (hA.heap hne HD0.out); clear hk hA)
           | ((go_at_call 46); (with_reducible refine (blanks_yes g N l1 h1 o2 _ HK1.out).mono ?_); rintro e w2 ⟨rfl, hk, hA⟩; rw [e2] at hk; have HK2 := Aside0.mk hk; have HA2 := Aside0.mk (HA1.out.trans (hA.two gd)); have HG2 := hA.gok hg HG1; have HD2 := Aside0.mk (hA.heap hne HD1.out); clear hk hA)
           | ((go_at_call 48); refine (calls_of_args (args' := #[.pointer (some ⟨g, 0, none⟩), .string (strOfNums MON)]) (by first | rfl | kernel_rfl) ?_); (with_reducible refine (word_yes MON 12 rfl (by decide) mon_in g N l2 h2 mo o3 _ HG2 HK2.out).mono ?_); rintro e w3 ⟨rfl, hk, hA⟩; rw [e3] at hk; have HK3 := Aside0.mk hk; have HA3 := Aside0.mk (HA2.out.trans (hA.two gd)); have HG3 := hA.gok hg HG2; have HD3 := Aside0.mk (hA.heap hne HD2.out); clear hk hA)
           | ((go_at_call 46); (with_reducible refine (blanks_yes g N l3 h3 o4 _ HK3.out).mono ?_); rintro e w4 ⟨rfl, hk, hA⟩; rw [e4] at hk; have HK4 := Aside0.mk hk; have HA4 := Aside0.mk (HA3.out.trans (hA.two gd)); have HG4 := hA.gok hg HG3; have HD4 := Aside0.mk (hA.heap hne HD3.out); clear hk hA)
           | ((go_at_call 62); (with_reducible refine (digits_yes' g N l4 h4 2 4 (by decide) o5 n5 hn5 x5 hx5 _ HG4 HK4.out hg).mono ?_); rintro e w5 ⟨rfl, hk, hA⟩; rw [e5] at hk; have HK5 := Aside0.mk hk; have HA5 := Aside0.mk (HA4.out.trans (hA.two gd)); have HG5 := hA.gok hg HG4; have HD5 := Aside0.mk (hA.heap hne HD4.out); clear hk hA)
           | ((go_at_call 46); (with_reducible refine (blanks_yes g N l5 h5 o6 _ HK5.out).mono ?_); rintro e w6 ⟨rfl, hk, hA⟩; rw [e6] at hk; have HK6 := Aside0.mk hk; have HA6 := Aside0.mk (HA5.out.trans (hA.two gd)); have HG6 := hA.gok hg HG5; have HD6 := Aside0.mk (hA.heap hne HD5.out); have c6_0 := (blk_cell HD6.out 0 : w6.cell? ⟨gd, 0, none⟩ = some (.int .i16 0)); have f6_0 := (blk_frozen HD6.out 0 : w6.frozen? ⟨gd, 0, none⟩ = false); have c6_1 := (blk_cell HD6.out 1 : w6.cell? ⟨gd, 1, none⟩ = some (.int .i8 0)); have f6_1 := (blk_frozen HD6.out 1 : w6.frozen? ⟨gd, 1, none⟩ = false); have c6_2 := (blk_cell HD6.out 2 : w6.cell? ⟨gd, 2, none⟩ = some (.int .i8 0)); have f6_2 := (blk_frozen HD6.out 2 : w6.frozen? ⟨gd, 2, none⟩ = false); clear hk hA)
           | ((go_at_call 63); have hd7 : DT gd y ((mo : Int) + 1) x1 0 0 0 0 (((w6.setCell ⟨gd, 0, none⟩ (.int .i16 y)).setCell ⟨gd, 1, none⟩ (.int .i8 ((mo : Int) + 1))).setCell ⟨gd, 2, none⟩ (.int .i8 x1)) := blk_put (blk_put (blk_put HD6.out 0 _ rfl) 1 _ rfl) 2 _ rfl; have hk7 : TX g N l6 (((w6.setCell ⟨gd, 0, none⟩ (.int .i16 y)).setCell ⟨gd, 1, none⟩ (.int .i8 ((mo : Int) + 1))).setCell ⟨gd, 2, none⟩ (.int .i8 x1)) := ((HK6.out.set hne2).set hne2).set hne2; have hA7 : Apart2 g gd w6 (((w6.setCell ⟨gd, 0, none⟩ (.int .i16 y)).setCell ⟨gd, 1, none⟩ (.int .i8 ((mo : Int) + 1))).setCell ⟨gd, 2, none⟩ (.int .i8 x1)) := (((Apart2.refl g gd w6).set 0 _).set 1 _).set 2 _; (with_reducible refine (clock_yes g gd N l6 h6 y ((mo : Int) + 1) x1 0 0 0 0 l7 ch cm cs o7 _ (hA7.gok hg hgd HG6) hk7 hg hgd hne hd7).mono ?_); rintro e w8 ⟨rfl, hk, hdt, hA⟩; have HK8 := Aside0.mk hk; have HD8 := Aside0.mk hdt; have HA8 := Aside0.mk ((HA6.out.trans hA7).trans hA); have HG8 := (hA7.trans hA).gok hg hgd HG6; clear hk hA hdt hd7 hk7 hA7)
           | ((go_at_call 46); (with_reducible refine (blanks_no g N l7 h7 o8 _ HK8.out).mono ?_); rintro e w9 ⟨rfl, hk, hA⟩; have HK9 := Aside0.mk hk; have HA9 := Aside0.mk (HA8.out.trans (hA.two gd)); have HD9 := Aside0.mk (hA.heap hne HD8.out); clear hk hA)
           )
           go_ret
           rw [← HR.out]
           exact ⟨rfl, HK9.out, DD.none', HA9.out⟩
          ·go_enter Tryd.func50, Tryd.ntmps50
           go_wp2_with (first
           | ((go_at_call 62); (with_reducible refine (digits_yes' g N l hl 1 2 (by decide) o1 n1 hn1 x1 hx1 _ HG0 HK0.out hg).mono ?_); rintro e w1 ⟨rfl, hk, hA⟩; rw [e1] at hk; have HK1 := Aside0.mk hk; have HA1 := Aside0.mk (HA0.out.trans (hA.two gd)); have HG1 := hA.gok hg HG0; have HD1 := Aside0.mk (hA.heap hne HD0.out); clear hk hA)
           | ((go_at_call 46); (with_reducible refine (blanks_yes g N l1 h1 o2 _ HK1.out).mono ?_); rintro e w2 ⟨rfl, hk, hA⟩; rw [e2] at hk; have HK2 := Aside0.mk hk; have HA2 := Aside0.mk (HA1.out.trans (hA.two gd)); have HG2 := hA.gok hg HG1; have HD2 := Aside0.mk (hA.heap hne HD1.out); clear hk hA)
           | ((go_at_call 48); refine (calls_of_args (args' := #[.pointer (some ⟨g, 0, none⟩), .string (strOfNums MON)]) (by first | rfl | kernel_rfl) ?_); (with_reducible refine (word_yes MON 12 rfl (by decide) mon_in g N l2 h2 mo o3 _ HG2 HK2.out).mono ?_); rintro e w3 ⟨rfl, hk, hA⟩; rw [e3] at hk; have HK3 := Aside0.mk hk; have HA3 := Aside0.mk (HA2.out.trans (hA.two gd)); have HG3 := hA.gok hg HG2; have HD3 := Aside0.mk (hA.heap hne HD2.out); clear hk hA)
           | ((go_at_call 46); (with_reducible refine (blanks_yes g N l3 h3 o4 _ HK3.out).mono ?_); rintro e w4 ⟨rfl, hk, hA⟩; rw [e4] at hk; have HK4 := Aside0.mk hk; have HA4 := Aside0.mk (HA3.out.trans (hA.two gd)); have HG4 := hA.gok hg HG3; have HD4 := Aside0.mk (hA.heap hne HD3.out); clear hk hA)
           | ((go_at_call 62); (with_reducible refine (digits_yes' g N l4 h4 2 4 (by decide) o5 n5 hn5 x5 hx5 _ HG4 HK4.out hg).mono ?_); rintro e w5 ⟨rfl, hk, hA⟩; rw [e5] at hk; have HK5 := Aside0.mk hk; have HA5 := Aside0.mk (HA4.out.trans (hA.two gd)); have HG5 := hA.gok hg HG4; have HD5 := Aside0.mk (hA.heap hne HD4.out); clear hk hA)
           | ((go_at_call 46); (with_reducible refine (blanks_yes g N l5 h5 o6 _ HK5.out).mono ?_); rintro e w6 ⟨rfl, hk, hA⟩; rw [e6] at hk; have HK6 := Aside0.mk hk; have HA6 := Aside0.mk (HA5.out.trans (hA.two gd)); have HG6 := hA.gok hg HG5; have HD6 := Aside0.mk (hA.heap hne HD5.out); have c6_0 := (blk_cell HD6.out 0 : w6.cell? ⟨gd, 0, none⟩ = some (.int .i16 0)); have f6_0 := (blk_frozen HD6.out 0 : w6.frozen? ⟨gd, 0, none⟩ = false); have c6_1 := (blk_cell HD6.out 1 : w6.cell? ⟨gd, 1, none⟩ = some (.int .i8 0)); have f6_1 := (blk_frozen HD6.out 1 : w6.frozen? ⟨gd, 1, none⟩ = false); have c6_2 := (blk_cell HD6.out 2 : w6.cell? ⟨gd, 2, none⟩ = some (.int .i8 0)); have f6_2 := (blk_frozen HD6.out 2 : w6.frozen? ⟨gd, 2, none⟩ = false); clear hk hA)
           | ((go_at_call 63); have hd7 : DT gd y ((mo : Int) + 1) x1 0 0 0 0 (((w6.setCell ⟨gd, 0, none⟩ (.int .i16 y)).setCell ⟨gd, 1, none⟩ (.int .i8 ((mo : Int) + 1))).setCell ⟨gd, 2, none⟩ (.int .i8 x1)) := blk_put (blk_put (blk_put HD6.out 0 _ rfl) 1 _ rfl) 2 _ rfl; have hk7 : TX g N l6 (((w6.setCell ⟨gd, 0, none⟩ (.int .i16 y)).setCell ⟨gd, 1, none⟩ (.int .i8 ((mo : Int) + 1))).setCell ⟨gd, 2, none⟩ (.int .i8 x1)) := ((HK6.out.set hne2).set hne2).set hne2; have hA7 : Apart2 g gd w6 (((w6.setCell ⟨gd, 0, none⟩ (.int .i16 y)).setCell ⟨gd, 1, none⟩ (.int .i8 ((mo : Int) + 1))).setCell ⟨gd, 2, none⟩ (.int .i8 x1)) := (((Apart2.refl g gd w6).set 0 _).set 1 _).set 2 _; (with_reducible refine (clock_yes g gd N l6 h6 y ((mo : Int) + 1) x1 0 0 0 0 l7 ch cm cs o7 _ (hA7.gok hg hgd HG6) hk7 hg hgd hne hd7).mono ?_); rintro e w8 ⟨rfl, hk, hdt, hA⟩; have HK8 := Aside0.mk hk; have HD8 := Aside0.mk hdt; have HA8 := Aside0.mk ((HA6.out.trans hA7).trans hA); have HG8 := (hA7.trans hA).gok hg hgd HG6; clear hk hA hdt hd7 hk7 hA7)
           | ((go_at_call 46); (with_reducible refine (blanks_no g N l7 h7 o8 _ HK8.out).mono ?_); rintro e w9 ⟨rfl, hk, hA⟩; have HK9 := Aside0.mk hk; have HA9 := Aside0.mk (HA8.out.trans (hA.two gd)); have HD9 := Aside0.mk (hA.heap hne HD8.out); clear hk hA)
           )
           go_ret
           rw [← HR.out]
           exact ⟨rfl, HK9.out, DD.none', HA9.out⟩
          ·go_enter Tryd.func50, Tryd.ntmps50
           go_wp2_with (first
           | ((go_at_call 62); (with_reducible refine (digits_yes' g N l hl 1 2 (by decide) o1 n1 hn1 x1 hx1 _ HG0 HK0.out hg).mono ?_); rintro e w1 ⟨rfl, hk, hA⟩; rw [e1] at hk; have HK1 := Aside0.mk hk; have HA1 := Aside0.mk (HA0.out.trans (hA.two gd)); have HG1 := hA.gok hg HG0; have HD1 := Aside0.mk (hA.heap hne HD0.out); clear hk hA)
           | ((go_at_call 46); (with_reducible refine (blanks_yes g N l1 h1 o2 _ HK1.out).mono ?_); rintro e w2 ⟨rfl, hk, hA⟩; rw [e2] at hk; have HK2 := Aside0.mk hk; have HA2 := Aside0.mk (HA1.out.trans (hA.two gd)); have HG2 := hA.gok hg HG1; have HD2 := Aside0.mk (hA.heap hne HD1.out); clear hk hA)
           | ((go_at_call 48); refine (calls_of_args (args' := #[.pointer (some ⟨g, 0, none⟩), .string (strOfNums MON)]) (by first | rfl | kernel_rfl) ?_); (with_reducible refine (word_yes MON 12 rfl (by decide) mon_in g N l2 h2 mo o3 _ HG2 HK2.out).mono ?_); rintro e w3 ⟨rfl, hk, hA⟩; rw [e3] at hk; have HK3 := Aside0.mk hk; have HA3 := Aside0.mk (HA2.out.trans (hA.two gd)); have HG3 := hA.gok hg HG2; have HD3 := Aside0.mk (hA.heap hne HD2.out); clear hk hA)
           | ((go_at_call 46); (with_reducible refine (blanks_yes g N l3 h3 o4 _ HK3.out).mono ?_); rintro e w4 ⟨rfl, hk, hA⟩; rw [e4] at hk; have HK4 := Aside0.mk hk; have HA4 := Aside0.mk (HA3.out.trans (hA.two gd)); have HG4 := hA.gok hg HG3; have HD4 := Aside0.mk (hA.heap hne HD3.out); clear hk hA)
           | ((go_at_call 62); (with_reducible refine (digits_yes' g N l4 h4 2 4 (by decide) o5 n5 hn5 x5 hx5 _ HG4 HK4.out hg).mono ?_); rintro e w5 ⟨rfl, hk, hA⟩; rw [e5] at hk; have HK5 := Aside0.mk hk; have HA5 := Aside0.mk (HA4.out.trans (hA.two gd)); have HG5 := hA.gok hg HG4; have HD5 := Aside0.mk (hA.heap hne HD4.out); clear hk hA)
           | ((go_at_call 46); (with_reducible refine (blanks_yes g N l5 h5 o6 _ HK5.out).mono ?_); rintro e w6 ⟨rfl, hk, hA⟩; rw [e6] at hk; have HK6 := Aside0.mk hk; have HA6 := Aside0.mk (HA5.out.trans (hA.two gd)); have HG6 := hA.gok hg HG5; have HD6 := Aside0.mk (hA.heap hne HD5.out); have c6_0 := (blk_cell HD6.out 0 : w6.cell? ⟨gd, 0, none⟩ = some (.int .i16 0)); have f6_0 := (blk_frozen HD6.out 0 : w6.frozen? ⟨gd, 0, none⟩ = false); have c6_1 := (blk_cell HD6.out 1 : w6.cell? ⟨gd, 1, none⟩ = some (.int .i8 0)); have f6_1 := (blk_frozen HD6.out 1 : w6.frozen? ⟨gd, 1, none⟩ = false); have c6_2 := (blk_cell HD6.out 2 : w6.cell? ⟨gd, 2, none⟩ = some (.int .i8 0)); have f6_2 := (blk_frozen HD6.out 2 : w6.frozen? ⟨gd, 2, none⟩ = false); clear hk hA)
           | ((go_at_call 63); have hd7 : DT gd y ((mo : Int) + 1) x1 0 0 0 0 (((w6.setCell ⟨gd, 0, none⟩ (.int .i16 y)).setCell ⟨gd, 1, none⟩ (.int .i8 ((mo : Int) + 1))).setCell ⟨gd, 2, none⟩ (.int .i8 x1)) := blk_put (blk_put (blk_put HD6.out 0 _ rfl) 1 _ rfl) 2 _ rfl; have hk7 : TX g N l6 (((w6.setCell ⟨gd, 0, none⟩ (.int .i16 y)).setCell ⟨gd, 1, none⟩ (.int .i8 ((mo : Int) + 1))).setCell ⟨gd, 2, none⟩ (.int .i8 x1)) := ((HK6.out.set hne2).set hne2).set hne2; have hA7 : Apart2 g gd w6 (((w6.setCell ⟨gd, 0, none⟩ (.int .i16 y)).setCell ⟨gd, 1, none⟩ (.int .i8 ((mo : Int) + 1))).setCell ⟨gd, 2, none⟩ (.int .i8 x1)) := (((Apart2.refl g gd w6).set 0 _).set 1 _).set 2 _; (with_reducible refine (clock_yes g gd N l6 h6 y ((mo : Int) + 1) x1 0 0 0 0 l7 ch cm cs o7 _ (hA7.gok hg hgd HG6) hk7 hg hgd hne hd7).mono ?_); rintro e w8 ⟨rfl, hk, hdt, hA⟩; have HK8 := Aside0.mk hk; have HD8 := Aside0.mk hdt; have HA8 := Aside0.mk ((HA6.out.trans hA7).trans hA); have HG8 := (hA7.trans hA).gok hg hgd HG6; clear hk hA hdt hd7 hk7 hA7)
           | ((go_at_call 46); (with_reducible refine (blanks_no g N l7 h7 o8 _ HK8.out).mono ?_); rintro e w9 ⟨rfl, hk, hA⟩; have HK9 := Aside0.mk hk; have HA9 := Aside0.mk (HA8.out.trans (hA.two gd)); have HD9 := Aside0.mk (hA.heap hne HD8.out); clear hk hA)
           )
           go_ret
           rw [← HR.out]
           exact ⟨rfl, HK9.out, DD.none', HA9.out⟩
          ·go_enter Tryd.func50, Tryd.ntmps50
           go_wp2_with (first
           | ((go_at_call 62); (with_reducible refine (digits_yes' g N l hl 1 2 (by decide) o1 n1 hn1 x1 hx1 _ HG0 HK0.out hg).mono ?_); rintro e w1 ⟨rfl, hk, hA⟩; rw [e1] at hk; have HK1 := Aside0.mk hk; have HA1 := Aside0.mk (HA0.out.trans (hA.two gd)); have HG1 := hA.gok hg HG0; have HD1 := Aside0.mk (hA.heap hne HD0.out); clear hk hA)
           | ((go_at_call 46); (with_reducible refine (blanks_yes g N l1 h1 o2 _ HK1.out).mono ?_); rintro e w2 ⟨rfl, hk, hA⟩; rw [e2] at hk; have HK2 := Aside0.mk hk; have HA2 := Aside0.mk (HA1.out.trans (hA.two gd)); have HG2 := hA.gok hg HG1; have HD2 := Aside0.mk (hA.heap hne HD1.out); clear hk hA)
           | ((go_at_call 48); refine (calls_of_args (args' := #[.pointer (some ⟨g, 0, none⟩), .string (strOfNums MON)]) (by first | rfl | kernel_rfl) ?_); (with_reducible refine (word_yes MON 12 rfl (by decide) mon_in g N l2 h2 mo o3 _ HG2 HK2.out).mono ?_); rintro e w3 ⟨rfl, hk, hA⟩; rw [e3] at hk; have HK3 := Aside0.mk hk; have HA3 := Aside0.mk (HA2.out.trans (hA.two gd)); have HG3 := hA.gok hg HG2; have HD3 := Aside0.mk (hA.heap hne HD2.out); clear hk hA)
           | ((go_at_call 46); (with_reducible refine (blanks_yes g N l3 h3 o4 _ HK3.out).mono ?_); rintro e w4 ⟨rfl, hk, hA⟩; rw [e4] at hk; have HK4 := Aside0.mk hk; have HA4 := Aside0.mk (HA3.out.trans (hA.two gd)); have HG4 := hA.gok hg HG3; have HD4 := Aside0.mk (hA.heap hne HD3.out); clear hk hA)
           | ((go_at_call 62); (with_reducible refine (digits_yes' g N l4 h4 2 4 (by decide) o5 n5 hn5 x5 hx5 _ HG4 HK4.out hg).mono ?_); rintro e w5 ⟨rfl, hk, hA⟩; rw [e5] at hk; have HK5 := Aside0.mk hk; have HA5 := Aside0.mk (HA4.out.trans (hA.two gd)); have HG5 := hA.gok hg HG4; have HD5 := Aside0.mk (hA.heap hne HD4.out); clear hk hA)
           | ((go_at_call 46); (with_reducible refine (blanks_yes g N l5 h5 o6 _ HK5.out).mono ?_); rintro e w6 ⟨rfl, hk, hA⟩; rw [e6] at hk; have HK6 := Aside0.mk hk; have HA6 := Aside0.mk (HA5.out.trans (hA.two gd)); have HG6 := hA.gok hg HG5; have HD6 := Aside0.mk (hA.heap hne HD5.out); have c6_0 := (blk_cell HD6.out 0 : w6.cell? ⟨gd, 0, none⟩ = some (.int .i16 0)); have f6_0 := (blk_frozen HD6.out 0 : w6.frozen? ⟨gd, 0, none⟩ = false); have c6_1 := (blk_cell HD6.out 1 : w6.cell? ⟨gd, 1, none⟩ = some (.int .i8 0)); have f6_1 := (blk_frozen HD6.out 1 : w6.frozen? ⟨gd, 1, none⟩ = false); have c6_2 := (blk_cell HD6.out 2 : w6.cell? ⟨gd, 2, none⟩ = some (.int .i8 0)); have f6_2 := (blk_frozen HD6.out 2 : w6.frozen? ⟨gd, 2, none⟩ = false); clear hk hA)
           | ((go_at_call 63); have hd7 : DT gd x5 ((mo : Int) + 1) x1 0 0 0 0 (((w6.setCell ⟨gd, 0, none⟩ (.int .i16 x5)).setCell ⟨gd, 1, none⟩ (.int .i8 ((mo : Int) + 1))).setCell ⟨gd, 2, none⟩ (.int .i8 x1)) := blk_put (blk_put (blk_put HD6.out 0 _ rfl) 1 _ rfl) 2 _ rfl; have hk7 : TX g N l6 (((w6.setCell ⟨gd, 0, none⟩ (.int .i16 x5)).setCell ⟨gd, 1, none⟩ (.int .i8 ((mo : Int) + 1))).setCell ⟨gd, 2, none⟩ (.int .i8 x1)) := ((HK6.out.set hne2).set hne2).set hne2; have hA7 : Apart2 g gd w6 (((w6.setCell ⟨gd, 0, none⟩ (.int .i16 x5)).setCell ⟨gd, 1, none⟩ (.int .i8 ((mo : Int) + 1))).setCell ⟨gd, 2, none⟩ (.int .i8 x1)) := (((Apart2.refl g gd w6).set 0 _).set 1 _).set 2 _; (with_reducible refine (clock_yes g gd N l6 h6 x5 ((mo : Int) + 1) x1 0 0 0 0 l7 ch cm cs o7 _ (hA7.gok hg hgd HG6) hk7 hg hgd hne hd7).mono ?_); rintro e w8 ⟨rfl, hk, hdt, hA⟩; have HK8 := Aside0.mk hk; have HD8 := Aside0.mk hdt; have HA8 := Aside0.mk ((HA6.out.trans hA7).trans hA); have HG8 := (hA7.trans hA).gok hg hgd HG6; clear hk hA hdt hd7 hk7 hA7)
           | ((go_at_call 46); (with_reducible refine (blanks_no g N l7 h7 o8 _ HK8.out).mono ?_); rintro e w9 ⟨rfl, hk, hA⟩; have HK9 := Aside0.mk hk; have HA9 := Aside0.mk (HA8.out.trans (hA.two gd)); have HD9 := Aside0.mk (hA.heap hne HD8.out); clear hk hA)
           )
           go_ret
           rw [← HR.out]
           exact ⟨rfl, HK9.out, DD.none', HA9.out⟩
         | true =>
          rw [if_neg (by rw [o8]; decide)] at hR
          have HR := Aside0.mk hR
          clear hR
          rcases hcase with ⟨b1, b2, _, b3⟩ | ⟨b1, b2, b3, b4, b5⟩ | ⟨b1, b2, b3, b4⟩ | ⟨b1, b2, b3, rfl⟩
          ·go_enter Tryd.func50, Tryd.ntmps50
           go_wp2_with (first
           | ((go_at_call 62); (with_reducible refine (digits_yes' g N l hl 1 2 (by decide) o1 n1 hn1 x1 hx1 _ HG0 HK0.out hg).mono ?_); rintro e w1 ⟨rfl, hk, hA⟩; rw [e1] at hk; have HK1 := Aside0.mk hk; have HA1 := Aside0.mk (HA0.out.trans (hA.two gd)); have HG1 := hA.gok hg HG0; have HD1 := Aside0.mk (hA.heap hne HD0.out); clear hk hA)
           | ((go_at_call 46); (with_reducible refine (blanks_yes g N l1 h1 o2 _ HK1.out).mono ?_); rintro e w2 ⟨rfl, hk, hA⟩; rw [e2] at hk; have HK2 := Aside0.mk hk; have HA2 := Aside0.mk (HA1.out.trans (hA.two gd)); have HG2 := hA.gok hg HG1; have HD2 := Aside0.mk (hA.heap hne HD1.out); clear hk hA)
           | ((go_at_call 48); refine (calls_of_args (args' := #[.pointer (some ⟨g, 0, none⟩), .string (strOfNums MON)]) (by first | rfl | kernel_rfl) ?_); (with_reducible refine (word_yes MON 12 rfl (by decide) mon_in g N l2 h2 mo o3 _ HG2 HK2.out).mono ?_); rintro e w3 ⟨rfl, hk, hA⟩; rw [e3] at hk; have HK3 := Aside0.mk hk; have HA3 := Aside0.mk (HA2.out.trans (hA.two gd)); have HG3 := hA.gok hg HG2; have HD3 := Aside0.mk (hA.heap hne HD2.out); clear hk hA)
           | ((go_at_call 46); (with_reducible refine (blanks_yes g N l3 h3 o4 _ HK3.out).mono ?_); rintro e w4 ⟨rfl, hk, hA⟩; rw [e4] at hk; have HK4 := Aside0.mk hk; have HA4 := Aside0.mk (HA3.out.trans (hA.two gd)); have HG4 := hA.gok hg HG3; have HD4 := Aside0.mk (hA.heap hne HD3.out); clear hk hA)
           | ((go_at_call 62); (with_reducible refine (digits_yes' g N l4 h4 2 4 (by decide) o5 n5 hn5 x5 hx5 _ HG4 HK4.out hg).mono ?_); rintro e w5 ⟨rfl, hk, hA⟩; rw [e5] at hk; have HK5 := Aside0.mk hk; have HA5 := Aside0.mk (HA4.out.trans (hA.two gd)); have HG5 := hA.gok hg HG4; have HD5 := Aside0.mk (hA.heap hne HD4.out); clear hk hA)
           | ((go_at_call 46); (with_reducible refine (blanks_yes g N l5 h5 o6 _ HK5.out).mono ?_); rintro e w6 ⟨rfl, hk, hA⟩; rw [e6] at hk; have HK6 := Aside0.mk hk; have HA6 := Aside0.mk (HA5.out.trans (hA.two gd)); have HG6 := hA.gok hg HG5; have HD6 := Aside0.mk (hA.heap hne HD5.out); have c6_0 := (blk_cell HD6.out 0 : w6.cell? ⟨gd, 0, none⟩ = some (.int .i16 0)); have f6_0 := (blk_frozen HD6.out 0 : w6.frozen? ⟨gd, 0, none⟩ = false); have c6_1 := (blk_cell HD6.out 1 : w6.cell? ⟨gd, 1, none⟩ = some (.int .i8 0)); have f6_1 := (blk_frozen HD6.out 1 : w6.frozen? ⟨gd, 1, none⟩ = false); have c6_2 := (blk_cell HD6.out 2 : w6.cell? ⟨gd, 2, none⟩ = some (.int .i8 0)); have f6_2 := (blk_frozen HD6.out 2 : w6.frozen? ⟨gd, 2, none⟩ = false); clear hk hA)
           | ((go_at_call 63); have hd7 : DT gd y ((mo : Int) + 1) x1 0 0 0 0 (((w6.setCell ⟨gd, 0, none⟩ (.int .i16 y)).setCell ⟨gd, 1, none⟩ (.int .i8 ((mo : Int) + 1))).setCell ⟨gd, 2, none⟩ (.int .i8 x1)) := blk_put (blk_put (blk_put HD6.out 0 _ rfl) 1 _ rfl) 2 _ rfl; have hk7 : TX g N l6 (((w6.setCell ⟨gd, 0, none⟩ (.int .i16 y)).setCell ⟨gd, 1, none⟩ (.int .i8 ((mo : Int) + 1))).setCell ⟨gd, 2, none⟩ (.int .i8 x1)) := ((HK6.out.set hne2).set hne2).set hne2; have hA7 : Apart2 g gd w6 (((w6.setCell ⟨gd, 0, none⟩ (.int .i16 y)).setCell ⟨gd, 1, none⟩ (.int .i8 ((mo : Int) + 1))).setCell ⟨gd, 2, none⟩ (.int .i8 x1)) := (((Apart2.refl g gd w6).set 0 _).set 1 _).set 2 _; (with_reducible refine (clock_yes g gd N l6 h6 y ((mo : Int) + 1) x1 0 0 0 0 l7 ch cm cs o7 _ (hA7.gok hg hgd HG6) hk7 hg hgd hne hd7).mono ?_); rintro e w8 ⟨rfl, hk, hdt, hA⟩; have HK8 := Aside0.mk hk; have HD8 := Aside0.mk hdt; have HA8 := Aside0.mk ((HA6.out.trans hA7).trans hA); have HG8 := (hA7.trans hA).gok hg hgd HG6; clear hk hA hdt hd7 hk7 hA7)
           | ((go_at_call 46); (with_reducible refine (blanks_yes g N l7 h7 o8 _ HK8.out).mono ?_); rintro e w9 ⟨rfl, hk, hA⟩; have HK9 := Aside0.mk hk; have HA9 := Aside0.mk (HA8.out.trans (hA.two gd)); have HD9 := Aside0.mk (hA.heap hne HD8.out); clear hk hA)
           )
           go_ret
           rw [← HR.out]
           exact ⟨rfl, HK9.out, DD.some' HD9.out, HA9.out⟩
          ·go_enter Tryd.func50, Tryd.ntmps50
           go_wp2_with (first
           | ((go_at_call 62); (with_reducible refine (digits_yes' g N l hl 1 2 (by decide) o1 n1 hn1 x1 hx1 _ HG0 HK0.out hg).mono ?_); rintro e w1 ⟨rfl, hk, hA⟩; rw [e1] at hk; have HK1 := Aside0.mk hk; have HA1 := Aside0.mk (HA0.out.trans (hA.two gd)); have HG1 := hA.gok hg HG0; have HD1 := Aside0.mk (hA.heap hne HD0.out); clear hk hA)
           | ((go_at_call 46); (with_reducible refine (blanks_yes g N l1 h1 o2 _ HK1.out).mono ?_); rintro e w2 ⟨rfl, hk, hA⟩; rw [e2] at hk; have HK2 := Aside0.mk hk; have HA2 := Aside0.mk (HA1.out.trans (hA.two gd)); have HG2 := hA.gok hg HG1; have HD2 := Aside0.mk (hA.heap hne HD1.out); clear hk hA)
           | ((go_at_call 48); refine (calls_of_args (args' := #[.pointer (some ⟨g, 0, none⟩), .string (strOfNums MON)]) (by first | rfl | kernel_rfl) ?_); (with_reducible refine (word_yes MON 12 rfl (by decide) mon_in g N l2 h2 mo o3 _ HG2 HK2.out).mono ?_); rintro e w3 ⟨rfl, hk, hA⟩; rw [e3] at hk; have HK3 := Aside0.mk hk; have HA3 := Aside0.mk (HA2.out.trans (hA.two gd)); have HG3 := hA.gok hg HG2; have HD3 := Aside0.mk (hA.heap hne HD2.out); clear hk hA)
           | ((go_at_call 46); (with_reducible refine (blanks_yes g N l3 h3 o4 _ HK3.out).mono ?_); rintro e w4 ⟨rfl, hk, hA⟩; rw [e4] at hk; have HK4 := Aside0.mk hk; have HA4 := Aside0.mk (HA3.out.trans (hA.two gd)); have HG4 := hA.gok hg HG3; have HD4 := Aside0.mk (hA.heap hne HD3.out); clear hk hA)
           | ((go_at_call 62); (with_reducible refine (digits_yes' g N l4 h4 2 4 (by decide) o5 n5 hn5 x5 hx5 _ HG4 HK4.out hg).mono ?_); rintro e w5 ⟨rfl, hk, hA⟩; rw [e5] at hk; have HK5 := Aside0.mk hk; have HA5 := Aside0.mk (HA4.out.trans (hA.two gd)); have HG5 := hA.gok hg HG4; have HD5 := Aside0.mk (hA.heap hne HD4.out); clear hk hA)
           | ((go_at_call 46); (with_reducible refine (blanks_yes g N l5 h5 o6 _ HK5.out).mono ?_); rintro e w6 ⟨rfl, hk, hA⟩; rw [e6] at hk; have HK6 := Aside0.mk hk; have HA6 := Aside0.mk (HA5.out.trans (hA.two gd)); have HG6 := hA.gok hg HG5; have HD6 := Aside0.mk (hA.heap hne HD5.out); have c6_0 := (blk_cell HD6.out 0 : w6.cell? ⟨gd, 0, none⟩ = some (.int .i16 0)); have f6_0 := (blk_frozen HD6.out 0 : w6.frozen? ⟨gd, 0, none⟩ = false); have c6_1 := (blk_cell HD6.out 1 : w6.cell? ⟨gd, 1, none⟩ = some (.int .i8 0)); have f6_1 := (blk_frozen HD6.out 1 : w6.frozen? ⟨gd, 1, none⟩ = false); have c6_2 := (blk_cell HD6.out 2 : w6.cell? ⟨gd, 2, none⟩ = some (.int .i8 0)); have f6_2 := (blk_frozen HD6.out 2 : w6.frozen? ⟨gd, 2, none⟩ = false); clear hk hA)
           | ((go_at_call 63); have hd7 : DT gd y ((mo : Int) + 1) x1 0 0 0 0 (((w6.setCell ⟨gd, 0, none⟩ (.int .i16 y)).setCell ⟨gd, 1, none⟩ (.int .i8 ((mo : Int) + 1))).setCell ⟨gd, 2, none⟩ (.int .i8 x1)) := blk_put (blk_put (blk_put HD6.out 0 _ rfl) 1 _ rfl) 2 _ rfl; have hk7 : TX g N l6 (((w6.setCell ⟨gd, 0, none⟩ (.int .i16 y)).setCell ⟨gd, 1, none⟩ (.int .i8 ((mo : Int) + 1))).setCell ⟨gd, 2, none⟩ (.int .i8 x1)) := ((HK6.out.set hne2).set hne2).set hne2; have hA7 : Apart2 g gd w6 (((w6.setCell ⟨gd, 0, none⟩ (.int .i16 y)).setCell ⟨gd, 1, none⟩ (.int .i8 ((mo : Int) + 1))).setCell ⟨gd, 2, none⟩ (.int .i8 x1)) := (((Apart2.refl g gd w6).set 0 _).set 1 _).set 2 _; (with_reducible refine (clock_yes g gd N l6 h6 y ((mo : Int) + 1) x1 0 0 0 0 l7 ch cm cs o7 _ (hA7.gok hg hgd HG6) hk7 hg hgd hne hd7).mono ?_); rintro e w8 ⟨rfl, hk, hdt, hA⟩; have HK8 := Aside0.mk hk; have HD8 := Aside0.mk hdt; have HA8 := Aside0.mk ((HA6.out.trans hA7).trans hA); have HG8 := (hA7.trans hA).gok hg hgd HG6; clear hk hA hdt hd7 hk7 hA7)
           | ((go_at_call 46); (with_reducible refine (blanks_yes g N l7 h7 o8 _ HK8.out).mono ?_); rintro e w9 ⟨rfl, hk, hA⟩; have HK9 := Aside0.mk hk; have HA9 := Aside0.mk (HA8.out.trans (hA.two gd)); have HD9 := Aside0.mk (hA.heap hne HD8.out); clear hk hA)
           )
           go_ret
           rw [← HR.out]
           exact ⟨rfl, HK9.out, DD.some' HD9.out, HA9.out⟩
          ·go_enter Tryd.func50, Tryd.ntmps50
           go_wp2_with (first
           | ((go_at_call 62); (with_reducible refine (digits_yes' g N l hl 1 2 (by decide) o1 n1 hn1 x1 hx1 _ HG0 HK0.out hg).mono ?_); rintro e w1 ⟨rfl, hk, hA⟩; rw [e1] at hk; have HK1 := Aside0.mk hk; have HA1 := Aside0.mk (HA0.out.trans (hA.two gd)); have HG1 := hA.gok hg HG0; have HD1 := Aside0.mk (hA.heap hne HD0.out); clear hk hA)
           | ((go_at_call 46); (with_reducible refine (blanks_yes g N l1 h1 o2 _ HK1.out).mono ?_); rintro e w2 ⟨rfl, hk, hA⟩; rw [e2] at hk; have HK2 := Aside0.mk hk; have HA2 := Aside0.mk (HA1.out.trans (hA.two gd)); have HG2 := hA.gok hg HG1; have HD2 := Aside0.mk (hA.heap hne HD1.out); clear hk hA)
           | ((go_at_call 48); refine (calls_of_args (args' := #[.pointer (some ⟨g, 0, none⟩), .string (strOfNums MON)]) (by first | rfl | kernel_rfl) ?_); (with_reducible refine (word_yes MON 12 rfl (by decide) mon_in g N l2 h2 mo o3 _ HG2 HK2.out).mono ?_); rintro e w3 ⟨rfl, hk, hA⟩; rw [e3] at hk; have HK3 := Aside0.mk hk; have HA3 := Aside0.mk (HA2.out.trans (hA.two gd)); have HG3 := hA.gok hg HG2; have HD3 := Aside0.mk (hA.heap hne HD2.out); clear hk hA)
           | ((go_at_call 46); (with_reducible refine (blanks_yes g N l3 h3 o4 _ HK3.out).mono ?_); rintro e w4 ⟨rfl, hk, hA⟩; rw [e4] at hk; have HK4 := Aside0.mk hk; have HA4 := Aside0.mk (HA3.out.trans (hA.two gd)); have HG4 := hA.gok hg HG3; have HD4 := Aside0.mk (hA.heap hne HD3.out); clear hk hA)
           | ((go_at_call 62); (with_reducible refine (digits_yes' g N l4 h4 2 4 (by decide) o5 n5 hn5 x5 hx5 _ HG4 HK4.out hg).mono ?_); rintro e w5 ⟨rfl, hk, hA⟩; rw [e5] at hk; have HK5 := Aside0.mk hk; have HA5 := Aside0.mk (HA4.out.trans (hA.two gd)); have HG5 := hA.gok hg HG4; have HD5 := Aside0.mk (hA.heap hne HD4.out); clear hk hA)
           | ((go_at_call 46); (with_reducible refine (blanks_yes g N l5 h5 o6 _ HK5.out).mono ?_); rintro e w6 ⟨rfl, hk, hA⟩; rw [e6] at hk; have HK6 := Aside0.mk hk; have HA6 := Aside0.mk (HA5.out.trans (hA.two gd)); have HG6 := hA.gok hg HG5; have HD6 := Aside0.mk (hA.heap hne HD5.out); have c6_0 := (blk_cell HD6.out 0 : w6.cell? ⟨gd, 0, none⟩ = some (.int .i16 0)); have f6_0 := (blk_frozen HD6.out 0 : w6.frozen? ⟨gd, 0, none⟩ = false); have c6_1 := (blk_cell HD6.out 1 : w6.cell? ⟨gd, 1, none⟩ = some (.int .i8 0)); have f6_1 := (blk_frozen HD6.out 1 : w6.frozen? ⟨gd, 1, none⟩ = false); have c6_2 := (blk_cell HD6.out 2 : w6.cell? ⟨gd, 2, none⟩ = some (.int .i8 0)); have f6_2 := (blk_frozen HD6.out 2 : w6.frozen? ⟨gd, 2, none⟩ = false); clear hk hA)
           | ((go_at_call 63); have hd7 : DT gd y ((mo : Int) + 1) x1 0 0 0 0 (((w6.setCell ⟨gd, 0, none⟩ (.int .i16 y)).setCell ⟨gd, 1, none⟩ (.int .i8 ((mo : Int) + 1))).setCell ⟨gd, 2, none⟩ (.int .i8 x1)) := blk_put (blk_put (blk_put HD6.out 0 _ rfl) 1 _ rfl) 2 _ rfl; have hk7 : TX g N l6 (((w6.setCell ⟨gd, 0, none⟩ (.int .i16 y)).setCell ⟨gd, 1, none⟩ (.int .i8 ((mo : Int) + 1))).setCell ⟨gd, 2, none⟩ (.int .i8 x1)) := ((HK6.out.set hne2).set hne2).set hne2; have hA7 : Apart2 g gd w6 (((w6.setCell ⟨gd, 0, none⟩ (.int .i16 y)).setCell ⟨gd, 1, none⟩ (.int .i8 ((mo : Int) + 1))).setCell ⟨gd, 2, none⟩ (.int .i8 x1)) := (((Apart2.refl g gd w6).set 0 _).set 1 _).set 2 _; (with_reducible refine (clock_yes g gd N l6 h6 y ((mo : Int) + 1) x1 0 0 0 0 l7 ch cm cs o7 _ (hA7.gok hg hgd HG6) hk7 hg hgd hne hd7).mono ?_); rintro e w8 ⟨rfl, hk, hdt, hA⟩; have HK8 := Aside0.mk hk; have HD8 := Aside0.mk hdt; have HA8 := Aside0.mk ((HA6.out.trans hA7).trans hA); have HG8 := (hA7.trans hA).gok hg hgd HG6; clear hk hA hdt hd7 hk7 hA7)
           | ((go_at_call 46); (with_reducible refine (blanks_yes g N l7 h7 o8 _ HK8.out).mono ?_); rintro e w9 ⟨rfl, hk, hA⟩; have HK9 := Aside0.mk hk; have HA9 := Aside0.mk (HA8.out.trans (hA.two gd)); have HD9 := Aside0.mk (hA.heap hne HD8.out); clear hk hA)
           )
           go_ret
           rw [← HR.out]
           exact ⟨rfl, HK9.out, DD.some' HD9.out, HA9.out⟩
          ·go_enter Tryd.func50, Tryd.ntmps50
           go_wp2_with (first
           | ((go_at_call 62); (with_reducible refine (digits_yes' g N l hl 1 2 (by decide) o1 n1 hn1 x1 hx1 _ HG0 HK0.out hg).mono ?_); rintro e w1 ⟨rfl, hk, hA⟩; rw [e1] at hk; have HK1 := Aside0.mk hk; have HA1 := Aside0.mk (HA0.out.trans (hA.two gd)); have HG1 := hA.gok hg HG0; have HD1 := Aside0.mk (hA.heap hne HD0.out); clear hk hA)
           | ((go_at_call 46); (with_reducible refine (blanks_yes g N l1 h1 o2 _ HK1.out).mono ?_); rintro e w2 ⟨rfl, hk, hA⟩; rw [e2] at hk; have HK2 := Aside0.mk hk; have HA2 := Aside0.mk (HA1.out.trans (hA.two gd)); have HG2 := hA.gok hg HG1; have HD2 := Aside0.mk (hA.heap hne HD1.out); clear hk hA)
           | ((go_at_call 48); refine (calls_of_args (args' := #[.pointer (some ⟨g, 0, none⟩), .string (strOfNums MON)]) (by first | rfl | kernel_rfl) ?_); (with_reducible refine (word_yes MON 12 rfl (by decide) mon_in g N l2 h2 mo o3 _ HG2 HK2.out).mono ?_); rintro e w3 ⟨rfl, hk, hA⟩; rw [e3] at hk; have HK3 := Aside0.mk hk; have HA3 := Aside0.mk (HA2.out.trans (hA.two gd)); have HG3 := hA.gok hg HG2; have HD3 := Aside0.mk (hA.heap hne HD2.out); clear hk hA)
           | ((go_at_call 46); (with_reducible refine (blanks_yes g N l3 h3 o4 _ HK3.out).mono ?_); rintro e w4 ⟨rfl, hk, hA⟩; rw [e4] at hk; have HK4 := Aside0.mk hk; have HA4 := Aside0.mk (HA3.out.trans (hA.two gd)); have HG4 := hA.gok hg HG3; have HD4 := Aside0.mk (hA.heap hne HD3.out); clear hk hA)
           | ((go_at_call 62); (with_reducible refine (digits_yes' g N l4 h4 2 4 (by decide) o5 n5 hn5 x5 hx5 _ HG4 HK4.out hg).mono ?_); rintro e w5 ⟨rfl, hk, hA⟩; rw [e5] at hk; have HK5 := Aside0.mk hk; have HA5 := Aside0.mk (HA4.out.trans (hA.two gd)); have HG5 := hA.gok hg HG4; have HD5 := Aside0.mk (hA.heap hne HD4.out); clear hk hA)
           | ((go_at_call 46); (with_reducible refine (blanks_yes g N l5 h5 o6 _ HK5.out).mono ?_); rintro e w6 ⟨rfl, hk, hA⟩; rw [e6] at hk; have HK6 := Aside0.mk hk; have HA6 := Aside0.mk (HA5.out.trans (hA.two gd)); have HG6 := hA.gok hg HG5; have HD6 := Aside0.mk (hA.heap hne HD5.out); have c6_0 := (blk_cell HD6.out 0 : w6.cell? ⟨gd, 0, none⟩ = some (.int .i16 0)); have f6_0 := (blk_frozen HD6.out 0 : w6.frozen? ⟨gd, 0, none⟩ = false); have c6_1 := (blk_cell HD6.out 1 : w6.cell? ⟨gd, 1, none⟩ = some (.int .i8 0)); have f6_1 := (blk_frozen HD6.out 1 : w6.frozen? ⟨gd, 1, none⟩ = false); have c6_2 := (blk_cell HD6.out 2 : w6.cell? ⟨gd, 2, none⟩ = some (.int .i8 0)); have f6_2 := (blk_frozen HD6.out 2 : w6.frozen? ⟨gd, 2, none⟩ = false); clear hk hA)
           | ((go_at_call 63); have hd7 : DT gd x5 ((mo : Int) + 1) x1 0 0 0 0 (((w6.setCell ⟨gd, 0, none⟩ (.int .i16 x5)).setCell ⟨gd, 1, none⟩ (.int .i8 ((mo : Int) + 1))).setCell ⟨gd, 2, none⟩ (.int .i8 x1)) := blk_put (blk_put (blk_put HD6.out 0 _ rfl) 1 _ rfl) 2 _ rfl; have hk7 : TX g N l6 (((w6.setCell ⟨gd, 0, none⟩ (.int .i16 x5)).setCell ⟨gd, 1, none⟩ (.int .i8 ((mo : Int) + 1))).setCell ⟨gd, 2, none⟩ (.int .i8 x1)) := ((HK6.out.set hne2).set hne2).set hne2; have hA7 : Apart2 g gd w6 (((w6.setCell ⟨gd, 0, none⟩ (.int .i16 x5)).setCell ⟨gd, 1, none⟩ (.int .i8 ((mo : Int) + 1))).setCell ⟨gd, 2, none⟩ (.int .i8 x1)) := (((Apart2.refl g gd w6).set 0 _).set 1 _).set 2 _; (with_reducible refine (clock_yes g gd N l6 h6 x5 ((mo : Int) + 1) x1 0 0 0 0 l7 ch cm cs o7 _ (hA7.gok hg hgd HG6) hk7 hg hgd hne hd7).mono ?_); rintro e w8 ⟨rfl, hk, hdt, hA⟩; have HK8 := Aside0.mk hk; have HD8 := Aside0.mk hdt; have HA8 := Aside0.mk ((HA6.out.trans hA7).trans hA); have HG8 := (hA7.trans hA).gok hg hgd HG6; clear hk hA hdt hd7 hk7 hA7)
           | ((go_at_call 46); (with_reducible refine (blanks_yes g N l7 h7 o8 _ HK8.out).mono ?_); rintro e w9 ⟨rfl, hk, hA⟩; have HK9 := Aside0.mk hk; have HA9 := Aside0.mk (HA8.out.trans (hA.two gd)); have HD9 := Aside0.mk (hA.heap hne HD8.out); clear hk hA)
           )
           go_ret
           rw [← HR.out]
           exact ⟨rfl, HK9.out, DD.some' HD9.out, HA9.out⟩
end Go.Proofs.YtnmhkmkaklhapaaDoor.T
namespace Go.Proofs.YtnmhkmkaklhapaaDoor.T
set_option linter.unusedVariables false
set_option linter.unusedSimpArgs false
open Go.RowKit Go.Proofs.YtnmhkmkaklhapaaDoorW.PrintWords Go.Proofs.YtnmhkmkaklhapaaDoorW.PrintLast Go.Proofs.YtnmhkmkaklhapaaDoorW.PrintMore Go.Proofs.YtnmhkmkaklhapaaDoor.B Go.Proofs.YtnmhkmkaklhapaaDoor.M Go.Proofs.YtnmhkmkaklhapaaDoor.Glob Go.Proofs.YtnmhkmkaklhapaaDoor.D Go.Proofs.YtnmhkmkaklhapaaDoor.U Go.Proofs.YtnmhkmkaklhapaaDoor.Chk

def WKD : List Int := [83, 117, 110, 77, 111, 110, 84, 117, 101, 87, 101, 100, 84, 104, 117, 70, 114, 105, 83, 97, 116]
theorem wkd_in : InB WKD := by intro x hx; unfold WKD at hx; simp only [List.mem_cons, List.not_mem_nil, or_false] at hx; omega
theorem wkd_lt {l : List Int} {k : Nat} (h : wordF WKD l = some k) : k < 7 := by
 unfold wordF at h
 split at h
 ·have := fwd_lt _ _ _ _ _ h; rw [show WKD.length / 3 = 7 from rfl] at this; omega
 ·cases h
def zoneP (l : List Int) : Int × Bool × List Int :=
 match l with
 | [] => ((zoneN (upL (l.take (run 1 l)))).1, (zoneN (upL (l.take (run 1 l)))).2, l.drop (run 1 l))
 | c :: r => if c = 43 ∨ c = 45 then zoneS c r else ((zoneN (upL (l.take (run 1 l)))).1, (zoneN (upL (l.take (run 1 l)))).2, l.drop (run 1 l))
theorem zone_calls (g N : Nat) (l : List Int) (h : OK N l) (z : Int) (b : Bool) (r : List Int) (hz : zoneP l = (z, b, r)) (w : World) (HG : GOk w) (hk : TX g N l w) (hg : 0 < g) :
  Calls Tryd.prog 51 #[.pointer (some ⟨g, 0, none⟩)] w fun e w' => e = .returned (.tuple #[.int .i16 z, .bool b]) ∧ TX g N r w' ∧ Apart g w w' := by
 cases l with
 | nil =>
  have := zone_word g N [] h rfl w HG hk hg
  unfold zoneP at hz
  simp only [Prod.mk.injEq] at hz
  obtain ⟨rfl, rfl, rfl⟩ := hz
  exact this
 | cons c q =>
  unfold zoneP at hz
  simp only at hz
  by_cases hc : c = 43 ∨ c = 45
  ·have := zone_sign g N c q h hc w HG hk hg
   rw [if_pos hc] at hz
   rw [hz] at this
   exact this
  ·rw [if_neg hc] at hz
   have hs : isSign (c :: q) = false := by
    unfold isSign
    simp only [Bool.or_eq_false_iff, beq_eq_false_iff_ne]
    exact ⟨fun e => hc (.inl e), fun e => hc (.inr e)⟩
   have := zone_word g N (c :: q) h hs w HG hk hg
   simp only [Prod.mk.injEq] at hz
   obtain ⟨rfl, rfl, rfl⟩ := hz
   exact this
theorem zone_ok {N : Nat} {l : List Int} {z : Int} {b : Bool} {r : List Int} (h : OK N l) (hz : zoneP l = (z, b, r)) : OK N r ∧ -32768 ≤ z ∧ z ≤ 32767 := by
 have hw : ∀ n, -32768 ≤ (zoneN n).1 ∧ (zoneN n).1 ≤ 32767 := by
  intro n
  unfold zoneN
  repeat' split
  all_goals first | exact ⟨by decide, by decide⟩ | exact ⟨(by decide : (-32768 : Int) ≤ 0), (by decide : (0 : Int) ≤ 32767)⟩
 cases l with
 | nil =>
  unfold zoneP at hz
  simp only [Prod.mk.injEq] at hz
  obtain ⟨rfl, rfl, rfl⟩ := hz
  exact ⟨h.drop _, hw _⟩
 | cons c q =>
  unfold zoneP at hz
  simp only at hz
  split at hz
  ·unfold zoneS at hz
   have hq : OK N q := h.drop 1
   split at hz
   ·rename_i hd
    have hb := Bool.and_eq_true_iff.1 hd
    have hn : digN q = 4 := by have := of_decide_eq_true hb.1; have := of_decide_eq_true hb.2; omega
    have hx := num_digits q hq.inb 4 (by omega)
    split at hz
    ·simp only [Prod.mk.injEq] at hz
     obtain ⟨rfl, rfl, rfl⟩ := hz
     exact ⟨hq.drop _, by decide, by decide⟩
    ·simp only [Prod.mk.injEq] at hz
     obtain ⟨rfl, rfl, rfl⟩ := hz
     refine ⟨hq.drop _, ?_⟩
     unfold signV
     split <;> omega
   ·simp only [Prod.mk.injEq] at hz
    obtain ⟨rfl, rfl, rfl⟩ := hz
    exact ⟨hq, by decide, by decide⟩
  ·simp only [Prod.mk.injEq] at hz
   obtain ⟨rfl, rfl, rfl⟩ := hz
   exact ⟨h.drop _, hw _⟩
theorem date_yes (g gd N : Nat) (l : List Int) (hl : OK N l) (y mo dd h m s : Int) (r : List Int) (hd : dateP l = (some ⟨y, mo, dd, h, m, s⟩, r)) (w0 : World) (HG0 : GOk w0) (hk0 : TX g N l w0) (hg : 0 < g) (hgd : 0 < gd) (hne : gd ≠ g) (hd0 : DT gd 0 0 0 0 0 0 0 w0) :
  Calls Tryd.prog 50 #[.pointer (some ⟨g, 0, none⟩), .pointer (some ⟨gd, 0, none⟩)] w0 fun e w' => e = .returned (.bool true) ∧ TX g N r w' ∧ DT gd y mo dd h m s 0 w' ∧ Apart2 g gd w0 w' := by
 have := date_calls g gd N l hl w0 HG0 hk0 hg hgd hne hd0
 rw [hd] at this
 exact this.mono fun e w' ⟨a, b, c, d⟩ => ⟨a, b, c _ rfl, d⟩
theorem date_no (g gd N : Nat) (l : List Int) (hl : OK N l) (r : List Int) (hd : dateP l = (none, r)) (w0 : World) (HG0 : GOk w0) (hk0 : TX g N l w0) (hg : 0 < g) (hgd : 0 < gd) (hne : gd ≠ g) (hd0 : DT gd 0 0 0 0 0 0 0 w0) :
  Calls Tryd.prog 50 #[.pointer (some ⟨g, 0, none⟩), .pointer (some ⟨gd, 0, none⟩)] w0 fun e w' => e = .returned (.bool false) ∧ TX g N r w' ∧ Apart2 g gd w0 w' := by
 have := date_calls g gd N l hl w0 HG0 hk0 hg hgd hne hd0
 rw [hd] at this
 exact this.mono fun e w' ⟨a, b, c, d⟩ => ⟨a, b, d⟩
theorem rest_yes (g N : Nat) (l : List Int) (h : OK N l) (r : List Int) (hr : restB l = (true, r)) (w : World) (hk : TX g N l w) :
  Calls Tryd.prog 52 #[.pointer (some ⟨g, 0, none⟩)] w fun e w' => e = .returned (.bool true) ∧ TX g N r w' ∧ Apart g w w' := by
 have := rest_calls g N l h w hk
 rw [hr] at this
 exact this
theorem rest_no (g N : Nat) (l : List Int) (h : OK N l) (r : List Int) (hr : restB l = (false, r)) (w : World) (hk : TX g N l w) :
  Calls Tryd.prog 52 #[.pointer (some ⟨g, 0, none⟩)] w fun e w' => e = .returned (.bool false) ∧ TX g N r w' ∧ Apart g w w' := by
 have := rest_calls g N l h w hk
 rw [hr] at this
 exact this

/-- What Parse tells: the error and its place (0, 0: none), the date (nought with an error). -/
structure PR where
 e : Int
 at_ : Int
 y : Int
 mo : Int
 d : Int
 h : Int
 m : Int
 s : Int
 z : Int
def fault (e a : Int) : PR := ⟨e, a, 0, 0, 0, 0, 0, 0, 0⟩
def headP (l : List Int) : Option Int × List Int :=
 if run 1 l = 0 then (some (-1), l) else
 match wordF WKD l with
 | none => (none, l)
 | some k => if begB (l.drop 3) 44 = false then (none, l.drop 3) else (some (k : Int), ((l.drop 3).drop 1).drop (blN ((l.drop 3).drop 1)))
def finP (nm a za : Int) (d : Dte) (z : Int) : PR :=
 if chkV d.y d.mo d.d d.h d.m d.s z = 60 then fault 60 a else
 if 0 ≤ nm ∧ wkV (daysV d.y d.mo d.d).1 ≠ nm then fault 60 a else
 if chkV d.y d.mo d.d d.h d.m d.s z ≠ 0 then fault (chkV d.y d.mo d.d d.h d.m d.s z) za else ⟨0, 0, d.y, d.mo, d.d, d.h, d.m, d.s, z⟩
def atI (N : Nat) (l : List Int) : Int := (N : Int) - (l.length : Int)
def tailP (N : Nat) (nm a : Int) (d : Dte) (l : List Int) : PR :=
 match zoneP l with
 | (_, false, _) => fault 61 (atI N l)
 | (z, true, l3) => match restB l3 with
  | (false, r) => fault 60 (atI N r)
  | (true, _) => finP nm a (atI N l) d z
def bodyP (N : Nat) (nm : Int) (l : List Int) : PR :=
 match dateP l with
 | (none, r) => fault 60 (atI N r)
 | (some d, r) => tailP N nm (atI N l) d r
def parseP (L : List Int) : PR :=
 match headP (L.drop (blN L)) with
 | (none, r) => fault 60 (atI L.length r)
 | (some nm, l) => bodyP L.length nm l

/-- The spot's block. -/
def SP (g : Nat) (e a : Int) (w : World) : Prop := w.heap[g]? = some (.cells #[.int .i64 e, .int .i64 a] 32 (0, 0))
structure PW (N : Nat) (l : List Int) (w W : World) : Prop where
 tx : TX (w.heap.size + 1 + 1) N l W
 r0 : DT w.heap.size 0 0 0 0 0 0 0 W
 r1 : SP (w.heap.size + 1) 0 0 W
 bl : Below w.heap.size w W
 gk : GOk W
theorem gok_pos {w : World} (h : GOk w) : 0 < w.heap.size := h.1
theorem PW.tx1 {N : Nat} {l : List Int} {w W : World} (h : PW N l w W) {a : Int} (ha : atI N l = a) : W.cell? ⟨w.heap.size + 1 + 1, 1, none⟩ = some (.int .i64 a) := by rw [← ha]; exact blk_cell h.tx 1
theorem PW.tx0 {N : Nat} {l : List Int} {w W : World} (h : PW N l w W) : W.cell? ⟨w.heap.size + 1 + 1, 0, none⟩ = some (.string (strOfNums l)) := blk_cell h.tx 0
theorem PW.res {N : Nat} {l : List Int} {w W : World} (h : PW N l w W) : W.cell? ⟨w.heap.size, 0, none⟩ = some (.int .i16 0) ∧ W.frozen? ⟨w.heap.size, 0, none⟩ = false ∧ W.cell? ⟨w.heap.size, 1, none⟩ = some (.int .i8 0) ∧ W.frozen? ⟨w.heap.size, 1, none⟩ = false ∧ W.cell? ⟨w.heap.size, 2, none⟩ = some (.int .i8 0) ∧ W.frozen? ⟨w.heap.size, 2, none⟩ = false ∧ W.cell? ⟨w.heap.size, 3, none⟩ = some (.int .i8 0) ∧ W.frozen? ⟨w.heap.size, 3, none⟩ = false ∧ W.cell? ⟨w.heap.size, 4, none⟩ = some (.int .i8 0) ∧ W.frozen? ⟨w.heap.size, 4, none⟩ = false ∧ W.cell? ⟨w.heap.size, 5, none⟩ = some (.int .i8 0) ∧ W.frozen? ⟨w.heap.size, 5, none⟩ = false ∧ W.cell? ⟨w.heap.size, 6, none⟩ = some (.int .i16 0) ∧ W.frozen? ⟨w.heap.size, 6, none⟩ = false ∧ W.cell? ⟨w.heap.size + 1, 0, none⟩ = some (.int .i64 0) ∧ W.frozen? ⟨w.heap.size + 1, 0, none⟩ = false ∧ W.cell? ⟨w.heap.size + 1, 1, none⟩ = some (.int .i64 0) ∧ W.frozen? ⟨w.heap.size + 1, 1, none⟩ = false := ⟨blk_cell h.r0 0, blk_frozen h.r0 0, blk_cell h.r0 1, blk_frozen h.r0 1, blk_cell h.r0 2, blk_frozen h.r0 2, blk_cell h.r0 3, blk_frozen h.r0 3, blk_cell h.r0 4, blk_frozen h.r0 4, blk_cell h.r0 5, blk_frozen h.r0 5, blk_cell h.r0 6, blk_frozen h.r0 6, blk_cell h.r1 0, blk_frozen h.r1 0, blk_cell h.r1 1, blk_frozen h.r1 1⟩
theorem DT.all {g : Nat} {y mo d h m s z : Int} {W : World} (k : DT g y mo d h m s z W) : W.cell? ⟨g, 0, none⟩ = some (.int .i16 y) ∧ W.cell? ⟨g, 1, none⟩ = some (.int .i8 mo) ∧ W.cell? ⟨g, 2, none⟩ = some (.int .i8 d) ∧ W.cell? ⟨g, 3, none⟩ = some (.int .i8 h) ∧ W.cell? ⟨g, 4, none⟩ = some (.int .i8 m) ∧ W.cell? ⟨g, 5, none⟩ = some (.int .i8 s) ∧ W.cell? ⟨g, 6, none⟩ = some (.int .i16 z) ∧ W.frozen? ⟨g, 6, none⟩ = false := ⟨blk_cell k 0, blk_cell k 1, blk_cell k 2, blk_cell k 3, blk_cell k 4, blk_cell k 5, blk_cell k 6, blk_frozen k 6⟩
theorem PW.step {N : Nat} {l l' : List Int} {w W W' : World} (h : PW N l w W) (hA : Apart (w.heap.size + 1 + 1) W W') (hk : TX (w.heap.size + 1 + 1) N l' W') : PW N l' w W' :=
 ⟨hk, hA.heap (by omega) h.r0, hA.heap (by omega) h.r1, h.bl.trans (hA.below (by omega) h.bl.size), hA.gok (by omega) h.gk⟩
theorem Apart2.heap {g h k : Nat} {w w' : World} {o : Obj} (x : Apart2 g h w w') (hn : k ≠ g) (hm : k ≠ h) (hk : w.heap[k]? = some o) : w'.heap[k]? = some o := by
 have hlt : k < w.heap.size := by
  refine Nat.lt_of_not_le fun hc => ?_
  rw [Array.getElem?_eq_none hc] at hk
  cases hk
 exact (x.block k hlt hn hm).trans hk
theorem PW.step2 {N : Nat} {l l' : List Int} {w W W' : World} (h : PW N l w W) (hA : Apart2 (w.heap.size + 1 + 1) (w.heap.size + 1 + 1 + 1) W W') (hk : TX (w.heap.size + 1 + 1) N l' W') : PW N l' w W' :=
 ⟨hk, hA.heap (by omega) (by omega) h.r0, hA.heap (by omega) (by omega) h.r1, h.bl.trans (hA.below (by omega) (by omega) h.bl.size), hA.gok (by omega) (by omega) h.gk⟩
theorem PW.stepB {N : Nat} {l : List Int} {w W W' : World} (h : PW N l w W) (hA : Below W.heap.size W W') : PW N l w W' :=
 h.step (Apart.of_below hA) (blk_below h.tx hA)
abbrev W0 (w : World) (L : List Int) : World := (((w.alloc (Obj.cells #[.int .i16 0, .int .i8 0, .int .i8 0, .int .i8 0, .int .i8 0, .int .i8 0, .int .i16 0] 30)).alloc (Obj.cells #[.int .i64 0, .int .i64 0] 32)).alloc (Obj.cells #[.string (strOfNums L), .int .i64 0] 77)).alloc (Obj.cells #[.int .i16 0, .int .i8 0, .int .i8 0, .int .i8 0, .int .i8 0, .int .i8 0, .int .i16 0] 30)
theorem PW.start (N : Nat) (L : List Int) (w : World) (HG : GOk w) (hN : N = L.length) : PW N L w (W0 w L) := by
 have b0 : Below w.heap.size w (W0 w L) := below_alloc (below_alloc (below_alloc (below_alloc (Below.refl _ _) _) _) _) _
 have nx : ∀ (W : World) (o : Obj), Below W.heap.size W (W.alloc o) := fun W o => below_alloc (Below.refl _ _) _
 refine ⟨?_, ?_, ?_, b0, GOk.of_below HG b0⟩
 ·have h := heap_alloc_new ((w.alloc (Obj.cells #[.int .i16 0, .int .i8 0, .int .i8 0, .int .i8 0, .int .i8 0, .int .i8 0, .int .i16 0] 30)).alloc (Obj.cells #[.int .i64 0, .int .i64 0] 32)) (Obj.cells #[.string (strOfNums L), .int .i64 0] 77)
  have h2 := blk_below h (nx _ (Obj.cells #[.int .i16 0, .int .i8 0, .int .i8 0, .int .i8 0, .int .i8 0, .int .i8 0, .int .i16 0] 30))
  unfold TX
  rw [hN, Int.sub_self]
  simpa using h2
 ·have h := heap_alloc_new w (Obj.cells #[.int .i16 0, .int .i8 0, .int .i8 0, .int .i8 0, .int .i8 0, .int .i8 0, .int .i16 0] 30)
  exact blk_below (blk_below (blk_below h (nx _ _)) (nx _ _)) (nx _ _)
 ·have h := heap_alloc_new (w.alloc (Obj.cells #[.int .i16 0, .int .i8 0, .int .i8 0, .int .i8 0, .int .i8 0, .int .i8 0, .int .i16 0] 30)) (Obj.cells #[.int .i64 0, .int .i64 0] 32)
  have h2 := blk_below (blk_below h (nx _ (Obj.cells #[.string (strOfNums L), .int .i64 0] 77))) (nx _ (Obj.cells #[.int .i16 0, .int .i8 0, .int .i8 0, .int .i8 0, .int .i8 0, .int .i8 0, .int .i16 0] 30))
  unfold SP
  simpa using h2
theorem DT.start (N : Nat) (L : List Int) (w : World) : DT (w.heap.size + 1 + 1 + 1) 0 0 0 0 0 0 0 (W0 w L) := by
 have h := heap_alloc_new (((w.alloc (Obj.cells #[.int .i16 0, .int .i8 0, .int .i8 0, .int .i8 0, .int .i8 0, .int .i8 0, .int .i16 0] 30)).alloc (Obj.cells #[.int .i64 0, .int .i64 0] 32)).alloc (Obj.cells #[.string (strOfNums L), .int .i64 0] 77)) (Obj.cells #[.int .i16 0, .int .i8 0, .int .i8 0, .int .i8 0, .int .i8 0, .int .i8 0, .int .i16 0] 30)
 unfold DT
 simpa using h
theorem clock_range {N : Nat} {l l7 : List Int} {h m s : Int} (hl : OK N l) (hc : clockP l 0 0 0 = ⟨true, l7, h, m, s⟩) : (0 ≤ h ∧ h ≤ 99) ∧ (0 ≤ m ∧ m ≤ 99) ∧ 0 ≤ s ∧ s ≤ 99 := by
 have two : ∀ {q : List Int}, OK N q → digOk q 2 2 = true → 0 ≤ num (q.take 2) ∧ num (q.take 2) ≤ 99 := by
  intro q hq ho
  have n2 := dig_two ho 2 rfl rfl
  have := num_digits q hq.inb 2 (by omega)
  omega
 unfold clockP at hc
 simp only at hc
 split at hc
 ·cases hc
 rename_i o1
 split at hc
 ·cases hc
 split at hc
 ·cases hc
 rename_i o3
 have t1 := two hl (Bool.of_not_eq_false o1)
 have t3 := two ((hl.drop 2).drop 1) (Bool.of_not_eq_false o3)
 split at hc
 ·cases hc; exact ⟨t1, t3, by decide, by decide⟩
 split at hc
 ·cases hc
 rename_i o5
 have t5 := two ((((hl.drop 2).drop 1).drop 2).drop 1) (Bool.of_not_eq_false o5)
 cases hc
 exact ⟨t1, t3, t5⟩
theorem date_ok {N : Nat} {l : List Int} (h : OK N l) : OK N (dateP l).2 := by
 unfold dateP
 simp only
 split
 ·exact h
 split
 ·exact h.drop _
 split
 ·exact (h.drop _).drop _
 split
 ·exact ((h.drop _).drop _).drop _
 split
 ·exact (((h.drop _).drop _).drop _).drop _
 split
 ·exact ((((h.drop _).drop _).drop _).drop _).drop _
 have h6 := fun (a b c : Nat) => (((((h.drop (digN l)).drop (blN (l.drop (digN l)))).drop 3).drop a).drop b).drop c
 split
 ·rename_i o7
  have e := congrArg Clk.l o7
  simp only at e ⊢
  rw [← e]
  exact clock_ok (h6 _ _ _)
 ·rename_i o7
  have e := congrArg Clk.l o7
  simp only at e
  split
  ·simp only
   rw [← e]
   exact clock_ok (h6 _ _ _)
  ·refine OK.drop ?_ _
   rw [← e]
   exact clock_ok (h6 _ _ _)
theorem date_range {N : Nat} {l r : List Int} {y mo dd hh mi ss : Int} (h : OK N l) (hd : dateP l = (some ⟨y, mo, dd, hh, mi, ss⟩, r)) : (0 ≤ y ∧ y ≤ 9999) ∧ (1 ≤ mo ∧ mo ≤ 12) ∧ (0 ≤ dd ∧ dd ≤ 99) ∧ (0 ≤ hh ∧ hh ≤ 99) ∧ (0 ≤ mi ∧ mi ≤ 99) ∧ (0 ≤ ss ∧ ss ≤ 99) := by
 unfold dateP at hd
 simp only at hd
 split at hd
 ·cases hd
 rename_i o1
 split at hd
 ·cases hd
 split at hd
 ·cases hd
 rename_i k o3
 split at hd
 ·cases hd
 split at hd
 ·cases hd
 rename_i o5
 split at hd
 ·cases hd
 have h4 := (((h.drop (digN l)).drop (blN (l.drop (digN l)))).drop 3).drop (blN (((l.drop (digN l)).drop (blN (l.drop (digN l)))).drop 3))
 split at hd
 ·cases hd
 rename_i o7
 split at hd
 ·cases hd
 have c := clock_range ((h4.drop _).drop _) o7
 have hm := mon_lt o3
 have q1 := of_decide_eq_true (Bool.and_eq_true_iff.1 (Bool.of_not_eq_false o1)).2
 have v1 := num_digits l h.inb (digN l) (Nat.le_refl _)
 have p1 : (10 : Int) ^ digN l ≤ 100 := by
  have : digN l = 0 ∨ digN l = 1 ∨ digN l = 2 := by omega
  rcases this with e | e | e <;> rw [e] <;> decide
 have q5 := of_decide_eq_true (Bool.and_eq_true_iff.1 (Bool.of_not_eq_false o5)).2
 have q5' := of_decide_eq_true (Bool.and_eq_true_iff.1 (Bool.of_not_eq_false o5)).1
 have v5 := num_digits _ h4.inb _ (Nat.le_refl _)
 simp only [Prod.mk.injEq, Option.some.injEq, Dte.mk.injEq] at hd
 obtain ⟨⟨rfl, rfl, rfl, rfl, rfl, rfl⟩, _⟩ := hd
 refine ⟨?_, by omega, by omega, c.1, c.2.1, c.2.2⟩
 generalize digN (((((l.drop (digN l)).drop (blN (l.drop (digN l)))).drop 3)).drop (blN (((l.drop (digN l)).drop (blN (l.drop (digN l)))).drop 3))) = k5 at *
 have p5 : k5 = 2 ∧ (10 : Int) ^ k5 = 100 ∨ k5 = 3 ∧ (10 : Int) ^ k5 = 1000 ∨ k5 = 4 ∧ (10 : Int) ^ k5 = 10000 := by
  have : k5 = 2 ∨ k5 = 3 ∨ k5 = 4 := by omega
  rcases this with rfl | rfl | rfl
  ·exact .inl ⟨rfl, by decide⟩
  ·exact .inr (.inl ⟨rfl, by decide⟩)
  ·exact .inr (.inr ⟨rfl, by decide⟩)
 unfold yearV
 split
 ·omega
 ·split
  ·omega
  ·omega
/-- The world behind the last stores. -/
structure FW (w : World) (y mo d h m s z e a : Int) (W : World) : Prop where
 r0 : DT w.heap.size y mo d h m s z W
 r1 : SP (w.heap.size + 1) e a W
 bl : Below w.heap.size w W
theorem FW.drew {w W : World} {y mo d h m s z e a : Int} (x : FW w y mo d h m s z e a W) : FW w y mo d h m s z e a W.drew := ⟨x.r0, x.r1, below_drew1 x.bl⟩
theorem fin_world {N : Nat} {l : List Int} {w W : World} (k : PW N l w W) (y mo d h m s z e a : Int) :
  FW w y mo d h m s z e a (((((((((W.setCell ⟨w.heap.size, 0, none⟩ (.int .i16 y)).setCell ⟨w.heap.size, 1, none⟩ (.int .i8 mo)).setCell ⟨w.heap.size, 2, none⟩ (.int .i8 d)).setCell ⟨w.heap.size, 3, none⟩ (.int .i8 h)).setCell ⟨w.heap.size, 4, none⟩ (.int .i8 m)).setCell ⟨w.heap.size, 5, none⟩ (.int .i8 s)).setCell ⟨w.heap.size, 6, none⟩ (.int .i16 z)).setCell ⟨w.heap.size + 1, 0, none⟩ (.int .i64 e)).setCell ⟨w.heap.size + 1, 1, none⟩ (.int .i64 a)) := by
 have far : ∀ (g' g o : Nat) (X : World) (v : Value) (q : Obj), g' ≠ g → X.heap[g']? = some q → (X.setCell ⟨g, o, none⟩ v).heap[g']? = some q := fun g' g o X v q hn hk => (Below.heap_setCell X ⟨g, o, none⟩ v g' hn).trans hk
 have h0 := blk_put (blk_put (blk_put (blk_put (blk_put (blk_put (blk_put k.r0 0 (.int .i16 y) rfl) 1 (.int .i8 mo) rfl) 2 (.int .i8 d) rfl) 3 (.int .i8 h) rfl) 4 (.int .i8 m) rfl) 5 (.int .i8 s) rfl) 6 (.int .i16 z) rfl
 have h1 : SP (w.heap.size + 1) 0 0 (((((((W.setCell ⟨w.heap.size, 0, none⟩ (.int .i16 y)).setCell ⟨w.heap.size, 1, none⟩ (.int .i8 mo)).setCell ⟨w.heap.size, 2, none⟩ (.int .i8 d)).setCell ⟨w.heap.size, 3, none⟩ (.int .i8 h)).setCell ⟨w.heap.size, 4, none⟩ (.int .i8 m)).setCell ⟨w.heap.size, 5, none⟩ (.int .i8 s)).setCell ⟨w.heap.size, 6, none⟩ (.int .i16 z)) :=
  far _ _ _ _ _ _ (by omega) (far _ _ _ _ _ _ (by omega) (far _ _ _ _ _ _ (by omega) (far _ _ _ _ _ _ (by omega) (far _ _ _ _ _ _ (by omega) (far _ _ _ _ _ _ (by omega) (far _ _ _ _ _ _ (by omega) k.r1))))))
 have b0 := (((((((k.bl.setCell (p := ⟨w.heap.size, 0, none⟩) (Nat.le_refl _) (.int .i16 y)).setCell (p := ⟨w.heap.size, 1, none⟩) (Nat.le_refl _) (.int .i8 mo)).setCell (p := ⟨w.heap.size, 2, none⟩) (Nat.le_refl _) (.int .i8 d)).setCell (p := ⟨w.heap.size, 3, none⟩) (Nat.le_refl _) (.int .i8 h)).setCell (p := ⟨w.heap.size, 4, none⟩) (Nat.le_refl _) (.int .i8 m)).setCell (p := ⟨w.heap.size, 5, none⟩) (Nat.le_refl _) (.int .i8 s)).setCell (p := ⟨w.heap.size, 6, none⟩) (Nat.le_refl _) (.int .i16 z))
 exact ⟨far _ _ _ _ _ _ (by omega) (far _ _ _ _ _ _ (by omega) h0), blk_put (blk_put h1 0 _ rfl) 1 _ rfl, (b0.setCell (p := ⟨w.heap.size + 1, 0, none⟩) (Nat.le_succ _) _).setCell (p := ⟨w.heap.size + 1, 1, none⟩) (Nat.le_succ _) _⟩
theorem fin_post {Q : Ending → World → Prop} {a : Act} {w W : World} {y mo d h m s z e at_ : Int} (hd : a.defers = []) (t2 : a.tmps[2]?.getD undef = .pointer (some ⟨w.heap.size, 0, none⟩)) (t3 : a.tmps[3]?.getD undef = .pointer (some ⟨w.heap.size + 1, 0, none⟩))
  (f : FW w y mo d h m s z e at_ W) (hq : Below w.heap.size w W → Q (.returned (.tuple #[.agg #[.int .i16 y, .int .i8 mo, .int .i8 d, .int .i8 h, .int .i8 m, .int .i8 s, .int .i16 z], .agg #[.int .i64 e, .int .i64 at_]])) W) : bodyPost Tryd.prog Tryd.f17 Q .ret a W := by
 have a0 : W.cell? ⟨w.heap.size, 0, none⟩ = some (.int .i16 y) := blk_cell f.r0 0
 have a1 : W.cell? ⟨w.heap.size, 1, none⟩ = some (.int .i8 mo) := blk_cell f.r0 1
 have a2 : W.cell? ⟨w.heap.size, 2, none⟩ = some (.int .i8 d) := blk_cell f.r0 2
 have a3 : W.cell? ⟨w.heap.size, 3, none⟩ = some (.int .i8 h) := blk_cell f.r0 3
 have a4 : W.cell? ⟨w.heap.size, 4, none⟩ = some (.int .i8 m) := blk_cell f.r0 4
 have a5 : W.cell? ⟨w.heap.size, 5, none⟩ = some (.int .i8 s) := blk_cell f.r0 5
 have a6 : W.cell? ⟨w.heap.size, 6, none⟩ = some (.int .i16 z) := blk_cell f.r0 6
 have b0 : W.cell? ⟨w.heap.size + 1, 0, none⟩ = some (.int .i64 e) := blk_cell f.r1 0
 have b1 : W.cell? ⟨w.heap.size + 1, 1, none⟩ = some (.int .i64 at_) := blk_cell f.r1 1
 exact bodyPost_ret (v := .tuple #[.agg #[.int .i16 y, .int .i8 mo, .int .i8 d, .int .i8 h, .int .i8 m, .int .i8 s, .int .i16 z], .agg #[.int .i64 e, .int .i64 at_]]) (by simp [results, Tryd.results17, go_sem, t2, t3, a0, a1, a2, a3, a4, a5, a6, b0, b1]) hd (hq f.bl)
theorem headP_ok {N : Nat} {l : List Int} (h : OK N l) : OK N (headP l).2 := by
 unfold headP
 split
 ·exact h
 ·split
  ·exact h
  ·split
   ·exact h.drop _
   ·exact ((h.drop _).drop _).drop _

end Go.Proofs.YtnmhkmkaklhapaaDoor.T
