/- Print of both sides of a date that may not be: the error. -/
import Derived.Test.YtnmhkmkaklhapaaDoorRPrint
namespace Go.Proofs.YtnmhkmkaklhapaaDoor.DP
set_option linter.unusedVariables false
set_option linter.unusedSimpArgs false
open Go.RowKit Go.Proofs.YtnmhkmkaklhapaaDoorW.PrintWords Go.Proofs.YtnmhkmkaklhapaaDoorW.PrintLast Go.Proofs.YtnmhkmkaklhapaaDoorW.PrintMore Go.Proofs.YtnmhkmkaklhapaaDoor.B Go.Proofs.YtnmhkmkaklhapaaDoor.Cal Go.Proofs.YtnmhkmkaklhapaaDoor.Chk Go.Proofs.YtnmhkmkaklhapaaDoor.MN Go.Proofs.YtnmhkmkaklhapaaDoor.T Go.Proofs.YtnmhkmkaklhapaaDoor.M Go.Proofs.YtnmhkmkaklhapaaDoor.Dec
theorem chk_bounds {y mo d h m s z : Int} (hc : chkV y mo d h m s z = 0) : (1 ≤ y ∧ y ≤ 9999) ∧ (1 ≤ mo ∧ mo ≤ 12) ∧ (1 ≤ d ∧ d ≤ 31) ∧ (0 ≤ h ∧ h ≤ 23) ∧ (0 ≤ m ∧ m ≤ 59) ∧ (0 ≤ s ∧ s ≤ 59) ∧ (-1439 ≤ z ∧ z ≤ 1439) := by
  unfold chkV at hc
  split at hc
  · cases hc
  · rename_i h1
    split at hc
    · cases hc
    · rename_i h2
      split at hc
      · cases hc
      · have a := of_decide_eq_true (Bool.of_not_eq_false h1)
        have b := of_decide_eq_true (Bool.of_not_eq_false h2)
        have c := long_range y.toNat mo.toNat
        unfold longI at a
        omega
set_option maxHeartbeats 1000000 in
set_option maxRecDepth 100000 in
theorem print_err (y mo d h m s z c : Int) (hI : allI y mo d h m s z) (hc : chkV y mo d h m s z = c) (h0 : c ≠ 0) (w : World) :
    Calls Tryd.prog 28 #[.agg #[.int .i16 y, .int .i8 mo, .int .i8 d, .int .i8 h, .int .i8 m, .int .i8 s, .int .i16 z]] w fun e w' => e = .returned (.tuple #[.string (⟨#[]⟩ : ByteArray), .int .i64 c]) ∧ Below w.heap.size w w' := by
  have hck : date_Check.f y mo d h m s z = some c := by unfold date_Check.f; rw [if_pos ⟨hI.1, hI.2.1, hI.2.2.1⟩, hc]
  have t0 : (c != 0) = true := bne_iff_ne.2 h0
  have HC := Aside0.mk hck
  clear hck hc h0 hI
  go_enter Tryd.func28, Tryd.ntmps28
  go_wp2_with (first
    | ((go_at_call 29); (with_reducible refine (date_Check.calls y mo d h m s z c _ HC.out).mono ?_); rintro e w1 ⟨rfl, hb⟩; have HB := Aside0.mk ((below_alloc (Below.refl _ _) _ : Below w.heap.size w (w.alloc (.cells #[.int .i16 y, .int .i8 mo, .int .i8 d, .int .i8 h, .int .i8 m, .int .i8 s, .int .i16 z] 30))).trans (hb.mono (by simp))); clear hb))
  go_ret2
  exact ⟨rfl, HB.out⟩
set_option maxHeartbeats 1000000 in
set_option maxRecDepth 100000 in
theorem rprint_err (y mo d h m s z c : Int) (hI : allI y mo d h m s z) (hc : chkV y mo d h m s z = c) (h0 : c ≠ 0) (w : World) :
    Calls Tryd.prog 27 #[.agg #[.int .i16 y, .int .i8 mo, .int .i8 d, .int .i8 h, .int .i8 m, .int .i8 s, .int .i16 z]] w fun e w' => e = .returned (.tuple #[.string (⟨#[]⟩ : ByteArray), .int .i64 c]) ∧ Below w.heap.size w w' := by
  have hck := fun w => refCheck_calls y mo d h m s z hI w
  rw [hc] at hck
  have t0 : (c != 0) = true := bne_iff_ne.2 h0
  have HC := Aside0.mk hck
  clear hck hc h0 hI
  go_enter Tryd.func27, Tryd.ntmps27
  go_wp2_with (first
    | ((go_at_call 30); (with_reducible refine (HC.out _).mono ?_); rintro e w1 ⟨rfl, hb⟩; have HB := Aside0.mk ((below_alloc (Below.refl _ _) _ : Below w.heap.size w (w.alloc (.cells #[.int .i16 y, .int .i8 mo, .int .i8 d, .int .i8 h, .int .i8 m, .int .i8 s, .int .i16 z] 30))).trans (hb.mono (by simp))); clear hb))
  go_ret2
  exact ⟨rfl, HB.out⟩
theorem rprint_calls (y mo d h m s z : Int) (hI : allI y mo d h m s z) (hc : chkV y mo d h m s z = 0) (w : World) :
    Calls Tryd.prog 27 #[.agg #[.int .i16 y, .int .i8 mo, .int .i8 d, .int .i8 h, .int .i8 m, .int .i8 s, .int .i16 z]] w fun e w' => e = .returned (.tuple #[.string (strOfNums (printL (wkV (daysV y mo d).1) y mo d h m s z)), .int .i64 0]) ∧ Below w.heap.size w w' :=
  rprint_way y mo d h m s z _ _ rfl hI hc (chk_bounds hc) rfl w
/-- What both Prints tell. -/
def printS (y mo d h m s z : Int) : ByteArray := if chkV y mo d h m s z = 0 then strOfNums (printL (wkV (daysV y mo d).1) y mo d h m s z) else ⟨#[]⟩
theorem print_all (y mo d h m s z c : Int) (hI : allI y mo d h m s z) (hc : chkV y mo d h m s z = c) (w : World) :
    Calls Tryd.prog 28 #[.agg #[.int .i16 y, .int .i8 mo, .int .i8 d, .int .i8 h, .int .i8 m, .int .i8 s, .int .i16 z]] w fun e w' => e = .returned (.tuple #[.string (printS y mo d h m s z), .int .i64 c]) ∧ Below w.heap.size w w' := by
  unfold printS
  by_cases h0 : c = 0
  · subst h0; rw [if_pos hc]; exact print_calls y mo d h m s z hI hc w
  · rw [if_neg (by rw [hc]; exact h0)]; exact print_err y mo d h m s z c hI hc h0 w
theorem rprint_all (y mo d h m s z c : Int) (hI : allI y mo d h m s z) (hc : chkV y mo d h m s z = c) (w : World) :
    Calls Tryd.prog 27 #[.agg #[.int .i16 y, .int .i8 mo, .int .i8 d, .int .i8 h, .int .i8 m, .int .i8 s, .int .i16 z]] w fun e w' => e = .returned (.tuple #[.string (printS y mo d h m s z), .int .i64 c]) ∧ Below w.heap.size w w' := by
  unfold printS
  by_cases h0 : c = 0
  · subst h0; rw [if_pos hc]; exact rprint_calls y mo d h m s z hI hc w
  · rw [if_neg (by rw [hc]; exact h0)]; exact rprint_err y mo d h m s z c hI hc h0 w
end Go.Proofs.YtnmhkmkaklhapaaDoor.DP
