/- DateBack: what is written is read as it was; a date's second is told as this date. -/
import Derived.Test.YtnmhkmkaklhapaaDoorBackW
import Derived.Test.YtnmhkmkaklhapaaDoorPTX
import Derived.Test.YtnmhkmkaklhapaaDoorOf1
namespace Go.Proofs.YtnmhkmkaklhapaaDoor.Pure
set_option linter.unusedVariables false
set_option linter.unusedSimpArgs false
open Go.RowKit Go.Proofs.YtnmhkmkaklhapaaDoorW.PrintWords Go.Proofs.YtnmhkmkaklhapaaDoorW.PrintLast Go.Proofs.YtnmhkmkaklhapaaDoorW.PrintMore Go.Proofs.YtnmhkmkaklhapaaDoor.B Go.Proofs.YtnmhkmkaklhapaaDoor.Cal Go.Proofs.YtnmhkmkaklhapaaDoor.Chk Go.Proofs.YtnmhkmkaklhapaaDoor.MN Go.Proofs.YtnmhkmkaklhapaaDoor.DP Go.Proofs.YtnmhkmkaklhapaaDoor.T Go.Proofs.YtnmhkmkaklhapaaDoor.Glob Go.Proofs.YtnmhkmkaklhapaaDoor.PT
theorem DateBack (a0_0 a0_1 a0_2 a0_3 a0_4 : Int) (w : World) (w0_0 : (Lit.int .i64 a0_0).wf = true) (w0_1 : (Lit.int .u8 a0_1).wf = true) (w0_2 : (Lit.int .u8 a0_2).wf = true) (w0_3 : (Lit.int .u8 a0_3).wf = true) (w0_4 : (Lit.int .i16 a0_4).wf = true) (HG : GOk w) :
    Calls Tryd.prog 12 #[.agg #[.int .i64 a0_0, .int .u8 a0_1, .int .u8 a0_2, .int .u8 a0_3, .int .i16 a0_4]] w fun e w' => e = .returned (.bool true) ∧ Below w.heap.size w w' := by
  have hn := wf_i64 w0_0
  have hh := wf_u8 w0_1
  have hm := wf_u8 w0_2
  have hs := wf_u8 w0_3
  have hz := wf_i16 w0_4
  obtain ⟨f1, f2, f3, f4, f5, f6, f7⟩ := made_facts a0_0 a0_1 a0_2 a0_3 a0_4
  have tz := tmz a0_4
  have hmade : posthornlaw06_made.f a0_0 a0_1 a0_2 a0_3 a0_4 = some ((civV (a0_0 % 3652059 - 719162)).1, (civV (a0_0 % 3652059 - 719162)).2.1, (civV (a0_0 % 3652059 - 719162)).2.2.1, a0_1 % 24, a0_2 % 60, a0_3 % 60, a0_4.tmod 1440) := if_pos ⟨hn, hh, hm, hs, hz⟩
  obtain ⟨n, en⟩ : ∃ n, a0_0 % 3652059 - 719162 = n := ⟨_, rfl⟩
  have n1 : -719162 ≤ n ∧ n ≤ 2932896 := by omega
  rw [en] at f1 f2 f3 f4 f5 f6 f7 hmade
  have hciv : date_Civil.f n = some ((civV n).1, (civV n).2.1, (civV n).2.2.1, 0) := by unfold date_Civil.f; rw [if_pos ⟨by omega, by omega⟩]; exact congrArg some (Prod.ext rfl (Prod.ext rfl (Prod.ext rfl (civ_in n1.1 n1.2))))
  generalize ey : (civV n).1 = y at *
  generalize em : (civV n).2.1 = mo at *
  generalize ed : (civV n).2.2.1 = d at *
  have b1 : 0 ≤ a0_1 % 24 ∧ a0_1 % 24 ≤ 23 := by omega
  have b2 : 0 ≤ a0_2 % 60 ∧ a0_2 % 60 ≤ 59 := by omega
  have b3 : 0 ≤ a0_3 % 60 ∧ a0_3 % 60 ≤ 59 := by omega
  generalize a0_1 % 24 = h at *
  generalize a0_2 % 60 = m at *
  generalize a0_3 % 60 = s at *
  generalize a0_4.tmod 1440 = z at *
  have hck : date_Check.f y mo d h m s z = some 0 := by unfold date_Check.f; rw [if_pos ⟨f1.1, f1.2.1, f1.2.2.1⟩, f2]
  have hdays : date_Days.f y mo d = some (n, 0) := by unfold date_Days.f; rw [if_pos ⟨f1.1, f1.2.1, f1.2.2.1⟩, f4]
  have hpp := parse_print y mo d h m s z f5 f6 f7 b1 b2 b3 tz f2
  have hpl := printL_in (wkV (daysV y mo d).1) y mo d h m s z f5 f6 f7 b1 b2 b3 tz (wk_range _)
  have hpa : date_Parse.f (strOfNums (printL (wkV (daysV y mo d).1) y mo d h m s z)) = some (y, mo, d, h, m, s, z, 0, 0) := by
    unfold date_Parse.f
    rw [if_pos (by rw [strOfNums_len]; have := hpl.2; omega), bytesOf_strOfNums _ hpl.1, hpp]
    rfl
  have ho : ofV (n * 86400 + h * 3600 + m * 60 + s - z * 60) z = (y, mo, d, h, m, s, z, 0) := by
    unfold ofV
    rw [if_neg (by omega)]
    have e0 : n * 86400 + h * 3600 + m * 60 + s - z * 60 + 60 * z = n * 86400 + (h * 3600 + m * 60 + s) := by omega
    rw [e0, if_neg (by omega)]
    have q1 : (n * 86400 + (h * 3600 + m * 60 + s)) / 86400 = n := by omega
    have q2 : (n * 86400 + (h * 3600 + m * 60 + s)) % 86400 = h * 3600 + m * 60 + s := by omega
    have q3 : (n * 86400 + (h * 3600 + m * 60 + s)) % 60 = s := by omega
    have q4 : (h * 3600 + m * 60 + s) / 3600 = h := by omega
    have q5 : (h * 3600 + m * 60 + s) / 60 % 60 = m := by omega
    rw [q1, q2, q3, q4, q5, ey, em, ed]
  obtain ⟨k, hk⟩ := Of_ev (n * 86400 + h * 3600 + m * 60 + s - z * 60) z ⟨by omega, by omega⟩ ⟨by omega, by omega⟩
  rw [ho] at hk
  have hof : ∀ w, Calls Tryd.prog 32 #[.int .i64 (n * 86400 + h * 3600 + m * 60 + s - z * 60), .int .i16 z] w fun e w' => e = .returned (.tuple #[.agg #[.int .i16 y, .int .i8 mo, .int .i8 d, .int .i8 h, .int .i8 m, .int .i8 s, .int .i16 z], .int .i64 0]) ∧ Below w.heap.size w w' := fun w => F.date_Of.calls k _ _ _ _ _ _ _ _ _ _ w (hk k (Nat.le_refl _))
  exact back_walk a0_0 a0_1 a0_2 a0_3 a0_4 y mo d h m s z _ n _ hmade hck (print_calls y mo d h m s z f1 f2) hpa f3 hof hdays hciv w HG
end Go.Proofs.YtnmhkmkaklhapaaDoor.Pure
