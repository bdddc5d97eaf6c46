/- DateMoments: one second, told in two zones, is that second in both. -/
import Derived.Test.YtnmhkmkaklhapaaDoorOfs
import Derived.Test.YtnmhkmkaklhapaaDoorH4
namespace Go.Proofs.YtnmhkmkaklhapaaDoor.Pure
set_option linter.unusedVariables false
set_option linter.unusedSimpArgs false
open Go.RowKit Go.Proofs.YtnmhkmkaklhapaaDoorW.PrintWords Go.Proofs.YtnmhkmkaklhapaaDoorW.PrintLast Go.Proofs.YtnmhkmkaklhapaaDoorW.PrintMore Go.Proofs.YtnmhkmkaklhapaaDoor.B Go.Proofs.YtnmhkmkaklhapaaDoor.H Go.Proofs.YtnmhkmkaklhapaaDoor.Cal Go.Proofs.YtnmhkmkaklhapaaDoor.Chk Go.Proofs.YtnmhkmkaklhapaaDoor.MN Go.Proofs.YtnmhkmkaklhapaaDoor.DP Go.Proofs.YtnmhkmkaklhapaaDoor.T
/-- What Of tells of a zone within a day: the error, or a date whose second is the one that was asked. -/
theorem of_facts (s z : Int) (hs : I64 s) (h1 : -1439 ≤ z) (h2 : z ≤ 1439) : ∃ y m d h mi se e, ofV s z = (y, m, d, h, mi, se, (if e = 0 then z else 0), e) ∧
    ((e = 5 ∧ y = 0 ∧ m = 0 ∧ d = 0 ∧ h = 0 ∧ mi = 0 ∧ se = 0 ∧ (s < -62135510000 ∨ s > 253402200000)) ∨ (e = 0 ∧ date_Seconds.f y m d h mi se z = some (s, 0))) := by
  unfold ofV
  rw [if_neg (by omega)]
  by_cases hc : s + 60 * z < -62135596800 ∨ s + 60 * z > 253402300799
  · rw [if_pos hc]
    exact ⟨0, 0, 0, 0, 0, 0, 5, rfl, .inl ⟨rfl, rfl, rfl, rfl, rfl, rfl, rfl, by omega⟩⟩
  · rw [if_neg hc]
    refine ⟨_, _, _, _, _, _, 0, rfl, .inr ⟨rfl, ?_⟩⟩
    generalize hl : s + 60 * z = l at *
    obtain ⟨f1, f2, f3, f4, f5, f6, f7, f8⟩ := civ_facts (l / 86400) (by omega) (by omega)
    unfold date_Seconds.f
    rw [if_pos ⟨⟨by omega, by omega⟩, ⟨by omega, by omega⟩, ⟨by omega, by omega⟩, ⟨by omega, by omega⟩, ⟨by omega, by omega⟩, ⟨by omega, by omega⟩, by omega, by omega⟩]
    have hk : chkV (civV (l / 86400)).1 (civV (l / 86400)).2.1 (civV (l / 86400)).2.2.1 (l % 86400 / 3600) (l % 86400 / 60 % 60) (l % 60) z = 0 := by
      unfold chkV timeOk
      rw [if_neg (by rw [f1]; decide), if_neg (by simp; omega), if_neg (by omega)]
    unfold secT
    rw [if_pos hk]
    unfold secV
    rw [f2]
    refine congrArg some (Prod.ext ?_ rfl)
    show l / 86400 * 86400 + l % 86400 / 3600 * 3600 + l % 86400 / 60 % 60 * 60 + l % 60 - z * 60 = s
    omega
theorem tm2 (n : Int) : -1439 ≤ n.tmod 1440 ∧ n.tmod 1440 ≤ 1439 := by
  by_cases h : 0 ≤ n
  · rw [Int.tmod_eq_emod_of_nonneg h]; omega
  · obtain ⟨y, rfl⟩ : ∃ y, n = -y := ⟨-n, by omega⟩
    rw [Int.neg_tmod, Int.tmod_eq_emod_of_nonneg (by omega)]
    omega
theorem DateMoments : posthornlaw06_DateMoments.Pure := by
  intro s one two hs h1 h2
  have hs := wf_i64 hs
  have h : Ev (fun k => posthornlaw06_DateMoments.f k s one two) true := by
    have t1 := tm2 one
    have t2 := tm2 two
    unfold posthornlaw06_DateMoments.f
    generalize hza : one.tmod 1440 = za at *
    generalize hzb : two.tmod 1440 = zb at *
    obtain ⟨y, m, d, hh, mi, se, e, ea, fa⟩ := of_facts s za hs t1.1 t1.2
    obtain ⟨y', m', d', hh', mi', se', e', eb, fb⟩ := of_facts s zb hs t2.1 t2.2
    have oa := Of_ev s za hs ⟨by omega, by omega⟩
    have ob := Of_ev s zb hs ⟨by omega, by omega⟩
    rw [ea] at oa
    rw [eb] at ob
    unfold posthornlaw06_head.f
    refine Ev.congr (fun k => by rw [bind_some', if_pos rfl]) (Ev.bind oa (Ev.bind ob ?_))
    rcases fa with ⟨rfl, rfl, rfl, rfl, rfl, rfl, rfl, hr⟩ | ⟨rfl, ha⟩
    · refine Ev.congr (fun k => if_neg (show ¬ (5 : Int) = 0 by decide)) (Ev.last fun k => ?_)
      rw [posthornlaw06_DateMoments.j0]
      have hd : s < -62135510000 ∨ (¬ s < -62135510000 ∧ decide (s > 253402200000) = true) := by
        rcases hr with h | h
        · exact .inl h
        · exact .inr ⟨by omega, decide_eq_true h⟩
      rcases fb with ⟨rfl, rfl, rfl, rfl, rfl, rfl, rfl, hr'⟩ | ⟨rfl, hb⟩
      · rcases hd with h | ⟨h, h'⟩
        · simp [h]
        · simp [h, h'] <;> omega
      · rcases hd with h | ⟨h, h'⟩
        · simp [h]
        · simp [h, h'] <;> omega
    · rcases fb with ⟨rfl, rfl, rfl, rfl, rfl, rfl, rfl, hr⟩ | ⟨rfl, hb⟩
      · refine Ev.congr (fun k => if_pos rfl) (Ev.last fun k => ?_)
        rw [posthornlaw06_DateMoments.j0]
        rcases hr with h | h
        · simp [h]
        · simp <;> omega
      · refine Ev.congr (fun k => if_pos rfl) (Ev.last fun k => ?_)
        simp only [if_true] at *
        rw [posthornlaw06_DateMoments.j0]
        rw [if_neg (by decide), ha, bind_some', hb, bind_some', hza, hzb]
        simp
  exact h.rounds
end Go.Proofs.YtnmhkmkaklhapaaDoor.Pure
