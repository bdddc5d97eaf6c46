/- DateDressed, where what it reads is of bulk at most 1048576: capitals, wider gaps and a remark behind change nothing of what is read; nor is the weekday needed. -/
import Derived.Test.YtnmhkmkaklhapaaDoorBW
import Derived.Test.YtnmhkmkaklhapaaDoorPTY
import Derived.Test.YtnmhkmkaklhapaaDoorMF
namespace Go.Proofs.YtnmhkmkaklhapaaDoor.Pure
set_option linter.unusedVariables false
set_option linter.unusedSimpArgs false
open Go.RowKit Go.Proofs.YtnmhkmkaklhapaaDoorW.PrintWords Go.Proofs.YtnmhkmkaklhapaaDoorW.PrintLast Go.Proofs.YtnmhkmkaklhapaaDoorW.PrintMore Go.Proofs.YtnmhkmkaklhapaaDoor.B Go.Proofs.YtnmhkmkaklhapaaDoor.Cal Go.Proofs.YtnmhkmkaklhapaaDoor.Chk Go.Proofs.YtnmhkmkaklhapaaDoor.MN Go.Proofs.YtnmhkmkaklhapaaDoor.DP Go.Proofs.YtnmhkmkaklhapaaDoor.T Go.Proofs.YtnmhkmkaklhapaaDoor.Glob Go.Proofs.YtnmhkmkaklhapaaDoor.PT Go.Proofs.YtnmhkmkaklhapaaDoor.DR
theorem finL_in {out rem : List Int} (h : InB out) (hr : InB rem) : InB (finL out rem) := by
  intro x hx
  unfold finL at hx
  simp only [List.mem_append, List.mem_cons, List.not_mem_nil, or_false, List.mem_filter] at hx
  rcases hx with (rfl | rfl) | hx | (rfl | rfl) | hx | rfl | rfl
  all_goals first | decide | exact h x hx | exact hr x hx.1
theorem dr_in (mask w : Int) : ∀ (a : List Int) (i : Nat), InB a → InB (dr mask w a i) ∧ (dr mask w a i).length ≤ 4 * a.length
  | [], _, _ => ⟨fun x hx => (by cases hx), Nat.le_refl _⟩
  | c :: a, i, h => by
    obtain ⟨h1, h2⟩ := dr_in mask w a (i + 1) (fun x hx => h x (List.mem_cons_of_mem _ hx))
    have hc := h c List.mem_cons_self
    have hd : 0 ≤ dchar mask (i : Int) c ∧ dchar mask (i : Int) c ≤ 255 := by
      unfold dchar
      by_cases hb : isLet c = true ∧ bitB mask (i : Int) = true
      · rw [if_pos hb]
        have hl := of_decide_eq_true hb.1
        unfold Go.Proofs.YtnmhkmkaklhapaaDoor.DR.flip
        split <;> omega
      · rw [if_neg hb]; exact hc
    have hg : (gapN (w % 4).toNat).length ≤ 3 := by unfold gapN; rw [List.length_take]; simp; omega
    have hgi : InB (gapN (w % 4).toNat) := fun x hx => by have := List.mem_of_mem_take hx; simp at this; omega
    rw [dr]
    constructor
    · intro x hx
      rcases List.mem_append.1 hx with hx | hx
      · rcases List.mem_cons.1 hx with rfl | hx
        · exact hd
        · split at hx
          · exact hgi x hx
          · cases hx
      · exact h1 x hx
    · rw [List.length_append, List.length_cons, List.length_cons]
      split
      · omega
      · simp only [List.length_nil]; omega
theorem DateDressed (a0_0 a0_1 a0_2 a0_3 a0_4 a0_5 a0_6 : Int) (a0_7 : ByteArray) (w : World) (w0_0 : (Lit.int .i64 a0_0).wf = true) (w0_1 : (Lit.int .u8 a0_1).wf = true) (w0_2 : (Lit.int .u8 a0_2).wf = true) (w0_3 : (Lit.int .u8 a0_3).wf = true) (w0_4 : (Lit.int .i16 a0_4).wf = true) (_w0_5 : (Lit.int .u64 a0_5).wf = true) (w0_6 : (Lit.int .u8 a0_6).wf = true) (b0 : a0_7.size ≤ 1048576) (HG : GOk w) :
    Calls Tryd.prog 11 #[.agg #[.int .i64 a0_0, .int .u8 a0_1, .int .u8 a0_2, .int .u8 a0_3, .int .i16 a0_4, .int .u64 a0_5, .int .u8 a0_6, .string a0_7]] w fun e w' => e = .returned (.bool true) ∧ Below w.heap.size w w' := by
  have hn := wf_i64 w0_0
  have hh := wf_u8 w0_1
  have hm := wf_u8 w0_2
  have hs := wf_u8 w0_3
  have hz := wf_i16 w0_4
  obtain ⟨f1, f2, f3, f4, f5, f6, f7⟩ := made_facts a0_0 a0_1 a0_2 a0_3 a0_4
  have tz := tmz a0_4
  have hmade : posthornlaw06_made.f a0_0 a0_1 a0_2 a0_3 a0_4 = some ((civV (a0_0 % 3652059 - 719162)).1, (civV (a0_0 % 3652059 - 719162)).2.1, (civV (a0_0 % 3652059 - 719162)).2.2.1, a0_1 % 24, a0_2 % 60, a0_3 % 60, a0_4.tmod 1440) := if_pos ⟨hn, hh, hm, hs, hz⟩
  generalize (civV (a0_0 % 3652059 - 719162)).1 = y at *
  generalize (civV (a0_0 % 3652059 - 719162)).2.1 = mo at *
  generalize (civV (a0_0 % 3652059 - 719162)).2.2.1 = d at *
  have b1 : 0 ≤ a0_1 % 24 ∧ a0_1 % 24 ≤ 23 := by omega
  have b2 : 0 ≤ a0_2 % 60 ∧ a0_2 % 60 ≤ 59 := by omega
  have b3 : 0 ≤ a0_3 % 60 ∧ a0_3 % 60 ≤ 59 := by omega
  generalize a0_1 % 24 = h at *
  generalize a0_2 % 60 = m at *
  generalize a0_3 % 60 = s at *
  generalize a0_4.tmod 1440 = z at *
  have hpl := printL_in (wkV (daysV y mo d).1) y mo d h m s z f5 f6 f7 b1 b2 b3 tz (wk_range _)
  have hlong := printL_long (wkV (daysV y mo d).1) y mo d h m s z (wk_range _)
  have hd1 := parse_dressed a0_5 a0_6 (bytesOf a0_7) y mo d h m s z f5 f6 f7 b1 b2 b3 tz f2
  have hd2 := parse_behind y mo d h m s z f5 f6 f7 b1 b2 b3 tz f2
  have hpr := print_calls y mo d h m s z f1 f2
  generalize printL (wkV (daysV y mo d).1) y mo d h m s z = L at *
  have hds := dr_in a0_5 a0_6 L 0 hpl.1
  obtain ⟨k, hk⟩ := dressed_ev (strOfNums L) a0_7 a0_5 a0_6 (wf_u8 w0_6) (by rw [strOfNums_len]; omega) b0
  rw [bytesOf_strOfNums _ hpl.1] at hk
  have hri := bytesOf_in a0_7
  have hfi := finL_in hds.1 hri
  have hfl : (finL (dr a0_5 a0_6 L 0) (bytesOf a0_7)).length ≤ 2000000 := by
    unfold finL
    simp only [List.length_append, List.length_cons, List.length_nil]
    have := List.length_filter_le okR (bytesOf a0_7)
    rw [bytesOf_len] at this
    omega
  have hp1 : date_Parse.f (strOfNums (finL (dr a0_5 a0_6 L 0) (bytesOf a0_7))) = some (y, mo, d, h, m, s, z, 0, 0) := by
    unfold date_Parse.f
    rw [if_pos (by rw [strOfNums_len]; omega), bytesOf_strOfNums _ hfi, hd1]
    rfl
  have hdi : InB (L.drop 5) := fun x hx => hpl.1 x (List.mem_of_mem_drop hx)
  have hp2 : date_Parse.f (strOfNums (L.drop 5)) = some (y, mo, d, h, m, s, z, 0, 0) := by
    unfold date_Parse.f
    rw [if_pos (by rw [strOfNums_len, List.length_drop]; omega), bytesOf_strOfNums _ hdi, hd2]
    rfl
  have he : (strOfNums L).extract 5 (strOfNums L).size = strOfNums (L.drop 5) := by
    rw [strOfNums_len]
    have := cut_is L hpl.1 5 L.length (Nat.le_refl _)
    rw [this, List.take_of_length_le (by rw [List.length_drop]; omega)]
  exact dressed_walk a0_0 a0_1 a0_2 a0_3 a0_4 a0_5 a0_6 y mo d h m s z a0_7 _ _ _ hmade hpr (by rw [strOfNums_len]; exact hlong) he (fun w => R.posthornlaw06_dressed.calls k _ _ _ _ _ w (hk k (Nat.le_refl _))) hp1 hp2 w HG
end Go.Proofs.YtnmhkmkaklhapaaDoor.Pure
