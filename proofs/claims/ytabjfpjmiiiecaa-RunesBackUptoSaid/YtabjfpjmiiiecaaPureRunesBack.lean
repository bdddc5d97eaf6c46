/- RunesBack, where what it reads is of bulk at most 1048576: decoded and encoded again, encoded and decoded again. -/
import Derived.Test.YtabjfpjmiiiecaaE3
import Derived.Test.YtabjfpjmiiiecaaRunEq
import Derived.Test.YtabjfpjmiiiecaaRunE
namespace Go.Proofs.Ytabjfpjmiiiecaa.Pure
set_option linter.unusedVariables false
set_option linter.unusedSimpArgs false
open Go.RowKit Go.Proofs.Ytabjfpjmiiiecaa.E Go.Proofs.YtabjfpjmiiiecaaW.PrintWords Go.Proofs.YtabjfpjmiiiecaaW.PrintLast Go.Proofs.YtabjfpjmiiiecaaW.PrintMore
open Go.Proofs.Ytabjfpjmiiiecaa.B Go.Proofs.Ytabjfpjmiiiecaa.MN Go.Proofs.Ytabjfpjmiiiecaa.WK Go.Proofs.Ytabjfpjmiiiecaa.DE Go.Proofs.Ytabjfpjmiiiecaa.CK Go.Proofs.Ytabjfpjmiiiecaa.RQ Go.Proofs.Ytabjfpjmiiiecaa.EN

theorem encL_len : ∀ (l : List Int), (encL l).length ≤ 4 * l.length
  | [] => Nat.le_refl _
  | x :: t => by
    have hw := wr_len x
    have ih := encL_len t
    rw [encL_cons, List.length_append, List.length_cons]
    omega
theorem back_j0 (l : List Int) (hl : l.length ≤ 1048576) (hr : ∀ x ∈ l, -2147483648 ≤ x ∧ x ≤ 2147483647) : Ev (fun k => posthornlaw05_RunesBack.j0 k l) true := by
  refine Ev.round (fun k => by rw [posthornlaw05_RunesBack.j0]) ?_
  refine Ev.bind (encode_ev l (by omega)) ?_
  refine Ev.bind (refEncode_ev l (by omega) hr) ?_
  refine Ev.congr (fun k => by rw [if_neg (by rw [beq_self_eq_true, beq_self_eq_true]; decide)]) ?_
  rcases encV_or l [] 0 with h | ⟨j, hj, h⟩
  · have e : encodeV l = (strOfNums (encL l), 0, 0) := by
      have := encV_yes l [] 0 h
      rw [List.nil_append] at this
      exact this
    rw [e]
    have hin := encL_in l h
    have hlen := encL_len l
    have hsz : (strOfNums (encL l)).size = (encL l).length := strOfNums_len _
    have hb : bytesOf (strOfNums (encL l)) = encL l := bytesOf_strOfNums _ hin
    have hbad : badV (strOfNums (encL l)).size (bytesOf (strOfNums (encL l))) = (strOfNums (encL l)).size := by rw [hsz, hb]; exact bad_enc l _ h (Nat.le_refl _)
    have hdec : decL (strOfNums (encL l)) (strOfNums (encL l)).size 0 = l := dec_enc _ l _ 0 h (by rw [List.drop_zero, hb]) (by omega) (Nat.zero_le _)
    have e1 : runes_Decode.f (strOfNums (encL l)) = some (l, 0, 0) := by
      unfold runes_Decode.f decodeV
      rw [if_pos (by omega), if_neg (by omega), hdec]
    refine Ev.congr (fun k => by rw [if_pos rfl, e1, bind_some', if_pos rfl]) ?_
    refine Ev.bind (eq_ev l (by omega)) ?_
    exact Ev.val fun k => rfl
  · have e : encodeV l = ((⟨#[]⟩ : ByteArray), 50, (j : Int)) := by
      have := h
      rw [Nat.zero_add] at this
      exact this
    rw [e]
    exact Ev.val fun k => by dsimp only; rw [if_neg (show ¬ (50 : Int) = 0 by decide), if_pos (show (⟨#[]⟩ : ByteArray).toList = [] by rw [toList_data]), if_pos (by omega), if_pos (by omega)]; rfl
theorem RunesBack (a0 : ByteArray) (a1 : Option Addr) (len1 cap1 : Nat) (z1 : List Int) (w : World) (w0 : a0.size ≤ 140737488351232) (w1 : (a1 = none ∧ len1 = 0 ∧ cap1 = 0 ∧ z1 = []) ∨ ∃ x, a1 = some x ∧ len1 ≤ cap1 ∧ cap1 ≤ maxLen ∧ z1.length = cap1 ∧ (∀ i, i < z1.length → w.cell? (x.add i) = some (.int .i32 (z1.getD i 0))) ∧ ∀ n ∈ z1, (Lit.int .i32 n).wf = true) (_y1 : len1 * 4 ≤ 140737488351232) (b0 : a0.size ≤ 1048576) (b1 : len1 ≤ 1048576) :
    Calls Try.prog 7 #[.string a0, .slice a1 len1 cap1] w fun e w' => e = .returned (.bool true) ∧ Below w.heap.size w w' := by
  obtain ⟨l, rfl, hr, hm, hw, hc⟩ := ReadsInt.ofRowC w1
  have hC := Kd.C_of_reads (d := (0 : Int)) (h1 := fun _ => rfl) hr
  have hin : ∀ x ∈ l, -2147483648 ≤ x ∧ x ≤ 2147483647 := fun x hx => wf_i32 (hw x hx)
  obtain ⟨k, hk⟩ : Ev (fun k => posthornlaw05_RunesBack.f k a0 l) true := by
    unfold posthornlaw05_RunesBack.f
    have e1 : runes_Decode.f a0 = some (decodeV a0) := by unfold runes_Decode.f; rw [if_pos (by omega)]
    have hle := bad_le a0.size (bytesOf a0)
    rw [bytesOf_len] at hle
    refine Ev.congr (fun k => by rw [e1, bind_some']) ?_
    unfold decodeV
    by_cases hb : badV a0.size (bytesOf a0) < a0.size
    · rw [if_pos hb]
      refine Ev.congr (fun k => by rw [if_neg (show ¬ (50 : Int) = 0 by decide)]) ?_
      refine Ev.bind (bad_same a0 (by omega)) ?_
      exact Ev.congr (fun k => by dsimp only; rw [if_pos rfl, if_neg (by omega), if_pos (show (([] : List Int).length : Int) = 0 by decide)]) (back_j0 l b1 hin)
    · rw [if_neg hb]
      have hbe : badV a0.size (bytesOf a0) = a0.size := by omega
      have h2 := enc_dec a0 a0.size 0 (Nat.zero_le _) (by omega) (by rw [List.drop_zero]; omega)
      rw [List.drop_zero] at h2
      have e : encodeV (decL a0 a0.size 0) = (a0, 0, 0) := by
        have h3 := encV_yes (decL a0 a0.size 0) [] 0 h2.2
        rw [List.nil_append, h2.1, strOfNums_bytesOf] at h3
        exact h3
      have hdl := decL_len a0 a0.size 0
      have he := encode_ev (decL a0 a0.size 0) (by omega)
      rw [e] at he
      refine Ev.congr (fun k => by rw [if_pos rfl]) ?_
      refine Ev.bind he ?_
      refine Ev.congr (fun k => by rw [if_pos rfl, if_pos rfl]) ?_
      refine Ev.bind (bad_same a0 (by omega)) ?_
      exact Ev.congr (fun k => by rw [if_pos (by omega)]) (back_j0 l b1 hin)
  exact posthornlaw05_RunesBack.calls k a0 a1 cap1 l true w hC hc (hk k (Nat.le_refl _))
end Go.Proofs.Ytabjfpjmiiiecaa.Pure
