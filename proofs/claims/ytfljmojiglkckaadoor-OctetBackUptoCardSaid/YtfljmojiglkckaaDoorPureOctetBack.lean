/- OctetBack, where what it reads is of bulk at most 1048576: numbers within their bound, and above it, and bytes, there and back. -/
import Derived.Test.YtfljmojiglkckaaDoorHex
import Derived.Test.YtfljmojiglkckaaDoorNum
import Derived.Test.YtfljmojiglkckaaDoorG11
namespace Go.Proofs.YtfljmojiglkckaaDoor.Pure
set_option linter.unusedVariables false
set_option linter.unusedSimpArgs false
open Go.RowKit Go.Proofs.YtfljmojiglkckaaDoor.G Go.Proofs.YtfljmojiglkckaaDoorW.PrintWords
open Go.Proofs.YtfljmojiglkckaaDoor.B Go.Proofs.YtfljmojiglkckaaDoor.I Go.Proofs.YtfljmojiglkckaaDoor.U Go.Proofs.YtfljmojiglkckaaDoor.H Go.Proofs.YtfljmojiglkckaaDoor.Glob Go.Proofs.YtfljmojiglkckaaDoor.Dec Go.Proofs.YtfljmojiglkckaaDoor.Nm

theorem back_j0 (l : List Int) (hl : InB l) (hs : l.length ≤ 1048576) : Ev (fun k => posthornlaw01_OctetBack.j0 k l false) true := by
  obtain ⟨u1, u2, u3⟩ := unhex_hex l hl
  have hb : bytesOf (strOfNums (hexL l)) = hexL l := bytesOf_strOfNums _ (hexL_in l hl)
  have hz : (strOfNums (hexL l)).size = 2 * l.length := by rw [strOfNums_len, hexL_len]
  have e : unhexR (strOfNums (hexL l)) = (l, 0, 0) := by
    unfold unhexR
    rw [hb, run_of_all u2, hexL_len, hz, if_neg (by omega), u1]
  refine Ev.round (f := fun k => (octet_HexOf.f k l).bind fun t => (octet_Unhex.f k t).bind fun b => if (t.size : Int) = wrap64 (2 * (l.length : Int)) then (if (b.2.1 == 0 && (b.2.2 == 0)) = true then (if (strOfNums b.1).toList = (strOfNums l).toList then ((octet_Upper.f k t).bind fun u => some (u.toList == t.toList)) else some false) else some false) else some false) (fun k => ?_) ?_
  · simp only [posthornlaw01_OctetBack.j0]
    rw [if_neg (by decide)]
  · refine Ev.bind (HexOf_ev l hl (by omega)) (Ev.bind (Unhex_ev _ (by rw [hz]; omega)) ?_)
    simp only [e, hz]
    rw [wrap_id _ (by omega) (by omega)]
    refine Ev.congr (f := fun k => (octet_Upper.f k (strOfNums (hexL l))).bind fun u => some (u.toList == (strOfNums (hexL l)).toList)) (fun k => ?_) (Ev.bind (Upper_ev _ (by rw [hz]; omega)) (Ev.val fun k => ?_))
    · rw [if_pos (by omega), if_pos (by decide), if_pos trivial]
    · rw [beq_toList]
      refine congrArg some (decide_eq_true ?_)
      unfold upS
      rw [hb, u3]

theorem back (n most : Int) (l : List Int) (hn0 : (Lit.int .u64 n).wf = true) (hm0 : (Lit.int .u64 most).wf = true) (hl : InB l) (hs : l.length ≤ 1048576) : ∃ k, posthornlaw01_OctetBack.f k n most l = some true := by
  have hn := wf_u64 hn0
  have hm := wf_u64 hm0
  obtain ⟨m, rfl⟩ := Int.eq_ofNat_of_zero_le hn.1
  apply Ev.rounds
  unfold posthornlaw01_OctetBack.f
  refine Ev.bind wakes_ev ?_
  simp only [if_true, Decimal_f _ hn0, Int.toNat_natCast, Option.bind_some]
  have hdl := decN_len 19 m (by omega)
  refine Ev.bind (Number_ev (decS m) most (by rw [decS_size]; omega) hm) ?_
  rw [numR_dec m (by omega)]
  refine Ev.congr (fun k => ?_) (back_j0 l hl hs)
  by_cases h : (m : Int) > most
  · rw [if_pos h, if_neg (by omega), if_pos h, if_pos rfl]
    rfl
  · rw [if_neg h, if_pos (by omega), if_pos rfl, if_pos rfl, if_neg h]

theorem OctetBack (a0 : Int) (a1 : Int) (a2 : Option Addr) (len2 cap2 : Nat) (z2 : List Int) (w : World) (w0 : (Lit.int .u64 a0).wf = true) (w1 : (Lit.int .u64 a1).wf = true) (w2 : (a2 = none ∧ len2 = 0 ∧ cap2 = 0 ∧ z2 = []) ∨ ∃ x, a2 = some x ∧ len2 ≤ cap2 ∧ cap2 ≤ maxLen ∧ z2.length = cap2 ∧ (∀ i, i < z2.length → w.cell? (x.add i) = some (.int .u8 (z2.getD i 0))) ∧ ∀ n ∈ z2, (Lit.int .u8 n).wf = true) (_y2 : len2 * 1 ≤ 140737488351232) (b2 : len2 ≤ 1048576) (HG : GOk w) :
    Calls Tryd.prog 11 #[.int .u64 a0, .int .u64 a1, .slice a2 len2 cap2] w fun e w' => e = .returned (.bool true) ∧ Below w.heap.size w w' := by
  obtain ⟨l2, rfl, hr2, hm2, hw2, hc2⟩ := ReadsInt.ofRowC w2
  obtain ⟨k, h⟩ := back a0 a1 l2 w0 w1 (fun x hx => wf_u8 (hw2 x hx)) b2
  refine (posthornlaw01_OctetBack.calls k a0 a1 _ _ l2 true w (Kd.C_of_reads (d := (0 : Int)) (h1 := fun _ => rfl) hr2) hc2 HG h).mono ?_
  rintro e w' ⟨rfl, hd⟩
  exact ⟨rfl, hd⟩
end Go.Proofs.YtfljmojiglkckaaDoor.Pure
