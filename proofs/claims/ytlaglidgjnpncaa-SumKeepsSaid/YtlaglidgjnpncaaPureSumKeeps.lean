/- SumKeeps: what is handed in stays, with the room behind it, and is not kept: the same list, written over, is summed anew. -/
import Derived.Test.YtlaglidgjnpncaaSumKeepsL
import Derived.Test.YtlaglidgjnpncaaSumQH
namespace Go.Proofs.Ytlaglidgjnpncaa.Pure
set_option linter.unusedVariables false
set_option linter.unusedSimpArgs false
open Go.RowKit Go.Proofs.Ytlaglidgjnpncaa.H Go.Proofs.YtlaglidgjnpncaaW.PrintWords Go.Proofs.YtlaglidgjnpncaaW.PrintLast Go.Proofs.YtlaglidgjnpncaaW.PrintMore
open Go.Proofs.Ytlaglidgjnpncaa.B Go.Proofs.Ytlaglidgjnpncaa.SumF Go.Proofs.Ytlaglidgjnpncaa.SumP Go.Proofs.Ytlaglidgjnpncaa.Crc

theorem roomy_loop (l : List Int) (hl : l.length ≤ 140737488351232) (d : Nat) : ∀ j, j + d = 80 → Ev (fun k => posthornlaw02_roomy.l0 k (l ++ List.replicate j 165) (j : Int)) (marked l) := by
  induction d with
  | zero =>
    intro j hj
    obtain rfl : j = 80 := by omega
    refine Ev.last fun k => ?_
    simp only [posthornlaw02_roomy.l0]
    rw [if_neg (by omega)]; rfl
  | succ d ih =>
    intro j hj
    have key := ih (j + 1) (by omega)
    rw [List.replicate_succ', ← List.append_assoc] at key
    refine Ev.round (fun k => ?_) key
    simp only [posthornlaw02_roomy.l0]
    rw [if_pos (by omega), if_pos (by simp; omega), wrap_id _ (by omega) (by omega)]; rfl
theorem roomy_ev (l : List Int) (hl : l.length ≤ 140737488351232) : Ev (fun k => posthornlaw02_roomy.f k l) (marked l) := by
  have hc : slices_Clone_byte_byte.f l = some l := if_pos (by omega)
  have key := roomy_loop l hl 80 0 (by omega)
  rw [List.replicate_zero, List.append_nil] at key
  refine Ev.congr (fun k => ?_) key
  unfold posthornlaw02_roomy.f
  rw [hc, bind_some']; rfl
theorem equal_loop (l : List Int) (hl : l.length ≤ 9223372036854775806) (d : Nat) : ∀ j, j + d = l.length → Ev (fun k => slices_Equal_byte_byte.l0 k l l (l.length : Int) (j : Int)) true := by
  induction d with
  | zero =>
    intro j hj
    refine Ev.last fun k => ?_
    simp only [slices_Equal_byte_byte.l0]
    rw [if_neg (by omega)]
  | succ d ih =>
    intro j hj
    refine Ev.round (fun k => ?_) (ih (j + 1) (by omega))
    simp only [slices_Equal_byte_byte.l0]
    have h1 : (j : Int) < (l.length : Int) := by omega
    have h2 : (0 : Int) ≤ (j : Int) := by omega
    simp only [h1, h2, if_true]
    rw [wrap_id _ (by omega) (by omega)]; rfl
theorem equal_ev (l : List Int) (hl : l.length ≤ 9223372036854775806) : Ev (fun k => slices_Equal_byte_byte.f k l l) true := by
  refine Ev.congr (fun k => ?_) (equal_loop l hl l.length 0 (by omega))
  unfold slices_Equal_byte_byte.f
  rw [if_pos rfl]; rfl
theorem set_in (l : List Int) (h : InB l) (v : Int) (hv : 0 ≤ v ∧ v ≤ 255) (i : Nat) : InB (l.set i v) := by
  intro x hx
  rcases List.mem_or_eq_of_mem_set hx with hx | rfl
  · exact h x hx
  · exact hv
theorem xor8_in' (v p : Int) : 0 ≤ Go.bits .xor .u8 v p ∧ Go.bits .xor .u8 v p ≤ 255 := by
  show 0 ≤ IntKind.u8.wrap (((BitVec.ofInt 8 v ^^^ BitVec.ofInt 8 p).toNat : Nat) : Int) ∧ IntKind.u8.wrap (((BitVec.ofInt 8 v ^^^ BitVec.ofInt 8 p).toNat : Nat) : Int) ≤ 255
  rw [IntKind.wrap_u8]; omega

theorem SumKeeps (a0 : Option Addr) (len0 cap0 : Nat) (z0 : List Int) (a1 : Option Addr) (len1 cap1 : Nat) (z1 : List Int) (a2 : Int) (w : World) (w0 : (a0 = none ∧ len0 = 0 ∧ cap0 = 0 ∧ z0 = []) ∨ ∃ x, a0 = some x ∧ len0 ≤ cap0 ∧ cap0 ≤ maxLen ∧ z0.length = cap0 ∧ (∀ i, i < z0.length → w.cell? (x.add i) = some (.int .u8 (z0.getD i 0))) ∧ ∀ n ∈ z0, (Lit.int .u8 n).wf = true) (_y0 : len0 * 1 ≤ 140737488351232)
    (w1 : (a1 = none ∧ len1 = 0 ∧ cap1 = 0 ∧ z1 = []) ∨ ∃ x, a1 = some x ∧ len1 ≤ cap1 ∧ cap1 ≤ maxLen ∧ z1.length = cap1 ∧ (∀ i, i < z1.length → w.cell? (x.add i) = some (.int .u8 (z1.getD i 0))) ∧ ∀ n ∈ z1, (Lit.int .u8 n).wf = true) (_y1 : len1 * 1 ≤ 140737488351232) (w2 : (Lit.int .u32 a2).wf = true) :
    Calls Try.prog 10 #[.slice a0 len0 cap0, .slice a1 len1 cap1, .int .u32 a2] w fun e w' => e = .returned (.bool true) ∧ Below w.heap.size w w' := by
  obtain ⟨b, rfl, hr, hm, hw, hc⟩ := ReadsInt.ofRowC w0
  obtain ⟨ot, rfl, hr1, hm1, hw1, hc1⟩ := ReadsInt.ofRowC w1
  have hb : InB b := fun x hx => wf_u8 (hw x hx)
  have ho : InB ot := fun x hx => wf_u8 (hw1 x hx)
  have hC := Kd.C_of_reads (d := (0 : Int)) (h1 := fun _ => rfl) hr
  have hC1 := Kd.C_of_reads (d := (0 : Int)) (h1 := fun _ => rfl) hr1
  obtain ⟨nw, hnw⟩ : ∃ nw, nw = ot.take (min ot.length b.length) ++ b.drop (min ot.length b.length) := ⟨_, rfl⟩
  have hlen : nw.length = b.length := by rw [hnw]; simp; omega
  have hinw : InB nw := by
    intro x hx
    rw [hnw] at hx
    rcases List.mem_append.1 hx with hx | hx
    · exact ho x (List.mem_of_mem_take hx)
    · exact hb x (List.mem_of_mem_drop hx)
  obtain ⟨K1, e1⟩ := roomy_ev b (by omega)
  obtain ⟨K2, e2⟩ := refOf_ev b (by omega) hb
  have e3 := More_w a2 b hb
  obtain ⟨K4, e4⟩ := refMore_ev a2 b (by omega) hb
  obtain ⟨K5, e5⟩ := equal_ev (marked b) (by rw [marked_len]; omega)
  have key : ∀ n2 : List Int, InB n2 → n2.length = b.length → ∃ K, ∀ k, K ≤ k → posthornlaw02_roomy.f k n2 = some (marked n2) ∧ posthornref02_Of.f k n2 = some (crc n2) ∧ sum_More.f a2 n2 = some (ofW (more (toW a2) (ws n2))) ∧ posthornref02_More.f k a2 n2 = some (ofW (more (toW a2) (ws n2))) ∧ slices_Equal_byte_byte.f k (marked n2) (marked n2) = some true ∧ posthornref02_More.f k (crc b) n2 = some (crc (b ++ n2)) := by
    intro n2 hi hl
    obtain ⟨J1, f1⟩ := roomy_ev n2 (by omega)
    obtain ⟨J2, f2⟩ := refOf_ev n2 (by omega) hi
    obtain ⟨J4, f4⟩ := refMore_ev a2 n2 (by omega) hi
    obtain ⟨J5, f5⟩ := equal_ev (marked n2) (by rw [marked_len]; omega)
    obtain ⟨J6, f6⟩ := refMore_ev (crc b) n2 (by omega) hi
    refine ⟨J1 + J2 + J4 + J5 + J6, fun k hk => ⟨f1 k (by omega), f2 k (by omega), More_w a2 n2 hi, f4 k (by omega), f5 k (by omega), ?_⟩⟩
    have h6 := f6 k (by omega)
    have e : crc (b ++ n2) = ofW (more (toW (crc b)) (ws n2)) := by unfold crc; rw [toW_ofW, ws_append, more_append]
    rw [e]; exact h6
  by_cases hf : 0 < b.length ∧ ot.length = 0
  · obtain ⟨K, hK⟩ := key (nw.set 0 (Go.bits .xor .u8 (rdOf (0 : Int) nw 0) 1)) (set_in _ hinw _ (xor8_in' _ _) 0) (by rw [List.length_set]; exact hlen)
    obtain ⟨d1, d2, d3, d4, d5, d6⟩ := hK (K + K1 + K2 + K4 + K5) (by omega)
    exact SumKeeps_yes (K + K1 + K2 + K4 + K5) a0 a1 cap0 cap1 b ot a2 _ w hC hc hC1 hc1 hb (by omega) ⟨e1 _ (by omega)⟩ ⟨e2 _ (by omega)⟩ ⟨e3⟩ ⟨e4 _ (by omega)⟩ ⟨e5 _ (by omega)⟩ nw _ _ hnw rfl hf (set_in _ hinw _ (xor8_in' _ _) 0) ⟨d1⟩ ⟨d2⟩ ⟨d3⟩ ⟨d4⟩ ⟨d5⟩ ⟨d6⟩
  · obtain ⟨K, hK⟩ := key nw hinw hlen
    obtain ⟨d1, d2, d3, d4, d5, d6⟩ := hK (K + K1 + K2 + K4 + K5) (by omega)
    by_cases h0 : b.length = 0
    · exact SumKeeps_noA (K + K1 + K2 + K4 + K5) a0 a1 cap0 cap1 b ot a2 _ w hC hc hC1 hc1 hb (by omega) ⟨e1 _ (by omega)⟩ ⟨e2 _ (by omega)⟩ ⟨e3⟩ ⟨e4 _ (by omega)⟩ ⟨e5 _ (by omega)⟩ nw _ _ hnw rfl h0 hinw ⟨d1⟩ ⟨d2⟩ ⟨d3⟩ ⟨d4⟩ ⟨d5⟩ ⟨d6⟩
    · exact SumKeeps_noB (K + K1 + K2 + K4 + K5) a0 a1 cap0 cap1 b ot a2 _ w hC hc hC1 hc1 hb (by omega) ⟨e1 _ (by omega)⟩ ⟨e2 _ (by omega)⟩ ⟨e3⟩ ⟨e4 _ (by omega)⟩ ⟨e5 _ (by omega)⟩ nw _ _ hnw rfl ⟨by omega, fun e => hf ⟨by omega, e⟩⟩ hinw ⟨d1⟩ ⟨d2⟩ ⟨d3⟩ ⟨d4⟩ ⟨d5⟩ ⟨d6⟩
end Go.Proofs.Ytlaglidgjnpncaa.Pure
