/- SumCut, where what it reads is of bulk at most 1048576: however bytes are cut, More, Join and a stream come to the sum of all. -/
import Derived.Test.YtlaglidgjnpncaaSumCutL
namespace Go.Proofs.Ytlaglidgjnpncaa.Pure
set_option linter.unusedVariables false
set_option linter.unusedSimpArgs false
open Go.RowKit Go.Proofs.Ytlaglidgjnpncaa.H Go.Proofs.YtlaglidgjnpncaaW.PrintWords Go.Proofs.YtlaglidgjnpncaaW.PrintLast Go.Proofs.YtlaglidgjnpncaaW.PrintMore
open Go.Proofs.Ytlaglidgjnpncaa.B Go.Proofs.Ytlaglidgjnpncaa.SumF Go.Proofs.Ytlaglidgjnpncaa.SumP Go.Proofs.Ytlaglidgjnpncaa.Crc

theorem cut_mx (a b : Int) : mx a b = if a < b then b else a := rfl
theorem cut_mn (a b : Int) : mn a b = if b < a then b else a := rfl
theorem pieces_loop (b cuts : List Int) (hb : b.length ≤ 140737488355328) (hc : cuts.length ≤ 1048576) (d : Nat) : ∀ (i from' : Nat) (acc : List (List Int)), i + d = cuts.length → from' ≤ b.length → acc.flatten = b.take from' → acc.length ≤ i →
    ∃ ps, Ev (fun k => posthornlaw02_pieces.l0 k b acc (from' : Int) cuts (cuts.length : Int) (i : Int)) ps ∧ ps.flatten = b ∧ ps.length ≤ 1048577 := by
  induction d with
  | zero =>
    intro i from' acc hi hf ha hl
    refine ⟨acc ++ [b.drop from'], Ev.last fun k => ?_, ?_, by simp; omega⟩
    · simp only [posthornlaw02_pieces.l0]
      rw [if_neg (by omega), if_pos (by omega), if_pos (by omega), if_pos (by omega), Int.toNat_natCast]
    · rw [List.flatten_append, ha]; simp
  | succ d ih =>
    intro i from' acc hi hf ha hl
    obtain ⟨to', ht⟩ : ∃ t : Nat, mn (mx (rd cuts (i : Int)) (from' : Int)) (b.length : Int) = (t : Int) ∧ from' ≤ t ∧ t ≤ b.length := by
      refine ⟨(mn (mx (rd cuts (i : Int)) (from' : Int)) (b.length : Int)).toNat, ?_, ?_, ?_⟩ <;> (rw [cut_mn, cut_mx]; repeat' split) <;> omega
    obtain ⟨ps, hE, h1, h2⟩ := ih (i + 1) to' (acc ++ [(b.take to').drop from']) (by omega) ht.2.2 (by
      rw [List.flatten_append, ha]
      have : b.take from' = (b.take to').take from' := by rw [List.take_take, Nat.min_eq_left ht.2.1]
      rw [this]
      simp) (by simp; omega)
    refine ⟨ps, Ev.round (fun k => ?_) hE, h1, h2⟩
    simp only [posthornlaw02_pieces.l0]
    rw [if_pos (by omega), if_pos (by omega), if_pos (by omega), if_pos (by omega), ht.1, if_pos (by omega), if_pos (by omega), if_pos (by omega), Int.toNat_natCast, Int.toNat_natCast, wrap_id _ (by omega) (by omega)]
    rfl

theorem SumCut (a0 : Option Addr) (len0 cap0 : Nat) (z0 : List Int) (a1 : Option Addr) (len1 cap1 : Nat) (z1 : List Int) (w : World) (w0 : (a0 = none ∧ len0 = 0 ∧ cap0 = 0 ∧ z0 = []) ∨ ∃ x, a0 = some x ∧ len0 ≤ cap0 ∧ cap0 ≤ maxLen ∧ z0.length = cap0 ∧ (∀ i, i < z0.length → w.cell? (x.add i) = some (.int .u8 (z0.getD i 0))) ∧ ∀ n ∈ z0, (Lit.int .u8 n).wf = true) (_y0 : len0 * 1 ≤ 140737488351232)
    (w1 : (a1 = none ∧ len1 = 0 ∧ cap1 = 0 ∧ z1 = []) ∨ ∃ x, a1 = some x ∧ len1 ≤ cap1 ∧ cap1 ≤ maxLen ∧ z1.length = cap1 ∧ (∀ i, i < z1.length → w.cell? (x.add i) = some (.int .i64 (z1.getD i 0))) ∧ ∀ n ∈ z1, (Lit.int .i64 n).wf = true) (_y1 : len1 * 8 ≤ 140737488351232) (b0 : len0 ≤ 1048576) (b1 : len1 ≤ 1048576) :
    Calls Try.prog 8 #[.slice a0 len0 cap0, .slice a1 len1 cap1] w fun e w' => e = .returned (.bool true) ∧ Below w.heap.size w w' := by
  obtain ⟨l, rfl, hr, hm, hw, hc⟩ := ReadsInt.ofRowC w0
  obtain ⟨l1, rfl, hr1, hm1, hw1, hc1⟩ := ReadsInt.ofRowC w1
  have hin : InB l := fun x hx => wf_u8 (hw x hx)
  have hC := Kd.C_of_reads (d := (0 : Int)) (h1 := fun _ => rfl) hr
  have hC1 := Kd.C_of_reads (d := (0 : Int)) (h1 := fun _ => rfl) hr1
  obtain ⟨ps, ⟨K, hE⟩, hf, hps⟩ := pieces_loop l l1 (by omega) b1 l1.length 0 0 [] (by omega) (by omega) rfl (by simp)
  exact SumCut_true K a0 a1 cap0 cap1 l l1 ps w hC hc hC1 hc1 (hE K (Nat.le_refl _)) hf hin (by omega) (by omega)
end Go.Proofs.Ytlaglidgjnpncaa.Pure
