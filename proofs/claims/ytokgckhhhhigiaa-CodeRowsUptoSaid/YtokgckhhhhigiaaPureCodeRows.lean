/- CodeRows, where what it reads is of bulk at most 1048576: Base64 and Rows of any bytes; they stay. -/
import Derived.Test.YtokgckhhhhigiaaRowsP
import Derived.Test.YtokgckhhhhigiaaRowsLaw
namespace Go.Proofs.Ytokgckhhhhigiaa.Pure
set_option linter.unusedVariables false
set_option linter.unusedSimpArgs false
open Go.RowKit Go.Proofs.Ytokgckhhhhigiaa.G Go.Proofs.YtokgckhhhhigiaaW.PrintWords
open Go.Proofs.Ytokgckhhhhigiaa.B Go.Proofs.Ytokgckhhhhigiaa.B64 Go.Proofs.Ytokgckhhhhigiaa.Lent

theorem CodeRows (a0 : Option Addr) (len0 cap0 : Nat) (z0 : List Int) (a1 : Int) (w : World) (w0 : (a0 = none ∧ len0 = 0 ∧ cap0 = 0 ∧ z0 = []) ∨ ∃ x, a0 = some x ∧ len0 ≤ cap0 ∧ cap0 ≤ maxLen ∧ z0.length = cap0 ∧ (∀ i, i < z0.length → w.cell? (x.add i) = some (.int .u8 (z0.getD i 0))) ∧ ∀ n ∈ z0, (Lit.int .u8 n).wf = true) (_y0 : len0 * 1 ≤ 140737488351232) (w1 : (Lit.int .i64 a1).wf = true) (b0 : len0 ≤ 1048576) :
    Calls Try.prog 3 #[.slice a0 len0 cap0, .int .i64 a1] w fun e w' => e = .returned (.bool true) ∧ Below w.heap.size w w' := by
  obtain ⟨l, rfl, hr, hm, hw, hc⟩ := ReadsInt.ofRowC w0
  have hin : InB l := fun x hx => wf_u8 (hw x hx)
  have hC := Kd.C_of_reads (d := (0 : Int)) (h1 := fun _ => rfl) hr
  obtain ⟨K1, h1⟩ := Rows_ev l a1 hin (by omega)
  obtain ⟨K2, h2⟩ := refRows_ev l a1 hin (by omega)
  obtain ⟨K3, h3⟩ := Rows_ev [77, 97, 110] 4 (by intro x hx; simp at hx; omega) (by decide)
  obtain ⟨K4, h4⟩ := Base64_ev l hin (by omega)
  obtain ⟨K5, h5⟩ := refBase64_ev l hin (by omega)
  obtain ⟨K6, h6⟩ := Base64_ev [255, 254, 253] (by intro x hx; simp at hx; omega) (by decide)
  have e3 : rowsR [77, 97, 110] 4 = ((⟨#[84, 87, 70, 117, 13, 10]⟩ : ByteArray), 0) := by decide +kernel
  have e6 : strOfNums (b64 [255, 254, 253]) = (⟨#[47, 47, 55, 57]⟩ : ByteArray) := by decide +kernel
  rw [e3] at h3
  rw [e6] at h6
  exact CodeRows_true (K1 + K2 + K3 + K4 + K5 + K6) a0 cap0 l a1 (rowsR l a1).1 _ (rowsR l a1).2 w hC hc (by omega) ⟨h1 _ (by omega)⟩ ⟨h2 _ (by omega)⟩ ⟨h3 _ (by omega)⟩ ⟨h4 _ (by omega)⟩ ⟨h5 _ (by omega)⟩ ⟨h6 _ (by omega)⟩
end Go.Proofs.Ytokgckhhhhigiaa.Pure
