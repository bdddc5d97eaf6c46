/- A script of steps with bytes, opened; what its bulk bounds. -/
import Derived.Test.YtabjfpjmiiiecaaProg
import Derived.Test.YtabjfpjmiiiecaaBulk
import Derived.Test.YtabjfpjmiiiecaaKW
import Derived.WalkKit
import Derived.ProofKit
import Derived.OpenShut
import Derived.KernelRfl
import Derived.WideShapes
import Derived.ChangeArms
import Derived.ChangeSlices
import Derived.Deep.Slices
import Derived.Test.YtabjfpjmiiiecaaBase
namespace Go.Proofs.Ytabjfpjmiiiecaa.Op
set_option linter.unusedVariables false
set_option linter.unusedSimpArgs false
set_option linter.unusedVariables false
open Go.ChangeShapes Go.WideShapes Go.ChangeAt Go.RowKit Go.Proofs.YtabjfpjmiiiecaaW.PrintWords Go.Proofs.Ytabjfpjmiiiecaa.B
/-- A step. -/
structure OpB where
  who : Int
  op : Int
  A : Option Addr
  c : Nat
  l : List Int
section
variable {H : Type} {enc : TypeId × Value → H} {W : World} {base b0 : Nat} {spare : Nat → Bool} {held : Bool} {d : DataW H} {p : List MemPlace}
theorem c3 : Try.prog.cellsOf 3 = 1 := by kernel_rfl
theorem c3b : Try.prog.cellsOf 27 = 1 := by kernel_rfl
theorem cOp : Try.prog.cellsOf 54 = 3 := by kernel_rfl
theorem in_of_wf {n : Int} (h : (Lit.int .u8 n).wf = true) : 0 ≤ n ∧ n ≤ 255 := by
  have h1 : IntKind.u8.min ≤ n ∧ n ≤ IntKind.u8.max := by simpa [Lit.wf] using h
  have e1 : IntKind.u8.min = 0 := by decide
  have e2 : IntKind.u8.max = 255 := by decide
  rw [e1, e2] at h1
  exact h1
theorem bytes_of {n : Nat} {v : Value} {y : DataW H × List MemPlace} (h : DataW.trod enc Try.prog W base spare held n 27 [v] = some y) :
    ∃ (A : Option Addr) (c : Nat) (l : List Int), v = .slice A l.length c ∧ l.length ≤ c ∧ Kd.C (Kd.int .u8) W A l.length l ∧ InB l ∧ l.length ≤ Rows.uptoBulk y.1 := by
  rcases open_ints Try.underlying27 Try.underlying5 (by kernel_rfl) h with ⟨hcs, _⟩ | ⟨x, len, c, zs, hcs, _, hl, hm, hz, hxx, hcell, hwz⟩
  · simp at hcs
    exact ⟨none, 0, [], hcs, Nat.le_refl _, Kd.C_of_reads (d := (0 : Int)) (h1 := fun _ => rfl) ⟨rfl, by decide, fun h => absurd h (Nat.lt_irrefl _)⟩, fun x hx => (by cases hx), Nat.zero_le _⟩
  · simp at hcs
    have hzl : len ≤ zs.length := by rw [hz]; split <;> omega
    have hl2 : (zs.take len).length = len := by simp; omega
    refine ⟨some x, c, zs.take len, by rw [hl2]; exact hcs, by rw [hl2]; exact hl, Kd.C_of_reads (d := (0 : Int)) (h1 := fun _ => rfl) ⟨rfl, by simp only [maxLen] at hm; omega, fun _ => ⟨x, rfl, fun j hj => ?_⟩⟩, fun n hn => in_of_wf (hwz n (List.mem_of_mem_take hn)), ?_⟩
    · rw [hcell j (by omega)]
      have : (zs.take len).getD j 0 = zs.getD j 0 := by simp [List.getD_eq_getElem?_getD, List.getElem?_take, show j < len by omega]
      rw [this]
    · rw [hxx]
      have hsl := bulks.slice_le (lits .u8 (zs.take len) : List (DataW H)) (lits .u8 (zs.drop len))
      have hl3 : (lits .u8 (zs.take len) : List (DataW H)).length = len := by simp [lits]; omega
      simp only [hl2]
      omega
set_option maxRecDepth 100000 in
theorem op_of {n : Nat} {cs : List Value} {x : DataW H × List MemPlace} (h : DataW.trod enc Try.prog W base spare held n 54 cs = some x) :
    ∃ o : OpB, cs = [.int .i64 o.who, .int .i64 o.op, .slice o.A o.l.length o.c] ∧ Kd.C (Kd.int .u8) W o.A o.l.length o.l ∧ InB o.l ∧ o.l.length ≤ Rows.uptoBulk x.1 ∧ o.l.length ≤ o.c := by
  obtain ⟨xs, m, _, hx, hl, hlen, hg⟩ := DataW.trod_struct Try.underlying54 h
  match cs, hl.trans cOp with
  | [e0, e1, e2], _ =>
    match xs, hlen with
    | [y0, y1, y2], _ =>
      have g0 : DataW.trod enc Try.prog W base spare held m 3 [e0] = some y0 := by simpa [c3] using hg 0 _ rfl
      have g1 : DataW.trod enc Try.prog W base spare held m 3 [e1] = some y1 := by simpa [c3] using hg 1 _ rfl
      have g2 : DataW.trod enc Try.prog W base spare held m 27 [e2] = some y2 := by simpa [c3, c3b] using hg 2 _ rfl
      obtain ⟨a0, h0, _⟩ := DataW.trod_int Try.underlying3 g0
      obtain ⟨a1, h1, _⟩ := DataW.trod_int Try.underlying3 g1
      obtain ⟨A, c, l, h2, hcc, hc, hb, hu⟩ := bytes_of g2
      refine ⟨⟨a0, a1, A, c, l⟩, by injection h0 with h0; injection h1 with h1; rw [h0, h1, h2], hc, hb, ?_, hcc⟩
      have hp := bulks.part_le (l := [y0.1, y1.1, y2.1]) (d := y2.1) (by simp)
      have hx1 : x.1 = .agg ([y0, y1, y2].map (·.1)) := by rw [hx]
      rw [hx1]
      simp only [Rows.uptoBulk, List.map_cons, List.map_nil]
      exact Nat.le_trans hu (Nat.le_trans hp (Nat.le_succ _))
theorem open_opsb {a : Option Addr} {len cap : Nat} (h : DataW.Trod enc Try.prog W base spare held 42 (.slice a len cap) d p) (hb : Rows.uptoBulk d ≤ 1048576) :
    ∃ f : Nat → OpB, len ≤ 1048576 ∧ ∀ i, i < len → ∃ x, a = some x ∧ W.cell? (x.add (i * 3)) = some (.int .i64 (f i).who) ∧ W.cell? ⟨(x.add (i * 3)).block, (x.add (i * 3)).off + 1, none⟩ = some (.int .i64 (f i).op) ∧ W.cell? ⟨(x.add (i * 3)).block, (x.add (i * 3)).off + 2, none⟩ = some (.slice (f i).A (f i).l.length (f i).c) ∧
      Kd.C (Kd.int .u8) W (f i).A (f i).l.length (f i).l ∧ InB (f i).l ∧ (f i).l.length ≤ 1048576 ∧ (f i).l.length ≤ (f i).c := by
  obtain ⟨fuel, hf⟩ := h
  rcases Go.Deep.open_slice Try.underlying42 hf with ⟨hcs, _⟩ | ⟨x, l, c, m, n, D, Pl, hcs, _, hl, _, hm, hx, hat⟩
  · simp [Value.cells] at hcs
    obtain ⟨rfl, rfl, rfl⟩ := hcs
    exact ⟨fun _ => ⟨0, 0, none, 0, []⟩, by omega, fun i hi => absurd hi (Nat.not_lt_zero _)⟩
  · simp [Value.cells] at hcs
    obtain ⟨rfl, rfl, rfl⟩ := hcs
    obtain ⟨hx, _⟩ := Prod.mk.inj hx
    have hml : len ≤ m := by rw [hm]; split <;> omega
    have hbulk : len ≤ 1048576 ∧ ∀ i, i < len → Rows.uptoBulk (D i) ≤ 1048576 := by
      rw [hx] at hb
      have h1 := bulks.slice_le ((List.range len).map D) ((List.range (m - len)).map fun j => D (len + j))
      have h2 := bulks.slice_elems ((List.range len).map D) ((List.range (m - len)).map fun j => D (len + j))
      simp only [List.length_map, List.length_range] at h1
      exact ⟨by omega, fun i hi => by
        have := bulks.part_le (l := (List.range len).map D) (d := D i) (List.mem_map.2 ⟨i, List.mem_range.2 hi, rfl⟩)
        omega⟩
    have key : ∀ i, ∃ f : OpB, i < len → W.cell? (x.add (i * 3)) = some (.int .i64 f.who) ∧ W.cell? ⟨(x.add (i * 3)).block, (x.add (i * 3)).off + 1, none⟩ = some (.int .i64 f.op) ∧ W.cell? ⟨(x.add (i * 3)).block, (x.add (i * 3)).off + 2, none⟩ = some (.slice f.A f.l.length f.c) ∧
        Kd.C (Kd.int .u8) W f.A f.l.length f.l ∧ InB f.l ∧ f.l.length ≤ 1048576 ∧ f.l.length ≤ f.c := by
      intro i
      by_cases hi : i < len
      · obtain ⟨cs', hc, ht⟩ := hat i (by omega)
        obtain ⟨o, rfl, h3, h4, h5, h6⟩ := op_of ht
        rw [cOp] at hc
        obtain ⟨_, hcl, hcat⟩ := World.cells?_some hc
        have e0 := hcat 0 (by omega)
        have e1 := hcat 1 (by omega)
        have e2 := hcat 2 (by omega)
        rw [Go.Deep.add_add] at e0 e1 e2
        refine ⟨o, fun _ => ⟨e0, ?_, ?_, h3, h4, Nat.le_trans h5 (hbulk.2 i hi), h6⟩⟩
        · rw [← add_field _ _ 1 (by omega)]; exact e1
        · rw [← add_field _ _ 2 (by omega)]; exact e2
      · exact ⟨⟨0, 0, none, 0, []⟩, fun h => absurd h hi⟩
    exact ⟨fun i => Classical.choose (key i), hbulk.1, fun i hi => ⟨x, rfl, Classical.choose_spec (key i) hi⟩⟩
end
end Go.Proofs.Ytabjfpjmiiiecaa.Op
