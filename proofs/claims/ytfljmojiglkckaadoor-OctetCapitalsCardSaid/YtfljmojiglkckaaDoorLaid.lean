/- What the row's list gives: the table lies in block 0. -/
import Derived.Test.YtfljmojiglkckaaDoorCards
import Derived.Test.YtfljmojiglkckaaDoorTie
import Derived.Test.YtfljmojiglkckaaDoorGlob
import Derived.Lib.LaidTab
import Derived.Deep.Strs
import Derived.Deep.DeepHandedRow
namespace Go.Proofs.YtfljmojiglkckaaDoor.Laid
set_option linter.unusedVariables false
set_option linter.unusedSimpArgs false
open Go.RowKit Go.Proofs.YtfljmojiglkckaaDoor.Glob

def datumOf {H : Type} (s : Int × Int × Int) : DataW H := .agg [.lit (.int .i64 s.1), .lit (.int .u8 s.2.1), .lit (.int .u8 s.2.2)]
theorem datum_is : (Rows.laid_posthorn_octet_stretches : DataW Unit) = .agg (tab.map datumOf) := rfl

theorem fields : Tryd.prog.underlying 58 = some (.struct #[{ name := "class", type := 3, offset := 0, embedded := false, tag := "", pkgPath := "posthorn/octet", byteOffset := 0 }, { name := "first", type := 5, offset := 1, embedded := false, tag := "", pkgPath := "posthorn/octet", byteOffset := 8 }, { name := "last", type := 5, offset := 2, embedded := false, tag := "", pkgPath := "posthorn/octet", byteOffset := 9 }]) := by kernel_rfl

theorem stretch_cells {enc : TypeId × Value → Unit} {w : World} {base : Nat} {sp : Nat → Bool} {held : Bool} {fuel : Nat} {c : List Value} {s : Int × Int × Int} {y : DataW Unit × List MemPlace}
    (hy : y.1 = datumOf s) (h : DataW.trod enc Tryd.prog w base sp held fuel 58 c = some y) :
    c[0]? = some (.int .i64 s.1) ∧ c[1]? = some (.int .u8 s.2.1) ∧ c[2]? = some (.int .u8 s.2.2) := by
  obtain ⟨y0, y1, y2, n, rfl, hl, h0, h1, h2⟩ := Deep.trod_struct3 fields h
  have c3 : Tryd.prog.cellsOf 3 = 1 := by kernel_rfl
  have c5 : Tryd.prog.cellsOf 5 = 1 := by kernel_rfl
  simp only [c3, c5] at h0 h1 h2
  obtain ⟨z0, e0, rfl, _⟩ := DataW.trod_int Tryd.underlying3 h0
  obtain ⟨z1, e1, rfl, _⟩ := DataW.trod_int Tryd.underlying5 h1
  obtain ⟨z2, e2, rfl, _⟩ := DataW.trod_int Tryd.underlying5 h2
  simp only [datumOf, DataW.agg.injEq, List.cons.injEq, DataW.lit.injEq, Lit.int.injEq, true_and, and_true] at hy
  obtain ⟨rfl, rfl, rfl⟩ := hy
  have g0 := congrArg (·[0]?) e0
  have g1 := congrArg (·[0]?) e1
  have g2 := congrArg (·[0]?) e2
  simp [List.getElem?_take, List.getElem?_drop] at g0 g1 g2
  exact ⟨g0, g1, g2⟩

theorem table_cells {enc : TypeId × Value → Unit} {w : World} {base : Nat} {sp : Nat → Bool} {held : Bool} {fuel : Nat} {cs : List Value} {p : List MemPlace}
    (h : DataW.trod enc Tryd.prog w base sp held fuel 59 cs = some (.agg (tab.map datumOf), p)) (i : Nat) (hi : i < 35) :
    cs[i * 3]? = some (.int .i64 (tb i).1) ∧ cs[i * 3 + 1]? = some (.int .u8 (tb i).2.1) ∧ cs[i * 3 + 2]? = some (.int .u8 (tb i).2.2) := by
  have ht : Tryd.prog.underlying 59 = some (.array 35 58) := by kernel_rfl
  have hce : Tryd.prog.cellsOf 58 = 3 := by kernel_rfl
  have hct : Tryd.prog.cellsOf 59 = 105 := by kernel_rfl
  cases fuel with
  | zero => simp [DataW.trod] at h
  | succ fuel =>
    simp only [DataW.trod, ht, hce, hct] at h
    split at h
    · rename_i hl
      obtain ⟨xs, hm, hx⟩ := Option.map_eq_some_iff.1 h
      have hxs : xs.map (·.1) = tab.map datumOf := by
        have := congrArg Prod.fst hx
        simpa using this
      obtain ⟨b, hb, hf⟩ := Lib.mapM_at hm i i (by simp [hi])
      have h2 : (xs.map (·.1))[i]? = some b.1 := by simp [hb]
      rw [hxs, List.getElem?_map] at h2
      have hti : tab[i]? = some (tb i) := by
        unfold tb
        rw [List.getD_eq_getElem?_getD, List.getElem?_eq_getElem (show i < tab.length from hi)]
        rfl
      rw [hti] at h2
      have hb1 : b.1 = datumOf (tb i) := (Option.some.inj h2).symm
      obtain ⟨c0, c1, c2⟩ := stretch_cells hb1 hf
      simp [List.getElem?_take, List.getElem?_drop] at c0 c1 c2
      exact ⟨c0, c1, c2⟩
    · cases h

theorem gok_of_laid {W : World} (h : laidMet Tryd.prog [("posthorn/octet.stretches", Rows.laid_posthorn_octet_stretches)] W) : GOk W := by
  obtain ⟨ps, ⟨g', t', cs, fuel, p, q, hg', ht', hvar, hd, _, _⟩, _⟩ := h
  have hg : Tryd.prog.globalNamed "posthorn/octet.stretches" = some 0 := by kernel_rfl
  have hty : (Tryd.prog.globals[0]?).map (·.type) = some 59 := by kernel_rfl
  obtain rfl := Option.some.inj (hg.symm.trans hg')
  obtain rfl := Option.some.inj (hty.symm.trans ht')
  rw [datum_is] at hd
  have hc : ∀ i, i < 35 → _ := fun i hi => table_cells hd i hi
  have hv := fun j => World.var?_cell hg hvar j
  have hcell : ∀ i, i < 35 → W.cell? ⟨0, i * 3, none⟩ = some (.int .i64 (tb i).1) ∧ W.cell? ⟨0, i * 3 + 1, none⟩ = some (.int .u8 (tb i).2.1) ∧ W.cell? ⟨0, i * 3 + 2, none⟩ = some (.int .u8 (tb i).2.2) := by
    intro i hi
    obtain ⟨a, b, c⟩ := hc i hi
    refine ⟨(hv (i * 3)).trans ?_, (hv (i * 3 + 1)).trans ?_, (hv (i * 3 + 2)).trans ?_⟩
    · simpa using a
    · simpa using b
    · simpa using c
  exact ⟨block_lt_of_cell (hcell 0 (by omega)).1, hcell⟩
end Go.Proofs.YtfljmojiglkckaaDoor.Laid
