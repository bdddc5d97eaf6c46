/- The reference's written: three letters, the second and the third made small. -/
import Derived.Test.YtnmhkmkaklhapaaDoorMan
import Derived.Test.YtnmhkmkaklhapaaDoorMA
import Derived.Laws.BytesArg
namespace Go.Proofs.YtnmhkmkaklhapaaDoor.DP
set_option linter.unusedVariables false
set_option linter.unusedSimpArgs false
open Go.RowKit Go.Proofs.YtnmhkmkaklhapaaDoorW.PrintWords Go.Proofs.YtnmhkmkaklhapaaDoorW.PrintLast Go.Proofs.YtnmhkmkaklhapaaDoorW.PrintMore Go.Proofs.YtnmhkmkaklhapaaDoor.B Go.Proofs.YtnmhkmkaklhapaaDoor.T Go.Proofs.YtnmhkmkaklhapaaDoor.M Go.Proofs.YtnmhkmkaklhapaaDoor.Chk Go.Proofs.YtnmhkmkaklhapaaDoor.MN
theorem bytesWorld_frozen (w : World) (e : TypeId) (s : ByteArray) (j : Nat) (hj : j < s.size) : (Lib.bytesWorld w e s).frozen? ⟨w.heap.size, j, none⟩ = false := by
  have h : j < (Lib.bytesCells w e s).size := by
    have hc := Lib.bytesWorld_cell w e s j hj
    simp only [World.cell?, Lib.bytesWorld_at_new] at hc
    exact (Array.getElem?_eq_some_iff.1 hc).1
  simp [World.frozen?, Lib.bytesWorld_at_new]
  omega
set_option maxHeartbeats 1000000 in
set_option maxRecDepth 100000 in
theorem written_calls (A : List Int) (hA : InB A) (k : Nat) (a b c : Int) (ht : (A.drop (3 * k)).take 3 = [a, b, c]) (hl : 3 * k + 3 ≤ A.length) (hl2 : A.length ≤ 100) (hb : b ≤ 223) (hc : c ≤ 223) (w : World) :
    Calls Tryd.prog 53 #[.string (strOfNums A), .int .i64 (k : Int)] w fun e w' => e = .returned (.string (strOfNums [a, b + 32, c + 32])) ∧ Below w.heap.size w w' := by
  obtain ⟨i, hi⟩ : ∃ i : Nat, i = 3 * k := ⟨_, rfl⟩
  obtain ⟨j, hj⟩ : ∃ j : Nat, j = i + 3 := ⟨_, rfl⟩
  have h3 : ∀ x ∈ [a, b, c], 0 ≤ x ∧ x ≤ 255 := fun x hx => hA x (List.mem_of_mem_drop (List.mem_of_mem_take (by rw [ht]; exact hx)))
  have ha := h3 a (by simp)
  have hb0 := h3 b (by simp)
  have hc0 := h3 c (by simp)
  have q1 : IntKind.i64.wrap (3 * (k : Int)) = (i : Int) := by rw [i64_w, wrap_id _ (by omega) (by omega)]; omega
  have q2 : IntKind.i64.wrap ((i : Int) + 3) = (j : Int) := by rw [i64_w, wrap_id _ (by omega) (by omega)]; omega
  have q3 : IntKind.u8.wrap (b + 32) = b + 32 := wrap8 _ (by omega) (by omega)
  have q4 : IntKind.u8.wrap (c + 32) = c + 32 := wrap8 _ (by omega) (by omega)
  have b1 : (0 : Int) ≤ (i : Int) := by omega
  have b2 : (i : Int) ≤ (j : Int) := by omega
  have b3 : (j : Int) ≤ ((strOfNums A).size : Int) := by rw [strOfNums_len]; omega
  have b4 : i ≤ j := by omega
  have b5 : j ≤ (strOfNums A).size := by rw [strOfNums_len]; omega
  have hex : (strOfNums A).extract i j = strOfNums [a, b, c] := by rw [cut_is A hA _ _ (by omega), show j - i = 3 from by omega, hi, ht]
  have hcv := print_bytes (P := Tryd.prog) 9 88 5 Tryd.underlying9 Tryd.underlying88 Tryd.underlying5 (strOfNums [a, b, c]) w
  have hz : (strOfNums [a, b, c]).size = 3 := strOfNums_len _
  have hrd := bytes_reads w 5 (strOfNums [a, b, c]) (by rw [hz]; decide)
  rw [bytesOf_strOfNums _ h3, hz] at hrd
  have f1 := bytesWorld_frozen w 5 (strOfNums [a, b, c]) 1 (by rw [hz]; decide)
  have f2 := bytesWorld_frozen w 5 (strOfNums [a, b, c]) 2 (by rw [hz]; decide)
  have hB := bytes_below (Below.refl w.heap.size w) (Nat.le_refl _) 5 (strOfNums [a, b, c])
  rw [hz] at hcv
  obtain ⟨W1, hW1⟩ : ∃ W1, Lib.bytesWorld w 5 (strOfNums [a, b, c]) = W1 := ⟨_, rfl⟩
  obtain ⟨cp, hcp⟩ : ∃ n, grownCap w 3 0 5 = n := ⟨_, rfl⟩
  rw [hW1] at hcv hrd f1 f2 hB
  rw [hcp] at hcv
  obtain ⟨ad, ead, hcs⟩ := hrd.2.2 (by decide)
  obtain rfl := (Option.some.inj ead).symm
  have c0 : W1.cell? ⟨w.heap.size, 0, none⟩ = some (.int .u8 a) := by have := hcs 0 (by decide); rw [add_plain] at this; exact this
  have c1 : W1.cell? ⟨w.heap.size, 1, none⟩ = some (.int .u8 b) := by have := hcs 1 (by decide); rw [add_plain] at this; exact this
  have c2 : W1.cell? ⟨w.heap.size, 2, none⟩ = some (.int .u8 c) := by have := hcs 2 (by decide); rw [add_plain] at this; exact this
  have d0 : ((W1.setCell ⟨w.heap.size, 1, none⟩ (.int .u8 (b + 32))).setCell ⟨w.heap.size, 2, none⟩ (.int .u8 (c + 32))).cell? ⟨w.heap.size, 0, none⟩ = some (.int .u8 a) := (World.cell?_setCell_other _ _ _ _ (by simp)).trans ((World.cell?_setCell_other _ _ _ _ (by simp)).trans c0)
  have d1 : ((W1.setCell ⟨w.heap.size, 1, none⟩ (.int .u8 (b + 32))).setCell ⟨w.heap.size, 2, none⟩ (.int .u8 (c + 32))).cell? ⟨w.heap.size, 1, none⟩ = some (.int .u8 (b + 32)) := (World.cell?_setCell_other _ _ _ _ (by simp)).trans (World.cell?_setCell_same _ _ _ c1)
  have d2 : ((W1.setCell ⟨w.heap.size, 1, none⟩ (.int .u8 (b + 32))).setCell ⟨w.heap.size, 2, none⟩ (.int .u8 (c + 32))).cell? ⟨w.heap.size, 2, none⟩ = some (.int .u8 (c + 32)) := World.cell?_setCell_same _ _ _ ((World.cell?_setCell_other _ _ _ _ (by simp)).trans c2)
  have hcv2 := run_convert_bytes_arg (P := Tryd.prog) ((W1.setCell ⟨w.heap.size, 1, none⟩ (.int .u8 (b + 32))).setCell ⟨w.heap.size, 2, none⟩ (.int .u8 (c + 32))) 88 5 Tryd.underlying88 Tryd.underlying5 w.heap.size 0 3 cp [a, b + 32, c + 32] rfl (fun n hn => by
    have : n = 0 ∨ n = 1 ∨ n = 2 := by omega
    rcases this with rfl | rfl | rfl
    · exact d0
    · exact d1
    · exact d2) 9 Tryd.underlying9
  have HB := Aside0.mk hB
  have HX := Aside0.mk (And.intro hW1 hcp)
  clear d0 d1 d2
  clear hB hrd hcs hW1 hcp hz h3 ha hb0 hc0 hb hc hl hl2 ht hi hj ead
  go_enter Tryd.func53, Tryd.ntmps53
  go_wp2_with (fail)
  go_ret
  exact ⟨rfl, Below.setCell (Below.setCell HB.out (Nat.le_refl _) _) (Nat.le_refl _) _⟩
end Go.Proofs.YtnmhkmkaklhapaaDoor.DP
