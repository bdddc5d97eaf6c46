/- clear of a part of a row of one's own, as a step of a region. -/
import Derived.Test.YtekjkookkjjbcaaRingG
namespace Go.Proofs.Ytekjkookkjjbcaa.RI
set_option linter.unusedVariables false
set_option linter.unusedSimpArgs false
set_option linter.unusedVariables false
set_option linter.unusedSimpArgs false
open Go.RowKit Go.Proofs.YtekjkookkjjbcaaW.PrintWords Go.Proofs.YtekjkookkjjbcaaW.PrintLast Go.Proofs.YtekjkookkjjbcaaW.PrintMore Go.Proofs.Ytekjkookkjjbcaa.B Go.Proofs.Ytekjkookkjjbcaa.M
/-- A row, m of its places from p on made zero. -/
def zeroed {α : Type} (z : α) (xs : List α) (p m : Nat) : List α := xs.take p ++ List.replicate m z ++ xs.drop (p + m)
theorem zeroed_len {α : Type} (z : α) (xs : List α) (p m : Nat) (h : p + m ≤ xs.length) : (zeroed z xs p m).length = xs.length := by
  unfold zeroed
  simp only [List.length_append, List.length_take, List.length_replicate, List.length_drop]
  omega
theorem zeroed_zero {α : Type} (z : α) (xs : List α) (p : Nat) : zeroed z xs p 0 = xs := by
  unfold zeroed
  simp
theorem zeroed_at {α : Type} (z : α) (xs : List α) (p m j : Nat) (d : α) (h : p + m ≤ xs.length) (hj : j < p ∨ p + m ≤ j) : (zeroed z xs p m).getD j d = xs.getD j d := by
  unfold zeroed
  simp only [List.getD_eq_getElem?_getD]
  congr 1
  rcases hj with hj | hj
  · rw [List.append_assoc, List.getElem?_append_left (by rw [List.length_take]; omega), List.getElem?_take, if_pos hj]
  · rw [List.getElem?_append_right (by simp only [List.length_append, List.length_take, List.length_replicate]; omega), List.getElem?_drop]
    simp only [List.length_append, List.length_take, List.length_replicate]
    congr 1
    omega
theorem zero_cells (z : Value) (m : Nat) : (Builtin.zeroCells #[z] m).toList = List.replicate m z := by
  apply List.ext_getElem
  · simp [Builtin.zeroCells]
  · intro i h1 h2
    simp [Builtin.zeroCells, Nat.mod_one]
theorem set_row_grown (W : World) (g : Nat) (cs : Array Value) : W.grownBy (W.setRow g cs) (some g) :=
  ⟨rfl, rfl, rfl, by simp, fun k _ hk => setRow_other W g k cs (fun e => hk (by rw [e]))⟩
section
variable {α : Type} {P : Program} {o : Oper} {ops : Array Oper} {a : Act} {Kc : Act → World → Prop} {Q : Exit → Act → World → Prop}
theorem run_clear {enc : α → Value} {h1 : ∀ x, (enc x).oneCell' = true} (z : α) {W : World} (t ty e : TypeId) (ht : P.underlying t = some (.slice e)) (bytes : Nat) (hinfo : (P.info? e).map (fun i => (i.zero, i.size, i.bytes)) = some (some (enc z), 1, bytes)) (hz : (enc z).cells = #[enc z])
    (g9 p m c' c9 : Nat) (xs : List α) {base : Nat} {ok : Nat → Prop} (HO : (Kd.scalar enc h1).R e W base ok (.slice (some ⟨g9, 0, none⟩) xs.length c9) xs) (hl : p + m ≤ xs.length) :
    ∃ w1, (Builtin.clear_ #[t] ty #[.slice (some ⟨g9, p, none⟩) m c']).run P W = .ok (.tuple #[]) w1 ∧ (Kd.scalar enc h1).R e w1 base ok (.slice (some ⟨g9, 0, none⟩) xs.length c9) (zeroed z xs p m) ∧ W.grownBy w1 (some g9) := by
  obtain ⟨i0, hi, hzz⟩ := Option.map_eq_some_iff.1 hinfo
  simp only [Prod.mk.injEq] at hzz
  obtain ⟨hz0, hz1, hz2⟩ := hzz
  cases m with
  | zero =>
    refine ⟨W, ?_, by rw [zeroed_zero]; exact HO, World.grownBy.refl W _⟩
    simp [Builtin.clear_, run_underlying ht]
  | succ m =>
    have hown := Kd.own_of_R HO
    rcases hown.2 with ⟨hv, _⟩ | ⟨g, cap, cur, hv, hb, hh, hnc, hcm, hcs, htake⟩
    · cases hv
    · injection hv with hv1 hv2 hv3
      injection hv1 with hv1
      injection hv1 with hv1
      subst hv1
      subst hv3
      have hr := run_storeCells_at (P := P) g9 p e (List.replicate (m + 1) (enc z)) 0 cur W hh (by rw [List.length_replicate]; omega) (by intro u hu; rw [List.mem_replicate] at hu; rw [hu.2]; exact h1 z)
      have hg := set_row_grown W g9 (cur.toList.take (p + 0) ++ List.replicate (m + 1) (enc z) ++ cur.toList.drop (p + 0 + (List.replicate (m + 1) (enc z)).length)).toArray
      refine ⟨_, ?_, ?_, hg⟩
      · simp [Builtin.clear_, run_underlying ht, zeroValue, typeInfo, hi, hz0, hz, zero_cells]
        simp only [List.length_replicate, Nat.add_zero] at hr
        rw [hr]
        simp [Result.andThen]
      · have hx := setRow_heap W g9 cur (cur.toList.take (p + 0) ++ List.replicate (m + 1) (enc z) ++ cur.toList.drop (p + 0 + (List.replicate (m + 1) (enc z)).length)).toArray e (0, 0) hh
        have hzl := zeroed_len z xs p (m + 1) hl
        have hcl : cur.toList.length = c9 := by rw [Array.length_toList]; omega
        refine Kd.R_of_own ?_ HO.1
        rw [hzl]
        refine ⟨by rw [encs_length, hzl, Nat.mul_one], .inr ⟨g9, c9, _, rfl, hb, hx, hnc, hcm, ?_, ?_⟩⟩
        · simp only [List.size_toArray, List.length_append, List.length_take, List.length_replicate, List.length_drop, hcl]
          omega
        · have htk : cur.toList.take xs.length = encs enc xs := by rw [← htake, Nat.mul_one]
          rw [Nat.mul_one]
          simp only [Nat.add_zero, List.length_replicate]
          unfold zeroed
          rw [encs_append, encs_append]
          have e1 : encs enc (xs.take p) = cur.toList.take p := by
            rw [show encs enc (xs.take p) = (encs enc xs).take p by simp [encs, List.map_take], ← htk, List.take_take, Nat.min_eq_left (by omega)]
          have e2 : encs enc (List.replicate (m + 1) z) = List.replicate (m + 1) (enc z) := by simp [encs]
          have e3 : encs enc (xs.drop (p + (m + 1))) = (cur.toList.drop (p + (m + 1))).take (xs.length - (p + (m + 1))) := by
            rw [show encs enc (xs.drop (p + (m + 1))) = (encs enc xs).drop (p + (m + 1)) by simp [encs, List.map_drop], ← htk, List.drop_take]
          rw [e1, e2, e3, List.take_append]
          have e4 : (cur.toList.take p ++ List.replicate (m + 1) (enc z)).length = p + (m + 1) := by
            rw [List.length_append, List.length_take, List.length_replicate, hcl]
            omega
          rw [e4, List.take_of_length_le (by rw [e4]; omega)]
theorem clear_step {enc : α → Value} {h1 : ∀ x, (enc x).oneCell' = true} (z : α) {w0 W : World} (base : Nat) (hw : Region.wanted o (yielded ops a.tmps) = true) (x : Operand) (t e : TypeId)
    (ho : o.op = .call { callee := .builtin .clear, args := #[x], argTypes := #[t] }) (hd : o.dst = none) (ht : P.underlying t = some (.slice e)) (bytes : Nat) (hinfo : (P.info? e).map (fun i => (i.zero, i.size, i.bytes)) = some (some (enc z), 1, bytes)) (hz : (enc z).cells = #[enc z])
    (g9 p m c' c9 : Nat) (hx : a.eval x = .slice (some ⟨g9, p, none⟩) m c') (xs : List α) {ok : Nat → Prop} (HO : (Kd.scalar enc h1).R e W base ok (.slice (some ⟨g9, 0, none⟩) xs.length c9) xs) (hl : p + m ≤ xs.length)
    (h : ∀ w1, (Kd.scalar enc h1).R e w1 base ok (.slice (some ⟨g9, 0, none⟩) xs.length c9) (zeroed z xs p m) → W.grownBy w1 (some g9) → Kc a w1) :
    if Region.wanted o (yielded ops a.tmps) = true then Oper.wp P o a W Kc Q else Kc (a.put o.dst undef) W := by
  obtain ⟨w1, hr, h2, h3⟩ := run_clear (P := P) (ty := o.type) z t e ht bytes hinfo hz g9 p m c' c9 xs HO hl
  refine event_step hw (w1 := w1) (v := .tuple #[]) ?_ (by rw [hd]; exact h w1 h2 h3)
  simp [execOp, ho, resolve, invoke, builtin, hx, hr]
end
end Go.Proofs.Ytekjkookkjjbcaa.RI
