/- copy(out[p+1:], out[p:]) within one row of the call's own, as one step of a region that draws. -/
import Derived.Test.YtabjfpjmiiiecaaD4
import Derived.Test.YtabjfpjmiiiecaaBase
import Derived.Laws.CopyOwn
namespace Go.Proofs.Ytabjfpjmiiiecaa.CI
set_option linter.unusedVariables false
set_option linter.unusedSimpArgs false
open Go.RowKit Go.Proofs.YtabjfpjmiiiecaaW.PrintWords Go.Proofs.YtabjfpjmiiiecaaW.PrintLast Go.Proofs.YtabjfpjmiiiecaaW.PrintMore Go.Proofs.Ytabjfpjmiiiecaa.B Go.Proofs.Ytabjfpjmiiiecaa.D
/-- The row, moved up by one from p on (the last element falls away). -/
def shiftL (xs : List Int) (p : Nat) : List Int := xs.take (p + 1) ++ (xs.drop p).take (xs.length - (p + 1))
theorem shift_len (xs : List Int) (p : Nat) (h : p < xs.length) : (shiftL xs p).length = xs.length := by
  unfold shiftL
  rw [List.length_append, List.length_take, List.length_take, List.length_drop]
  omega
theorem encs_take (xs : List Int) (n : Nat) : encs (Value.int .i32) (xs.take n) = (encs (Value.int .i32) xs).take n := by simp [encs, List.map_take]
theorem encs_drop (xs : List Int) (n : Nat) : encs (Value.int .i32) (xs.drop n) = (encs (Value.int .i32) xs).drop n := by simp [encs, List.map_drop]
theorem encs_app (xs ys : List Int) : encs (Value.int .i32) (xs ++ ys) = encs (Value.int .i32) xs ++ encs (Value.int .i32) ys := by simp [encs]
theorem encs_len (xs : List Int) : (encs (Value.int .i32) xs).length = xs.length := by simp [encs]
theorem copy_in {P : Program} {ops : Array Oper} {o : Oper} {a : Act} {W : World} {K : Act → World → Prop} {Q : Exit → Act → World → Prop} {E : Prop} (hgd : o.guard = none) (d s : Operand) (t : TypeId)
    (ho : o.op = .call { callee := .builtin .copy, args := #[d, s], argTypes := #[t, t] }) (hu : P.underlying t = some (.slice 21)) (hsz : (P.info? 21).map (·.size) = some 1)
    (base g cap p : Nat) (xs : List Int) (dp sp : Option Addr) (dLen dCap sLen sCap : Nat) (hd : a.eval d = .slice dp dLen dCap) (hs : a.eval s = .slice sp sLen sCap) (hp : p < xs.length) (hdl : dLen = xs.length - (p + 1)) (hsl : sLen = xs.length - p)
    (hpos : 0 < dLen → dp = some ⟨g, p + 1, none⟩ ∧ sp = some ⟨g, p, none⟩)
    (HO : Kd.R (Kd.int .i32) 21 W base (fun _ => True) (.slice (some ⟨g, 0, none⟩) xs.length cap) xs)
    (h : ∀ w', Kd.R (Kd.int .i32) 21 w' base (fun _ => True) (.slice (some ⟨g, 0, none⟩) xs.length cap) (shiftL xs p) → W.grownBy w' (some g) → K (a.put o.dst (goInt dLen)) w') :
    if Region.wanted o (yielded ops a.tmps) = true then Oper.wp P o a W K Q else E := by
  have hw : Region.wanted o (yielded ops a.tmps) = true := by simp [Region.wanted, hgd]
  rw [if_pos hw]
  by_cases h0 : dLen = 0
  · have hrun := run_copy_none (P := P) W t t o.type 21 dp sp dLen dCap sLen sCap hu hsz (by rw [h0]; exact Nat.min_zero _)
    unfold Oper.wp
    simp [execOp, ho, resolve, invoke, builtin, hd, hs, hrun, Result.andThen]
    have e : shiftL xs p = xs := by
      unfold shiftL
      rw [show xs.length - (p + 1) = 0 from by omega, List.take_zero, List.append_nil, List.take_of_length_le (by omega)]
    have hh := h W (by rw [e]; exact HO) (World.grownBy.refl W _)
    rw [h0] at hh
    exact hh
  · obtain ⟨rfl, rfl⟩ := hpos (by omega)
    have how := Kd.own_of_R HO
    obtain ⟨hil, hk⟩ := how
    rcases hk with ⟨hc, _⟩ | ⟨g', cap', cur, hv, hbg, hg, hn, hmx, hcs, htk⟩
    · cases hc
    · injection hv with hv1 hv2 hv3
      injection hv1 with hv1
      injection hv1 with hv1
      subst hv1
      subst hv3
      rw [Nat.mul_one] at hcs htk
      have hcl : cur.toList.length = cap := by rw [Array.length_toList]; exact hcs
      obtain ⟨cs, hcs2⟩ : ∃ cs, cs = (encs (Value.int .i32) xs |>.drop p).take dLen := ⟨_, rfl⟩
      have hcsl : cs.length = dLen := by rw [hcs2, List.length_take, List.length_drop, encs_len]; omega
      have hcell : ∀ j v, cs[j]? = some v → W.cell? (Addr.add ⟨g, p, none⟩ j) = some v := by
        intro j v hj
        have hjl : j < dLen := by rw [← hcsl]; exact (List.getElem?_eq_some_iff.1 hj).1
        rw [hcs2, List.getElem?_take, if_pos hjl, List.getElem?_drop, ← htk, List.getElem?_take, if_pos (by omega), Array.getElem?_toList] at hj
        have hadd : Addr.add ⟨g, p, none⟩ j = ⟨g, p + j, none⟩ := by simp [Addr.add]
        rw [hadd, cell_of_row W g (p + j) cur 21 (0, 0) hg]
        exact hj
      have hrun := run_copy_row (P := P) W t t o.type 21 g (p + 1) dLen dCap ⟨g, p, none⟩ sLen sCap cur 21 cs hu hsz hg (by rw [hcsl]; show dLen = min sLen dLen; omega) hcell (by rw [hcsl, hcs]; omega) (fun v hv => by
        rw [hcs2] at hv
        have := List.mem_of_mem_drop (List.mem_of_mem_take hv)
        obtain ⟨q, _, rfl⟩ := List.mem_map.1 this
        rfl)
      unfold Oper.wp
      simp [execOp, ho, resolve, invoke, builtin, hd, hs, hrun, Result.andThen]
      rw [hcsl]
      refine h _ ?_ ⟨rfl, rfl, rfl, by simp [World.setRow], fun k _ hk => setRow_other W g k _ (fun e => hk (by rw [e]))⟩
      have hl2 := shift_len xs p hp
      have : (Kd.scalar (Value.int .i32) (fun _ => rfl)).R 21 (W.setRow g (cur.toList.take (p + 1) ++ (cs ++ cur.toList.drop (p + 1 + dLen))).toArray) base (fun _ => True) (.slice (some ⟨g, 0, none⟩) xs.length cap) (shiftL xs p) := by
        refine Kd.R_of_own ⟨by rw [encs_len]; omega, .inr ⟨g, cap, _, by rw [hl2], hbg, setRow_heap W g cur _ 21 _ hg, by omega, hmx, ?_, ?_⟩⟩ (fun _ _ => trivial)
        · simp; omega
        · rw [Nat.mul_one, hl2]
          simp only [List.toList_toArray]
          unfold shiftL
          rw [encs_app, encs_take, encs_take, encs_drop, ← hdl, ← hcs2, ← List.append_assoc, List.take_append_of_le_length (by rw [List.length_append, List.length_take, hcsl]; omega), List.take_of_length_le (by rw [List.length_append, List.length_take, hcsl]; omega), ← htk, List.take_take, Nat.min_eq_left (by omega)]
      exact this
end Go.Proofs.Ytabjfpjmiiiecaa.CI
