/- Decode, of the program and of the reference, in closed form; the program's as a function proved by hand. -/
import Derived.Test.YtabjfpjmiiiecaaDecE
namespace Go.Proofs.Ytabjfpjmiiiecaa.CK
set_option linter.unusedVariables false
set_option linter.unusedSimpArgs false
open Go.RowKit Go.Proofs.YtabjfpjmiiiecaaW.PrintWords Go.Proofs.Ytabjfpjmiiiecaa.B Go.Proofs.Ytabjfpjmiiiecaa.D Go.Proofs.Ytabjfpjmiiiecaa.DE
theorem bad_le : ∀ (f : Nat) (l : List Int), badV f l ≤ l.length
  | 0, _ => Nat.zero_le _
  | f + 1, l => by
    rw [bad_succ]
    split
    · exact Nat.zero_le _
    · have h := bad_le f (l.drop (oneV l))
      have hb := one_le l
      rw [List.length_drop] at h
      omega
theorem refDec_l0 (s : ByteArray) (hs : s.size ≤ 35184372088831) : ∀ (f p : Nat) (xs : List Int), p ≤ s.size → s.size - p ≤ f → badV f ((bytesOf s).drop p) = s.size - p → xs.length ≤ p →
    Ev (fun k => posthornref05_Decode.l0 k (bytesOf s) xs (p : Int)) (xs ++ decL s f p, 0, 0)
  | 0, p, xs, hp, hf, _, _ => by
    refine Ev.last fun k => ?_
    rw [posthornref05_Decode.l0, bytesOf_len, if_neg (by omega)]
    show _ = some (xs ++ [], 0, 0)
    rw [List.append_nil]
  | f + 1, p, xs, hp, hf, hb, hx => by
    by_cases hlt : p < s.size
    · have hl : ((bytesOf s).drop p).length = s.size - p := by rw [List.length_drop, bytesOf_len]
      rw [bad_succ] at hb
      have hz : oneV ((bytesOf s).drop p) ≠ 0 := fun e => by rw [if_pos e] at hb; omega
      rw [if_neg hz, List.drop_drop] at hb
      have ho := one_le ((bytesOf s).drop p)
      obtain ⟨d1, d2⟩ := dec_one s p _ rfl (by omega)
      have hv := one_ev (bytesOf s) (bytesOf_in s) (by rw [bytesOf_len]; omega) p (by rw [bytesOf_len]; omega)
      unfold oneR at hv
      rw [if_neg hz] at hv
      rw [decL_step s f p hlt, d1, d2]
      generalize oneV ((bytesOf s).drop p) = n at *
      generalize numV (((bytesOf s).drop p).take n) = c at *
      have ih := refDec_l0 s hs f (p + n) (xs ++ [c]) (by omega) (by omega) (by omega) (by rw [List.length_append]; simp; omega)
      obtain ⟨K, hK⟩ := hv
      obtain ⟨K2, hK2⟩ := ih
      refine ⟨max K K2 + 1, fun k hk => ?_⟩
      obtain ⟨q, rfl⟩ : ∃ q, k = q + 1 := ⟨k - 1, by omega⟩
      have e1 := hK q (by omega)
      have e2 := hK2 q (by omega)
      dsimp only at e1 e2 ⊢
      rw [posthornref05_Decode.l0, bytesOf_len, if_pos (by omega), e1, bind_some', if_pos (by omega), wrap_id _ (by omega) (by omega)]
      rw [List.append_assoc] at e2
      exact e2
    · rw [decL_end s (f + 1) p hlt, List.append_nil]
      refine Ev.last fun k => ?_
      rw [posthornref05_Decode.l0, bytesOf_len, if_neg (by omega)]
/-- What Decode tells: the runes, or the error and its place. -/
def decodeV (s : ByteArray) : List Int × Int × Int := if badV s.size (bytesOf s) < s.size then ([], 50, (badV s.size (bytesOf s) : Int)) else (decL s s.size 0, 0, 0)
theorem refDecode_ev (s : ByteArray) (hs : s.size ≤ 35184372088831) : Ev (fun k => posthornref05_Decode.f k s) (decodeV s) := by
  unfold posthornref05_Decode.f decodeV
  refine Ev.congr (fun k => by rw [if_pos (by omega), bind_some']) ?_
  have hv := refBad_ev (bytesOf s) (bytesOf_in s) (by rw [bytesOf_len]; omega)
  rw [bytesOf_len] at hv
  refine Ev.bind hv ?_
  have hle := bad_le s.size (bytesOf s)
  rw [bytesOf_len] at hle
  by_cases hb : badV s.size (bytesOf s) < s.size
  · rw [if_pos hb]
    exact Ev.val fun k => by rw [bytesOf_len, if_pos (by omega)]
  · rw [if_neg hb]
    have h := refDec_l0 s hs s.size 0 [] (Nat.zero_le _) (by omega) (by rw [List.drop_zero]; omega) (Nat.zero_le _)
    exact Ev.congr (fun k => by rw [bytesOf_len, if_neg (by omega)]; rfl) h
theorem badS_calls (s : ByteArray) (hs : s.size ≤ 140737488351232) (w : World) : Calls Try.prog 13 #[.string s] w fun e w' => e = .returned (.int .i64 (badV s.size (bytesOf s) : Int)) ∧ Below w.heap.size w w' := by
  obtain ⟨k, hk⟩ := bad_same s hs
  exact runes_Bad_string.calls k s _ w (hk k (Nat.le_refl _))
end Go.Proofs.Ytabjfpjmiiiecaa.CK
namespace Go.Proofs.Ytabjfpjmiiiecaa.MN
open Go.RowKit Go.Proofs.YtabjfpjmiiiecaaW.PrintWords Go.Proofs.Ytabjfpjmiiiecaa.B Go.Proofs.Ytabjfpjmiiiecaa.D Go.Proofs.Ytabjfpjmiiiecaa.DE Go.Proofs.Ytabjfpjmiiiecaa.CK
def runes_Decode.f (a0 : ByteArray) : Option (List Int × Int × Int) := if a0.size ≤ 35184372088831 then some (decodeV a0) else none
theorem runes_Decode.calls (a0 : ByteArray) (r1 : List Int) (r2 r3 : Int) (w : World) (h : runes_Decode.f a0 = some (r1, r2, r3)) :
    Calls Try.prog 20 #[.string a0] w fun e w' => ∃ v0_ : Value, e = .returned (.tuple #[v0_, .agg #[.int .i64 r2, .int .i64 r3]]) ∧ Kd.R (Kd.int .i32) 21 w' w.heap.size (fun _ => True) v0_ r1 ∧ Below w.heap.size w w' := by
  unfold runes_Decode.f at h
  split at h
  · rename_i hs
    have h2 := Option.some.inj h
    unfold decodeV at h2
    have hle := bad_le a0.size (bytesOf a0)
    rw [bytesOf_len] at hle
    by_cases hb : badV a0.size (bytesOf a0) < a0.size
    · rw [if_pos hb] at h2
      simp only [Prod.mk.injEq] at h2
      obtain ⟨rfl, rfl, rfl⟩ := h2
      refine (decode_no a0 _ (by omega) w (fun W => badS_calls a0 (by omega) W)).mono fun e w' hx => ⟨_, hx.1, Kd.R_nil _ _ _ _ _, hx.2⟩
    · rw [if_neg hb] at h2
      simp only [Prod.mk.injEq] at h2
      obtain ⟨rfl, rfl, rfl⟩ := h2
      refine decode_yes a0 hs w (fun W => ?_)
      have := badS_calls a0 (by omega) W
      rw [show badV a0.size (bytesOf a0) = a0.size from by omega] at this
      exact this
  · cases h
end Go.Proofs.Ytabjfpjmiiiecaa.MN
