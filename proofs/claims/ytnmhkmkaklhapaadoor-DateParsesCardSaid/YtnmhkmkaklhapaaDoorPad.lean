/- date.padded, in closed words. -/
import Derived.Test.YtnmhkmkaklhapaaDoorMan
import Derived.Test.YtnmhkmkaklhapaaDoorG4
namespace Go.Proofs.YtnmhkmkaklhapaaDoor.DP
set_option linter.unusedVariables false
set_option linter.unusedSimpArgs false
open Go.RowKit Go.Proofs.YtnmhkmkaklhapaaDoorW.PrintWords Go.Proofs.YtnmhkmkaklhapaaDoorW.PrintLast Go.Proofs.YtnmhkmkaklhapaaDoorW.PrintMore Go.Proofs.YtnmhkmkaklhapaaDoor.B Go.Proofs.YtnmhkmkaklhapaaDoor.G Go.Proofs.YtnmhkmkaklhapaaDoor.MN Go.Proofs.YtnmhkmkaklhapaaDoor.Dec
def padL (n k : Nat) : List Int := List.replicate (k - (decN n).length) 48 ++ decN n
theorem padL_in (n k : Nat) : ∀ x ∈ padL n k, 48 ≤ x ∧ x ≤ 57 := by
  intro x hx
  unfold padL at hx
  rcases List.mem_append.1 hx with h | h
  · have := (List.mem_replicate.1 h).2; omega
  · exact decN_in n x h
theorem padL_inB (n k : Nat) : InB (padL n k) := fun x hx => by have := padL_in n k x hx; omega
theorem str_app (a b : List Int) : strOfNums a ++ strOfNums b = strOfNums (a ++ b) := by
  refine bytesOf_inj ?_
  unfold bytesOf strOfNums
  rw [ByteArray.toList_data_append] 
  simp
theorem padded_l0 (n : Nat) (k : Nat) (hk : k ≤ 100) (hn : n < 10000000000) (c : Nat) : ∀ j : Nat, k - ((decN n).length + j) = c → Ev (fun r => date_padded.l0 r (k : Int) (strOfNums (List.replicate j 48 ++ decN n))) (strOfNums (List.replicate (j + c) 48 ++ decN n)) := by
  have hl := decN_len 9 n (by omega)
  induction c with
  | zero =>
    intro j hc
    refine Ev.last fun r => ?_
    rw [date_padded.l0, if_neg (by rw [strOfNums_len, List.length_append, List.length_replicate]; omega)]
    rfl
  | succ c ih =>
    intro j hc
    have key := ih (j + 1) (by omega)
    rw [show j + 1 + c = j + (c + 1) from by omega] at key
    refine Ev.step (fun r => ?_) key
    have e : (⟨#[48]⟩ : ByteArray) = strOfNums [48] := by kernel_rfl
    rw [date_padded.l0, if_pos (by rw [strOfNums_len, List.length_append, List.length_replicate]; omega), if_pos (by rw [strOfNums_len, List.length_append, List.length_replicate]; omega), e, str_app]
    rfl
theorem padded_ev (n k : Nat) (hk : k ≤ 100) (hn : n < 32768) : Ev (fun r => date_padded.f r (n : Int) (k : Int)) (strOfNums (padL n k)) := by
  unfold date_padded.f octet_Decimal.f
  have w : IntKind.u64.wrap (n : Int) = (n : Int) := by
    unfold IntKind.wrap
    simp only [show IntKind.u64.bits = 64 from rfl, show IntKind.u64.signed = false from rfl, Bool.false_and, show (2 : Int) ^ 64 = 18446744073709551616 from by decide]
    rw [if_neg (by decide)]
    omega
  rw [w, if_pos ⟨by omega, by omega⟩]
  have key := padded_l0 n k hk (by omega) (k - (decN n).length) 0 (by rw [Nat.add_zero])
  rw [Nat.zero_add] at key
  exact Ev.congr (fun r => by rw [bind_some', Int.toNat_natCast]; rfl) key
end Go.Proofs.YtnmhkmkaklhapaaDoor.DP
namespace Go.Proofs.YtnmhkmkaklhapaaDoor.MN
open Go.RowKit Go.Proofs.YtnmhkmkaklhapaaDoorW.PrintWords Go.Proofs.YtnmhkmkaklhapaaDoor.DP
def date_padded.f (n k : Int) : Option ByteArray := if (0 ≤ n ∧ n ≤ 32767) ∧ 0 ≤ k ∧ k ≤ 100 then some (strOfNums (padL n.toNat k.toNat)) else none
theorem date_padded.calls (n k : Int) (r : ByteArray) (w : World) (h : date_padded.f n k = some r) :
    Calls Tryd.prog 55 #[.int .i16 n, .int .i64 k] w fun e w' => e = .returned (.string r) ∧ Below w.heap.size w w' := by
  unfold date_padded.f at h
  split at h
  · rename_i hb
    obtain ⟨q, hq⟩ := padded_ev n.toNat k.toNat (by omega) (by omega)
    rw [Int.toNat_of_nonneg hb.1.1, Int.toNat_of_nonneg hb.2.1] at hq
    exact G.date_padded.calls q n k r w ((hq q (Nat.le_refl _)).trans h)
  · cases h
end Go.Proofs.YtnmhkmkaklhapaaDoor.MN
