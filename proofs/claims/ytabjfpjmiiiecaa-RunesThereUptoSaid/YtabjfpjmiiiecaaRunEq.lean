/- A list of runes is equal to itself; how long the lists are that Decode and Unpuny tell. -/
import Derived.Test.YtabjfpjmiiiecaaD3
import Derived.Test.YtabjfpjmiiiecaaUnpE
import Derived.Test.YtabjfpjmiiiecaaDecM
namespace Go.Proofs.Ytabjfpjmiiiecaa.RQ
set_option linter.unusedVariables false
set_option linter.unusedSimpArgs false
open Go.RowKit Go.Proofs.YtabjfpjmiiiecaaW.PrintWords Go.Proofs.Ytabjfpjmiiiecaa.B Go.Proofs.Ytabjfpjmiiiecaa.D Go.Proofs.Ytabjfpjmiiiecaa.DE Go.Proofs.Ytabjfpjmiiiecaa.CK Go.Proofs.Ytabjfpjmiiiecaa.UN
theorem eq_l0 (l : List Int) (hl : l.length ≤ 9223372036854775806) : ∀ (d j : Nat), j + d = l.length → Ev (fun k => slices_Equal_rune_rune.l0 k l l (l.length : Int) (j : Int)) true
  | 0, j, h => Ev.last fun k => by rw [slices_Equal_rune_rune.l0, if_neg (by omega)]
  | d + 1, j, h => by
    refine Ev.round (fun k => ?_) (eq_l0 l hl d (j + 1) (by omega))
    rw [slices_Equal_rune_rune.l0, if_pos (by omega), if_pos (by omega), if_pos (by omega), if_pos (by omega), if_pos rfl, wrap_id _ (by omega) (by omega)]
    rfl
theorem eq_ev (l : List Int) (hl : l.length ≤ 9223372036854775806) : Ev (fun k => slices_Equal_rune_rune.f k l l) true := by
  unfold slices_Equal_rune_rune.f
  refine Ev.congr (fun k => by rw [if_pos rfl]; rfl) (eq_l0 l hl l.length 0 (by omega))
theorem decL_len (s : ByteArray) : ∀ (f p : Nat), (decL s f p).length ≤ f
  | 0, _ => Nat.le_refl _
  | f + 1, p => by
    rw [decL]
    split
    · rw [List.length_cons]
      exact Nat.succ_le_succ (decL_len s f _)
    · exact Nat.zero_le _
theorem decodeV_len (s : ByteArray) : (decodeV s).1.length ≤ s.size := by
  unfold decodeV
  split
  · exact Nat.zero_le _
  · exact decL_len s s.size 0
theorem outP_len (s : ByteArray) : ∀ (f : Nat) (out : List Int) (p : Nat) (n place bias : Int) (first : Bool), p ≤ s.size → out.length ≤ p → (outP s f out p n place bias first).1.length ≤ s.size
  | 0, out, p, _, _, _, _, hp, ho => by
    show out.length ≤ s.size
    omega
  | f + 1, out, p, n, place, bias, first, hp, ho => by
    rw [outP]
    split
    · have hin := digP_in s bias s.size p 0 1 36 hp (by omega) (by omega) (by omega) (by omega)
      generalize digP s bias s.size p 0 1 36 = D at *
      split
      · rename_i h1
        split
        · refine outP_len s f _ _ _ _ _ _ hin.1 ?_
          rw [ins_len]
          have := (hin.2 h1).2.2
          omega
        · exact Nat.zero_le _
      · exact Nat.zero_le _
    · show out.length ≤ s.size
      omega
theorem unpunyV_len (s : ByteArray) : (unpunyV s).1.length ≤ s.size := by
  have hl := last_lt s 45 s.size
  unfold unpunyV unpV
  split
  · split
    · exact Nat.zero_le _
    · refine outP_len s s.size _ _ _ _ _ _ (by omega) ?_
      rw [List.length_take]
      omega
  · exact outP_len s s.size _ _ _ _ _ _ (Nat.zero_le _) (Nat.zero_le _)
end Go.Proofs.Ytabjfpjmiiiecaa.RQ
