/- A checker's Feed and Whole as functions proved by hand, in the form that the printed callers want. -/
import Derived.Test.YtabjfpjmiiiecaaD4
import Derived.Test.YtabjfpjmiiiecaaChkr
namespace Go.Proofs.Ytabjfpjmiiiecaa.CF
set_option linter.unusedVariables false
set_option linter.unusedSimpArgs false
open Go.RowKit Go.Proofs.YtabjfpjmiiiecaaW.PrintWords Go.Proofs.YtabjfpjmiiiecaaW.PrintLast Go.Proofs.Ytabjfpjmiiiecaa.B Go.Proofs.Ytabjfpjmiiiecaa.D Go.Proofs.Ytabjfpjmiiiecaa.CK
def runes_Checker_Feed.f (M B : Bool) (n l h : Int) (l1 : List Int) : Option (Bool × Bool × Bool × Int × Int × Int) :=
  if M = true ∧ l1.length ≤ 140737488351232 then some (!(feedV l1 (B, n, l, h)).1, true, feedV l1 (B, n, l, h)) else none
theorem runes_Checker_Feed.calls (g : Nat) (M B : Bool) (n l h : Int) (A1 : Option Addr) (c1 : Nat) (l1 : List Int) (r1 r2 r3 : Bool) (r4 r5 r6 : Int) (w0 w : World) (hI : IsS48 w0 w g M B n l h) (hB : Below w0.heap.size w0 w) (hr1 : Kd.C (Kd.int .u8) w A1 l1.length l1) (hc1 : l1.length ≤ c1) (hf1 : ∀ ad, A1 = some ad → 0 < l1.length → ad.block ≠ g)
    (hf : runes_Checker_Feed.f M B n l h l1 = some (r1, r2, r3, r4, r5, r6)) :
    Calls Try.prog 23 #[.pointer (some ⟨g, 0, none⟩), .slice A1 l1.length c1] w fun e w' => e = .returned (.bool r1) ∧ IsS48 w0 w' g r2 r3 r4 r5 r6 ∧ Below w0.heap.size w0 w' ∧ KeepBut w w' g none := by
  unfold runes_Checker_Feed.f at hf
  split at hf
  · rename_i hm
    obtain ⟨rfl, hl⟩ := hm
    have h2 := Option.some.inj hf
    simp only [Prod.mk.injEq] at h2
    obtain ⟨rfl, rfl, h3⟩ := h2
    rw [h3]
    refine (feed_calls2 w0 w g B n l h l1 A1 c1 hr1 hf1 hc1 hl hI hB r3 r4 r5 r6 h3).mono fun e w' hx => ⟨hx.1, hx.2.st, hx.2.bl, hx.2.kp⟩
  · cases hf
def runes_Checker_Whole.f (M B : Bool) (n l h : Int) : Option (Bool × Bool × Bool × Int × Int × Int) := if M = true then some (!B && n == 0, M, B, n, l, h) else none
theorem runes_Checker_Whole.calls (g : Nat) (M B : Bool) (n l h : Int) (r1 r2 r3 : Bool) (r4 r5 r6 : Int) (w0 w : World) (hI : IsS48 w0 w g M B n l h) (hB : Below w0.heap.size w0 w) (hf : runes_Checker_Whole.f M B n l h = some (r1, r2, r3, r4, r5, r6)) :
    Calls Try.prog 25 #[.pointer (some ⟨g, 0, none⟩)] w fun e w' => e = .returned (.bool r1) ∧ IsS48 w0 w' g r2 r3 r4 r5 r6 ∧ Below w0.heap.size w0 w' ∧ KeepBut w w' g none := by
  unfold runes_Checker_Whole.f at hf
  split at hf
  · rename_i hm
    subst hm
    have h2 := Option.some.inj hf
    simp only [Prod.mk.injEq] at h2
    obtain ⟨rfl, rfl, rfl, rfl, rfl, rfl⟩ := h2
    refine (whole_calls w0 w g B n l h hI).mono fun e w' hx => ⟨hx.1, ?_, ?_, ?_⟩
    · exact IsC.below (show IsC w0 w g true B n l h from hI) hx.2.below
    · exact below_step hB hx.2.below
    · exact KeepBut.of_below hx.2.below g none
  · cases hf
end Go.Proofs.Ytabjfpjmiiiecaa.CF
