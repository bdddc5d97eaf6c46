/- date's functions in closed form, as printed functions would stand. -/
import Derived.Test.YtnmhkmkaklhapaaDoorCiv
import Derived.Test.YtnmhkmkaklhapaaDoorHead
import Derived.Test.YtnmhkmkaklhapaaDoorG4
namespace Go.Proofs.YtnmhkmkaklhapaaDoor.MN
set_option linter.unusedVariables false
set_option linter.unusedSimpArgs false
open Go.RowKit Go.Proofs.YtnmhkmkaklhapaaDoorW.PrintWords Go.Proofs.YtnmhkmkaklhapaaDoorW.PrintLast Go.Proofs.YtnmhkmkaklhapaaDoorW.PrintMore Go.Proofs.YtnmhkmkaklhapaaDoor.B Go.Proofs.YtnmhkmkaklhapaaDoor.M Go.Proofs.YtnmhkmkaklhapaaDoor.Glob Go.Proofs.YtnmhkmkaklhapaaDoor.Cal Go.Proofs.YtnmhkmkaklhapaaDoor.Chk Go.Proofs.YtnmhkmkaklhapaaDoor.DP

def I64 (n : Int) : Prop := -9223372036854775808 ≤ n ∧ n ≤ 9223372036854775807
def I16 (n : Int) : Prop := -32768 ≤ n ∧ n ≤ 32767
def I8 (n : Int) : Prop := -128 ≤ n ∧ n ≤ 127
instance (n : Int) : Decidable (I64 n) := inferInstanceAs (Decidable (_ ∧ _))
instance (n : Int) : Decidable (I16 n) := inferInstanceAs (Decidable (_ ∧ _))
instance (n : Int) : Decidable (I8 n) := inferInstanceAs (Decidable (_ ∧ _))
def posthornlaw06_head.f : Option Bool := some true
theorem posthornlaw06_head.calls (r : Bool) (w : World) (HG : GOk w) (h : posthornlaw06_head.f = some r) :
    Calls Tryd.prog 15 #[] w fun e w' => e = .returned (.bool r) ∧ Below w.heap.size w w' := by
  obtain rfl := Option.some.inj h
  obtain ⟨k, hk⟩ := head_ev
  exact G.posthornlaw06_head.calls k true w HG (hk k (Nat.le_refl _))
def date_Civil.f (a0 : Int) : Option (Int × Int × Int × Int) := if I64 a0 then some (civV a0) else none
theorem date_Civil.calls (a0 : Int) (r1 r2 r3 r4 : Int) (w : World) (h : date_Civil.f a0 = some (r1, r2, r3, r4)) :
    Calls Tryd.prog 19 #[.int .i64 a0] w fun e w' => e = .returned (.tuple #[.int .i16 r1, .int .i8 r2, .int .i8 r3, .int .i64 r4]) ∧ Drawn0 w w' := by
  unfold date_Civil.f at h
  split at h
  · rename_i hb
    obtain ⟨k, hk⟩ := Civil_ev a0 hb.1 hb.2
    exact G.date_Civil.calls k a0 r1 r2 r3 r4 w ((hk k (Nat.le_refl _)).trans h)
  · cases h
def posthornref06_Civil.f (a0 : Int) : Option (Int × Int × Int × Int) := some (civV a0)
theorem posthornref06_Civil.calls (a0 : Int) (r1 r2 r3 r4 : Int) (w : World) (h : posthornref06_Civil.f a0 = some (r1, r2, r3, r4)) :
    Calls Tryd.prog 18 #[.int .i64 a0] w fun e w' => e = .returned (.tuple #[.int .i16 r1, .int .i8 r2, .int .i8 r3, .int .i64 r4]) ∧ Drawn0 w w' := by
  obtain ⟨k, hk⟩ := refCivil_ev a0
  exact G.posthornref06_Civil.calls k a0 r1 r2 r3 r4 w ((hk k (Nat.le_refl _)).trans h)
def date_Weekday.f (a0 : Int) : Option Int := some (wkV a0)
theorem date_Weekday.calls (a0 r : Int) (w : World) (h : date_Weekday.f a0 = some r) :
    Calls Tryd.prog 20 #[.int .i64 a0] w fun e w' => e = .returned (.int .i8 r) ∧ Drawn0 w w' := D.date_Weekday.calls a0 r w ((Weekday_f a0).trans h)
def date_Days.f (a0 a1 a2 : Int) : Option (Int × Int) := if I16 a0 ∧ I8 a1 ∧ I8 a2 then some (daysV a0 a1 a2) else none
theorem date_Days.calls (a0 a1 a2 r1 r2 : Int) (w : World) (h : date_Days.f a0 a1 a2 = some (r1, r2)) :
    Calls Tryd.prog 14 #[.int .i16 a0, .int .i8 a1, .int .i8 a2] w fun e w' => e = .returned (.tuple #[.int .i64 r1, .int .i64 r2]) ∧ Drawn0 w w' := by
  unfold date_Days.f at h
  split at h
  · rename_i hb
    have := Days_calls a0 a1 a2 hb.1.1 hb.1.2 hb.2.1.1 hb.2.1.2 hb.2.2.1 hb.2.2.2 w
    rw [Option.some.inj h] at this
    exact this
  · cases h
def date_Check.f (y mo d h m s z : Int) : Option Int := if I16 y ∧ I8 mo ∧ I8 d then some (chkV y mo d h m s z) else none
theorem date_Check.calls (y mo d h m s z r : Int) (w : World) (hf : date_Check.f y mo d h m s z = some r) :
    Calls Tryd.prog 29 #[.agg #[.int .i16 y, .int .i8 mo, .int .i8 d, .int .i8 h, .int .i8 m, .int .i8 s, .int .i16 z]] w fun e w' => e = .returned (.int .i64 r) ∧ Below w.heap.size w w' := by
  unfold date_Check.f at hf
  split at hf
  · rename_i hb
    have := Check_calls y mo d h m s z hb.1.1 hb.1.2 hb.2.1.1 hb.2.1.2 hb.2.2.1 hb.2.2.2 w
    rw [Option.some.inj hf] at this
    exact this
  · cases hf
def secT (y mo d h m s z : Int) : Int × Int := if chkV y mo d h m s z = 0 then (secV y mo d h m s z, 0) else (0, chkV y mo d h m s z)
def allI (y mo d h m s z : Int) : Prop := I16 y ∧ I8 mo ∧ I8 d ∧ I8 h ∧ I8 m ∧ I8 s ∧ I16 z
instance (y mo d h m s z : Int) : Decidable (allI y mo d h m s z) := inferInstanceAs (Decidable (_ ∧ _ ∧ _ ∧ _ ∧ _ ∧ _ ∧ _))
def date_Seconds.f (y mo d h m s z : Int) : Option (Int × Int) := if allI y mo d h m s z then some (secT y mo d h m s z) else none
theorem date_Seconds.calls (y mo d h m s z r1 r2 : Int) (w : World) (hf : date_Seconds.f y mo d h m s z = some (r1, r2)) :
    Calls Tryd.prog 24 #[.agg #[.int .i16 y, .int .i8 mo, .int .i8 d, .int .i8 h, .int .i8 m, .int .i8 s, .int .i16 z]] w fun e w' => e = .returned (.tuple #[.int .i64 r1, .int .i64 r2]) ∧ Below w.heap.size w w' := by
  unfold date_Seconds.f at hf
  split at hf
  · rename_i hb
    obtain ⟨⟨b1, b2⟩, ⟨b3, b4⟩, ⟨b5, b6⟩, ⟨b7, b8⟩, ⟨b9, b10⟩, ⟨b11, b12⟩, b13, b14⟩ := hb
    obtain ⟨k, hk⟩ := Seconds_ev y mo d h m s z b1 b2 b3 b4 b5 b6 b7 b8 b9 b10 b11 b12 b13 b14
    exact D.date_Seconds.calls k y mo d h m s z r1 r2 w ((hk k (Nat.le_refl _)).trans hf)
  · cases hf
end Go.Proofs.YtnmhkmkaklhapaaDoor.MN
