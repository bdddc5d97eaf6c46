/- DateChecks' walk (all answers are known ahead). -/
import Derived.Test.YtnmhkmkaklhapaaDoorPrintE
import Derived.Test.YtnmhkmkaklhapaaDoorMan
namespace Go.Proofs.YtnmhkmkaklhapaaDoor.DP
set_option linter.unusedVariables false
set_option linter.unusedSimpArgs false
open Go.RowKit Go.Proofs.YtnmhkmkaklhapaaDoorW.PrintWords Go.Proofs.YtnmhkmkaklhapaaDoorW.PrintLast Go.Proofs.YtnmhkmkaklhapaaDoorW.PrintMore Go.Proofs.YtnmhkmkaklhapaaDoor.B Go.Proofs.YtnmhkmkaklhapaaDoor.Cal Go.Proofs.YtnmhkmkaklhapaaDoor.Chk Go.Proofs.YtnmhkmkaklhapaaDoor.MN Go.Proofs.YtnmhkmkaklhapaaDoor.T Go.Proofs.YtnmhkmkaklhapaaDoor.M Go.Proofs.YtnmhkmkaklhapaaDoor.Dec Go.Proofs.YtnmhkmkaklhapaaDoor.Glob
theorem PS.gok {w W : World} {g : Nat} {y mo d h m s z : Int} (HG : GOk w) (k : PS w g y mo d h m s z W ∧ W.cell? ⟨g, 0, none⟩ = some (.int .i16 y) ∧ W.cell? ⟨g, 1, none⟩ = some (.int .i8 mo) ∧ W.cell? ⟨g, 2, none⟩ = some (.int .i8 d) ∧ W.cell? ⟨g, 3, none⟩ = some (.int .i8 h) ∧ W.cell? ⟨g, 4, none⟩ = some (.int .i8 m) ∧ W.cell? ⟨g, 5, none⟩ = some (.int .i8 s) ∧ W.cell? ⟨g, 6, none⟩ = some (.int .i16 z)) : GOk W := GOk.of_below HG (PS.of_full k).2
set_option maxHeartbeats 4000000 in
set_option maxRecDepth 100000 in
theorem checks_walk (y mo d h m s z c sc : Int) (P : ByteArray) (hck : date_Check.f y mo d h m s z = some c) (hsec : date_Seconds.f y mo d h m s z = some (sc, c))
    (hrck : ∀ w, Calls Tryd.prog 30 #[.agg #[.int .i16 y, .int .i8 mo, .int .i8 d, .int .i8 h, .int .i8 m, .int .i8 s, .int .i16 z]] w fun e w' => e = .returned (.int .i64 c) ∧ Below w.heap.size w w')
    (hrsec : ∀ w, Calls Tryd.prog 26 #[.agg #[.int .i16 y, .int .i8 mo, .int .i8 d, .int .i8 h, .int .i8 m, .int .i8 s, .int .i16 z]] w fun e w' => e = .returned (.tuple #[.int .i64 sc, .int .i64 c]) ∧ Below w.heap.size w w')
    (hpr : ∀ w, Calls Tryd.prog 28 #[.agg #[.int .i16 y, .int .i8 mo, .int .i8 d, .int .i8 h, .int .i8 m, .int .i8 s, .int .i16 z]] w fun e w' => e = .returned (.tuple #[.string P, .int .i64 c]) ∧ Below w.heap.size w w')
    (hrpr : ∀ w, Calls Tryd.prog 27 #[.agg #[.int .i16 y, .int .i8 mo, .int .i8 d, .int .i8 h, .int .i8 m, .int .i8 s, .int .i16 z]] w fun e w' => e = .returned (.tuple #[.string P, .int .i64 c]) ∧ Below w.heap.size w w') (w : World) (HG : GOk w) :
    Calls Tryd.prog 8 #[.agg #[.int .i16 y, .int .i8 mo, .int .i8 d, .int .i8 h, .int .i8 m, .int .i8 s, .int .i16 z]] w fun e w' => e = .returned (.bool true) ∧ Below w.heap.size w w' := by
  have h0 : PS w w.heap.size y mo d h m s z (w.alloc (.cells #[.int .i16 y, .int .i8 mo, .int .i8 d, .int .i8 h, .int .i8 m, .int .i8 s, .int .i16 z] 30)) := ⟨heap_alloc_new w _, below_alloc (Below.refl _ _) _⟩
  have HP0 := Aside0.mk h0
  clear h0
  have hck_ := Aside0.mk hck
  clear hck
  have hsec_ := Aside0.mk hsec
  clear hsec
  have hrck_ := Aside0.mk hrck
  clear hrck
  have hrsec_ := Aside0.mk hrsec
  clear hrsec
  have hpr_ := Aside0.mk hpr
  clear hpr
  have hrpr_ := Aside0.mk hrpr
  clear hrpr
  have HG_ := Aside0.mk HG
  clear HG
  go_enter Tryd.func8, Tryd.ntmps8
  go_wp2_with (first
    | ((go_at_call 26); (with_reducible refine (hrsec_.out _).mono ?_); rintro e w1 ⟨rfl, hb⟩; have HP1 := Aside0.mk (HP0.out.below hb); obtain ⟨a1, b1, c1, d1, e1, f1, g1, k1⟩ := DT.all HP1.out.1; clear hb)
    | ((go_at_call 24); (with_reducible refine (date_Seconds.calls y mo d h m s z sc c _ hsec_.out).mono ?_); rintro e w2 ⟨rfl, hb⟩; have HP2 := Aside0.mk (HP1.out.below hb); obtain ⟨a2, b2, c2, d2, e2, f2, g2, k2⟩ := DT.all HP2.out.1; clear hb)
    | ((go_at_call 27); (with_reducible refine (hrpr_.out _).mono ?_); rintro e w3 ⟨rfl, hb⟩; have HP3 := Aside0.mk (HP2.out.below hb); obtain ⟨a3, b3, c3, d3, e3, f3, g3, k3⟩ := DT.all HP3.out.1; clear hb)
    | ((go_at_call 28); (with_reducible refine (hpr_.out _).mono ?_); rintro e w4 ⟨rfl, hb⟩; have HP4 := Aside0.mk (HP3.out.below hb); obtain ⟨a4, b4, c4, d4, e4, f4, g4, k4⟩ := DT.all HP4.out.1; clear hb))
  go_region_held3 (fun W => PS w w.heap.size y mo d h m s z W ∧ W.cell? ⟨w.heap.size, 0, none⟩ = some (.int .i16 y) ∧ W.cell? ⟨w.heap.size, 1, none⟩ = some (.int .i8 mo) ∧ W.cell? ⟨w.heap.size, 2, none⟩ = some (.int .i8 d) ∧ W.cell? ⟨w.heap.size, 3, none⟩ = some (.int .i8 h) ∧ W.cell? ⟨w.heap.size, 4, none⟩ = some (.int .i8 m) ∧ W.cell? ⟨w.heap.size, 5, none⟩ = some (.int .i8 s) ∧ W.cell? ⟨w.heap.size, 6, none⟩ = some (.int .i16 z)) (first | assumption | exact PS.full HP4.out | exact PS.full HP4.out.drew | exact PS.full (by assumption) | exact PS.full (PS.drew (PS.of_full (by assumption))))
    (((first
    | (go_at_call 29; (with_reducible refine (date_Check.calls y mo d h m s z c _ hck_.out).mono ?_); rintro e wp ⟨rfl, hb⟩; have hpp : PS w w.heap.size y mo d h m s z wp := PS.below (PS.of_full (by first | assumption | exact PS.full HP4.out.drew | exact PS.full HP4.out)) hb; clear hb)
    | (go_at_call 30; (with_reducible refine (hrck_.out _).mono ?_); rintro e wp ⟨rfl, hb⟩; have hpp : PS w w.heap.size y mo d h m s z wp := PS.below (PS.of_full (by first | assumption | exact PS.full HP4.out.drew | exact PS.full HP4.out)) hb; clear hb)
    | (go_at_call 15; (with_reducible refine (posthornlaw06_head.calls true _ (PS.gok (y := y) (mo := mo) (d := d) (h := h) (m := m) (s := s) (z := z) (g := w.heap.size) HG_.out (by first | assumption | exact PS.full HP4.out.drew | exact PS.full HP4.out | exact PS.full (by assumption))) rfl).mono ?_); rintro e wp ⟨rfl, hb⟩; have hpp : PS w w.heap.size y mo d h m s z wp := PS.below (PS.of_full (by first | assumption | exact PS.full HP4.out.drew | exact PS.full HP4.out)) hb; clear hb))))
  go_wp2
  go_ret
  refine ⟨?_, (PS.of_full (by assumption)).2⟩
  rfl
end Go.Proofs.YtnmhkmkaklhapaaDoor.DP
