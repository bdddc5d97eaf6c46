/- CodeQuotes: the walk of the statement, along the way on which all tests hold. -/
import Derived.Test.YtokgckhhhhigiaaDoorRdr
import Derived.Test.YtokgckhhhhigiaaDoorQuoW
import Derived.Test.YtokgckhhhhigiaaDoorRefQuo
namespace Go.Proofs.YtokgckhhhhigiaaDoor.QL
set_option linter.unusedVariables false
set_option linter.unusedSimpArgs false
open Go.RowKit Go.Proofs.YtokgckhhhhigiaaDoorW.PrintWords Go.Proofs.YtokgckhhhhigiaaDoorW.PrintLast Go.Proofs.YtokgckhhhhigiaaDoorW.PrintMore Go.Proofs.YtokgckhhhhigiaaDoor.B Go.Proofs.YtokgckhhhhigiaaDoor.M Go.Proofs.YtokgckhhhhigiaaDoor.Lent Go.Proofs.YtokgckhhhhigiaaDoor.Glob Go.Proofs.YtokgckhhhhigiaaDoor.Q Go.Proofs.YtokgckhhhhigiaaDoor.QW

set_option maxHeartbeats 4000000 in
set_option maxRecDepth 100000 in
theorem CodeQuotes_true (k : Nat) (A0 : Option Addr) (c0 : Nat) (xs : List Int) (w : World) (HG : GOk w) (hr0 : Kd.C (Kd.int .u8) w A0 xs.length xs) (hc0 : xs.length ≤ c0) (hs : xs.length ≤ 1048576) (hin : InB xs)
    (A2 : Aside0 (E.posthornref04_Quote.f k xs = some (strOfNums (quo xs)))) :
    Calls Tryd.prog 3 #[.slice A0 xs.length c0] w fun e w' => e = .returned (.bool true) ∧ Below w.heap.size w w' := by
  have HR0 := Aside0.mk hr0
  have HC0 := Aside0.mk hc0
  have HI := Aside0.mk hin
  have hs1 : xs.length ≤ 140737488351232 := by omega
  have hs2 : xs.length ≤ 10000000000000 := by omega
  have A3 : Aside0 (strOfNums (quo [97, 61]) = ⟨#[97, 61, 51, 68]⟩) := ⟨by decide +kernel⟩
  have A4 : Aside0 (InB [97, 61]) := ⟨fun x hx => by simp at hx; omega⟩
  clear hr0 hc0 hin
  have kc := fun (w : World) (C : Array Value) (n c : Nat) => Lib.run_convert_bytes_const (P := Tryd.prog) w 22 5 C n c Tryd.underlying22 Tryd.underlying5
  have HB := Aside0.mk (Below.refl w.heap.size w)
  go_enter Tryd.func3, Tryd.ntmps3
  go_wp2_with (first
    | ((go_at_call 11); (with_reducible refine (lent_calls A0 c0 xs _ HR0.out hs1).mono ?_); rintro e w1 ⟨AL, cL, rfl, ho0, hb⟩; have HO := Aside0.mk ho0; have HB1 := Aside0.mk hb; have HCL : Aside0 (xs.length ≤ cL ∧ xs.length + 70 ≤ cL) := ⟨by have := (R_C ho0).2; omega⟩; have HG1 : Aside0 (GOk w1) := ⟨GOk.of_below HG hb⟩; clear ho0 hb)
    | ((go_at_call 12); (with_reducible refine (quote_calls AL cL xs w1 HG1.out (C_front (R_C HO.out).1) HCL.out.1 HI.out hs2).mono ?_); rintro e w2 ⟨rfl, hb⟩; have HO2 := Aside0.mk (Kd.R_below HO.out hb); have HB2 := Aside0.mk (below_step HB1.out hb); clear hb)
    | ((go_at_call 13); (with_reducible refine (E.posthornref04_Quote.calls k A0 c0 xs (strOfNums (quo xs)) w2 (Kd.C_below HR0.out HB2.out) HC0.out A2.out).mono ?_); rintro e w3 ⟨rfl, hb⟩; have HO3 := Aside0.mk (Kd.R_below HO2.out hb); have HB3 := Aside0.mk (below_step HB2.out hb); clear hb)
    | ((go_at_call 14); (with_reducible refine (kept_calls xs AL A0 cL c0 w3 hs1 HCL.out.2 (R_C HO3.out).1 (Kd.C_below HR0.out HB3.out)).mono ?_); rintro e w4 ⟨rfl, hd⟩; have HB4 := Aside0.mk (below_step HB3.out (Drawn0.below hd)); clear hd)
    | ((go_at_call 12); refine (calls_of_args (args' := #[.slice (some ⟨w4.heap.size, 0, none⟩) ([97, 61] : List Int).length 2]) rfl ?_); (with_reducible refine (quote_calls (some ⟨w4.heap.size, 0, none⟩) 2 [97, 61] _ (GOk.of_below HG (below_alloc HB4.out _)) (C_lit (heap_alloc_new w4 (.cells #[.int .u8 97, .int .u8 61] 5 _)) (by decide) rfl) (by decide) A4.out (by decide)).mono ?_); rintro e w5 ⟨rfl, hb⟩; have HB5 := Aside0.mk (below_step (below_alloc HB4.out _) hb); rw [A3.out]; clear hb))
  go_ret
  exact ⟨rfl, HB5.out⟩
end Go.Proofs.YtokgckhhhhigiaaDoor.QL
