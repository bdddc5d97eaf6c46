/- DateBack's one way, walked (all answers are known ahead). DateDressed's one way, walked (all answers are known ahead). -/
import Derived.Test.YtnmhkmkaklhapaaDoorPrint
import Derived.Test.YtnmhkmkaklhapaaDoorMF
namespace Go.Proofs.YtnmhkmkaklhapaaDoor.DP
set_option linter.unusedVariables false
set_option linter.unusedSimpArgs false
open Go.RowKit Go.Proofs.YtnmhkmkaklhapaaDoorW.PrintWords Go.Proofs.YtnmhkmkaklhapaaDoorW.PrintLast Go.Proofs.YtnmhkmkaklhapaaDoorW.PrintMore Go.Proofs.YtnmhkmkaklhapaaDoor.B Go.Proofs.YtnmhkmkaklhapaaDoor.Cal Go.Proofs.YtnmhkmkaklhapaaDoor.Chk Go.Proofs.YtnmhkmkaklhapaaDoor.MN Go.Proofs.YtnmhkmkaklhapaaDoor.T Go.Proofs.YtnmhkmkaklhapaaDoor.M Go.Proofs.YtnmhkmkaklhapaaDoor.Glob
theorem dtv_new (W : World) (y mo d h m s z : Int) : DT W.heap.size y mo d h m s z (W.alloc (Obj.cells #[.int .i16 y, .int .i8 mo, .int .i8 d, .int .i8 h, .int .i8 m, .int .i8 s, .int .i16 z] 30)) := heap_alloc_new W _
theorem below_new (W : World) (o : Obj) : Below W.heap.size W (W.alloc o) := below_alloc (Below.refl _ _) _
theorem below_trans7 {W X Y : World} (h : Below W.heap.size W X) (k : Below X.heap.size X Y) : Below W.heap.size W Y := h.trans (k.mono h.size)
/-- A date and a spot, new and filled. -/
theorem new2 (W : World) (y mo d h m s z : Int) : DT W.heap.size y mo d h m s z ((W.alloc (Obj.cells #[.int .i16 y, .int .i8 mo, .int .i8 d, .int .i8 h, .int .i8 m, .int .i8 s, .int .i16 z] 30)).alloc (Obj.cells #[.int .i64 0, .int .i64 0] 32)) ∧ SP (W.heap.size + 1) 0 0 ((W.alloc (Obj.cells #[.int .i16 y, .int .i8 mo, .int .i8 d, .int .i8 h, .int .i8 m, .int .i8 s, .int .i16 z] 30)).alloc (Obj.cells #[.int .i64 0, .int .i64 0] 32)) ∧ Below W.heap.size W ((W.alloc (Obj.cells #[.int .i16 y, .int .i8 mo, .int .i8 d, .int .i8 h, .int .i8 m, .int .i8 s, .int .i16 z] 30)).alloc (Obj.cells #[.int .i64 0, .int .i64 0] 32)) := by
  refine ⟨blk_below (dtv_new W y mo d h m s z) (below_new _ _), ?_, below_alloc (below_new _ _) _⟩
  have h := heap_alloc_new (W.alloc (Obj.cells #[.int .i16 y, .int .i8 mo, .int .i8 d, .int .i8 h, .int .i8 m, .int .i8 s, .int .i16 z] 30)) (Obj.cells #[.int .i64 0, .int .i64 0] 32)
  unfold SP
  simpa using h
set_option maxHeartbeats 4000000 in
set_option maxRecDepth 100000 in
theorem back_walk (n h m s z y mo d hh mi ss zz sc q : Int) (P : ByteArray) (hmade : posthornlaw06_made.f n h m s z = some (y, mo, d, hh, mi, ss, zz)) (hck : date_Check.f y mo d hh mi ss zz = some 0)
    (hpr : ∀ w, Calls Tryd.prog 28 #[.agg #[.int .i16 y, .int .i8 mo, .int .i8 d, .int .i8 hh, .int .i8 mi, .int .i8 ss, .int .i16 zz]] w fun e w' => e = .returned (.tuple #[.string P, .int .i64 0]) ∧ Below w.heap.size w w') (hpa : date_Parse.f P = some (y, mo, d, hh, mi, ss, zz, 0, 0)) (hsec : date_Seconds.f y mo d hh mi ss zz = some (sc, 0))
    (hof : ∀ w, Calls Tryd.prog 32 #[.int .i64 sc, .int .i16 zz] w fun e w' => e = .returned (.tuple #[.agg #[.int .i16 y, .int .i8 mo, .int .i8 d, .int .i8 hh, .int .i8 mi, .int .i8 ss, .int .i16 zz], .int .i64 0]) ∧ Below w.heap.size w w') (hdays : date_Days.f y mo d = some (q, 0)) (hciv : date_Civil.f q = some (y, mo, d, 0)) (w : World) (HG : GOk w) :
    Calls Tryd.prog 12 #[.agg #[.int .i64 n, .int .u8 h, .int .u8 m, .int .u8 s, .int .i16 z]] w fun e w' => e = .returned (.bool true) ∧ Below w.heap.size w w' := by
  have HG0 := HG
  have HG := GOk.of_below HG0 (below_alloc (Below.refl _ _) (.cells #[.int .i64 n, .int .u8 h, .int .u8 m, .int .u8 s, .int .i16 z] 42))
  have hmade_ := Aside0.mk hmade
  clear hmade
  have hck_ := Aside0.mk hck
  clear hck
  have hpr_ := Aside0.mk hpr
  clear hpr
  have hpa_ := Aside0.mk hpa
  clear hpa
  have hsec_ := Aside0.mk hsec
  clear hsec
  have hof_ := Aside0.mk hof
  clear hof
  have hdays_ := Aside0.mk hdays
  clear hdays
  have hciv_ := Aside0.mk hciv
  clear hciv
  have HG_ := Aside0.mk HG
  clear HG
  go_enter Tryd.func12, Tryd.ntmps12
  go_wp2_with (first
    | ((go_at_call 15); (with_reducible refine (posthornlaw06_head.calls true _ HG_.out rfl).mono ?_); rintro e w1 ⟨rfl, hb⟩; have HB1 := Aside0.mk ((below_alloc (Below.refl _ _) _ : Below w.heap.size w (w.alloc (.cells #[.int .i64 n, .int .u8 h, .int .u8 m, .int .u8 s, .int .i16 z] 42))).trans (hb.mono (by simp))); have HX1 := Aside0.mk (blk_below (heap_alloc_new w _) hb); have x1_0 : w1.cell? ⟨w.heap.size, 0, none⟩ = some (.int .i64 n) := blk_cell HX1.out 0; have x1_1 : w1.cell? ⟨w.heap.size, 1, none⟩ = some (.int .u8 h) := blk_cell HX1.out 1; have x1_2 : w1.cell? ⟨w.heap.size, 2, none⟩ = some (.int .u8 m) := blk_cell HX1.out 2; have x1_3 : w1.cell? ⟨w.heap.size, 3, none⟩ = some (.int .u8 s) := blk_cell HX1.out 3; have x1_4 : w1.cell? ⟨w.heap.size, 4, none⟩ = some (.int .i16 z) := blk_cell HX1.out 4; clear hb)
    | ((go_at_call 23); (with_reducible refine (posthornlaw06_made.calls n h m s z y mo d hh mi ss zz _ hmade_.out).mono ?_); rintro e w2 ⟨rfl, hb⟩; have HB2 := Aside0.mk (HB1.out.trans (hb.mono HB1.out.size)); clear hb)
    | ((go_at_call 29); (with_reducible refine (date_Check.calls y mo d hh mi ss zz 0 _ hck_.out).mono ?_); rintro e w3 ⟨rfl, hb⟩; have h3 := below_trans7 (below_new w2 _) hb; have HB3 := Aside0.mk (HB2.out.trans (h3.mono HB2.out.size)); clear h3; have HD3 := Aside0.mk (show DT w2.heap.size y mo d hh mi ss zz w3 from blk_below (dtv_new w2 y mo d hh mi ss zz) hb); obtain ⟨a3_0, a3_1, a3_2, a3_3, a3_4, a3_5, a3_6, a3_7⟩ := DT.all HD3.out; clear hb)
    | ((go_at_call 28); (with_reducible refine (hpr_.out _).mono ?_); rintro e w4 ⟨rfl, hb⟩; have HB4 := Aside0.mk (HB3.out.trans (hb.mono HB3.out.size)); have HD4 := Aside0.mk (show DT w2.heap.size y mo d hh mi ss zz w4 from blk_below HD3.out hb); obtain ⟨a4_0, a4_1, a4_2, a4_3, a4_4, a4_5, a4_6, a4_7⟩ := DT.all HD4.out; clear hb)
    | ((go_at_call 17); (with_reducible refine (date_Parse.calls P y mo d hh mi ss zz 0 0 _ (GOk.of_below HG0 HB4.out) hpa_.out).mono ?_); rintro e w5 ⟨rfl, hb⟩; have HB5 := Aside0.mk (HB4.out.trans (hb.mono HB4.out.size)); have HD5 := Aside0.mk (show DT w2.heap.size y mo d hh mi ss zz w5 from blk_below HD4.out hb); have lt5 : w2.heap.size < w5.heap.size := blk_lt HD5.out; have ne5 : w2.heap.size ≠ w5.heap.size := Nat.ne_of_lt lt5; have nf5 : w2.heap.size ≠ w5.heap.size + 1 := Nat.ne_of_lt (Nat.lt_succ_of_lt lt5); obtain ⟨a5_0, a5_1, a5_2, a5_3, a5_4, a5_5, a5_6, a5_7⟩ := DT.all HD5.out; clear hb)
    | ((go_at_call 24); (with_reducible refine (date_Seconds.calls y mo d hh mi ss zz sc 0 _ hsec_.out).mono ?_); rintro e w6 ⟨rfl, hb⟩; have hn := (new2 w5 y mo d hh mi ss zz); have h6 := below_trans7 hn.2.2 hb; have HB6 := Aside0.mk (HB5.out.trans (h6.mono HB5.out.size)); clear h6; have HD6 := Aside0.mk (show DT w2.heap.size y mo d hh mi ss zz w6 from blk_below (blk_below HD5.out hn.2.2) hb); have HE6 := Aside0.mk (show DT w5.heap.size y mo d hh mi ss zz w6 from blk_below hn.1 hb); have HS6 := Aside0.mk (show SP (w5.heap.size + 1) 0 0 w6 from blk_below hn.2.1 hb); clear hn; obtain ⟨a6_0, a6_1, a6_2, a6_3, a6_4, a6_5, a6_6, a6_7⟩ := DT.all HD6.out; clear hb)
    | ((go_at_call 32); (with_reducible refine (hof_.out _).mono ?_); rintro e w7 ⟨rfl, hb⟩; have HB7 := Aside0.mk (HB6.out.trans (hb.mono HB6.out.size)); have HD7 := Aside0.mk (show DT w2.heap.size y mo d hh mi ss zz w7 from blk_below HD6.out hb); have HE7 := Aside0.mk (show DT w5.heap.size y mo d hh mi ss zz w7 from blk_below HE6.out hb); have HS7 := Aside0.mk (show SP (w5.heap.size + 1) 0 0 w7 from blk_below HS6.out hb); have lt7 : w2.heap.size < w7.heap.size := blk_lt HD7.out; have n37 := Nat.ne_of_lt lt7; have n67 := Nat.ne_of_lt (blk_lt HE7.out); obtain ⟨a7_0, a7_1, a7_2, a7_3, a7_4, a7_5, a7_6, a7_7⟩ := DT.all HD7.out; clear hb)
    | ((go_at_call 14); (with_reducible refine (date_Days.calls y mo d q 0 _ hdays_.out).mono ?_); rintro e w8 ⟨rfl, hb⟩; have hb := hb.below; have h77 := below_trans7 (below_new w7 _) hb; have HB8 := Aside0.mk (HB7.out.trans (h77.mono HB7.out.size)); have HD8 := Aside0.mk (show DT w2.heap.size y mo d hh mi ss zz w8 from blk_below HD7.out h77); have HE8 := Aside0.mk (show DT w5.heap.size y mo d hh mi ss zz w8 from blk_below HE7.out h77); have HS8 := Aside0.mk (show SP (w5.heap.size + 1) 0 0 w8 from blk_below HS7.out h77); have HF8 := Aside0.mk (show DT w7.heap.size y mo d hh mi ss zz w8 from blk_below (dtv_new w7 y mo d hh mi ss zz) hb); clear h77; obtain ⟨a8_0, a8_1, a8_2, a8_3, a8_4, a8_5, a8_6, a8_7⟩ := DT.all HD8.out; clear hb)
    | ((go_at_call 19); (with_reducible refine (date_Civil.calls q y mo d 0 _ hciv_.out).mono ?_); rintro e w9 ⟨rfl, hb⟩; have hb := hb.below; have HB9 := Aside0.mk (HB8.out.trans (hb.mono HB8.out.size)); have HD9 := Aside0.mk (show DT w2.heap.size y mo d hh mi ss zz w9 from blk_below HD8.out hb); have HE9 := Aside0.mk (show DT w5.heap.size y mo d hh mi ss zz w9 from blk_below HE8.out hb); have HS9 := Aside0.mk (show SP (w5.heap.size + 1) 0 0 w9 from blk_below HS8.out hb); have HF9 := Aside0.mk (show DT w7.heap.size y mo d hh mi ss zz w9 from blk_below HF8.out hb); obtain ⟨a9_0, a9_1, a9_2, a9_3, a9_4, a9_5, a9_6, a9_7⟩ := DT.all HD9.out; obtain ⟨b9_0, b9_1, b9_2, b9_3, b9_4, b9_5, b9_6, b9_7⟩ := DT.all HE9.out; obtain ⟨c9_0, c9_1, c9_2, c9_3, c9_4, c9_5, c9_6, c9_7⟩ := DT.all HF9.out; have s9_0 : w9.cell? ⟨w5.heap.size + 1, 0, none⟩ = some (.int .i64 0) := blk_cell HS9.out 0; have s9_1 : w9.cell? ⟨w5.heap.size + 1, 1, none⟩ = some (.int .i64 0) := blk_cell HS9.out 1; clear hb)
  )
  go_ret
  exact ⟨rfl, HB9.out⟩
end Go.Proofs.YtnmhkmkaklhapaaDoor.DP
namespace Go.Proofs.YtnmhkmkaklhapaaDoor.DP
set_option linter.unusedVariables false
set_option linter.unusedSimpArgs false
open Go.RowKit Go.Proofs.YtnmhkmkaklhapaaDoorW.PrintWords Go.Proofs.YtnmhkmkaklhapaaDoorW.PrintLast Go.Proofs.YtnmhkmkaklhapaaDoorW.PrintMore Go.Proofs.YtnmhkmkaklhapaaDoor.B Go.Proofs.YtnmhkmkaklhapaaDoor.Cal Go.Proofs.YtnmhkmkaklhapaaDoor.Chk Go.Proofs.YtnmhkmkaklhapaaDoor.MN Go.Proofs.YtnmhkmkaklhapaaDoor.T Go.Proofs.YtnmhkmkaklhapaaDoor.M Go.Proofs.YtnmhkmkaklhapaaDoor.Glob
set_option maxHeartbeats 4000000 in
set_option maxRecDepth 100000 in
theorem dressed_walk (n h m s z mask wide y mo d hh mi ss zz : Int) (rem P Q P5 : ByteArray) (hmade : posthornlaw06_made.f n h m s z = some (y, mo, d, hh, mi, ss, zz))
    (hpr : ∀ w, Calls Tryd.prog 28 #[.agg #[.int .i16 y, .int .i8 mo, .int .i8 d, .int .i8 hh, .int .i8 mi, .int .i8 ss, .int .i16 zz]] w fun e w' => e = .returned (.tuple #[.string P, .int .i64 0]) ∧ Below w.heap.size w w') (hsz : 5 ≤ P.size) (hP5 : P.extract 5 P.size = P5)
    (hdr : ∀ w, Calls Tryd.prog 33 #[.string P, .int .u64 mask, .int .u8 wide, .string rem] w fun e w' => e = .returned (.string Q) ∧ Below w.heap.size w w')
    (hp1 : date_Parse.f Q = some (y, mo, d, hh, mi, ss, zz, 0, 0)) (hp2 : date_Parse.f P5 = some (y, mo, d, hh, mi, ss, zz, 0, 0)) (w : World) (HG : GOk w) :
    Calls Tryd.prog 11 #[.agg #[.int .i64 n, .int .u8 h, .int .u8 m, .int .u8 s, .int .i16 z, .int .u64 mask, .int .u8 wide, .string rem]] w fun e w' => e = .returned (.bool true) ∧ Below w.heap.size w w' := by
  have HG0 := HG
  have HG := GOk.of_below HG0 (below_new w (.cells #[.int .i64 n, .int .u8 h, .int .u8 m, .int .u8 s, .int .i16 z, .int .u64 mask, .int .u8 wide, .string rem] 57))
  have l1 : ¬ (P.size : Int) < 5 := by omega
  have l2 : decide ((P.size : Int) < 5) = false := decide_eq_false l1
  have l3 : ¬ P.size < 5 := by omega
  have l4 : (5 : Int) ≤ (P.size : Int) := by omega
  have HP5 := Aside0.mk hP5
  have hmade_ := Aside0.mk hmade
  clear hmade
  have hpr_ := Aside0.mk hpr
  clear hpr
  have hdr_ := Aside0.mk hdr
  clear hdr
  have hp1_ := Aside0.mk hp1
  clear hp1
  have hp2_ := Aside0.mk hp2
  clear hp2
  have HG_ := Aside0.mk HG
  clear HG
  go_enter Tryd.func11, Tryd.ntmps11
  go_wp2_with (first
    | ((go_at_call 15); (with_reducible refine (posthornlaw06_head.calls true _ HG_.out rfl).mono ?_); rintro e w1 ⟨rfl, hb⟩; have HB1 := Aside0.mk (below_trans7 (below_new w _) hb); have HX1 := Aside0.mk (show w1.heap[w.heap.size]? = some (.cells #[.int .i64 n, .int .u8 h, .int .u8 m, .int .u8 s, .int .i16 z, .int .u64 mask, .int .u8 wide, .string rem] 57 (0, 0)) from blk_below (heap_alloc_new w _) hb); have x1_0 : w1.cell? ⟨w.heap.size, 0, none⟩ = some (.int .i64 n) := blk_cell HX1.out 0; have x1_1 : w1.cell? ⟨w.heap.size, 1, none⟩ = some (.int .u8 h) := blk_cell HX1.out 1; have x1_2 : w1.cell? ⟨w.heap.size, 2, none⟩ = some (.int .u8 m) := blk_cell HX1.out 2; have x1_3 : w1.cell? ⟨w.heap.size, 3, none⟩ = some (.int .u8 s) := blk_cell HX1.out 3; have x1_4 : w1.cell? ⟨w.heap.size, 4, none⟩ = some (.int .i16 z) := blk_cell HX1.out 4; clear hb)
    | ((go_at_call 23); (with_reducible refine (posthornlaw06_made.calls n h m s z y mo d hh mi ss zz _ hmade_.out).mono ?_); rintro e w2 ⟨rfl, hb⟩; have HB2 := Aside0.mk (HB1.out.trans (hb.mono HB1.out.size)); have HX2 := Aside0.mk (show w2.heap[w.heap.size]? = some (.cells #[.int .i64 n, .int .u8 h, .int .u8 m, .int .u8 s, .int .i16 z, .int .u64 mask, .int .u8 wide, .string rem] 57 (0, 0)) from blk_below HX1.out hb); clear hb)
    | ((go_at_call 28); (with_reducible refine (hpr_.out _).mono ?_); rintro e w3 ⟨rfl, hb⟩; have h3 := below_trans7 (below_new w2 _) hb; have HB3 := Aside0.mk (HB2.out.trans (h3.mono HB2.out.size)); have HX3 := Aside0.mk (show w3.heap[w.heap.size]? = some (.cells #[.int .i64 n, .int .u8 h, .int .u8 m, .int .u8 s, .int .i16 z, .int .u64 mask, .int .u8 wide, .string rem] 57 (0, 0)) from blk_below HX2.out h3); clear h3; have HD3 := Aside0.mk (show DT w2.heap.size y mo d hh mi ss zz w3 from blk_below (dtv_new w2 y mo d hh mi ss zz) hb); have x3_5 : w3.cell? ⟨w.heap.size, 5, none⟩ = some (.int .u64 mask) := blk_cell HX3.out 5; have x3_6 : w3.cell? ⟨w.heap.size, 6, none⟩ = some (.int .u8 wide) := blk_cell HX3.out 6; have x3_7 : w3.cell? ⟨w.heap.size, 7, none⟩ = some (.string rem) := blk_cell HX3.out 7; clear hb)
    | ((go_at_call 33); (with_reducible refine (hdr_.out _).mono ?_); rintro e w4 ⟨rfl, hb⟩; have HB4 := Aside0.mk (HB3.out.trans (hb.mono HB3.out.size)); have HD4 := Aside0.mk (show DT w2.heap.size y mo d hh mi ss zz w4 from blk_below HD3.out hb); clear hb)
    | ((go_at_call 17); (with_reducible refine (date_Parse.calls Q y mo d hh mi ss zz 0 0 _ (GOk.of_below HG0 HB4.out) hp1_.out).mono ?_); rintro e w5 ⟨rfl, hb⟩; have HB5 := Aside0.mk (HB4.out.trans (hb.mono HB4.out.size)); have HD5 := Aside0.mk (show DT w2.heap.size y mo d hh mi ss zz w5 from blk_below HD4.out hb); clear hb)
    | ((go_at_call 17); (with_reducible refine (date_Parse.calls P5 y mo d hh mi ss zz 0 0 _ (GOk.of_below HG0 (HB5.out.trans ((new2 w5 y mo d hh mi ss zz).2.2.mono HB5.out.size))) hp2_.out).mono ?_); rintro e w6 ⟨rfl, hb⟩; have hn := new2 w5 y mo d hh mi ss zz; have h6 := below_trans7 hn.2.2 hb; have HB6 := Aside0.mk (HB5.out.trans (h6.mono HB5.out.size)); have HD6 := Aside0.mk (show DT w2.heap.size y mo d hh mi ss zz w6 from blk_below HD5.out h6); clear h6; have HE6 := Aside0.mk (show DT w5.heap.size y mo d hh mi ss zz w6 from blk_below hn.1 hb); have HS6 := Aside0.mk (show SP (w5.heap.size + 1) 0 0 w6 from blk_below hn.2.1 hb); clear hn; have lt1 : w2.heap.size < w6.heap.size := blk_lt HD6.out; have lt2 : w5.heap.size < w6.heap.size := blk_lt HE6.out; have lt3 : w5.heap.size + 1 < w6.heap.size := blk_lt HS6.out; have ne1 : w2.heap.size ≠ w6.heap.size := Nat.ne_of_lt lt1; have ne2 : w5.heap.size ≠ w6.heap.size := Nat.ne_of_lt lt2; have ne3 : w5.heap.size + 1 ≠ w6.heap.size := Nat.ne_of_lt lt3; have ne4 : w2.heap.size ≠ w6.heap.size + 1 := Nat.ne_of_lt (Nat.lt_succ_of_lt lt1); have ne5 : w5.heap.size ≠ w6.heap.size + 1 := Nat.ne_of_lt (Nat.lt_succ_of_lt lt2); have ne6 : w5.heap.size + 1 ≠ w6.heap.size + 1 := Nat.ne_of_lt (Nat.lt_succ_of_lt lt3); obtain ⟨a6_0, a6_1, a6_2, a6_3, a6_4, a6_5, a6_6, a6_7⟩ := DT.all HD6.out; obtain ⟨b6_0, b6_1, b6_2, b6_3, b6_4, b6_5, b6_6, b6_7⟩ := DT.all HE6.out; have s6_0 : w6.cell? ⟨w5.heap.size + 1, 0, none⟩ = some (.int .i64 0) := blk_cell HS6.out 0; have s6_1 : w6.cell? ⟨w5.heap.size + 1, 1, none⟩ = some (.int .i64 0) := blk_cell HS6.out 1; clear hb)
  )
  go_ret
  exact ⟨rfl, HB6.out.trans ((new2 w6 y mo d hh mi ss zz).2.2.mono HB6.out.size)⟩
end Go.Proofs.YtnmhkmkaklhapaaDoor.DP
