/- made: a right date out of any numbers (walked by hand). Facts of made dates and of days. -/
import Derived.Test.YtnmhkmkaklhapaaDoorMan
namespace Go.Proofs.YtnmhkmkaklhapaaDoor.DP
set_option linter.unusedVariables false
set_option linter.unusedSimpArgs false
open Go.RowKit Go.Proofs.YtnmhkmkaklhapaaDoorW.PrintWords Go.Proofs.YtnmhkmkaklhapaaDoorW.PrintLast Go.Proofs.YtnmhkmkaklhapaaDoorW.PrintMore Go.Proofs.YtnmhkmkaklhapaaDoor.B Go.Proofs.YtnmhkmkaklhapaaDoor.Cal Go.Proofs.YtnmhkmkaklhapaaDoor.Chk Go.Proofs.YtnmhkmkaklhapaaDoor.MN Go.Proofs.YtnmhkmkaklhapaaDoor.T
theorem tm3 (n : Int) : (n.tmod 3652059 < 0 ∧ n.tmod 3652059 + 3652059 = n % 3652059) ∨ (0 ≤ n.tmod 3652059 ∧ n.tmod 3652059 = n % 3652059) := by
 by_cases h : 0 ≤ n
 ·rw [Int.tmod_eq_emod_of_nonneg h]; omega
 ·obtain ⟨y, rfl⟩ : ∃ y, n = -y := ⟨-n, by omega⟩
  rw [Int.neg_tmod, Int.tmod_eq_emod_of_nonneg (by omega)]
  omega
theorem dt_put7 {g : Nat} {X : World} (k : DT g 0 0 0 0 0 0 0 X) (y mo d h m s z : Int) :
  DT g y mo d h m s z (((((((X.setCell ⟨g, 0, none⟩ (.int .i16 y)).setCell ⟨g, 1, none⟩ (.int .i8 mo)).setCell ⟨g, 2, none⟩ (.int .i8 d)).setCell ⟨g, 3, none⟩ (.int .i8 h)).setCell ⟨g, 4, none⟩ (.int .i8 m)).setCell ⟨g, 5, none⟩ (.int .i8 s)).setCell ⟨g, 6, none⟩ (.int .i16 z)) :=
 blk_put (blk_put (blk_put (blk_put (blk_put (blk_put (blk_put k 0 (.int .i16 y) rfl) 1 (.int .i8 mo) rfl) 2 (.int .i8 d) rfl) 3 (.int .i8 h) rfl) 4 (.int .i8 m) rfl) 5 (.int .i8 s) rfl) 6 (.int .i16 z) rfl
theorem made_start (w : World) (o : Obj) (nd : Nat) : DT (w.heap.size + 1) 0 0 0 0 0 0 0 (((w.alloc o).alloc (Obj.cells #[.int .i16 0, .int .i8 0, .int .i8 0, .int .i8 0, .int .i8 0, .int .i8 0, .int .i16 0] 30)).drewN nd) := by
 have h := heap_alloc_new (w.alloc o) (Obj.cells #[.int .i16 0, .int .i8 0, .int .i8 0, .int .i8 0, .int .i8 0, .int .i8 0, .int .i16 0] 30)
 refine blk_drewN ?_ nd
 simpa using h
theorem made_post {Q : Ending → World → Prop} {a : Act} {W : World} {g : Nat} {y mo d h m s z : Int} (hd : a.defers = []) (t2 : a.tmps[2]?.getD undef = .pointer (some ⟨g, 0, none⟩))
  (f : DT g y mo d h m s z W) (hq : DT g y mo d h m s z W → Q (.returned (.agg #[.int .i16 y, .int .i8 mo, .int .i8 d, .int .i8 h, .int .i8 m, .int .i8 s, .int .i16 z])) W) : bodyPost Tryd.prog Tryd.f23 Q .ret a W := by
 have a0 : W.cell? ⟨g, 0, none⟩ = some (.int .i16 y) := blk_cell f 0
 have a1 : W.cell? ⟨g, 1, none⟩ = some (.int .i8 mo) := blk_cell f 1
 have a2 : W.cell? ⟨g, 2, none⟩ = some (.int .i8 d) := blk_cell f 2
 have a3 : W.cell? ⟨g, 3, none⟩ = some (.int .i8 h) := blk_cell f 3
 have a4 : W.cell? ⟨g, 4, none⟩ = some (.int .i8 m) := blk_cell f 4
 have a5 : W.cell? ⟨g, 5, none⟩ = some (.int .i8 s) := blk_cell f 5
 have a6 : W.cell? ⟨g, 6, none⟩ = some (.int .i16 z) := blk_cell f 6
 exact bodyPost_ret (v := .agg #[.int .i16 y, .int .i8 mo, .int .i8 d, .int .i8 h, .int .i8 m, .int .i8 s, .int .i16 z]) (by simp [results, Tryd.results23, go_sem, t2, a0, a1, a2, a3, a4, a5, a6]) hd (hq f)
set_option maxHeartbeats 4000000 in
set_option maxRecDepth 100000 in
theorem made_calls (n h m s z : Int) (hn : I64 n) (hh : 0 ≤ h ∧ h ≤ 255) (hm : 0 ≤ m ∧ m ≤ 255) (hs : 0 ≤ s ∧ s ≤ 255) (hz : I16 z) (w : World) :
  Calls Tryd.prog 23 #[.agg #[.int .i64 n, .int .u8 h, .int .u8 m, .int .u8 s, .int .i16 z]] w fun e w' => e = .returned (.agg #[.int .i16 (civV (n % 3652059 - 719162)).1, .int .i8 (civV (n % 3652059 - 719162)).2.1, .int .i8 (civV (n % 3652059 - 719162)).2.2.1, .int .i8 (h % 24), .int .i8 (m % 60), .int .i8 (s % 60), .int .i16 (z.tmod 1440)]) ∧ Below w.heap.size w w' := by
 obtain ⟨n1, n2⟩ := hn
 obtain ⟨z1, z2⟩ := hz
 have hci : date_Civil.f (n % 3652059 - 719162) = some ((civV (n % 3652059 - 719162)).1, (civV (n % 3652059 - 719162)).2.1, (civV (n % 3652059 - 719162)).2.2.1, (civV (n % 3652059 - 719162)).2.2.2) := by unfold date_Civil.f; rw [if_pos ⟨by omega, by omega⟩]
 obtain ⟨y, ey⟩ : ∃ x, (civV (n % 3652059 - 719162)).1 = x := ⟨_, rfl⟩
 obtain ⟨mo, em⟩ : ∃ x, (civV (n % 3652059 - 719162)).2.1 = x := ⟨_, rfl⟩
 obtain ⟨d, ed⟩ : ∃ x, (civV (n % 3652059 - 719162)).2.2.1 = x := ⟨_, rfl⟩
 obtain ⟨e4, ee⟩ : ∃ x, (civV (n % 3652059 - 719162)).2.2.2 = x := ⟨_, rfl⟩
 rw [ey, em, ed, ee] at hci
 rw [ey, em, ed]
 obtain ⟨q, hq⟩ : ∃ q, n % 3652059 - 719162 = q := ⟨_, rfl⟩
 rw [hq] at hci
 have t1 : IntKind.i8.wrap (h.tmod 24) = h % 24 := by rw [Int.tmod_eq_emod_of_nonneg hh.1, wrapi8' _ (by omega) (by omega)]
 have t2 : IntKind.i8.wrap (m.tmod 60) = m % 60 := by rw [Int.tmod_eq_emod_of_nonneg hm.1, wrapi8' _ (by omega) (by omega)]
 have t3 : IntKind.i8.wrap (s.tmod 60) = s % 60 := by rw [Int.tmod_eq_emod_of_nonneg hs.1, wrapi8' _ (by omega) (by omega)]
 have HT := Aside0.mk (And.intro t1 (And.intro t2 t3))
 have hx := tm3 n
 obtain ⟨t, ht⟩ : ∃ t, n.tmod 3652059 = t := ⟨_, rfl⟩
 rw [ht] at hx
 have hb1 : -3652059 ≤ t ∧ t < 3652059 := by omega
 clear t1 t2 t3
 rcases hx with ⟨a, b⟩ | ⟨a, b⟩
 ·have w1 : IntKind.i64.wrap (t + 3652059) = n % 3652059 := by rw [i64_w, wrap_id _ (by omega) (by omega)]; exact b
  have w2 : IntKind.i64.wrap (n % 3652059 - 719162) = q := by rw [i64_w, wrap_id _ (by omega) (by omega)]; exact hq
  have HA := Aside0.mk (And.intro a (And.intro b (And.intro hq hb1)))
  have a' : decide (t < 0) = true := decide_eq_true a
  clear b hq hb1 hh hm hs n1 n2 z1 z2 ey em ed ee
  go_enter Tryd.func23, Tryd.ntmps23
  go_wp2_with (go_at_call 19; refine (date_Civil.calls q y mo d e4 _ hci).mono ?_; rintro e w1 ⟨rfl, hb⟩; obtain ⟨nd, rfl⟩ := hb.out)
  refine made_post rfl rfl (dt_put7 (made_start w _ nd) y mo d _ _ _ _) fun hdt => ⟨?_, ?_⟩
  ·rw [HT.out.1, HT.out.2.1, HT.out.2.2]
  ·exact Below.setCell (Below.setCell (Below.setCell (Below.setCell (Below.setCell (Below.setCell (Below.setCell (pw_below_drewN (below_alloc (below_alloc (Below.refl _ _) _) _) _) (Nat.le_succ _) _) (Nat.le_succ _) _) (Nat.le_succ _) _) (Nat.le_succ _) _) (Nat.le_succ _) _) (Nat.le_succ _) _) (Nat.le_succ _) _
 ·have w2 : IntKind.i64.wrap (t - 719162) = q := by rw [i64_w, wrap_id _ (by omega) (by omega), b]; exact hq
  have HA := Aside0.mk (And.intro a (And.intro b (And.intro hq hb1)))
  have a' : decide (t < 0) = false := decide_eq_false (by omega)
  have a2 : ¬ t < 0 := by omega
  clear a b hq hb1 hh hm hs n1 n2 z1 z2 ey em ed ee
  go_enter Tryd.func23, Tryd.ntmps23
  go_wp2_with (go_at_call 19; refine (date_Civil.calls q y mo d e4 _ hci).mono ?_; rintro e w1 ⟨rfl, hb⟩; obtain ⟨nd, rfl⟩ := hb.out)
  refine made_post rfl rfl (dt_put7 (made_start w _ nd) y mo d _ _ _ _) fun hdt => ⟨?_, ?_⟩
  ·rw [HT.out.1, HT.out.2.1, HT.out.2.2]
  ·exact Below.setCell (Below.setCell (Below.setCell (Below.setCell (Below.setCell (Below.setCell (Below.setCell (pw_below_drewN (below_alloc (below_alloc (Below.refl _ _) _) _) _) (Nat.le_succ _) _) (Nat.le_succ _) _) (Nat.le_succ _) _) (Nat.le_succ _) _) (Nat.le_succ _) _) (Nat.le_succ _) _) (Nat.le_succ _) _
end Go.Proofs.YtnmhkmkaklhapaaDoor.DP
namespace Go.Proofs.YtnmhkmkaklhapaaDoor.MN
open Go.RowKit Go.Proofs.YtnmhkmkaklhapaaDoorW.PrintWords Go.Proofs.YtnmhkmkaklhapaaDoor.DP
def posthornlaw06_made.f (n h m s z : Int) : Option (Int × Int × Int × Int × Int × Int × Int) :=
 if I64 n ∧ (0 ≤ h ∧ h ≤ 255) ∧ (0 ≤ m ∧ m ≤ 255) ∧ (0 ≤ s ∧ s ≤ 255) ∧ I16 z then some ((civV (n % 3652059 - 719162)).1, (civV (n % 3652059 - 719162)).2.1, (civV (n % 3652059 - 719162)).2.2.1, h % 24, m % 60, s % 60, z.tmod 1440) else none
theorem posthornlaw06_made.calls (n h m s z r1 r2 r3 r4 r5 r6 r7 : Int) (w : World) (hf : posthornlaw06_made.f n h m s z = some (r1, r2, r3, r4, r5, r6, r7)) :
  Calls Tryd.prog 23 #[.agg #[.int .i64 n, .int .u8 h, .int .u8 m, .int .u8 s, .int .i16 z]] w fun e w' => e = .returned (.agg #[.int .i16 r1, .int .i8 r2, .int .i8 r3, .int .i8 r4, .int .i8 r5, .int .i8 r6, .int .i16 r7]) ∧ Below w.heap.size w w' := by
 unfold posthornlaw06_made.f at hf
 split at hf
 ·rename_i hb
  simp only [Option.some.injEq, Prod.mk.injEq] at hf
  obtain ⟨rfl, rfl, rfl, rfl, rfl, rfl, rfl⟩ := hf
  exact made_calls n h m s z hb.1 hb.2.1 hb.2.2.1 hb.2.2.2.1 hb.2.2.2.2 w
 ·cases hf
end Go.Proofs.YtnmhkmkaklhapaaDoor.MN
namespace Go.Proofs.YtnmhkmkaklhapaaDoor.DP
set_option linter.unusedVariables false
set_option linter.unusedSimpArgs false
open Go.RowKit Go.Proofs.YtnmhkmkaklhapaaDoorW.PrintWords Go.Proofs.YtnmhkmkaklhapaaDoor.B Go.Proofs.YtnmhkmkaklhapaaDoor.Cal Go.Proofs.YtnmhkmkaklhapaaDoor.Chk Go.Proofs.YtnmhkmkaklhapaaDoor.MN
theorem civ_eta (n : Int) : civV n = ((civV n).1, (civV n).2.1, (civV n).2.2.1, (civV n).2.2.2) := rfl
/-- A right day, and back. -/
theorem civ_facts (n : Int) (h1 : -719162 ≤ n) (h2 : n ≤ 2932896) : dayOk (civV n).1 (civV n).2.1 (civV n).2.2.1 = true ∧ daysV (civV n).1 (civV n).2.1 (civV n).2.2.1 = (n, 0) ∧ 1 ≤ (civV n).1 ∧ (civV n).1 ≤ 9999 ∧ 1 ≤ (civV n).2.1 ∧ (civV n).2.1 ≤ 12 ∧ 1 ≤ (civV n).2.2.1 ∧ (civV n).2.2.1 ≤ 31 := by
  obtain ⟨Y, M, D, v, hn, eY, eM, eD⟩ := civ_of n h1 h2
  have e : civV n = ((Y : Int), (M : Int), (D : Int), 0) := by unfold civV; rw [if_neg (by omega), eY, eM, eD]
  have hl := long_range Y M
  have a1 := v.y1
  have a2 := v.y2
  have a3 := v.m1
  have a4 := v.m2
  have a5 := v.d1
  have a6 := v.d2
  rw [e]
  have hok : dayOk (Y : Int) (M : Int) (D : Int) = true := by
    unfold dayOk longI
    rw [Int.toNat_natCast, Int.toNat_natCast]
    exact decide_eq_true ⟨by omega, by omega, by omega, by omega, by omega, by omega⟩
  refine ⟨hok, ?_, by show 1 ≤ (Y : Int); omega, by show (Y : Int) ≤ 9999; omega, by show 1 ≤ (M : Int); omega, by show (M : Int) ≤ 12; omega, by show 1 ≤ (D : Int); omega, by show (D : Int) ≤ 31; omega⟩
  show daysV (Y : Int) (M : Int) (D : Int) = _
  unfold daysV
  rw [if_pos hok, Int.toNat_natCast, Int.toNat_natCast, Int.toNat_natCast]
  refine Prod.ext ?_ rfl
  show ((dn Y M D : Nat) : Int) - 719162 = n
  omega
theorem tmz (z : Int) : -1439 ≤ z.tmod 1440 ∧ z.tmod 1440 ≤ 1439 := by
  by_cases h : 0 ≤ z
  · rw [Int.tmod_eq_emod_of_nonneg h]; omega
  · obtain ⟨y, rfl⟩ : ∃ y, z = -y := ⟨-z, by omega⟩
    rw [Int.neg_tmod, Int.tmod_eq_emod_of_nonneg (by omega)]
    omega
/-- A date out of any numbers: its parts' bounds, no error, its second, its day. -/
theorem made_facts (n h m s z : Int) : allI (civV (n % 3652059 - 719162)).1 (civV (n % 3652059 - 719162)).2.1 (civV (n % 3652059 - 719162)).2.2.1 (h % 24) (m % 60) (s % 60) (z.tmod 1440) ∧
    chkV (civV (n % 3652059 - 719162)).1 (civV (n % 3652059 - 719162)).2.1 (civV (n % 3652059 - 719162)).2.2.1 (h % 24) (m % 60) (s % 60) (z.tmod 1440) = 0 ∧
    date_Seconds.f (civV (n % 3652059 - 719162)).1 (civV (n % 3652059 - 719162)).2.1 (civV (n % 3652059 - 719162)).2.2.1 (h % 24) (m % 60) (s % 60) (z.tmod 1440) = some ((n % 3652059 - 719162) * 86400 + h % 24 * 3600 + m % 60 * 60 + s % 60 - z.tmod 1440 * 60, 0) ∧
    daysV (civV (n % 3652059 - 719162)).1 (civV (n % 3652059 - 719162)).2.1 (civV (n % 3652059 - 719162)).2.2.1 = (n % 3652059 - 719162, 0) ∧ (1 ≤ (civV (n % 3652059 - 719162)).1 ∧ (civV (n % 3652059 - 719162)).1 ≤ 9999) ∧ (1 ≤ (civV (n % 3652059 - 719162)).2.1 ∧ (civV (n % 3652059 - 719162)).2.1 ≤ 12) ∧ (1 ≤ (civV (n % 3652059 - 719162)).2.2.1 ∧ (civV (n % 3652059 - 719162)).2.2.1 ≤ 31) := by
  obtain ⟨f1, f2, f3, f4, f5, f6, f7, f8⟩ := civ_facts (n % 3652059 - 719162) (by omega) (by omega)
  have tz := tmz z
  have ha : allI (civV (n % 3652059 - 719162)).1 (civV (n % 3652059 - 719162)).2.1 (civV (n % 3652059 - 719162)).2.2.1 (h % 24) (m % 60) (s % 60) (z.tmod 1440) := ⟨⟨by omega, by omega⟩, ⟨by omega, by omega⟩, ⟨by omega, by omega⟩, ⟨by omega, by omega⟩, ⟨by omega, by omega⟩, ⟨by omega, by omega⟩, by omega, by omega⟩
  have hk : chkV (civV (n % 3652059 - 719162)).1 (civV (n % 3652059 - 719162)).2.1 (civV (n % 3652059 - 719162)).2.2.1 (h % 24) (m % 60) (s % 60) (z.tmod 1440) = 0 := by
    unfold chkV timeOk
    rw [if_neg (by rw [f1]; decide), if_neg (by simp; omega), if_neg (by omega)]
  refine ⟨ha, hk, ?_, f2, ⟨f3, f4⟩, ⟨f5, f6⟩, f7, f8⟩
  unfold date_Seconds.f
  rw [if_pos ha]
  unfold secT
  rw [if_pos hk]
  unfold secV
  rw [f2]
end Go.Proofs.YtnmhkmkaklhapaaDoor.DP
