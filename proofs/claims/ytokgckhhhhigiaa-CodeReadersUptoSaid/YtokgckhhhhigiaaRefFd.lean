/- CodeReaders: the reference's reader (walked by hand). -/
import Derived.Test.YtokgckhhhhigiaaRdrP
import Derived.Test.YtokgckhhhhigiaaFeed2
import Derived.Test.YtokgckhhhhigiaaLentS
import Derived.Deep.QuietTactic
import Derived.Deep.RegionLaw
import Derived.Deep.RegionHeld3
import Derived.Deep.Cut
import Derived.LoopN
import Derived.Test.YtokgckhhhhigiaaG6
import Derived.Test.YtokgckhhhhigiaaG7
namespace Go.Proofs.Ytokgckhhhhigiaa.XF
set_option linter.unusedVariables false
set_option linter.unusedSimpArgs false
set_option linter.unusedVariables false
set_option linter.unusedSimpArgs false
open Go.RowKit Go.Proofs.YtokgckhhhhigiaaW.PrintWords Go.Proofs.YtokgckhhhhigiaaW.PrintLast Go.Proofs.YtokgckhhhhigiaaW.PrintMore Go.Proofs.Ytokgckhhhhigiaa.B Go.Proofs.Ytokgckhhhhigiaa.M Go.Proofs.Ytokgckhhhhigiaa.G Go.Proofs.Ytokgckhhhhigiaa.Rd Go.Proofs.Ytokgckhhhhigiaa.UnbP Go.Proofs.Ytokgckhhhhigiaa.Fd Go.Proofs.Ytokgckhhhhigiaa.RdP Go.Proofs.Ytokgckhhhhigiaa.PA
attribute [local go_sem] max2_int min2_int max_two min_two
abbrev tX : Nat := 58
abbrev RU (W : World) (base : Nat) (v : Value) (T : List Int) : Prop := Kd.R (Kd.int .u8) 5 W base (fun _ => True) v T
/-- What stands while the reference's reader is fed. -/
structure XF (w0 W0 : World) (v0 : Value) (h : Nat) (W : World) (v : Value) (er : Int) (t : Value) (T : List Int) (o : Value) (xs : List Int) : Prop where
  bk : W.heap[h]? = some (.cells #[v, .int .i64 er] tX (0, 0))
  hb : w0.heap.size ≤ h
  hl : h < W0.heap.size
  row : RU W w0.heap.size t T
  out : RU W W0.heap.size o xs
  b0 : Below w0.heap.size w0 W0
  bl : Below w0.heap.size w0 W
  kp : KeepBut W0 W h v0.ownBlock
  mv : t.ownBlock = v0.ownBlock ∨ ∃ k, t.ownBlock = some k ∧ W0.heap.size ≤ k
  ap : ∀ k, t.ownBlock = some k → o.ownBlock = some k → False
section
variable {w0 W0 W W' : World} {v0 v t o : Value} {h : Nat} {er : Int} {T xs ys : List Int}
theorem XF.below (x : XF w0 W0 v0 h W v er t T o xs) (hb : Below W.heap.size W W') : XF w0 W0 v0 h W' v er t T o xs :=
  ⟨blk_below x.bk hb, x.hb, x.hl, Kd.R_below x.row hb, Kd.R_below x.out hb, x.b0, below_step x.bl hb, ⟨Nat.le_trans x.kp.1 hb.size, fun i hi h1 h2 => (hb.block i (Nat.lt_of_lt_of_le hi x.kp.1)).trans (x.kp.2 i hi h1 h2)⟩, x.mv, x.ap⟩
theorem XF.ne (x : XF w0 W0 v0 h W v er t T o xs) : some h ≠ t.ownBlock := Kd.R_ne x.row x.bk (by decide)
/-- A letter behind the others. -/
theorem XF.grow (x : XF w0 W0 v0 h W v er t T o xs) {V w7 : World} {t7 : Value} {ys : List Int} (hb : Below W.heap.size W V) (hg : V.grownBy w7 t.ownBlock) (ho : RU w7 w0.heap.size t7 ys) (hbl : Below w0.heap.size w0 w7) (hat : t7.ownBlock = t.ownBlock ∨ ∃ b, t7.ownBlock = some b ∧ V.heap.size ≤ b) : XF w0 W0 v0 h w7 v er t7 ys o xs := by
  have x := x.below hb
  refine ⟨(hg.block h (blk_lt x.bk) x.ne).trans x.bk, x.hb, x.hl, ho, Kd.R_mono (Kd.R_move (Kd.R_tight rfl x.out) (fun k hk => hg.block k (Kd.R_lt x.out k hk.symm) (fun e => x.ap k e.symm hk.symm))) (fun _ _ => trivial), x.b0, hbl, ⟨Nat.le_trans x.kp.1 hg.size, fun i hi h1 h2 => ?_⟩, ?_, fun k h1 h2 => ?_⟩
  · refine (hg.block i (Nat.lt_of_lt_of_le hi x.kp.1) (fun e => ?_)).trans (x.kp.2 i hi h1 h2)
    rcases x.mv with m | ⟨k, m, hk⟩
    · exact h2 (e.trans m)
    · rw [m] at e
      injection e with e
      omega
  · rcases hat with e | ⟨k, e, hk⟩
    · rw [e]; exact x.mv
    · exact .inr ⟨k, e, Nat.le_trans x.kp.1 hk⟩
  · rcases hat with e | ⟨b, e, hk⟩
    · exact x.ap k (e ▸ h1) h2
    · have := Kd.R_lt x.out k h2
      rw [h1] at e
      injection e with e
      omega
theorem XF.cells (x : XF w0 W0 v0 h W v er t T o xs) (j : Nat) (u : Value) (cs : Array Value) (hc : (#[v, .int .i64 er] : Array Value).setIfInBounds j u = cs) : (W.setCell ⟨h, j, none⟩ u).heap[h]? = some (.cells cs tX (0, 0)) := blk_put x.bk j u hc
theorem XF.kset (x : XF w0 W0 v0 h W v er t T o xs) (j : Nat) (u : Value) : KeepBut W0 (W.setCell ⟨h, j, none⟩ u) h v0.ownBlock := ⟨by rw [World.size_setCell]; exact x.kp.1, fun i hi h1 h2 => (Below.heap_setCell W ⟨h, j, none⟩ u i h1).trans (x.kp.2 i hi h1 h2)⟩
/-- The row is the reader's. -/
theorem XF.put (x : XF w0 W0 v0 h W v er t T o xs) : XF w0 W0 v0 h (W.setCell ⟨h, 0, none⟩ t) t er t T o xs :=
  ⟨x.cells 0 t _ rfl, x.hb, x.hl, Kd.R_set x.row x.bk (by decide) 0 t, Kd.R_set x.out x.bk (by decide) 0 t, x.b0, below_set x.bl x.hb, x.kset 0 t, x.mv, x.ap⟩
theorem XF.err (x : XF w0 W0 v0 h W v er t T o xs) (e : Int) : XF w0 W0 v0 h (W.setCell ⟨h, 1, none⟩ (.int .i64 e)) v e t T o xs :=
  ⟨x.cells 1 (.int .i64 e) _ rfl, x.hb, x.hl, Kd.R_set x.row x.bk (by decide) 1 _, Kd.R_set x.out x.bk (by decide) 1 _, x.b0, below_set x.bl x.hb, x.kset 1 _, x.mv, x.ap⟩
/-- More is told. -/
theorem XF.tell (x : XF w0 W0 v0 h W v er t T o xs) {w7 : World} {o7 : Value} (hg : W.grownBy w7 o.ownBlock) (ho : RU w7 W0.heap.size o7 ys) (hbl : Below W0.heap.size W w7) (hat : o7.ownBlock = o.ownBlock ∨ ∃ b, o7.ownBlock = some b ∧ W.heap.size ≤ b) : XF w0 W0 v0 h w7 v er t T o7 ys := by
  have hbo : ∀ k, o.ownBlock = some k → W0.heap.size ≤ k := fun k hk => Kd.R_base x.out k hk
  have hh : some h ≠ o.ownBlock := Kd.R_ne x.out x.bk (by decide)
  refine ⟨(hg.block h (blk_lt x.bk) hh).trans x.bk, x.hb, x.hl, Kd.R_mono (Kd.R_move (Kd.R_tight rfl x.row) (fun k hk => hg.block k (Kd.R_lt x.row k hk.symm) (fun e => x.ap k hk.symm e.symm))) (fun _ _ => trivial), ho, x.b0, x.bl.trans ⟨hbl.1, hbl.2, hbl.3, hbl.4, fun i hi => hbl.5 i (Nat.lt_of_lt_of_le hi x.b0.size)⟩, ⟨Nat.le_trans x.kp.1 hg.size, fun i hi h1 h2 => (hbl.block i hi).trans (x.kp.2 i hi h1 h2)⟩, x.mv, fun k h1 h2 => ?_⟩
  rcases hat with e | ⟨b, e, hk⟩
  · exact x.ap k h1 (e ▸ h2)
  · have := Kd.R_lt x.row k h1
    rw [h2] at e
    injection e with e
    omega
theorem XF.start (hk : W.heap[h]? = some (.cells #[v, .int .i64 0] tX (0, 0))) (hb : w0.heap.size ≤ h) (hr : RU W w0.heap.size v T) (hB : Below w0.heap.size w0 W) : XF w0 W v h W v 0 v T (.slice none 0 0) [] :=
  ⟨hk, hb, blk_lt hk, hr, Kd.R_nil _ _ _ _ _, hB, hB, ⟨Nat.le_refl _, fun _ _ _ _ => rfl⟩, .inl rfl, fun k _ h => by simp [Value.ownBlock] at h⟩
end
theorem ar (N : Nat) (h : N ≤ 10000000000000) : ∃ (K M1 Q4 P4 D4 : Nat) (R4 : Int), fromK N = K ∧ N + 1 = M1 ∧ K ≤ N ∧ N - K = D4 ∧ IntKind.i64.wrap ((M1 : Int) - 1) = (N : Int) ∧ IntKind.i64.wrap (Int.tdiv (N : Int) 4) = (Q4 : Int) ∧ IntKind.i64.wrap ((Q4 : Int) * 4) = (P4 : Int) ∧ IntKind.i64.wrap ((P4 : Int) - 4) = R4 ∧
    wrap64 ((N : Int) / 4) = (Q4 : Int) ∧ wrap64 ((Q4 : Int) * 4) = (P4 : Int) ∧ wrap64 ((P4 : Int) - 4) = R4 ∧ (if (0 : Int) < R4 then R4 else 0) = (K : Int) ∧ IntKind.i64.wrap ((N : Int) - (K : Int)) = (D4 : Int) := by
  have hK : fromK N ≤ N := by unfold fromK; omega
  have a1 : wrap64 ((((N + 1 : Nat)) : Int) - 1) = (N : Int) := by rw [wrap_id _ (by omega) (by omega)]; omega
  have a2 : wrap64 ((N : Int) / 4) = ((N / 4 : Nat) : Int) := by rw [wrap_id _ (by omega) (by omega)]; omega
  have a3 : wrap64 (((N / 4 : Nat) : Int) * 4) = ((N / 4 * 4 : Nat) : Int) := by rw [wrap_id _ (by omega) (by omega)]; omega
  have a4 : wrap64 (((N / 4 * 4 : Nat) : Int) - 4) = ((N / 4 * 4 : Nat) : Int) - 4 := by rw [wrap_id _ (by omega) (by omega)]
  have a5 : (if (0 : Int) < ((N / 4 * 4 : Nat) : Int) - 4 then ((N / 4 * 4 : Nat) : Int) - 4 else 0) = ((fromK N : Nat) : Int) := by unfold fromK; split <;> omega
  have a6 : wrap64 ((N : Int) - ((fromK N : Nat) : Int)) = ((N - fromK N : Nat) : Int) := by rw [wrap_id _ (by omega) (by omega)]; omega
  refine ⟨fromK N, N + 1, N / 4, N / 4 * 4, N - fromK N, ((N / 4 * 4 : Nat) : Int) - 4, rfl, rfl, hK, rfl, by rw [i64_w]; exact a1, ?_, by rw [i64_w]; exact a3, by rw [i64_w]; exact a4, a2, a3, a4, a5, by rw [i64_w]; exact a6⟩
  rw [i64_w, Int.tdiv_eq_ediv_of_nonneg (by omega)]
  exact a2
theorem wrj (j n m : Nat) (h : j < n) (hn : m + n ≤ 10000000000000) : IntKind.i64.wrap ((j : Int) + 1) = ((j + 1 : Nat) : Int) := by rw [i64_w, wrap_id _ (by omega) (by omega)]; rfl
theorem cut_C {W : World} {g7 c7 M1 K : Nat} {ys : List Int} (h : (Kd.int .u8).C W (some ⟨g7, 0, none⟩) ys.length ys) (hl : M1 = ys.length) (hK : K < M1) (hc : M1 ≤ c7) : (Kd.int .u8).C W (some ⟨g7, K, none⟩) (M1 - K) (ys.drop K) := by
  have h_ := Kd.C_drop h (m := K) (by omega) (c := c7) (by omega)
  rw [if_neg (by omega)] at h_
  have h4_ : (ys.drop K).length = M1 - K := by rw [List.length_drop, ← hl]
  rw [h4_] at h_
  have h5_ : (Option.map (fun x => x.add (K * (Kd.int .u8).sz)) (some (⟨g7, 0, none⟩ : Addr))) = some ⟨g7, K, none⟩ := by
    show some ((⟨g7, 0, none⟩ : Addr).add (K * 1)) = _
    unfold Addr.add
    simp
    intro h; exact h.symm
  rw [h5_] at h_
  exact h_
theorem ar4 (M1 : Nat) (h : M1 ≤ 10000000000001) (h4 : M1 % 4 = 0) (h3 : 4 ≤ M1) : ∃ N3 : Nat, N3 = M1 - 4 ∧ IntKind.i64.wrap ((M1 : Int) - 4) = (N3 : Int) ∧ wrap64 ((M1 : Int) - 4) = (N3 : Int) ∧ Int.tmod (M1 : Int) 4 = 0 ∧ (M1 : Int) % 4 = 0 := by
  have a1 : wrap64 ((M1 : Int) - 4) = ((M1 - 4 : Nat) : Int) := by rw [wrap_id _ (by omega) (by omega)]; omega
  exact ⟨M1 - 4, rfl, by rw [i64_w]; exact a1, a1, by rw [Int.tmod_eq_emod_of_nonneg (by omega)]; omega, by omega⟩
theorem ar5 (M1 : Nat) (h4 : M1 % 4 ≠ 0) : decide (Int.tmod (M1 : Int) 4 = 0) = false ∧ decide ((M1 : Int) % 4 = 0) = false ∧ decide (M1 % 4 = 0) = false ∧ (Int.tmod (M1 : Int) 4 == 0) = false ∧ ((M1 : Int) % 4 == 0) = false := by
  have a1 : Int.tmod (M1 : Int) 4 ≠ 0 := by rw [Int.tmod_eq_emod_of_nonneg (by omega)]; omega
  have a2 : (M1 : Int) % 4 ≠ 0 := by omega
  exact ⟨decide_eq_false a1, decide_eq_false a2, decide_eq_false h4, beq_eq_false_iff_ne.2 a1, beq_eq_false_iff_ne.2 a2⟩
theorem tf (K M1 c7 : Nat) (h1 : K < M1) (h2 : M1 ≤ c7) : ((0 : Int) ≤ (K : Int)) = True ∧ ((K : Int) ≤ (M1 : Int)) = True ∧ ((M1 : Int) ≤ (c7 : Int)) = True ∧ (K ≤ M1) = True ∧ (M1 ≤ c7) = True ∧ (c7 = K) = False ∧ decide (c7 = K) = false :=
  ⟨eq_true (by omega), eq_true (by omega), eq_true (by omega), eq_true (by omega), eq_true (by omega), eq_false (by omega), decide_eq_false (by omega)⟩
theorem fromK_le (n : Nat) : fromK n ≤ n := by unfold fromK; omega
set_option maxHeartbeats 8000000 in
set_option maxRecDepth 100000 in
theorem xfeed_calls (w0 W0 : World) (h : Nat) (v0 : Value) (T0 : List Int) (st0 : St) (A : Option Addr) (c0 : Nat) (l : List Int) (hk : W0.heap[h]? = some (.cells #[v0, .int .i64 0] tX (0, 0))) (hb : w0.heap.size ≤ h) (hr : RU W0 w0.heap.size v0 T0) (hB : Below w0.heap.size w0 W0) (hrel : Rel T0 st0)
    (hl0 : Kd.C (Kd.int .u8) w0 A l.length l) (hin : InB l) (hlen : T0.length + l.length ≤ 10000000000000) :
    Calls Try.prog 19 #[.pointer (some ⟨h, 0, none⟩), .slice A l.length c0] W0 fun e w' => ∃ o v T t, e = .returned (.tuple #[o, .int .i64 (feedL l st0 []).2.2]) ∧ XF w0 W0 v0 h w' v (feedL l st0 []).2.2 t T o (feedL l st0 []).1 ∧ ((feedL l st0 []).2.2 = 0 → t = v ∧ Rel T (feedL l st0 []).2.1 ∧ T.length ≤ T0.length + l.length) := by
  obtain ⟨r1, rst, r2, hres⟩ : ∃ r1 rst r2, feedL l st0 [] = (r1, rst, r2) := ⟨_, _, _, rfl⟩
  rw [hres]
  have HRES := Aside0.mk hres
  have HX0 := Aside0.mk (XF.start hk hb hr hB)
  have HREL := Aside0.mk hrel
  have HC := Aside0.mk hl0
  have HI := Aside0.mk hin
  have HLEN := Aside0.mk hlen
  have k1 : W0.cell? ⟨h, 1, none⟩ = some (.int .i64 0) := blk_cell hk 1
  have hgl := blk_lt hk
  clear hres hk hb hr hB hrel hl0 hin hlen
  go_enter Try.func19, Try.ntmps19
  go_wp2_with (fail)
  clear k1 hgl
  go_loopg [6, 7] l.length (fun gk v6 v7 wr => ∃ (j : Nat) (st : St) (xs T : List Int) (v : Value), v7 = .int .i64 (j : Int) ∧ Aside0 (gk = l.length - j) ∧ j ≤ l.length ∧ Aside0 (Rel T st) ∧ Aside0 (feedL (l.drop j) st xs = (r1, rst, r2)) ∧ Aside0 (XF w0 W0 v0 h wr v 0 v T v6 xs) ∧ Aside0 (T.length ≤ T0.length + j ∧ xs.length ≤ 3 * j))
  case atStart => exact ⟨0, st0, [], T0, v0, rfl, ⟨rfl⟩, by omega, HREL, HRES, HX0, ⟨by omega, by simp⟩⟩
  case round =>
    clear HX0
    obtain ⟨j, st, xs, T, v, rfl, HGK, hj, HR, HU, HX, HL⟩ := hrel
    by_cases hlt : j < l.length
    · obtain ⟨ad, rfl, hcell0⟩ := Kd.at_int HC.out (j : Int) (by omega) (by omega)
      rw [rd_nat _ _ hlt] at hcell0
      have hcell : wr.cell? (ad.add j) = some (.int .u8 l[j]) := pw_cell_below HX.out.bl hcell0
      have HC0 := Aside0.mk hcell0
      clear hcell0
      have hci := HI.out _ (List.getElem_mem hlt)
      have hU := HU.out
      rw [drop_cons _ j hlt] at hU
      obtain ⟨ch, hch⟩ : ∃ ch, ch = l[j] := ⟨_, rfl⟩
      rw [← hch] at hcell hci hU HC0
      have HCI := Aside0.mk hci
      have p37 := eq_true (show (0 : Int) ≤ (j : Int) by omega)
      have q37 := eq_true (show (j : Int) < (l.length : Int) by omega)
      have hl2 : decide ((j : Int) < (l.length : Int)) = true := decide_eq_true (by omega)
      have hl3 : decide (j < l.length) = true := decide_eq_true hlt
      have HHJ := Aside0.mk hlt
      have q1 : IntKind.i64.wrap ((j : Int) + 1) = ((j + 1 : Nat) : Int) := by have h_ := HLEN.out; rw [i64_w, wrap_id _ (by omega) (by omega)]; rfl
      clear hch HU hlt hci
      simp only [feedL] at hU
      by_cases h13 : ch = 13
      · rw [if_pos (.inl h13)] at hU
        have HU2 := Aside0.mk hU
        have e0 : decide (ch = 13) = true := decide_eq_true h13
        have e1 : (ch == 13) = true := beq_iff_eq.2 h13
        clear hU h13
        go_wp2_with (fail)
        go_roundg (l.length - (j + 1))
        case measure => have := HGK.out; have := HHJ.out; omega
        case rel => exact ⟨j + 1, st, xs, T, v, rfl, ⟨rfl⟩, by have := HHJ.out; omega, HR, HU2, HX, ⟨by have := HL.out; omega⟩⟩
      have e13 : decide (ch = 13) = false := decide_eq_false h13
      have e13' : (ch == 13) = false := beq_eq_false_iff_ne.2 h13
      by_cases h10 : ch = 10
      · rw [if_pos (.inr h10)] at hU
        have HU2 := Aside0.mk hU
        have e0 : decide (ch = 10) = true := decide_eq_true h10
        have e1 : (ch == 10) = true := beq_iff_eq.2 h10
        clear hU h13 h10
        go_wp2_with (fail)
        go_roundg (l.length - (j + 1))
        case measure => have := HGK.out; have := HHJ.out; omega
        case rel => exact ⟨j + 1, st, xs, T, v, rfl, ⟨rfl⟩, by have := HHJ.out; omega, HR, HU2, HX, ⟨by have := HL.out; omega⟩⟩
      have e10 : decide (ch = 10) = false := decide_eq_false h10
      have e10' : (ch == 10) = false := beq_eq_false_iff_ne.2 h10
      rw [if_neg (by rintro (rfl | rfl); exact absurd rfl h13; exact absurd rfl h10)] at hU
      have HU2 := Aside0.mk hU
      clear hU h13 h10
      obtain ⟨Av, cv, rfl⟩ := Kd.R_slice HX.out.row
      have c0 : wr.cell? ⟨h, 0, none⟩ = some (.slice Av T.length cv) := blk_cell HX.out.bk 0
      have hgl := blk_lt HX.out.bk
      go_wp2_with (fail)
      go_cut [8] from 40 to 49 (fun s8 wx => Aside0 (XF w0 W0 v0 h wx (.slice Av T.length cv) 0 s8 (T ++ [ch]) u6 xs))
      case first =>
        go_region_law (first
          | (refine Kd.R_append_rows_step (Kd.int .u8) (w0 := w0) w0.heap.size (by kernel_rfl) (.tmp 43) (.tmp 48) 22 5 (.int .u8 0) 1 rfl Try.underlying22 info5 rfl (by decide) (by omega) (.slice Av T.length cv) T [ch] (some ⟨wr.heap.size, 0, none⟩) 1 1 (fun _ => True) (fun _ => False) (by kernel_rfl) (by kernel_rfl) ?aO ?aR (fun _ _ h => h) (fun _ h => h.elim) ?aF ?aB ?aS ?aL ?_; (case aO => exact Kd.R_below HX.out.row (below_alloc (pw_below_drewN (Below.refl _ _) _) _)); (case aR => exact Lent.C_lit (xs := [ch]) (heap_alloc_new (wr.drewN _) _) (by simp) rfl); (case aF => exact (fun _ _ => trivial)); (case aB => exact below_step HX.out.bl (below_alloc (pw_below_drewN (Below.refl _ _) _) _)); (case aS => exact below_size (below_step HX.out.bl (below_alloc (pw_below_drewN (Below.refl _ _) _) _))); (case aL => have h_ := HL.out; have h2_ := HLEN.out; have h3_ := HHJ.out; omega); intro v7 w7 ho7 hb7 hg7 hat7; have HX7 := Aside0.mk (HX.out.grow (below_alloc (pw_below_drewN (Below.refl _ _) _) _) hg7 ho7 hb7 hat7); clear c0 hgl ho7 hb7 hg7 hat7))
        all_goals go_wp2_with (fail)
        all_goals go_meet
        all_goals first
          | exact HX7
          | exact ⟨HX7.out.below (Below.refl _ _).drew⟩
      case rest =>
        have HX7 := hcut
        obtain ⟨N, hN⟩ : ∃ N, T.length = N := ⟨_, rfl⟩
        have HN := Aside0.mk hN
        obtain ⟨K, M1, Q4, P4, D4, R4, hK, hM1, hKN, hD4, E⟩ := ar N (by have h_ := HL.out; have h2_ := HLEN.out; have h3_ := HHJ.out; omega)
        have HE0 := Aside0.mk E
        clear E
        have hL7 : (T ++ [ch]).length = M1 := by rw [List.length_append, hN, ← hM1]; rfl
        obtain ⟨g7, c7, hv7, hg7, _, _⟩ := Kd.R_form HX7.out.row (by rw [hL7]; omega)
        rw [hL7] at hv7
        subst hv7
        have HC7 := Aside0.mk (Kd.R_reads' HX7.out.row)
        have HK := Aside0.mk (And.intro hK (And.intro hKN (And.intro hD4 hM1)))
        have HNL : Aside0 (N ≤ 10000000000000) := ⟨by have h_ := HL.out; have h2_ := HLEN.out; have h3_ := HHJ.out; omega⟩
        clear hK hKN hD4 hM1 hL7 hN q1
        have HCC := Aside0.mk (cut_C (M1 := M1) (K := K) (c7 := c7) HC7.out.2.2 HC7.out.1 (by have h_ := HK.out; omega) HC7.out.2.1)
        have hcv := Kd.C_string (P := Try.prog) (c := c7 - K) Try.underlying22 Try.underlying5 Try.underlying9 HCC.out
        obtain ⟨t1, t2, t3, t4, t5, t6, t7⟩ := tf K M1 c7 (by have h_ := HK.out; omega) (by have h_ := HC7.out.2.1; omega)
        obtain ⟨K1, hon⟩ := HR.out.on_ev HCI.out (by have h_ := HNL.out; have h2_ := HN.out; omega)
        have hon1 := hon K1 (Nat.le_refl _)
        rw [HN.out, HK.out.1, HK.out.2.2.1] at hon1
        obtain ⟨S7, hS7⟩ : ∃ S7, strOfNums ((T ++ [ch]).drop K) = S7 := ⟨_, rfl⟩
        rw [hS7] at hon1 hcv
        have HON := Aside0.mk hon1
        clear hon hon1 hS7
        obtain ⟨e1, e2, e3, e4, e2', e3', e4', e5, e6⟩ := HE0.out
        by_cases he : st.next (valV ch) = 0
        · rw [decide_eq_true he] at HON
          have hU := HU2.out
          rw [if_neg (fun h => h he)] at hU
          have HU3 := Aside0.mk hU
          have HE := Aside0.mk he
          have hg7 := blk_lt HX7.out.bk
          clear hU HU2 he
          have q1 := wrj j l.length T0.length HHJ.out HLEN.out
          by_cases h4 : M1 % 4 = 0
          · have HM3 : Aside0 (T.length % 4 = 3 ∧ 4 ≤ M1 ∧ M1 ≤ 10000000000001) := ⟨by have h_ := HK.out; have h2_ := HN.out; have h3_ := HNL.out; omega⟩
            obtain ⟨N3, hN3, b1, b2, b3, b4⟩ := ar4 M1 HM3.out.2.2 h4 HM3.out.2.1
            have HN3 : Aside0 (N3 = T.length - 3 ∧ N3 < M1) := ⟨by have h_ := HK.out; have h2_ := HN.out; have h3_ := HM3.out; omega⟩
            obtain ⟨s1, s2, s3, s4, s5, s6, s7⟩ := tf N3 M1 c7 HN3.out.2 HC7.out.2.1
            obtain ⟨K2, hgr⟩ := HR.out.out_four HCI.out HE.out HM3.out.1
            have HGR := Aside0.mk (hgr K2 (Nat.le_refl _))
            obtain ⟨gs, hgs⟩ : ∃ gs, st.out (valV ch) = gs := ⟨_, rfl⟩
            have HGS := Aside0.mk hgs
            have HGL : Aside0 (gs.length ≤ 3) := ⟨by rw [← hgs]; exact out_len _ _⟩
            rw [hgs] at HGR
            clear hgr hgs hN3 h4
            go_wp2_with (first
              | ((go_at_call 21); (with_reducible refine (posthornref04_On.calls K1 S7 (D4 : Int) _ _ HON.out).mono ?_); rintro e w8 ⟨rfl, hd⟩; have HX8 := Aside0.mk (HX7.out.below hd.below).put; have gl8 := blk_lt (HX7.out.below hd.below).bk; have gf8 := blk_frozen (HX7.out.below hd.below).bk 0; have gc8 := blk_cell (HX7.out.below hd.below).bk 0; have hcv2 := Kd.C_string (P := Try.prog) (c := c7 - N3) Try.underlying22 Try.underlying5 Try.underlying9 (cut_C (M1 := M1) (K := N3) (c7 := c7) (Kd.R_reads' HX8.out.row).2.2 HC7.out.1 HN3.out.2 HC7.out.2.1); rw [HN3.out.1] at hcv2; rw [← HN3.out.1] at hcv2; have HLAST : Aside0 (strOfNums ((T ++ [ch]).drop N3) = last4 T ch) := ⟨by rw [HN3.out.1]; rfl⟩; rw [HLAST.out] at hcv2; clear hd)
              | ((go_at_call 23); (with_reducible refine (posthornref04_group.calls K2 (last4 T ch) gs _ HGR.out).mono ?_); rintro e w9 ⟨vg, rfl, hog, hb9⟩; obtain ⟨Ag, cg, rfl⟩ := Kd.R_slice hog; have HOG := Aside0.mk (Kd.R_reads' hog).2.2; have HX9 := Aside0.mk (HX8.out.below hb9); clear hog hb9 hcv2)
              | ((with_reducible refine gate_builtin (b := .append) (xs := #[.tmp 88, .tmp 94]) rfl ?_); at_builtin; refine Kd.R_append_rows (Kd.int .u8) (w0 := w9) W0.heap.size rfl (.tmp 88) (.tmp 94) 22 5 (.int .u8 0) 1 rfl Try.underlying22 info5 rfl (by decide) (by omega) u6 xs gs Ag gs.length cg (fun _ => True) (fun _ => False) rfl rfl ?aO ?aR (fun _ _ h => h) (fun _ h => h.elim) ?aF ?aB ?aS ?aL ?_; (case aO => exact HX9.out.out); (case aR => exact HOG.out); (case aF => exact (fun _ _ => trivial)); (case aB => exact Below.refl _ _); (case aS => exact HX9.out.kp.1); (case aL => have h_ := HL.out; have h2_ := HLEN.out; have h3_ := HHJ.out; have h4_ := HGL.out; omega); intro v10 w10 ho10 hb10 hg10 hat10; have HX10 := Aside0.mk (HX9.out.tell hg10 ho10 hb10 hat10); clear ho10 hb10 hg10 hat10))
            go_roundg (l.length - (j + 1))
            case measure => have := HGK.out; have := HHJ.out; omega
            case rel => exact ⟨j + 1, st.put (valV ch), xs ++ gs, T ++ [ch], _, rfl, ⟨rfl⟩, by have := HHJ.out; omega, ⟨HR.out.put HCI.out HE.out⟩, ⟨by rw [← HGS.out]; exact HU3.out⟩, HX10, ⟨by have := HL.out; have := HGL.out; rw [List.length_append, List.length_append]; simp; omega⟩⟩
          · obtain ⟨b1, b2, b3, b4, b5⟩ := ar5 M1 h4
            have HM3 : Aside0 (T.length % 4 ≠ 3) := ⟨by have h_ := HK.out; have h2_ := HN.out; omega⟩
            clear h4
            go_wp2_with ((go_at_call 21); (with_reducible refine (posthornref04_On.calls K1 S7 (D4 : Int) _ _ HON.out).mono ?_); rintro e w8 ⟨rfl, hd⟩; have HX8 := Aside0.mk (HX7.out.below hd.below).put; have gl8 := blk_lt (HX7.out.below hd.below).bk; have gf8 := blk_frozen (HX7.out.below hd.below).bk 0; have gc8 := blk_cell (HX7.out.below hd.below).bk 0; clear hd)
            go_roundg (l.length - (j + 1))
            case measure => have := HGK.out; have := HHJ.out; omega
            case rel => exact ⟨j + 1, st.put (valV ch), xs, T ++ [ch], _, rfl, ⟨rfl⟩, by have := HHJ.out; omega, ⟨HR.out.put HCI.out HE.out⟩, ⟨by have h_ := HU3.out; rw [HR.out.out_none HM3.out, List.append_nil] at h_; exact h_⟩, HX8, ⟨by have := HL.out; rw [List.length_append]; simp; omega⟩⟩
        · rw [decide_eq_false he] at HON
          have hU := HU2.out
          rw [if_pos he] at hU
          simp only [Prod.mk.injEq] at hU
          obtain ⟨rfl, rfl, h2⟩ := hU
          obtain ⟨K3, hwy⟩ := why_ev ch HCI.out
          have hwy1 := hwy K3 (Nat.le_refl _)
          rw [← (HR.out.on HCI.out).2 he, h2] at hwy1
          have HWY := Aside0.mk hwy1
          have hg7 := blk_lt HX7.out.bk
          have HNE : Aside0 (r2 ≠ 0) := ⟨by rw [← h2]; exact he⟩
          clear HU2 he hwy hwy1 h2
          go_wp2_with (first
            | ((go_at_call 21); (with_reducible refine (posthornref04_On.calls K1 S7 (D4 : Int) _ _ HON.out).mono ?_); rintro e w8 ⟨rfl, hd⟩; have HX8 := Aside0.mk (HX7.out.below hd.below); have hcell8 : w8.cell? (ad.add j) = some (.int .u8 ch) := pw_cell_below HX8.out.bl HC0.out; clear hd)
            | ((go_at_call 22); (with_reducible refine (posthornref04_why.calls K3 ch r2 _ HWY.out).mono ?_); rintro e w9 ⟨rfl, hd⟩; have HX9 := Aside0.mk (HX8.out.below hd.below); have hx9 := HX9.out.err r2; have gl9 := blk_lt HX9.out.bk; have gf9 := blk_frozen HX9.out.bk 1; have gc9 := blk_cell HX9.out.bk 1; have k9 := blk_cell hx9.bk 1; have HXE := Aside0.mk hx9; clear hd hx9))
          go_region
          all_goals go_wp2
          all_goals go_ret2
          all_goals exact ⟨u6, _, _, _, rfl, HXE.out.below (Below.refl _ _).drew, fun h => absurd h HNE.out⟩
    · have hl2 : decide ((j : Int) < (l.length : Int)) = false := decide_eq_false (by omega)
      have hl3 : decide (j < l.length) = false := decide_eq_false hlt
      have hU := HU.out
      rw [List.drop_eq_nil_of_le (by omega)] at hU
      simp only [feedL, Prod.mk.injEq] at hU
      obtain ⟨rfl, rfl, rfl⟩ := hU
      clear hlt
      go_wp2_with (fail)
      go_ret2
      exact ⟨u6, rfl, v, T, v, HX.out, rfl, HR.out, by have := HL.out; omega⟩
set_option maxHeartbeats 8000000 in
theorem xfeed_err (h : Nat) (er : Int) (he : er ≠ 0) (v v1 : Value) (w : World) (hk : w.heap[h]? = some (.cells #[v, .int .i64 er] tX (0, 0))) :
    Calls Try.prog 19 #[.pointer (some ⟨h, 0, none⟩), v1] w fun e w' => e = .returned (.tuple #[.slice none 0 0, .int .i64 er]) ∧ Drawn0 w w' := by
  have hgl := blk_lt hk
  have k1 : w.cell? ⟨h, 1, none⟩ = some (.int .i64 er) := blk_cell hk 1
  have hnb : (er != 0) = true := bne_iff_ne.2 he
  clear hk
  go_enter Try.func19, Try.ntmps19
  go_wp2_with (fail)
  go_region
  all_goals go_wp2
  all_goals go_ret2
  all_goals exact ⟨rfl, Drawn0.step (Drawn0.refl _) 1⟩
theorem xclose_err (h : Nat) (er : Int) (he : er ≠ 0) (v : Value) (w : World) (hk : w.heap[h]? = some (.cells #[v, .int .i64 er] tX (0, 0))) :
    Calls Try.prog 20 #[.pointer (some ⟨h, 0, none⟩)] w fun e w' => e = .returned (.int .i64 er) ∧ Drawn0 w w' := by
  have hgl := blk_lt hk
  have k1 : w.cell? ⟨h, 1, none⟩ = some (.int .i64 er) := blk_cell hk 1
  have hnb : (er == 0) = false := beq_eq_false_iff_ne.2 he
  have hnb2 : decide (er = 0) = false := decide_eq_false he
  clear hk
  go_enter Try.func20, Try.ntmps20
  go_wp2_with (fail)
  go_ret
  exact ⟨rfl, Drawn0.refl _⟩
theorem xclose_ok (h : Nat) (w : World) (base : Nat) (v : Value) (T : List Int) (hk : w.heap[h]? = some (.cells #[v, .int .i64 0] tX (0, 0))) (hr : RU w base v T) :
    Calls Try.prog 20 #[.pointer (some ⟨h, 0, none⟩)] w fun e w' => e = .returned (.int .i64 (if T.length % 4 = 0 then 0 else 41)) ∧ Drawn0 w w' := by
  have hgl := blk_lt hk
  have k1 : w.cell? ⟨h, 1, none⟩ = some (.int .i64 0) := blk_cell hk 1
  obtain ⟨A, c, rfl⟩ := Kd.R_slice hr
  have k0 : w.cell? ⟨h, 0, none⟩ = some (.slice A T.length c) := blk_cell hk 0
  clear hk hr
  by_cases h4 : T.length % 4 = 0
  · have a1 : Int.tmod (T.length : Int) 4 = 0 := by rw [Int.tmod_eq_emod_of_nonneg (by omega)]; omega
    have a2 : (T.length : Int) % 4 = 0 := by omega
    rw [if_pos h4]
    go_enter Try.func20, Try.ntmps20
    go_wp2_with (fail)
    go_ret
    exact ⟨rfl, Drawn0.refl _⟩
  · obtain ⟨b1, b2, b3, b4, b5⟩ := ar5 T.length h4
    rw [if_neg h4]
    go_enter Try.func20, Try.ntmps20
    go_wp2_with (fail)
    go_ret
    exact ⟨rfl, Drawn0.refl _⟩
theorem xnew_calls (w : World) :
    Calls Try.prog 16 #[] w fun e w' => e = .returned (.pointer (some ⟨w.heap.size, 0, none⟩)) ∧ w' = w.alloc (.cells #[.slice none 0 0, .int .i64 0] tX (0, 0)) := by
  go_enter Try.func16, Try.ntmps16
  go_wp2_with (fail)
  go_ret
  exact ⟨rfl, rfl⟩
end Go.Proofs.Ytokgckhhhhigiaa.XF
