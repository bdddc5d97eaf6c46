/- SumPlays: the walk of the statement (by hand). -/
import Derived.Test.YtlaglidgjnpncaaSumPlaysK
import Derived.Test.YtlaglidgjnpncaaOpenStepS
import Derived.Deep.QuietTactic
import Derived.BigQuiet
import Derived.Deep.RegionHeld3
import Derived.Test.YtlaglidgjnpncaaH2
namespace Go.Proofs.Ytlaglidgjnpncaa.SumF
set_option linter.unusedVariables false
set_option linter.unusedSimpArgs false
set_option linter.unusedVariables false
set_option linter.unusedSimpArgs false
open Go.RowKit Go.Proofs.YtlaglidgjnpncaaW.PrintWords Go.Proofs.YtlaglidgjnpncaaW.PrintLast Go.Proofs.YtlaglidgjnpncaaW.PrintMore Go.Proofs.Ytlaglidgjnpncaa.B Go.Proofs.Ytlaglidgjnpncaa.M Go.Proofs.Ytlaglidgjnpncaa.H Go.Proofs.Ytlaglidgjnpncaa.SumP Go.Proofs.Ytlaglidgjnpncaa.Crc

def slotN (v : Int) : Nat := (v % 18446744073709551616 % 5).toNat
theorem slotN_lt (v : Int) : slotN v < 5 := by unfold slotN; omega
theorem slot_calls (v : Int) (w : World) : Calls Try.prog 26 #[.int .i64 v] w fun e w' => e = .returned (.int .i64 (slotN v : Int)) ∧ w' = w := by
  have e : wrap64 (Int.tmod (IntKind.u64.wrap v) 5) = (slotN v : Int) := by
    rw [IntKind.wrap_u64, Int.tmod_eq_emod_of_nonneg (by omega), wrap_id _ (by omega) (by omega)]
    unfold slotN; omega
  go_enter Try.func26, Try.ntmps26
  go_wp2
  go_ret
  refine ⟨?_, rfl⟩
  rw [← e]; rfl

section
variable {w W W2 : World} {gG gW gS gB : Nat} {q : Nat → Option Nat} {r : Nat → Option Addr × Nat} {x y : St} {cs cb : Array Value}
theorem KB.seen2 {b : Bool} {v : Value} (h : KB w gG gW gB gB q r x y #[.bool b, v] #[.bool b, v] W) {i : Nat} (hi : i < 5) : KB w gG gW gB gB q r x y #[.bool b, v] #[.bool b, v] W ∧ W.cell? ⟨gG, i, none⟩ = some (ptrv (q i)) ∧ W.cell? ⟨gB, 0, none⟩ = some (.bool b) ∧ W.cell? ⟨gB, 1, none⟩ = some v := ⟨h, (h.G.cell i hi).1, blk_cell h.B 0, blk_cell h.B 1⟩
theorem KB_wnil (h : KB w gG gW gS gB q r x y cs cb W) {i : Nat} (hi : i < 5) (hl : (x i).2.length ≤ 9223372036854775807) {b : Bool} (hb : (x i).1 = b) :
    Calls Try.prog 22 #[ptrv (q i), .slice none 0 0] W fun e w' => e = .returned (.int .i64 (if b = true then 0 else 1)) ∧ KB w gG gW gS gB q r x y cs cb w' := by
  cases b with
  | true =>
    refine (KB_write_yes h hi hb none 0 [] (x i).2 (List.append_nil _).symm ⟨rfl, by simp, fun h => absurd h (Nat.lt_irrefl 0)⟩ (Nat.le_refl _) (fun _ h => (by cases h)) hl).mono ?_
    rintro e w' ⟨rfl, hk⟩
    have e1 : ((true, (x i).2) : Bool × List Int) = x i := by rw [← hb]
    rw [e1, upd_same] at hk
    exact ⟨rfl, hk⟩
  | false =>
    refine (KB_write_no h hi hb _).mono ?_
    rintro e w' ⟨rfl, rfl⟩
    exact ⟨rfl, h⟩
theorem KB_refsum' (h : KB w gG gW gS gB q r x y cs cb W) {i : Nat} (hi : i < 5) {b : Bool} (hb : (y i).1 = b) (hz : (y i).1 = false → (y i).2 = []) (hl : (y i).2.length ≤ 140737488355327) (hin : InB (y i).2) :
    Calls Try.prog 28 #[.agg #[.bool b, .slice (r i).1 (y i).2.length (r i).2]] W fun e w' => e = .returned (.int .u32 (crc (y i).2)) ∧ KB w gG gW gS gB q r x y cs cb w' := by
  subst hb
  exact KB_refsum h hi hz hl hin
end

set_option maxHeartbeats 8000000 in
set_option maxRecDepth 100000 in
theorem SumPlays_calls (a0 : Option Addr) (n c : Nat) (f : Nat → StepV) (w : World) (hlen : n ≤ 1048576) (hsc : ∀ j, j < n → ∃ x, a0 = some x ∧ PStepAt w (x.add (j * 4)) (f j) ∧ (f j).ps.length ≤ 1048576) :
    Calls Try.prog 9 #[.slice a0 n c] w fun e w' => e = .returned (.bool true) ∧ Below w.heap.size w w' := by
  have HSC := Aside0.mk hsc
  clear hsc
  have HB := Aside0.mk (Below.refl w.heap.size w)
  have TH1a := trivial
  have TH1b := trivial
  have TH1c := trivial
  have TH2a := trivial
  have TH2b := trivial
  have TH2c := trivial
  go_enter Try.func9, Try.ntmps9
  go_wp2_with (first
    | (clear TH1a; go_at_call 20; (with_reducible refine (new_calls _).mono ?_); rintro e w1a ⟨rfl, h_⟩; have H1a := Aside0.mk h_; clear h_)
    | (clear TH1b; go_at_call 20; (with_reducible refine (new_calls _).mono ?_); rintro e w1b ⟨rfl, h_⟩; have H1b := Aside0.mk h_; clear h_)
    | (clear TH1c; go_at_call 20; (with_reducible refine (new_calls _).mono ?_); rintro e w1c ⟨rfl, h_⟩; have H1c := Aside0.mk h_; clear h_)
    | (clear TH2a; go_at_call 25; (with_reducible refine (posthornref02_New.calls true [] _ rfl).mono ?_); rintro e w2a ⟨v2, rfl, hR, hb⟩; obtain ⟨A2a, c2a, rfl⟩ := Kd.R_slice hR; have H2a := Aside0.mk (And.intro hR hb); clear hR hb)
    | (clear TH2b; go_at_call 25; (with_reducible refine (posthornref02_New.calls true [] _ rfl).mono ?_); rintro e w2b ⟨v2, rfl, hR, hb⟩; obtain ⟨A2b, c2b, rfl⟩ := Kd.R_slice hR; have H2b := Aside0.mk (And.intro hR hb); clear hR hb)
    | (clear TH2c; go_at_call 25; (with_reducible refine (posthornref02_New.calls true [] _ rfl).mono ?_); rintro e w2c ⟨v2, rfl, hR, hb⟩; obtain ⟨A2c, c2c, rfl⟩ := Kd.R_slice hR; have H2c := Aside0.mk (And.intro hR hb); clear hR hb))
  obtain ⟨gG, hgG⟩ : ∃ g, g = w1c.heap.size + 1 := ⟨_, rfl⟩
  obtain ⟨gW, hgW⟩ : ∃ g, g = w2c.heap.size := ⟨_, rfl⟩
  rw [← hgG, ← hgW]
  have HGG := Aside0.mk hgG
  have HGW := Aside0.mk hgW
  clear hgG hgW
  go_loopg [29] (n + 1) (fun kq v29 wr => ∃ (j : Nat) (q : Nat → Option Nat) (r : Nat → Option Addr × Nat) (x : St), v29 = .int .i64 (j : Int) ∧ Aside0 (n - j < kq ∧ j ≤ n) ∧ Aside0 (Below w.heap.size w wr) ∧ Aside0 (PG w gG q x wr) ∧ Aside0 (PW w gW r x wr) ∧ Aside0 (Good x (j * 1048576)))
  case atStart =>
    obtain ⟨q0, hq⟩ := start_PG w w1a w1b w1c H1a.out H1b.out H1c.out
    have hbG : Below w.heap.size w ((w1c.alloc (.cells #[.bool false, .int .u32 0, .int .i64 0] 50)).alloc (.cells #[.pointer (some ⟨w.heap.size, 0, none⟩), .pointer (some ⟨w1a.heap.size, 0, none⟩), .pointer (some ⟨w1b.heap.size, 0, none⟩), .pointer none, .pointer (some ⟨w1c.heap.size, 0, none⟩)] 40)) := by
      rw [H1c.out, H1b.out, H1a.out]
      exact below_alloc (below_alloc (below_alloc (below_alloc (below_alloc (Below.refl _ _) _) _) _) _) _
    have b2a := below_step hbG H2a.out.2
    have b2b := below_step b2a H2b.out.2
    have b2c := below_step b2b H2c.out.2
    obtain ⟨r0, hr⟩ := start_PW w w2c A2a A2b A2c c2a c2b c2c (Kd.R_lower (Kd.R_below (Kd.R_below H2a.out.1 H2b.out.2) H2c.out.2) hbG.size) (Kd.R_lower (Kd.R_below H2b.out.1 H2c.out.2) b2a.size) (Kd.R_lower H2c.out.1 b2b.size) b2c.size
    have hq2 := (((hq.step H2a.out.2).step H2b.out.2).step H2c.out.2).step (below_alloc (Below.refl _ _) (.cells #[.bool true, .slice A2a 0 c2a, .bool true, .slice A2b 0 c2b, .bool true, .slice A2c 0 c2c, .bool false, .slice none 0 0, .bool false, .slice none 0 0] 53))
    rw [← HGG.out] at hq2
    rw [← HGW.out] at hr
    exact ⟨0, q0, r0, x0, rfl, ⟨by omega, by omega⟩, ⟨below_alloc b2c _⟩, ⟨hq2⟩, ⟨hr⟩, ⟨start_good _⟩⟩
  case round =>
    obtain ⟨j, q, r, x, rfl, HI, HB, HG, HW, HGD⟩ := hrel
    have hj := HI.out.2
    by_cases hlt : j < n
    · have hl2 : decide ((j : Int) < (n : Int)) = true := decide_eq_true (by omega)
      have hl3 : decide (j < n) = true := decide_eq_true hlt
      have q1 : IntKind.i64.wrap ((j : Int) + 1) = ((j + 1 : Nat) : Int) := by rw [i64_w, wrap_id _ (by omega) (by omega)]; rfl
      cases gk with
      | zero => exact absurd HI.out.1 (Nat.not_lt_zero _)
      | succ k9 =>
      have HI2 := Aside0.mk (show n - (j + 1) < k9 ∧ j + 1 ≤ n from ⟨by have h_ := HI.out; omega, by omega⟩)
      clear HI
      obtain ⟨a, rfl, hst, hps⟩ := HSC.out j hlt
      obtain ⟨s, hs⟩ : ∃ s, s = f j := ⟨_, rfl⟩
      rw [← hs] at hst hps
      obtain ⟨T, hT⟩ : ∃ T, T = j * 1048576 := ⟨_, rfl⟩
      rw [← hT] at HGD
      have HTN : Aside0 ((j + 1) * 1048576 = T + 1048576) := ⟨by omega⟩
      have HTB : Aside0 (T + s.ps.length ≤ 1099512676352 ∧ s.ps.length ≤ 1048576) := ⟨by omega, hps⟩
      clear hT hps
      have p0 : wr.cell? (a.add (j * 4)) = some (.int .i64 s.kind) := pw_cell_below HB.out hst.c0
      have p1 : wr.cell? ⟨(a.add (j * 4)).block, (a.add (j * 4)).off + 1, none⟩ = some (.int .i64 s.who) := pw_cell_below HB.out hst.c1
      have p2 : wr.cell? ⟨(a.add (j * 4)).block, (a.add (j * 4)).off + 2, none⟩ = some (.int .i64 s.too) := pw_cell_below HB.out hst.c2
      have p3 : wr.cell? ⟨(a.add (j * 4)).block, (a.add (j * 4)).off + 3, none⟩ = some (.slice s.A s.ps.length s.c) := pw_cell_below HB.out hst.c3
      have HST := Aside0.mk hst
      clear hst hs
      go_wp2
      obtain ⟨gS, hgS⟩ : ∃ g, g = wr.heap.size := ⟨_, rfl⟩
      obtain ⟨W3, hW3⟩ : ∃ W, W = wr.alloc (.cells #[.int .i64 s.kind, .int .i64 s.who, .int .i64 s.too, .slice s.A s.ps.length s.c] 57) := ⟨_, rfl⟩
      rw [← hgS, ← hW3]
      have hb3 : Below wr.heap.size wr W3 := by rw [hW3]; exact below_alloc (Below.refl _ _) _
      have hs3 : W3.heap[gS]? = some (.cells #[.int .i64 s.kind, .int .i64 s.who, .int .i64 s.too, .slice s.A s.ps.length s.c] 57 (0, 0)) := by rw [hW3, hgS]; exact blk_new _ _
      clear hW3 p0 p1 p2 p3
      have HB3 := Aside0.mk (below_step HB.out hb3)
      have HG3 := Aside0.mk (HG.out.step hb3)
      have HW3 := Aside0.mk (HW.out.step hb3)
      have HS3 := Aside0.mk hs3
      clear hb3 hs3 HB HG HW hgS
      have k1 : W3.cell? ⟨gS, 1, none⟩ = some (.int .i64 s.who) := blk_cell HS3.out 1
      have k2 : W3.cell? ⟨gS, 2, none⟩ = some (.int .i64 s.too) := blk_cell HS3.out 2
      go_quiet ((go_at_call 26; exact Calls.quiet_of_same (slot_calls _ _)))
      go_wp2
      obtain ⟨i, hi⟩ : ∃ i, i = slotN s.who := ⟨_, rfl⟩
      obtain ⟨t, ht⟩ : ∃ i, i = slotN s.too := ⟨_, rfl⟩
      have hi5 : i < 5 := by rw [hi]; exact slotN_lt _
      have ht5 : t < 5 := by rw [ht]; exact slotN_lt _
      rw [← hi, ← ht]
      clear hi ht k1 k2
      obtain ⟨W4, hW4⟩ : ∃ W, W = W3.drewN nq := ⟨_, rfl⟩
      rw [← hW4]
      have hb4 : Below W3.heap.size W3 W4 := by rw [hW4]; exact pw_below_drewN (Below.refl _ _) _
      clear hW4
      have HB4 := Aside0.mk (below_step HB3.out hb4)
      have HG4 := Aside0.mk (HG3.out.step hb4)
      have HW4 := Aside0.mk (HW3.out.step hb4)
      have HS4 := Aside0.mk (blk_below HS3.out hb4)
      clear hb4 HB3 HG3 HW3 HS3
      obtain ⟨k1, f1⟩ := HG4.out.cell i hi5
      obtain ⟨k2, k3, f2, f3⟩ := HW4.out.cell i hi5
      obtain ⟨m2, m3, m4, m5⟩ := (HW4.out.step (below_alloc (Below.refl _ _) (.cells #[.bool false, .slice none 0 0] 53))).cell i hi5
      obtain ⟨m1, m0⟩ := (HG4.out.step (below_alloc (Below.refl _ _) (.cells #[.bool false, .slice none 0 0] 53))).cell i hi5
      unfold rowv at k3 m3
      have i0 : (0 : Int) ≤ (i : Int) := by omega
      have i5 : (i : Int) < 5 := by omega
      go_region
      clear k1 f1 k2 k3 f2 f3 m0 m1 m2 m3 m4 m5
      obtain ⟨gB, hgB⟩ : ∃ g, g = W4.heap.size := ⟨_, rfl⟩
      obtain ⟨W5, hW5⟩ : ∃ W, W = (W4.alloc (.cells #[.bool (x i).1, .slice (r i).1 (x i).2.length (r i).2] 53)).drew := ⟨_, rfl⟩
      rw [← hgB, ← hW5]
      have hb5 : Below W4.heap.size W4 W5 := by rw [hW5]; exact below_drew1 (below_alloc (Below.refl _ _) _)
      have HK5 : Aside0 (KB w gG gW gS gB q r x x (stepCells s) #[.bool (x i).1, .slice (r i).1 (x i).2.length (r i).2] W5) := ⟨⟨below_step HB4.out hb5, HG4.out.step hb5, HW4.out.step hb5, ⟨_, by decide, by decide, blk_below HS4.out hb5⟩, by rw [hW5, hgB]; exact blk_new _ _⟩⟩
      have hnew : gW ≠ gB := by rw [hgB]; exact Nat.ne_of_lt (blk_lt HW4.out.blk)
      clear hgB hW5 hb5 HB4 HG4 HW4 HS4
      have z0 : W5.cell? ⟨gS, 0, none⟩ = some (.int .i64 s.kind) := (HK5.out.sc 0).trans rfl
      have z3 : W5.cell? ⟨gS, 3, none⟩ = some (.slice s.A s.ps.length s.c) := (HK5.out.sc 3).trans rfl
      have y0 : W5.cell? ⟨gB, 0, none⟩ = some (.bool (x i).1) := blk_cell HK5.out.B 0
      have y1 : W5.cell? ⟨gB, 1, none⟩ = some (.slice (r i).1 (x i).2.length (r i).2) := blk_cell HK5.out.B 1
      have kinds : s.kind = 0 ∨ s.kind = 1 ∨ s.kind = 2 ∨ s.kind = 3 ∨ s.kind = 4 ∨ s.kind = 5 ∨ (s.kind ≠ 0 ∧ s.kind ≠ 1 ∧ s.kind ≠ 2 ∧ s.kind ≠ 3 ∧ s.kind ≠ 4 ∧ s.kind ≠ 5) := by omega
      have hwj : wrap64 ((j : Int) + 1) = ((j + 1 : Nat) : Int) := by rw [wrap_id _ (by omega) (by omega)]; rfl
      have HWJ := Aside0.mk hwj
      obtain ⟨g1, g2, g3⟩ := HGD.out i hi5
      have GI := Aside0.mk g1
      have GL := Aside0.mk g2
      have GZ := Aside0.mk g3
      clear hwj g1 g2 g3
      rcases kinds with hkd | hkd | hkd | hkd | hkd | hkd | ⟨n0, n1, n2, n3, n4, n5⟩
      · rw [hkd] at z0
        obtain ⟨l2, hl2⟩ : ∃ l, l = (x i).2 ++ s.ps := ⟨_, rfl⟩
        have HL2 := Aside0.mk hl2
        clear hl2
        cases hb : (x i).1 with
        | true =>
          rw [hb] at y0
          go_wp2_with (first
            | (go_at_call 22; (with_reducible refine (KB_write_yes HK5.out hi5 hb s.A s.c s.ps l2 HL2.out (Kd.C_below HST.out.row HK5.out.below) HST.out.cap HST.out.inb (by have := GL.out; have := HTB.out; omega)).mono ?_); rintro e w6 ⟨rfl, hk⟩; have HK6 := Aside0.mk hk; clear hk z0 z3 y0 y1; have z3 : w6.cell? ⟨gS, 3, none⟩ = some (.slice s.A s.ps.length s.c) := (HK6.out.sc 3).trans rfl; have y0 : w6.cell? ⟨gB, 0, none⟩ = some (.bool true) := (by rw [← hb]; exact blk_cell HK6.out.B 0); have y1 : w6.cell? ⟨gB, 1, none⟩ = some (.slice (r i).1 (x i).2.length (r i).2) := blk_cell HK6.out.B 1)
            | (go_at_call 27; (with_reducible refine (KB_refwrite_yes HK6.out hi5 s.A s.c s.ps l2 HL2.out (Kd.C_below HST.out.row HK6.out.below) HST.out.cap (by have := GL.out; have := HTB.out; omega)).mono ?_); rintro e w7 ⟨v, rfl, hR, hk⟩; have HK7 := Aside0.mk hk; have HR7 := Aside0.mk hR; clear hk hR z3 y0 y1; obtain ⟨c2, c3, f2, f3⟩ := HK7.out.R.cell i hi5; unfold rowv at c3))
          go_roundg k9
          have hp := HK7.out.putW hi5 v (true, l2) HR7.out
          case rel => exact ⟨j + 1, q, upd r i v, upd x i (true, l2), (by first | rfl | go_num), HI2, ⟨hp.1⟩, ⟨hp.2.1⟩, ⟨hp.2.2⟩, ⟨by rw [HTN.out]; exact (HGD.out.mono (by omega)).upd i _ (by rw [HL2.out]; exact inb_append GI.out HST.out.inb) (by show l2.length ≤ _; rw [HL2.out, List.length_append]; have := GL.out; have := HTB.out; omega) (fun h => by cases h)⟩⟩
          case measure => omega
        | false =>
          rw [hb] at y0
          go_wp2_with (first
            | (go_at_call 22; (with_reducible refine (KB_write_no HK5.out hi5 hb _).mono ?_); rintro e w6 ⟨rfl, hw⟩; rw [hw]; clear hw)
            | (go_at_call 27; (with_reducible refine (KB_refwrite_no HK5.out hi5 _).mono ?_); rintro e w7 ⟨rfl, hk⟩; have HK7 := Aside0.mk hk; clear hk z3 y0 y1 z0; obtain ⟨c2, c3, f2, f3⟩ := HK7.out.R.cell i hi5; unfold rowv at c3))
          go_roundg k9
          have hp := HK7.out.putW hi5 (r i) (x i) (HK7.out.R.row i hi5)
          rw [upd_same, upd_same, hb] at hp
          case rel => exact ⟨j + 1, q, r, x, (by first | rfl | go_num), HI2, ⟨hp.1⟩, ⟨hp.2.1⟩, ⟨hp.2.2⟩, ⟨by rw [HTN.out]; exact HGD.out.mono (by omega)⟩⟩
          case measure => omega
      · rw [hkd] at z0
        go_wp2
        have hk5 := HK5.out
        go_region_held3 (fun W => KB w gG gW gS gB q r x x (stepCells s) #[.bool (x i).1, .slice (r i).1 (x i).2.length (r i).2] W ∧ W.cell? ⟨gB, 0, none⟩ = some (.bool (x i).1) ∧ W.cell? ⟨gB, 1, none⟩ = some (.slice (r i).1 (x i).2.length (r i).2)) (first | assumption | exact KB.seen (by assumption) | exact KB.seen HK5.out | exact KB.seen (KB.drew (by assumption)) | exact KB.seen (KB.drewN (by assumption) _))
          (first
            | (go_at_call 23; refine (KB_sum (by first | assumption | exact KB.drew (by assumption) | exact KB.drewN (by assumption) _ : KB w gG gW gS gB q r x x (stepCells s) #[.bool (x i).1, .slice (r i).1 (x i).2.length (r i).2] _) hi5 GZ.out).mono ?_; rintro e w6 ⟨rfl, rfl⟩)
            | (go_at_call 28; refine (KB_refsum (by first | assumption | exact KB.drew (by assumption) | exact KB.drewN (by assumption) _ : KB w gG gW gS gB q r x x (stepCells s) #[.bool (x i).1, .slice (r i).1 (x i).2.length (r i).2] _) hi5 GZ.out (by have := GL.out; have := HTB.out; omega) GI.out).mono ?_; rintro e w6 ⟨rfl, hk⟩))
        go_wp2
        have hk6 : KB w gG gW gS gB q r x x (stepCells s) #[.bool (x i).1, .slice (r i).1 (x i).2.length (r i).2] w6 := by assumption
        go_roundg k9
        case rel => exact ⟨j + 1, q, r, x, (by first | rfl | go_num), HI2, ⟨hk6.below⟩, ⟨hk6.G⟩, ⟨hk6.R⟩, ⟨by rw [HTN.out]; exact HGD.out.mono (by omega)⟩⟩
        case measure => omega
      · rw [hkd] at z0
        go_wp2
        go_quiet ((go_at_call 24; exact Calls.quiet_of_same (KB_len (HK5.out.drewN _) hi5 GZ.out)))
        have HK6 := Aside0.mk (HK5.out.drewN nq)
        go_wp2
        go_roundg k9
        case rel => exact ⟨j + 1, q, r, x, (by first | rfl | go_num), HI2, ⟨HK6.out.below⟩, ⟨HK6.out.G⟩, ⟨HK6.out.R⟩, ⟨by rw [HTN.out]; exact HGD.out.mono (by omega)⟩⟩
        case measure => omega
      · rw [hkd] at z0
        go_wp2_with (first
          | (go_at_call 29; (with_reducible refine (KB_reset HK5.out hi5 GZ.out).mono ?_); rintro e w6 ⟨rfl, hk⟩; have HK6 := Aside0.mk hk; clear hk z0 z3 y0 y1; have y0 : w6.cell? ⟨gB, 0, none⟩ = some (.bool (x i).1) := blk_cell HK6.out.B 0; have y1 : w6.cell? ⟨gB, 1, none⟩ = some (.slice (r i).1 (x i).2.length (r i).2) := blk_cell HK6.out.B 1)
          | (go_at_call 30; (with_reducible refine (KB_refreset HK6.out hi5).mono ?_); rintro e w7 ⟨v, rfl, hR, hk⟩; have HK7 := Aside0.mk hk; have HR7 := Aside0.mk hR; clear hk hR y0 y1; obtain ⟨c2, c3, f2, f3⟩ := HK7.out.R.cell i hi5; unfold rowv at c3))
        go_roundg k9
        have hp := HK7.out.putW hi5 v ((x i).1, []) HR7.out
        case rel => exact ⟨j + 1, q, upd r i v, upd x i ((x i).1, []), (by first | rfl | go_num), HI2, ⟨hp.1⟩, ⟨hp.2.1⟩, ⟨hp.2.2⟩, ⟨by rw [HTN.out]; exact (HGD.out.mono (by omega)).upd i _ (fun _ h => (by cases h)) (Nat.zero_le _) (fun _ => rfl)⟩⟩
        case measure => omega
      · rw [hkd] at z0
        have t0 : (0 : Int) ≤ (t : Int) := by omega
        have t5 : (t : Int) < 5 := by omega
        cases hb : (x i).1 with
        | true =>
          rw [hb] at y0
          by_cases h3 : (t : Int) < 3
          · go_wp2_with (go_at_call 31; (with_reducible refine (KB_copy HK5.out hi5).mono ?_); rintro e w6 ⟨v, rfl, hv, hF, hk⟩; obtain ⟨g, rfl⟩ := Option.isSome_iff_exists.1 (hv.trans hb); rw [ptrv_some]; have HK6 := Aside0.mk hk; have HF := Aside0.mk hF; clear hk hF hv z0 z3 y0 y1; have y0 : w6.cell? ⟨gB, 0, none⟩ = some (.bool true) := (by rw [← hb]; exact blk_cell HK6.out.B 0); have y1 : w6.cell? ⟨gB, 1, none⟩ = some (.slice (r i).1 (x i).2.length (r i).2) := blk_cell HK6.out.B 1; have hne := HK6.out.ne; have hne2 := Ne.symm hne; have hn3 := Ne.symm hnew; have hn4 : gB ≠ gG := blk_types HK6.out.B HK6.out.G.blk (by decide); have hn5 := Ne.symm hn4; obtain ⟨c1, f1⟩ := HK6.out.G.cell t ht5; obtain ⟨c2, c3, f2, f3⟩ := HK6.out.R.cell t ht5; unfold rowv at c3)
            go_region
            all_goals go_wp2
            have hp := (HK6.out.putG ht5 (some g) (x i) HF.out).putW ht5 (r i) (x i) ((HK6.out.putG ht5 (some g) (x i) HF.out).R.row i hi5)
            rw [hb] at hp
            go_roundg k9
            case rel => exact ⟨j + 1, upd q t (some g), upd r t (r i), upd x t (x i), (by first | rfl | go_num), HI2, ⟨below_drew1 hp.1⟩, ⟨hp.2.1.step (below_drew1 (Below.refl _ _))⟩, ⟨hp.2.2.step (below_drew1 (Below.refl _ _))⟩, ⟨by rw [HTN.out]; exact (HGD.out.mono (by omega)).upd t (x i) GI.out (by have := GL.out; omega) GZ.out⟩⟩
            case measure => omega
          · go_wp2_with (go_at_call 31; (with_reducible refine (KB_copy HK5.out hi5).mono ?_); rintro e w6 ⟨v, rfl, hv, hF, hk⟩; obtain ⟨g, rfl⟩ := Option.isSome_iff_exists.1 (hv.trans hb); rw [ptrv_some]; have HK6 := Aside0.mk hk; have HF := Aside0.mk hF; clear hk hF hv z0 z3 y0 y1; have y0 : w6.cell? ⟨gB, 0, none⟩ = some (.bool true) := (by rw [← hb]; exact blk_cell HK6.out.B 0); have y1 : w6.cell? ⟨gB, 1, none⟩ = some (.slice (r i).1 (x i).2.length (r i).2) := blk_cell HK6.out.B 1; have hne := HK6.out.ne; have hne2 := Ne.symm hne; have hn3 := Ne.symm hnew; have hn4 : gB ≠ gG := blk_types HK6.out.B HK6.out.G.blk (by decide); have hn5 := Ne.symm hn4; obtain ⟨c1, f1⟩ := HK6.out.G.cell t ht5; obtain ⟨c2, c3, f2, f3⟩ := HK6.out.R.cell t ht5; unfold rowv at c3)
            go_roundg k9
            case rel => exact ⟨j + 1, q, r, x, (by first | rfl | go_num), HI2, ⟨HK6.out.below⟩, ⟨HK6.out.G⟩, ⟨HK6.out.R⟩, ⟨by rw [HTN.out]; exact HGD.out.mono (by omega)⟩⟩
            case measure => omega
        | false =>
          rw [hb] at y0
          by_cases h3 : (t : Int) < 3
          · go_wp2_with (go_at_call 31; (with_reducible refine (KB_copy HK5.out hi5).mono ?_); rintro e w6 ⟨v, rfl, hv, hF, hk⟩; obtain rfl : v = none := (by cases v with | none => rfl | some g => rw [hb] at hv; cases hv); rw [show ptrv none = .pointer none from rfl]; have HK6 := Aside0.mk hk; have HF := Aside0.mk hF; clear hk hF hv z0 z3 y0 y1; have y0 : w6.cell? ⟨gB, 0, none⟩ = some (.bool false) := (by rw [← hb]; exact blk_cell HK6.out.B 0); have y1 : w6.cell? ⟨gB, 1, none⟩ = some (.slice (r i).1 (x i).2.length (r i).2) := blk_cell HK6.out.B 1; have hne := HK6.out.ne; have hne2 := Ne.symm hne; have hn3 := Ne.symm hnew; have hn4 : gB ≠ gG := blk_types HK6.out.B HK6.out.G.blk (by decide); have hn5 := Ne.symm hn4; obtain ⟨c1, f1⟩ := HK6.out.G.cell t ht5; obtain ⟨c2, c3, f2, f3⟩ := HK6.out.R.cell t ht5; unfold rowv at c3)
            go_region
            all_goals go_wp2
            have hp := (HK6.out.putG ht5 none (x i) HF.out).putW ht5 (r i) (x i) ((HK6.out.putG ht5 none (x i) HF.out).R.row i hi5)
            rw [hb] at hp
            go_roundg k9
            case rel => exact ⟨j + 1, upd q t none, upd r t (r i), upd x t (x i), (by first | rfl | go_num), HI2, ⟨below_drew1 hp.1⟩, ⟨hp.2.1.step (below_drew1 (Below.refl _ _))⟩, ⟨hp.2.2.step (below_drew1 (Below.refl _ _))⟩, ⟨by rw [HTN.out]; exact (HGD.out.mono (by omega)).upd t (x i) GI.out (by have := GL.out; omega) GZ.out⟩⟩
            case measure => omega
          · go_wp2_with (go_at_call 31; (with_reducible refine (KB_copy HK5.out hi5).mono ?_); rintro e w6 ⟨v, rfl, hv, hF, hk⟩; obtain rfl : v = none := (by cases v with | none => rfl | some g => rw [hb] at hv; cases hv); rw [show ptrv none = .pointer none from rfl]; have HK6 := Aside0.mk hk; have HF := Aside0.mk hF; clear hk hF hv z0 z3 y0 y1; have y0 : w6.cell? ⟨gB, 0, none⟩ = some (.bool false) := (by rw [← hb]; exact blk_cell HK6.out.B 0); have y1 : w6.cell? ⟨gB, 1, none⟩ = some (.slice (r i).1 (x i).2.length (r i).2) := blk_cell HK6.out.B 1; have hne := HK6.out.ne; have hne2 := Ne.symm hne; have hn3 := Ne.symm hnew; have hn4 : gB ≠ gG := blk_types HK6.out.B HK6.out.G.blk (by decide); have hn5 := Ne.symm hn4; obtain ⟨c1, f1⟩ := HK6.out.G.cell t ht5; obtain ⟨c2, c3, f2, f3⟩ := HK6.out.R.cell t ht5; unfold rowv at c3)
            go_roundg k9
            case rel => exact ⟨j + 1, q, r, x, (by first | rfl | go_num), HI2, ⟨HK6.out.below⟩, ⟨HK6.out.G⟩, ⟨HK6.out.R⟩, ⟨by rw [HTN.out]; exact HGD.out.mono (by omega)⟩⟩
            case measure => omega
      · rw [hkd] at z0
        by_cases h3 : (i : Int) < 3
        · go_wp2_with (first
            | (go_at_call 20; (with_reducible refine (KB_new HK5.out).mono ?_); rintro e w6 ⟨g, rfl, hF, hk⟩; have HK6 := Aside0.mk hk; have HF := Aside0.mk hF; clear hk hF z0 z3 y0 y1)
            | (go_at_call 25; (with_reducible refine (KB_refnew HK6.out).mono ?_); rintro e w7 ⟨u, rfl, hR, hb7, hk⟩; have HK7 := Aside0.mk hk; have HR7 := Aside0.mk hR; have HF7 := Aside0.mk (HF.out.step hb7); clear hk hR hb7; have hne := HK7.out.ne; have hne2 := Ne.symm hne; obtain ⟨c1, f1⟩ := HK7.out.G.cell i hi5; obtain ⟨c2, c3, f2, f3⟩ := HK7.out.R.cell i hi5; unfold rowv at c3))
          have hp := (HK7.out.putG hi5 (some g) (true, []) HF7.out).putW hi5 u (true, []) (HK7.out.keepG i _ HR7.out)
          go_roundg k9
          case rel => exact ⟨j + 1, upd q i (some g), upd r i u, upd x i (true, []), (by first | rfl | go_num), HI2, ⟨hp.1⟩, ⟨hp.2.1⟩, ⟨hp.2.2⟩, ⟨by rw [HTN.out]; exact (HGD.out.mono (by omega)).upd i _ (fun _ h => (by cases h)) (Nat.zero_le _) (fun h => by cases h)⟩⟩
          case measure => omega
        · go_wp2
          go_roundg k9
          case rel => exact ⟨j + 1, q, r, x, (by first | rfl | go_num), HI2, ⟨HK5.out.below⟩, ⟨HK5.out.G⟩, ⟨HK5.out.R⟩, ⟨by rw [HTN.out]; exact HGD.out.mono (by omega)⟩⟩
          case measure => omega
      · go_wp2
        go_roundg k9
        case rel => exact ⟨j + 1, q, r, x, (by first | rfl | go_num), HI2, ⟨HK5.out.below⟩, ⟨HK5.out.G⟩, ⟨HK5.out.R⟩, ⟨by rw [HTN.out]; exact HGD.out.mono (by omega)⟩⟩
        case measure => omega
    · have hl2 : decide ((j : Int) < (n : Int)) = false := decide_eq_false (by omega)
      have hl3 : decide (j < n) = false := decide_eq_false hlt
      have HG9 := Aside0.mk (HGD.out.mono (show j * 1048576 ≤ 1099511627776 by omega))
      clear HSC HI HGD hlt hj hlen
      go_wp2_with (fail)
      clear hl2 hl3
      go_loopg [132] 6 (fun kq v132 wq => ∃ (i : Nat), v132 = .int .i64 (i : Int) ∧ Aside0 (5 - i < kq ∧ i ≤ 5) ∧ Aside0 (Below w.heap.size w wq) ∧ Aside0 (PG w gG q x wq) ∧ Aside0 (PW w gW r x wq))
      case atStart => exact ⟨0, rfl, ⟨by omega, by omega⟩, HB, HG, HW⟩
      case round =>
        clear HB HG HW
        obtain ⟨i, rfl, HI, HB, HG, HW⟩ := hrel
        by_cases hi5 : i < 5
        · have hl2 : decide ((i : Int) < (5 : Int)) = true := decide_eq_true (by omega)
          have hl3 : decide (i < 5) = true := decide_eq_true hi5
          have i0 : (0 : Int) ≤ (i : Int) := by omega
          have i5 : (i : Int) < 5 := by omega
          have q1 : IntKind.i64.wrap ((i : Int) + 1) = ((i + 1 : Nat) : Int) := by rw [i64_w, wrap_id _ (by omega) (by omega)]; rfl
          cases gk with
          | zero => exact absurd HI.out.1 (Nat.not_lt_zero _)
          | succ k9 =>
          have HI2 := Aside0.mk (show 5 - (i + 1) < k9 ∧ i + 1 ≤ 5 from ⟨by have h_ := HI.out; omega, by omega⟩)
          clear HI
          obtain ⟨k2, k3, f2, f3⟩ := HW.out.cell i hi5
          unfold rowv at k3
          go_upto_region 36 with (fail)
          obtain ⟨gB, hgB⟩ : ∃ g, g = wr.heap.size := ⟨_, rfl⟩
          obtain ⟨W5, hW5⟩ : ∃ W, W = wr.alloc (.cells #[.bool (x i).1, .slice (r i).1 (x i).2.length (r i).2] 53) := ⟨_, rfl⟩
          rw [← hgB, ← hW5]
          have hb5 : Below wr.heap.size wr W5 := by rw [hW5]; exact below_alloc (Below.refl _ _) _
          have hB5 : W5.heap[gB]? = some (.cells #[.bool (x i).1, .slice (r i).1 (x i).2.length (r i).2] 53 (0, 0)) := by rw [hW5, hgB]; exact blk_new _ _
          obtain ⟨g1, g2, g3⟩ := HG9.out i hi5
          have GI := Aside0.mk g1
          have GL := Aside0.mk g2
          have GZ := Aside0.mk g3
          clear g1 g2 g3 hgB hW5 k2 k3 f2 f3
          cases hb : (x i).1 with
          | true =>
            rw [hb] at hB5
            have HK5 : Aside0 (KB w gG gW gB gB q r x x #[.bool true, .slice (r i).1 (x i).2.length (r i).2] #[.bool true, .slice (r i).1 (x i).2.length (r i).2] W5) := ⟨⟨below_step HB.out hb5, HG.out.step hb5, HW.out.step hb5, ⟨_, by decide, by decide, hB5⟩, hB5⟩⟩
            clear hB5 hb5 HB HG HW
            have hk5 := HK5.out
            go_region_held3 (fun W => KB w gG gW gB gB q r x x #[.bool true, .slice (r i).1 (x i).2.length (r i).2] #[.bool true, .slice (r i).1 (x i).2.length (r i).2] W ∧ W.cell? ⟨gG, i, none⟩ = some (ptrv (q i)) ∧ W.cell? ⟨gB, 0, none⟩ = some (.bool true) ∧ W.cell? ⟨gB, 1, none⟩ = some (.slice (r i).1 (x i).2.length (r i).2)) (first | assumption | exact KB.seen2 (by assumption) hi5 | exact KB.seen2 HK5.out hi5 | exact KB.seen2 (KB.drew (by assumption)) hi5 | exact KB.seen2 (KB.drewN (by assumption) _) hi5)
              (first
                | (go_at_call 23; refine (KB_sum (by first | assumption | exact KB.drew (by assumption) | exact KB.drewN (by assumption) _ : KB w gG gW gB gB q r x x #[.bool true, .slice (r i).1 (x i).2.length (r i).2] #[.bool true, .slice (r i).1 (x i).2.length (r i).2] _) hi5 GZ.out).mono ?_; rintro e w6 ⟨rfl, rfl⟩)
                | (go_at_call 24; refine (KB_len (by first | assumption | exact KB.drew (by assumption) | exact KB.drewN (by assumption) _ : KB w gG gW gB gB q r x x #[.bool true, .slice (r i).1 (x i).2.length (r i).2] #[.bool true, .slice (r i).1 (x i).2.length (r i).2] _) hi5 GZ.out).mono ?_; rintro e w6 ⟨rfl, rfl⟩)
                | (go_at_call 28; refine (KB_refsum' (by first | assumption | exact KB.drew (by assumption) | exact KB.drewN (by assumption) _ : KB w gG gW gB gB q r x x #[.bool true, .slice (r i).1 (x i).2.length (r i).2] #[.bool true, .slice (r i).1 (x i).2.length (r i).2] _) hi5 hb GZ.out (by have := GL.out; omega) GI.out).mono ?_; rintro e w6 ⟨rfl, hk⟩)
                | (go_at_call 22; refine (KB_wnil (by first | assumption | exact KB.drew (by assumption) | exact KB.drewN (by assumption) _ : KB w gG gW gB gB q r x x #[.bool true, .slice (r i).1 (x i).2.length (r i).2] #[.bool true, .slice (r i).1 (x i).2.length (r i).2] _) hi5 (by have := GL.out; omega) hb).mono ?_; rintro e w6 ⟨rfl, hk⟩))
            have hk6 : KB w gG gW gB gB q r x x #[.bool true, .slice (r i).1 (x i).2.length (r i).2] #[.bool true, .slice (r i).1 (x i).2.length (r i).2] w6 := by assumption
            go_wp2
            go_roundg k9
            case rel => exact ⟨i + 1, (by first | rfl | go_num), HI2, ⟨hk6.below⟩, ⟨hk6.G⟩, ⟨hk6.R⟩⟩
            case measure => omega
          | false =>
            rw [hb] at hB5
            have HK5 : Aside0 (KB w gG gW gB gB q r x x #[.bool false, .slice (r i).1 (x i).2.length (r i).2] #[.bool false, .slice (r i).1 (x i).2.length (r i).2] W5) := ⟨⟨below_step HB.out hb5, HG.out.step hb5, HW.out.step hb5, ⟨_, by decide, by decide, hB5⟩, hB5⟩⟩
            clear hB5 hb5 HB HG HW
            have hk5 := HK5.out
            go_region_held3 (fun W => KB w gG gW gB gB q r x x #[.bool false, .slice (r i).1 (x i).2.length (r i).2] #[.bool false, .slice (r i).1 (x i).2.length (r i).2] W ∧ W.cell? ⟨gG, i, none⟩ = some (ptrv (q i)) ∧ W.cell? ⟨gB, 0, none⟩ = some (.bool false) ∧ W.cell? ⟨gB, 1, none⟩ = some (.slice (r i).1 (x i).2.length (r i).2)) (first | assumption | exact KB.seen2 (by assumption) hi5 | exact KB.seen2 HK5.out hi5 | exact KB.seen2 (KB.drew (by assumption)) hi5 | exact KB.seen2 (KB.drewN (by assumption) _) hi5)
              (first
                | (go_at_call 23; refine (KB_sum (by first | assumption | exact KB.drew (by assumption) | exact KB.drewN (by assumption) _ : KB w gG gW gB gB q r x x #[.bool false, .slice (r i).1 (x i).2.length (r i).2] #[.bool false, .slice (r i).1 (x i).2.length (r i).2] _) hi5 GZ.out).mono ?_; rintro e w6 ⟨rfl, rfl⟩)
                | (go_at_call 24; refine (KB_len (by first | assumption | exact KB.drew (by assumption) | exact KB.drewN (by assumption) _ : KB w gG gW gB gB q r x x #[.bool false, .slice (r i).1 (x i).2.length (r i).2] #[.bool false, .slice (r i).1 (x i).2.length (r i).2] _) hi5 GZ.out).mono ?_; rintro e w6 ⟨rfl, rfl⟩)
                | (go_at_call 28; refine (KB_refsum' (by first | assumption | exact KB.drew (by assumption) | exact KB.drewN (by assumption) _ : KB w gG gW gB gB q r x x #[.bool false, .slice (r i).1 (x i).2.length (r i).2] #[.bool false, .slice (r i).1 (x i).2.length (r i).2] _) hi5 hb GZ.out (by have := GL.out; omega) GI.out).mono ?_; rintro e w6 ⟨rfl, hk⟩)
                | (go_at_call 22; refine (KB_wnil (by first | assumption | exact KB.drew (by assumption) | exact KB.drewN (by assumption) _ : KB w gG gW gB gB q r x x #[.bool false, .slice (r i).1 (x i).2.length (r i).2] #[.bool false, .slice (r i).1 (x i).2.length (r i).2] _) hi5 (by have := GL.out; omega) hb).mono ?_; rintro e w6 ⟨rfl, hk⟩))
            have hk6 : KB w gG gW gB gB q r x x #[.bool false, .slice (r i).1 (x i).2.length (r i).2] #[.bool false, .slice (r i).1 (x i).2.length (r i).2] w6 := by assumption
            go_wp2
            go_roundg k9
            case rel => exact ⟨i + 1, (by first | rfl | go_num), HI2, ⟨hk6.below⟩, ⟨hk6.G⟩, ⟨hk6.R⟩⟩
            case measure => omega
        · have hl2 : decide ((i : Int) < (5 : Int)) = false := decide_eq_false (by omega)
          have hl3 : decide (i < 5) = false := decide_eq_false hi5
          clear hi5
          go_wp2_with (first
            | ((go_at_call 16); (with_reducible refine (posthornlaw02_wakes.calls true _ rfl).mono ?_); rintro e w6 ⟨rfl, hb6⟩; have HB6 := Aside0.mk (below_step HB.out hb6); clear hb6))
          go_ret
          exact ⟨rfl, HB6.out⟩
end Go.Proofs.Ytlaglidgjnpncaa.SumF
namespace Go.Proofs.Ytlaglidgjnpncaa.Pure
open Go.RowKit Go.Proofs.YtlaglidgjnpncaaW.PrintWords Go.Proofs.Ytlaglidgjnpncaa.B Go.Proofs.Ytlaglidgjnpncaa.SumF
theorem SumPlays (a0 : Option Addr) (len0 cap0 : Nat) (f : Nat → Op.OpB) (w : World)
    (w0 : len0 ≤ 1048576 ∧ ∀ i, i < len0 → ∃ x, a0 = some x ∧ w.cell? (x.add (i * 4)) = some (.int .i64 (f i).kind) ∧ w.cell? ⟨(x.add (i * 4)).block, (x.add (i * 4)).off + 1, none⟩ = some (.int .i64 (f i).who) ∧ w.cell? ⟨(x.add (i * 4)).block, (x.add (i * 4)).off + 2, none⟩ = some (.int .i64 (f i).too) ∧ w.cell? ⟨(x.add (i * 4)).block, (x.add (i * 4)).off + 3, none⟩ = some (.slice (f i).A (f i).l.length (f i).c) ∧ (f i).l.length ≤ (f i).c ∧
      Kd.C (Kd.int .u8) w (f i).A (f i).l.length (f i).l ∧ InB (f i).l ∧ (f i).l.length ≤ 1048576) :
    Calls Try.prog 9 #[.slice a0 len0 cap0] w fun e w' => e = .returned (.bool true) ∧ Below w.heap.size w w' :=
  SumPlays_calls a0 len0 cap0 (fun i => ⟨(f i).kind, (f i).who, (f i).too, (f i).A, (f i).c, (f i).l⟩) w w0.1 fun i hi => by
    obtain ⟨x, e, h0, h1, h2, h3, h4, h5, h6, h7⟩ := w0.2 i hi
    exact ⟨x, e, ⟨h0, h1, h2, h3, h5, h4, h6⟩, h7⟩
end Go.Proofs.Ytlaglidgjnpncaa.Pure
