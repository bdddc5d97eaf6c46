/- RunesFeeds: every script with five checkers answers as the reference's checkers do (walked by hand). -/
import Derived.Test.YtabjfpjmiiiecaaFeedsK
import Derived.Test.YtabjfpjmiiiecaaOpenOpsR
import Derived.Test.YtabjfpjmiiiecaaRunW
import Derived.Deep.QuietTactic
import Derived.BigQuiet
import Derived.Deep.RegionHeld3
namespace Go.Proofs.Ytabjfpjmiiiecaa.FE
set_option linter.unusedVariables false
set_option linter.unusedSimpArgs false
set_option linter.unusedVariables false
set_option linter.unusedSimpArgs false
open Go.RowKit Go.Proofs.YtabjfpjmiiiecaaW.PrintWords Go.Proofs.YtabjfpjmiiiecaaW.PrintLast Go.Proofs.YtabjfpjmiiiecaaW.PrintMore Go.Proofs.Ytabjfpjmiiiecaa.B Go.Proofs.Ytabjfpjmiiiecaa.M Go.Proofs.Ytabjfpjmiiiecaa.D Go.Proofs.Ytabjfpjmiiiecaa.CK Go.Proofs.Ytabjfpjmiiiecaa.BG
def slotN (v : Int) : Nat := (v % 18446744073709551616 % 5).toNat
theorem slotN_lt (v : Int) : slotN v < 5 := by unfold slotN; omega
theorem slotN_eq (v : Int) : wrap64 (Int.tmod (IntKind.u64.wrap v) 5) = (slotN v : Int) := by
  rw [IntKind.wrap_u64, Int.tmod_eq_emod_of_nonneg (by omega), wrap_id _ (by omega) (by omega)]
  unfold slotN; omega
section
variable {w W : World} {gG gW gS : Nat} {q : Nat → Option Nat} {r : Nat → Option Addr × Nat} {x y : St} {cs : Array Value}
theorem KB.cells (h : KB w gG gW gS q r x y cs W) {i : Nat} (hi : i < 5) : W.cell? ⟨gG, i, none⟩ = some (ptrv (q i)) ∧ W.cell? ⟨gW, i * 2, none⟩ = some (.bool (y i).1) ∧ W.cell? ⟨gW, i * 2 + 1, none⟩ = some (.slice (r i).1 (y i).2.length (r i).2) ∧ W.cell? ⟨gS, 2, none⟩ = cs[2]? :=
  ⟨(h.G.cell i hi).1, (h.R.cell i hi).1, (h.R.cell i hi).2.1, h.sc 2⟩
theorem KB.cells3 {k m s : Value} (h : KB w gG gW gS q r x y #[k, m, s] W) {i : Nat} (hi : i < 5) {b : Bool} {l : List Int} {v : Option Addr × Nat} (hy : y i = (b, l)) (hr : r i = v) : W.cell? ⟨gG, i, none⟩ = some (ptrv (q i)) ∧ W.cell? ⟨gW, i * 2, none⟩ = some (.bool b) ∧ W.cell? ⟨gW, i * 2 + 1, none⟩ = some (.slice v.1 l.length v.2) ∧ W.cell? ⟨gS, 2, none⟩ = some s := by
  have h1 := h.R.cell i hi
  unfold rowv at h1
  rw [hy, hr] at h1
  exact ⟨(h.G.cell i hi).1, h1.1, h1.2.1, h.sc 2⟩
theorem KB.cells2 {b : Bool} {s : Value} (h : KB w gG gW gS q r x y #[.bool b, s] W) {i : Nat} (hi : i < 5) : W.cell? ⟨gG, i, none⟩ = some (ptrv (q i)) ∧ W.cell? ⟨gS, 0, none⟩ = some (.bool b) ∧ W.cell? ⟨gS, 1, none⟩ = some s := ⟨(h.G.cell i hi).1, h.sc 0, h.sc 1⟩
theorem KB_feed_nil (h : KB w gG gW gS q r x y cs W) {i : Nat} (hi : i < 5) {z : List Int} (hz : x i = (true, z)) :
    Calls Try.prog 23 #[ptrv (q i), .slice none 0 0] W fun e w' => e = .returned (.bool (!(fd z).1)) ∧ KB w gG gW gS q r x y cs w' := by
  refine (KB_feed h hi (by rw [hz]) none 0 [] z (by rw [hz]; exact (List.append_nil _).symm) ⟨rfl, by simp, fun h => absurd h (Nat.lt_irrefl 0)⟩ (Nat.le_refl _) (by simp)).mono ?_
  rintro e w' ⟨rfl, hk⟩
  rw [← hz, upd_same] at hk
  exact ⟨rfl, hk⟩
theorem KB_begins' (h : KB w gG gW gS q r x y cs W) {i : Nat} (hi : i < 5) {b : Bool} {l : List Int} {v : Option Addr × Nat} (hy : y i = (b, l)) (hr : r i = v) (hin : InB l) (hl : l.length ≤ 140737488351232) :
    Calls Try.prog 24 #[.slice v.1 l.length v.2] W fun e w' => e = .returned (.bool (!(fd l).1)) ∧ KB w gG gW gS q r x y cs w' := by
  have := KB_begins h hi (by rw [hy]; exact hin) (by rw [hy]; exact hl)
  rw [hy, hr] at this
  exact this
theorem KB_refbad' (h : KB w gG gW gS q r x y cs W) {i : Nat} (hi : i < 5) {b : Bool} {l : List Int} {v : Option Addr × Nat} (hy : y i = (b, l)) (hr : r i = v) (hin : InB l) (hl : l.length ≤ 140737488351232) :
    Calls Try.prog 18 #[.slice v.1 l.length v.2] W fun e w' => e = .returned (.int .i64 ((badV l.length l : Nat) : Int)) ∧ KB w gG gW gS q r x y cs w' := by
  have := KB_refbad h hi (by rw [hy]; exact hin) (by rw [hy]; exact hl)
  rw [hy, hr] at this
  exact this
theorem KB.lts (h : KB w gG gW gS q r x y cs W) : gG < W.heap.size ∧ gW < W.heap.size ∧ gS < W.heap.size := ⟨blk_lt h.G.blk, blk_lt h.R.blk, by obtain ⟨t, _, _, hk⟩ := h.S; exact blk_lt hk⟩
end
set_option maxHeartbeats 16000000 in
set_option maxRecDepth 100000 in
theorem feeds_all (a0 : Option Addr) (n c : Nat) (f : Nat → Op.OpB) (w : World) (hn : n ≤ 1048576)
    (hsc : ∀ i, i < n → ∃ x, a0 = some x ∧ w.cell? (x.add (i * 3)) = some (.int .i64 (f i).who) ∧ w.cell? ⟨(x.add (i * 3)).block, (x.add (i * 3)).off + 1, none⟩ = some (.int .i64 (f i).op) ∧ w.cell? ⟨(x.add (i * 3)).block, (x.add (i * 3)).off + 2, none⟩ = some (.slice (f i).A (f i).l.length (f i).c) ∧
      Kd.C (Kd.int .u8) w (f i).A (f i).l.length (f i).l ∧ InB (f i).l ∧ (f i).l.length ≤ 1048576 ∧ (f i).l.length ≤ (f i).c) :
    Calls Try.prog 5 #[.slice a0 n c] w fun e w' => e = .returned (.bool true) ∧ Below w.heap.size w w' := by
  have HSC := Aside0.mk hsc
  clear hsc
  have HB := Aside0.mk (Below.refl w.heap.size w)
  have T1 := trivial
  have T2 := trivial
  have T3 := trivial
  go_enter Try.func5, Try.ntmps5
  go_wp2_with (first
    | (clear T1; go_at_call 21; (with_reducible refine (CK.new_calls _).mono ?_); rintro e w1a ⟨ga, rfl, hI, hb⟩; have H1a := Aside0.mk (And.intro hI hb); clear hI hb)
    | (clear T2; go_at_call 21; (with_reducible refine (CK.new_calls _).mono ?_); rintro e w1b ⟨gb, rfl, hI, hb⟩; have H1b := Aside0.mk (And.intro hI hb); clear hI hb)
    | (clear T3; go_at_call 21; (with_reducible refine (CK.new_calls _).mono ?_); rintro e w1c ⟨gc, rfl, hI, hb⟩; have H1c := Aside0.mk (And.intro hI hb); clear hI hb))
  obtain ⟨gG, hgG⟩ : ∃ g, g = w1c.heap.size + 1 := ⟨_, rfl⟩
  obtain ⟨gW, hgW⟩ : ∃ g, g = gG + 1 := ⟨_, rfl⟩
  rw [← hgG, ← hgW]
  obtain ⟨W0, hW0⟩ : ∃ W, W = ((w1c.alloc (.cells #[.bool false, .bool false, .int .u8 0, .int .u8 0, .int .u8 0] 48)).alloc (.cells #[.pointer (some ⟨ga, 0, none⟩), .pointer (some ⟨gb, 0, none⟩), .pointer (some ⟨gc, 0, none⟩), .pointer none, .pointer (some ⟨w1c.heap.size, 0, none⟩)] 43)) := ⟨_, rfl⟩
  obtain ⟨q0, hq⟩ := start_PG w w1a w1b w1c ga gb gc H1a.out.1 H1b.out.1 H1c.out.1 H1a.out.2 H1b.out.2 H1c.out.2
  rw [← hW0] at hq ⊢
  rw [← hgG] at hq
  have hb0 : Below w.heap.size w W0 := by
    rw [hW0]
    exact below_alloc (below_alloc (below_step (below_step H1a.out.2 H1b.out.2) H1c.out.2) _) _
  obtain ⟨r0, hr⟩ := start_PW w W0 hb0.size
  have hsz : W0.heap.size = gW := by rw [hW0, hgW, hgG]; simp
  rw [hsz] at hr
  have HS : Aside0 (Below w.heap.size w W0 ∧ PG w gG q0 x0 W0 ∧ PW w gW r0 x0 (W0.alloc (.cells #[.bool true, .slice none 0 0, .bool true, .slice none 0 0, .bool true, .slice none 0 0, .bool false, .slice none 0 0, .bool false, .slice none 0 0] 51))) := ⟨hb0, hq, hr⟩
  clear hgG hgW hW0 hq hb0 hr hsz HB
  go_loopg [24] (n + 1) (fun kq v24 wr => ∃ (j : Nat) (q : Nat → Option Nat) (r : Nat → Option Addr × Nat) (x : St), v24 = .int .i64 (j : Int) ∧ Aside0 (n - j < kq ∧ j ≤ n) ∧ Aside0 (Below w.heap.size w wr) ∧ Aside0 (PG w gG q x wr) ∧ Aside0 (PW w gW r x wr) ∧ Aside0 (Good x (j * 1048576)))
  case atStart => exact ⟨0, q0, r0, x0, rfl, ⟨by omega, by omega⟩, ⟨below_alloc HS.out.1 _⟩, ⟨HS.out.2.1.step (below_alloc (Below.refl _ _) _)⟩, ⟨HS.out.2.2⟩, ⟨start_good _⟩⟩
  case round =>
    clear HS
    obtain ⟨j, q, r, x, rfl, HI, HB, HG, HW, HGD⟩ := hrel
    have hj := HI.out.2
    by_cases hlt : j < n
    · have hl2 : decide ((j : Int) < (n : Int)) = true := decide_eq_true (by omega)
      have hl3 : decide (j < n) = true := decide_eq_true hlt
      have q1 : IntKind.i64.wrap ((j : Int) + 1) = ((j + 1 : Nat) : Int) := by rw [i64_w, wrap_id _ (by omega) (by omega)]; rfl
      cases gk with
      | zero => exact absurd HI.out.1 (Nat.not_lt_zero _)
      | succ k9 =>
      have HI2 := Aside0.mk (show n - (j + 1) < k9 ∧ j + 1 ≤ n from ⟨by have h_ := HI.out; omega, by omega⟩)
      clear HI
      obtain ⟨a, rfl, s0, s1, s2, sC, sI, sL, sc⟩ := HSC.out j hlt
      have c0 := pw_cell_below HB.out s0
      have c1 := pw_cell_below HB.out s1
      have c2 := pw_cell_below HB.out s2
      obtain ⟨⟨kd, who, A, cA, l⟩, hf⟩ : ∃ o, f j = o := ⟨_, rfl⟩
      rw [hf] at c0 c1 c2 sC sI sL sc
      dsimp only at c0 c1 c2 sC sI sL sc
      have HC := Aside0.mk (And.intro sC (And.intro sI (And.intro sL sc)))
      obtain ⟨T, hT⟩ : ∃ T, T = j * 1048576 := ⟨_, rfl⟩
      rw [← hT] at HGD
      have HTN : Aside0 ((j + 1) * 1048576 = T + 1048576) := ⟨by omega⟩
      have HTB : Aside0 (T + l.length ≤ 1099512676352 ∧ l.length ≤ 1048576) := ⟨by omega, sL⟩
      clear s0 s1 s2 sC sI sL sc hT hf
      go_upto_region 6 with (fail)
      obtain ⟨gS, hgS⟩ : ∃ g, g = wr.heap.size := ⟨_, rfl⟩
      obtain ⟨W3, hW3⟩ : ∃ W, W = wr.alloc (.cells #[.int .i64 kd, .int .i64 who, .slice A l.length cA] 54) := ⟨_, rfl⟩
      rw [← hgS, ← hW3]
      have hb3 : Below wr.heap.size wr W3 := by rw [hW3]; exact below_alloc (Below.refl _ _) _
      have hs3 : W3.heap[gS]? = some (.cells #[.int .i64 kd, .int .i64 who, .slice A l.length cA] 54 (0, 0)) := by rw [hW3, hgS]; exact blk_new _ _
      have hR3 := HW.out.step hb3
      have HK : Aside0 (KB w gG gW gS q r x x #[.int .i64 kd, .int .i64 who, .slice A l.length cA] W3) := ⟨⟨below_step HB.out hb3, HG.out.step hb3, hR3, ⟨_, by decide, by decide, hs3⟩, blk_types hs3 hR3.blk (by decide)⟩⟩
      clear hW3 c0 c1 c2 hb3 hs3 HB HG HW hgS hR3
      have c0 : W3.cell? ⟨gS, 0, none⟩ = some (.int .i64 kd) := HK.out.sc 0
      have c1 : W3.cell? ⟨gS, 1, none⟩ = some (.int .i64 who) := HK.out.sc 1
      have c2 : W3.cell? ⟨gS, 2, none⟩ = some (.slice A l.length cA) := HK.out.sc 2
      go_upto_region 7 with (fail)
      rw [slotN_eq who]
      obtain ⟨i, hi⟩ : ∃ i, i = slotN who := ⟨_, rfl⟩
      have hi5 : i < 5 := by rw [hi]; exact slotN_lt _
      rw [← hi]
      clear hi
      have i0 : (0 : Int) ≤ (i : Int) := by omega
      have i5 : (i : Int) < 5 := by omega
      obtain ⟨g1, g2⟩ := HGD.out i hi5
      have GI := Aside0.mk g1
      have GL := Aside0.mk g2
      clear g1 g2 c1
      have kinds : kd = 0 ∨ kd = 1 ∨ kd = 2 ∨ (kd ≠ 0 ∧ kd ≠ 1 ∧ kd ≠ 2) := by omega
      rcases kinds with rfl | rfl | rfl | ⟨n0, n1, n2⟩
      · obtain ⟨l2, hl2⟩ : ∃ l2, l2 = (x i).2 ++ l := ⟨_, rfl⟩
        have HL2 := Aside0.mk hl2
        clear hl2
        obtain ⟨k1, k2, k3, _⟩ := HK.out.cells hi5
        obtain ⟨_, _, f2, f3⟩ := HK.out.R.cell i hi5
        go_upto_region 9 with (fail)
        cases hb : (x i).1 with
        | true =>
          rw [hb] at k2
          go_region_law (first
            | (go_simp; go_at_call 22; refine (KB_reffeed (HK.out.drewN _) hi5 A cA l l2 HL2.out HC.out.1 HC.out.2.2.2 (by have := GL.out; have := HTB.out; omega)).mono ?_; rintro e w6 ⟨v, rfl, hR, hk⟩; have hR6 := hk.R.cell i hi5; obtain ⟨_, _, m2, m3⟩ := hR6; have HK6 := Aside0.mk (And.intro hR hk); clear hR hk))
          all_goals (
            obtain ⟨W7, hW7⟩ : ∃ W, W = ((w6.setCell ⟨gW, i * 2, none⟩ (.bool true)).setCell ⟨gW, i * 2 + 1, none⟩ (.slice v.1 l2.length v.2)) := ⟨_, rfl⟩
            rw [← hW7]
            obtain ⟨y2, hy2⟩ : ∃ y2, y2 = upd x i (true, l2) := ⟨_, rfl⟩
            obtain ⟨r2, hr2⟩ : ∃ r2, r2 = upd r i v := ⟨_, rfl⟩
            have hy3 : y2 i = (true, l2) := by rw [hy2, upd_self]
            have hr3 : r2 i = v := by rw [hr2, upd_self]
            have hk7 : KB w gG gW gS q r2 x y2 #[.int .i64 0, .int .i64 who, .slice A l.length cA] W7 := by rw [hW7, hy2, hr2]; exact HK6.out.2.putW hi5 v (true, l2) HK6.out.1
            have hin2 : InB l2 := by rw [HL2.out]; exact inb_append GI.out HC.out.2.1
            have hl22 : l2.length ≤ T + 1048576 := by rw [HL2.out, List.length_append]; have := GL.out; have := HTB.out; omega
            have HGD2 : Aside0 (Good y2 ((j + 1) * 1048576)) := ⟨by rw [HTN.out, hy2]; exact (HGD.out.mono (by omega)).upd i _ hin2 hl22⟩
            have PF := Aside0.mk (fun (W2 : World) (hk : KB w gG gW gS q r2 x y2 #[.int .i64 0, .int .i64 who, .slice A l.length cA] W2) => KB_feed hk hi5 hb A cA l l2 HL2.out HC.out.1 HC.out.2.2.2 (by have := HTB.out; omega))
            have PB := Aside0.mk (fun (W2 : World) (z : St) (hk : KB w gG gW gS q r2 z y2 #[.int .i64 0, .int .i64 who, .slice A l.length cA] W2) => KB_begins' hk hi5 hy3 hr3 hin2 (by have := HTB.out; have := HTN.out; omega))
            have HYR := Aside0.mk (And.intro hy3 hr3)
            rw [← hy2] at PF
            obtain ⟨fl, hfl⟩ : ∃ fl, (!(fd l2).1) = fl := ⟨_, rfl⟩
            rw [hfl] at PF PB
            simp only [Bool.true_and, Bool.false_and] at PF
            clear hW7 hy2 hr2 hy3 hr3 hin2 hl22 hfl k1 k2 k3 f2 f3 m2 m3 c0 c2
            clear HK6
            go_wp2_with (fail)
            go_region_held3 (fun W => W.cell? ⟨gG, i, none⟩ = some (ptrv (q i)) ∧ W.cell? ⟨gW, i * 2, none⟩ = some (.bool true) ∧ W.cell? ⟨gW, i * 2 + 1, none⟩ = some (.slice v.1 l2.length v.2) ∧ W.cell? ⟨gS, 2, none⟩ = some (.slice A l.length cA)) (first | assumption | exact KB.cells3 (by assumption) hi5 HYR.out.1 HYR.out.2 | exact KB.cells3 (KB.drew (by assumption)) hi5 HYR.out.1 HYR.out.2 | exact KB.cells3 (KB.drewN (by assumption) _) hi5 HYR.out.1 HYR.out.2)
              (first
                | (go_at_call 23; refine (PF.out _ (by first | assumption | exact KB.drew (by assumption) | exact KB.drewN (by assumption) _)).mono ?_; rintro e w8 ⟨rfl, hk8⟩)
                | (go_at_call 24; refine (PB.out _ _ (by first | assumption | exact KB.drew (by assumption) | exact KB.drewN (by assumption) _)).mono ?_; rintro e w8 ⟨rfl, hk8⟩))
            go_wp2_with (fail)
            have hk9 : KB w gG gW gS q r2 y2 y2 #[.int .i64 0, .int .i64 who, .slice A l.length cA] w8 := by assumption
            go_roundg k9
            case measure => omega
            case rel => exact ⟨j + 1, q, r2, y2, (by first | rfl | go_num), HI2, ⟨hk9.below⟩, ⟨hk9.G⟩, ⟨hk9.R⟩, HGD2⟩)
        | false =>
          rw [hb] at k2
          go_region_law (first
            | (go_simp; go_at_call 22; refine (KB_reffeed (HK.out.drewN _) hi5 A cA l l2 HL2.out HC.out.1 HC.out.2.2.2 (by have := GL.out; have := HTB.out; omega)).mono ?_; rintro e w6 ⟨v, rfl, hR, hk⟩; have hR6 := hk.R.cell i hi5; obtain ⟨_, _, m2, m3⟩ := hR6; have HK6 := Aside0.mk (And.intro hR hk); clear hR hk))
          all_goals (
            obtain ⟨W7, hW7⟩ : ∃ W, W = ((w6.setCell ⟨gW, i * 2, none⟩ (.bool false)).setCell ⟨gW, i * 2 + 1, none⟩ (.slice v.1 l2.length v.2)) := ⟨_, rfl⟩
            rw [← hW7]
            obtain ⟨y2, hy2⟩ : ∃ y2, y2 = upd x i (false, l2) := ⟨_, rfl⟩
            obtain ⟨r2, hr2⟩ : ∃ r2, r2 = upd r i v := ⟨_, rfl⟩
            have hy3 : y2 i = (false, l2) := by rw [hy2, upd_self]
            have hr3 : r2 i = v := by rw [hr2, upd_self]
            have hk7 : KB w gG gW gS q r2 x y2 #[.int .i64 0, .int .i64 who, .slice A l.length cA] W7 := by rw [hW7, hy2, hr2]; exact HK6.out.2.putW hi5 v (false, l2) HK6.out.1
            have hin2 : InB l2 := by rw [HL2.out]; exact inb_append GI.out HC.out.2.1
            have hl22 : l2.length ≤ T + 1048576 := by rw [HL2.out, List.length_append]; have := GL.out; have := HTB.out; omega
            have HGD2 : Aside0 (Good y2 ((j + 1) * 1048576)) := ⟨by rw [HTN.out, hy2]; exact (HGD.out.mono (by omega)).upd i _ hin2 hl22⟩
            have HYR := Aside0.mk (And.intro hy3 hr3)
            have hk8 : KB w gG gW gS q r2 y2 y2 #[.int .i64 0, .int .i64 who, .slice A l.length cA] W7 := by rw [hy2]; rw [hy2] at hk7; exact hk7.no hi5 hb l2
            have hb9 : (y2 i).1 = false := by rw [hy3]
            have HK9 := Aside0.mk hk8
            have HB9 := Aside0.mk hb9
            clear k1 k2 k3 c2
            obtain ⟨k1, k2, k3, c2⟩ := hk7.cells3 hi5 hy3 hr3
            clear hW7 hy2 hr2 hy3 hr3 hin2 hl22 f2 f3 m2 m3 c0 hk7 hk8 hb9
            clear HK6
            go_wp2_with (fail)
            go_quiet ((go_at_call 23; exact Calls.quiet_of (KB_feed_no (HK9.out.drewN _) hi5 HB9.out _)))
            have hk9 := HK9.out.drewN nq
            go_wp2_with (fail)
            go_roundg k9
            case measure => omega
            case rel => exact ⟨j + 1, q, r2, y2, (by first | rfl | go_num), HI2, ⟨hk9.below⟩, ⟨hk9.G⟩, ⟨hk9.R⟩, HGD2⟩)
      · obtain ⟨k1, k2, k3, _⟩ := HK.out.cells hi5
        obtain ⟨z, hz⟩ : ∃ z, (x i).2 = z := ⟨_, rfl⟩
        obtain ⟨zb, hzb⟩ : ∃ zb, badV z.length z = zb := ⟨_, rfl⟩
        obtain ⟨wv, hwv⟩ : ∃ wv, wholeV z = wv := ⟨_, rfl⟩
        have hbad := whole_bad z
        rw [hzb, hwv] at hbad
        rw [hz] at k3
        have GI2 : InB z := by rw [← hz]; exact GI.out
        have GL2 : z.length ≤ 140737488351232 := by rw [← hz]; have := GL.out; have := HTB.out; omega
        go_upto_region 13 with (fail)
        cases hb : (x i).1 with
        | true =>
          rw [hb] at k2
          have hyz : x i = (true, z) := by rw [← hb, ← hz]
          have PW_ := Aside0.mk (fun (W2 : World) (hk : KB w gG gW gS q r x x #[.int .i64 1, .int .i64 who, .slice A l.length cA] W2) => KB_whole hk hi5 hb)
          have PB := Aside0.mk (fun (W2 : World) (hk : KB w gG gW gS q r x x #[.int .i64 1, .int .i64 who, .slice A l.length cA] W2) => KB_refbad' hk hi5 hyz rfl GI2 GL2)
          rw [hz, hwv] at PW_
          rw [hzb] at PB
          simp only [Bool.true_and] at PW_
          have HYR := Aside0.mk hyz
          have hk3 := HK.out
          clear hz hzb hwv hyz k1 k2 k3 c0 c2
          cases wv with
          | true =>
            have b1 : (zb == z.length) = true := beq_iff_eq.2 (by have := beq_iff_eq.1 hbad; omega)
            have b2 : decide (zb = z.length) = true := decide_eq_true (beq_iff_eq.1 b1)
            go_region_held3 (fun W => W.cell? ⟨gG, i, none⟩ = some (ptrv (q i)) ∧ W.cell? ⟨gW, i * 2, none⟩ = some (.bool true) ∧ W.cell? ⟨gW, i * 2 + 1, none⟩ = some (.slice (r i).1 z.length (r i).2) ∧ W.cell? ⟨gS, 2, none⟩ = some (.slice A l.length cA)) (first | assumption | exact KB.cells3 (by assumption) hi5 HYR.out rfl | exact KB.cells3 (KB.drew (by assumption)) hi5 HYR.out rfl | exact KB.cells3 (KB.drewN (by assumption) _) hi5 HYR.out rfl)
              (first
                | (go_at_call 25; refine (PW_.out _ (by first | assumption | exact KB.drew (by assumption) | exact KB.drewN (by assumption) _)).mono ?_; rintro e w8 ⟨rfl, hk8⟩)
                | (go_at_call 18; refine (PB.out _ (by first | assumption | exact KB.drew (by assumption) | exact KB.drewN (by assumption) _)).mono ?_; rintro e w8 ⟨rfl, hk8⟩))
            go_wp2_with (fail)
            have hk9 : KB w gG gW gS q r x x #[.int .i64 1, .int .i64 who, .slice A l.length cA] w8 := by assumption
            go_roundg k9
            case measure => omega
            case rel => exact ⟨j + 1, q, r, x, (by first | rfl | go_num), HI2, ⟨hk9.below⟩, ⟨hk9.G⟩, ⟨hk9.R⟩, ⟨by rw [HTN.out]; exact HGD.out.mono (by omega)⟩⟩
          | false =>
            have b1 : (zb == z.length) = false := beq_eq_false_iff_ne.2 (by have := beq_eq_false_iff_ne.1 hbad; omega)
            have b2 : decide (zb = z.length) = false := decide_eq_false (beq_eq_false_iff_ne.1 b1)
            go_region_held3 (fun W => W.cell? ⟨gG, i, none⟩ = some (ptrv (q i)) ∧ W.cell? ⟨gW, i * 2, none⟩ = some (.bool true) ∧ W.cell? ⟨gW, i * 2 + 1, none⟩ = some (.slice (r i).1 z.length (r i).2) ∧ W.cell? ⟨gS, 2, none⟩ = some (.slice A l.length cA)) (first | assumption | exact KB.cells3 (by assumption) hi5 HYR.out rfl | exact KB.cells3 (KB.drew (by assumption)) hi5 HYR.out rfl | exact KB.cells3 (KB.drewN (by assumption) _) hi5 HYR.out rfl)
              (first
                | (go_at_call 25; refine (PW_.out _ (by first | assumption | exact KB.drew (by assumption) | exact KB.drewN (by assumption) _)).mono ?_; rintro e w8 ⟨rfl, hk8⟩)
                | (go_at_call 18; refine (PB.out _ (by first | assumption | exact KB.drew (by assumption) | exact KB.drewN (by assumption) _)).mono ?_; rintro e w8 ⟨rfl, hk8⟩))
            go_wp2_with (fail)
            have hk9 : KB w gG gW gS q r x x #[.int .i64 1, .int .i64 who, .slice A l.length cA] w8 := by assumption
            go_roundg k9
            case measure => omega
            case rel => exact ⟨j + 1, q, r, x, (by first | rfl | go_num), HI2, ⟨hk9.below⟩, ⟨hk9.G⟩, ⟨hk9.R⟩, ⟨by rw [HTN.out]; exact HGD.out.mono (by omega)⟩⟩
        | false =>
          rw [hb] at k2
          have HBB := Aside0.mk hb
          go_quiet ((go_at_call 25; exact Calls.quiet_of (KB_whole_no (HK.out.drewN _) hi5 HBB.out)))
          have hk9 := HK.out.drewN nq
          go_wp2_with (fail)
          go_roundg k9
          case measure => omega
          case rel => exact ⟨j + 1, q, r, x, (by first | rfl | go_num), HI2, ⟨hk9.below⟩, ⟨hk9.G⟩, ⟨hk9.R⟩, ⟨by rw [HTN.out]; exact HGD.out.mono (by omega)⟩⟩
      · by_cases h3 : (i : Int) < 3
        · have h3n : i < 3 := by omega
          obtain ⟨k1, k2, k3, _⟩ := HK.out.cells hi5
          go_wp2_with (first
            | (go_at_call 21; (with_reducible refine (KB_new HK.out).mono ?_); rintro e w6 ⟨g, rfl, hF, hk⟩; have HK6 := Aside0.mk hk; have HF := Aside0.mk hF; clear hk hF k1 k2 k3 c0 c2; have hne := HK6.out.gne; have hne2 := Ne.symm hne; obtain ⟨m1, n1⟩ := HK6.out.G.cell i hi5; obtain ⟨m2, m3, n2, n3⟩ := HK6.out.R.cell i hi5; unfold rowv at m3))
          have hk9 := (HK6.out.putG hi5 (some g) (true, []) HF.out).putW hi5 (none, 0) (true, []) (Kd.R_nil _ _ _ _ _)
          go_roundg k9
          case measure => omega
          case rel => exact ⟨j + 1, upd q i (some g), upd r i (none, 0), upd x i (true, []), (by first | rfl | go_num), HI2, ⟨hk9.below⟩, ⟨hk9.G⟩, ⟨hk9.R⟩, ⟨by rw [HTN.out]; exact (HGD.out.mono (by omega)).upd i _ (fun _ h => (by cases h)) (Nat.zero_le _)⟩⟩
        · go_wp2_with (fail)
          go_roundg k9
          case measure => omega
          case rel => exact ⟨j + 1, q, r, x, (by first | rfl | go_num), HI2, ⟨HK.out.below⟩, ⟨HK.out.G⟩, ⟨HK.out.R⟩, ⟨by rw [HTN.out]; exact HGD.out.mono (by omega)⟩⟩
      · go_wp2_with (fail)
        go_roundg k9
        case measure => omega
        case rel => exact ⟨j + 1, q, r, x, (by first | rfl | go_num), HI2, ⟨HK.out.below⟩, ⟨HK.out.G⟩, ⟨HK.out.R⟩, ⟨by rw [HTN.out]; exact HGD.out.mono (by omega)⟩⟩
    · have hl2 : decide ((j : Int) < (n : Int)) = false := decide_eq_false (by omega)
      have hl3 : decide (j < n) = false := decide_eq_false hlt
      have HG9 := Aside0.mk (HGD.out.mono (show j * 1048576 ≤ 1099511627776 by omega))
      clear HSC HI HGD hlt hj hn
      go_wp2_with (fail)
      clear hl2 hl3
      go_loopg [111] 6 (fun kq v111 wq => ∃ (i : Nat), v111 = .int .i64 (i : Int) ∧ Aside0 (5 - i < kq ∧ i ≤ 5) ∧ Aside0 (Below w.heap.size w wq) ∧ Aside0 (PG w gG q x wq) ∧ Aside0 (PW w gW r x wq))
      case atStart => exact ⟨0, rfl, ⟨by omega, by omega⟩, HB, HG, HW⟩
      case round =>
        clear HB HG HW
        obtain ⟨i, rfl, HI, HB, HG, HW⟩ := hrel
        by_cases hi5 : i < 5
        · have hl2 : decide ((i : Int) < (5 : Int)) = true := decide_eq_true (by omega)
          have hl3 : decide (i < 5) = true := decide_eq_true hi5
          have i0 : (0 : Int) ≤ (i : Int) := by omega
          have i5 : (i : Int) < 5 := by omega
          have q1 : IntKind.i64.wrap ((i : Int) + 1) = ((i + 1 : Nat) : Int) := by rw [i64_w, wrap_id _ (by omega) (by omega)]; rfl
          cases gk with
          | zero => exact absurd HI.out.1 (Nat.not_lt_zero _)
          | succ k9 =>
          have HI2 := Aside0.mk (show 5 - (i + 1) < k9 ∧ i + 1 ≤ 5 from ⟨by have h_ := HI.out; omega, by omega⟩)
          clear HI
          obtain ⟨k2, k3, f2, f3⟩ := HW.out.cell i hi5
          unfold rowv at k3
          obtain ⟨g1, g2⟩ := HG9.out i hi5
          obtain ⟨z, hz⟩ : ∃ z, (x i).2 = z := ⟨_, rfl⟩
          rw [hz] at k3 g1 g2
          have GI := Aside0.mk g1
          have GL := Aside0.mk g2
          clear g1 g2
          obtain ⟨zb, hzb⟩ : ∃ zb, badV z.length z = zb := ⟨_, rfl⟩
          obtain ⟨wv, hwv⟩ : ∃ wv, wholeV z = wv := ⟨_, rfl⟩
          obtain ⟨fl, hfl⟩ : ∃ fl, (!(fd z).1) = fl := ⟨_, rfl⟩
          have hbad := whole_bad z
          rw [hzb, hwv] at hbad
          go_upto_region 22 with (fail)
          obtain ⟨gB, hgB⟩ : ∃ g, g = wr.heap.size := ⟨_, rfl⟩
          obtain ⟨W5, hW5⟩ : ∃ W, W = wr.alloc (.cells #[.bool (x i).1, .slice (r i).1 z.length (r i).2] 51) := ⟨_, rfl⟩
          rw [← hgB, ← hW5]
          have hb5 : Below wr.heap.size wr W5 := by rw [hW5]; exact below_alloc (Below.refl _ _) _
          have hB5 : W5.heap[gB]? = some (.cells #[.bool (x i).1, .slice (r i).1 z.length (r i).2] 51 (0, 0)) := by rw [hW5, hgB]; exact blk_new _ _
          have hne : gB ≠ gW := by have := blk_lt HW.out.blk; omega
          have hk5 : KB w gG gW gB q r x x #[.bool (x i).1, .slice (r i).1 z.length (r i).2] W5 := ⟨below_step HB.out hb5, HG.out.step hb5, HW.out.step hb5, ⟨_, by decide, by decide, hB5⟩, hne⟩
          clear hgB hW5 k2 k3 f2 f3 hb5 hB5 hne HB HG HW
          cases hb : (x i).1 with
          | true =>
            rw [hb] at hk5
            have hyz : x i = (true, z) := by rw [← hb, ← hz]
            have PW_ := Aside0.mk (fun (W2 : World) (hk : KB w gG gW gB q r x x #[.bool true, .slice (r i).1 z.length (r i).2] W2) => KB_whole hk hi5 hb)
            have PB := Aside0.mk (fun (W2 : World) (hk : KB w gG gW gB q r x x #[.bool true, .slice (r i).1 z.length (r i).2] W2) => KB_refbad' hk hi5 hyz rfl GI.out (by have := GL.out; omega))
            have PF := Aside0.mk (fun (W2 : World) (hk : KB w gG gW gB q r x x #[.bool true, .slice (r i).1 z.length (r i).2] W2) => KB_feed_nil hk hi5 hyz)
            have PE := Aside0.mk (fun (W2 : World) (hk : KB w gG gW gB q r x x #[.bool true, .slice (r i).1 z.length (r i).2] W2) => KB_begins' hk hi5 hyz rfl GI.out (by have := GL.out; omega))
            rw [hz, hwv] at PW_
            rw [hzb] at PB
            rw [hfl] at PF PE
            simp only [Bool.true_and] at PW_
            have HYR := Aside0.mk hyz
            clear hz hzb hwv hfl hyz
            cases wv with
            | true =>
              have b1 : (zb == z.length) = true := beq_iff_eq.2 (by have := beq_iff_eq.1 hbad; omega)
              have b2 : decide (zb = z.length) = true := decide_eq_true (beq_iff_eq.1 b1)
              go_region_held3 (fun W => W.cell? ⟨gG, i, none⟩ = some (ptrv (q i)) ∧ W.cell? ⟨gB, 0, none⟩ = some (.bool true) ∧ W.cell? ⟨gB, 1, none⟩ = some (.slice (r i).1 z.length (r i).2)) (first | assumption | exact KB.cells2 (by assumption) hi5 | exact KB.cells2 (KB.drew (by assumption)) hi5 | exact KB.cells2 (KB.drewN (by assumption) _) hi5)
                (first
                  | (go_at_call 25; refine (PW_.out _ (by first | assumption | exact KB.drew (by assumption) | exact KB.drewN (by assumption) _)).mono ?_; rintro e w8 ⟨rfl, hk8⟩)
                  | (go_at_call 23; refine (PF.out _ (by first | assumption | exact KB.drew (by assumption) | exact KB.drewN (by assumption) _)).mono ?_; rintro e w8 ⟨rfl, hk8⟩)
                  | (go_at_call 24; refine (PE.out _ (by first | assumption | exact KB.drew (by assumption) | exact KB.drewN (by assumption) _)).mono ?_; rintro e w8 ⟨rfl, hk8⟩)
                  | (go_at_call 18; refine (PB.out _ (by first | assumption | exact KB.drew (by assumption) | exact KB.drewN (by assumption) _)).mono ?_; rintro e w8 ⟨rfl, hk8⟩))
              go_wp2_with (fail)
              have hk9 : KB w gG gW gB q r x x #[.bool true, .slice (r i).1 z.length (r i).2] w8 := by assumption
              go_roundg k9
              case measure => omega
              case rel => exact ⟨i + 1, (by first | rfl | go_num), HI2, ⟨hk9.below⟩, ⟨hk9.G⟩, ⟨hk9.R⟩⟩
            | false =>
              have b1 : (zb == z.length) = false := beq_eq_false_iff_ne.2 (by have := beq_eq_false_iff_ne.1 hbad; omega)
              have b2 : decide (zb = z.length) = false := decide_eq_false (beq_eq_false_iff_ne.1 b1)
              go_region_held3 (fun W => W.cell? ⟨gG, i, none⟩ = some (ptrv (q i)) ∧ W.cell? ⟨gB, 0, none⟩ = some (.bool true) ∧ W.cell? ⟨gB, 1, none⟩ = some (.slice (r i).1 z.length (r i).2)) (first | assumption | exact KB.cells2 (by assumption) hi5 | exact KB.cells2 (KB.drew (by assumption)) hi5 | exact KB.cells2 (KB.drewN (by assumption) _) hi5)
                (first
                  | (go_at_call 25; refine (PW_.out _ (by first | assumption | exact KB.drew (by assumption) | exact KB.drewN (by assumption) _)).mono ?_; rintro e w8 ⟨rfl, hk8⟩)
                  | (go_at_call 23; refine (PF.out _ (by first | assumption | exact KB.drew (by assumption) | exact KB.drewN (by assumption) _)).mono ?_; rintro e w8 ⟨rfl, hk8⟩)
                  | (go_at_call 24; refine (PE.out _ (by first | assumption | exact KB.drew (by assumption) | exact KB.drewN (by assumption) _)).mono ?_; rintro e w8 ⟨rfl, hk8⟩)
                  | (go_at_call 18; refine (PB.out _ (by first | assumption | exact KB.drew (by assumption) | exact KB.drewN (by assumption) _)).mono ?_; rintro e w8 ⟨rfl, hk8⟩))
              go_wp2_with (fail)
              have hk9 : KB w gG gW gB q r x x #[.bool true, .slice (r i).1 z.length (r i).2] w8 := by assumption
              go_roundg k9
              case measure => omega
              case rel => exact ⟨i + 1, (by first | rfl | go_num), HI2, ⟨hk9.below⟩, ⟨hk9.G⟩, ⟨hk9.R⟩⟩
          | false =>
            rw [hb] at hk5
            have HBB := Aside0.mk hb
            have HK5 := Aside0.mk hk5
            obtain ⟨k1, k2, k3⟩ := hk5.cells2 hi5
            clear hk5
            go_quiet (first
              | (go_at_call 25; exact Calls.quiet_of (KB_whole_no (HK5.out.drewN _) hi5 HBB.out))
              | (go_at_call 23; exact Calls.quiet_of (KB_feed_no (HK5.out.drewN _) hi5 HBB.out _)))
            have hk9 := HK5.out.drewN nq
            go_wp2_with (fail)
            go_roundg k9
            case measure => omega
            case rel => exact ⟨i + 1, (by first | rfl | go_num), HI2, ⟨hk9.below⟩, ⟨hk9.G⟩, ⟨hk9.R⟩⟩
        · have hl2 : decide ((i : Int) < (5 : Int)) = false := decide_eq_false (by omega)
          have hl3 : decide (i < 5) = false := decide_eq_false hi5
          clear hi5
          go_wp2_with (first
            | ((go_at_call 12); (with_reducible refine (Go.Proofs.Ytabjfpjmiiiecaa.WK.wakes_calls _).mono ?_); rintro e w6 ⟨rfl, hb6⟩; have HB6 := Aside0.mk (below_step HB.out hb6); clear hb6))
          go_ret
          exact ⟨rfl, HB6.out⟩
end Go.Proofs.Ytabjfpjmiiiecaa.FE
namespace Go.Proofs.Ytabjfpjmiiiecaa.Pure
open Go.RowKit Go.Proofs.YtabjfpjmiiiecaaW.PrintWords Go.Proofs.Ytabjfpjmiiiecaa.B Go.Proofs.Ytabjfpjmiiiecaa.FE
theorem RunesFeeds (a0 : Option Addr) (len0 cap0 : Nat) (f : Nat → Op.OpB) (w : World)
    (w0 : len0 ≤ 1048576 ∧ ∀ i, i < len0 → ∃ x, a0 = some x ∧ w.cell? (x.add (i * 3)) = some (.int .i64 (f i).who) ∧ w.cell? ⟨(x.add (i * 3)).block, (x.add (i * 3)).off + 1, none⟩ = some (.int .i64 (f i).op) ∧ w.cell? ⟨(x.add (i * 3)).block, (x.add (i * 3)).off + 2, none⟩ = some (.slice (f i).A (f i).l.length (f i).c) ∧
      Kd.C (Kd.int .u8) w (f i).A (f i).l.length (f i).l ∧ InB (f i).l ∧ (f i).l.length ≤ 1048576 ∧ (f i).l.length ≤ (f i).c) :
    Calls Try.prog 5 #[.slice a0 len0 cap0] w fun e w' => e = .returned (.bool true) ∧ Below w.heap.size w w' :=
  feeds_all a0 len0 cap0 f w w0.1 w0.2
end Go.Proofs.Ytabjfpjmiiiecaa.Pure
