/- The reference's Begins, walked: it tells what a reader's state tells. -/
import Derived.Test.YtabjfpjmiiiecaaFeedP
import Derived.Test.YtabjfpjmiiiecaaD6
namespace Go.Proofs.Ytabjfpjmiiiecaa.BG
set_option linter.unusedVariables false
set_option linter.unusedSimpArgs false
set_option linter.unusedVariables false
set_option linter.unusedSimpArgs false
open Go.RowKit Go.Proofs.YtabjfpjmiiiecaaW.PrintWords Go.Proofs.YtabjfpjmiiiecaaW.PrintLast Go.Proofs.YtabjfpjmiiiecaaW.PrintMore Go.Proofs.Ytabjfpjmiiiecaa.B Go.Proofs.Ytabjfpjmiiiecaa.M Go.Proofs.Ytabjfpjmiiiecaa.CK Go.Proofs.Ytabjfpjmiiiecaa.D
/-- The reference's Bad, walked. -/
theorem refBad_calls (A0 : Option Addr) (c0 : Nat) (l : List Int) (w : World) (hr0 : Kd.C (Kd.int .u8) w A0 l.length l) (hc0 : l.length ≤ c0) (hin : InB l) (hL : l.length ≤ 140737488351232) :
    Calls Try.prog 18 #[.slice A0 l.length c0] w fun e w' => e = .returned (.int .i64 ((badV l.length l : Nat) : Int)) ∧ Below w.heap.size w w' := by
  obtain ⟨K, hK⟩ := refBad_ev l hin hL
  exact posthornref05_Bad.calls K A0 c0 l _ w hr0 hc0 (hK K (Nat.le_refl _))
theorem begun_calls (A0 : Option Addr) (c0 : Nat) (l : List Int) (n : Nat) (w : World) (hr0 : Kd.C (Kd.int .u8) w A0 l.length l) (hc0 : l.length ≤ c0) (hin : InB l) (h1 : 0 < l.length) (h2 : l.length < n) (h4 : n ≤ 4) :
    Calls Try.prog 44 #[.slice A0 l.length c0, .int .i64 (n : Int)] w fun e w' => e = .returned (.bool (bv l n)) ∧ Below w.heap.size w w' := by
  obtain ⟨K, hK⟩ := ev_bv l hin n h1 h2 h4
  exact posthornref05_begun.calls K A0 c0 l _ _ w hr0 hc0 (hK K (Nat.le_refl _))
set_option maxHeartbeats 4000000 in
set_option maxRecDepth 100000 in
theorem begins_calls (A0 : Option Addr) (c0 : Nat) (l : List Int) (w : World) (hr0 : Kd.C (Kd.int .u8) w A0 l.length l) (hc0 : l.length ≤ c0) (hin : InB l) (hL : l.length ≤ 140737488351232) :
    Calls Try.prog 24 #[.slice A0 l.length c0] w fun e w' => e = .returned (.bool (!(fd l).1)) ∧ Below w.heap.size w w' := by
  have HR0 := Aside0.mk hr0
  have HC0 := Aside0.mk hc0
  obtain ⟨h1, h2, _⟩ := bad_rest l.length l 0 0 (Nat.le_refl _)
  obtain ⟨e1, _⟩ := fd_rest l
  have HX := Aside0.mk (And.intro hin hL)
  clear hr0 hin hL
  have HT := Aside0.mk (fun W => refBad_calls A0 c0 l W)
  obtain ⟨t, ht⟩ : ∃ t, badV l.length l = t := ⟨_, rfl⟩
  rw [ht] at h1 h2 e1 HT
  have p0 : decide ((0 : Int) ≤ (t : Int)) = true := decide_eq_true (by omega)
  have p1 : decide ((t : Int) ≤ (l.length : Int)) = true := decide_eq_true (by omega)
  obtain ⟨i07, hi07, _, hsz7, _⟩ := info_parts info5
  obtain ⟨A7, hcut7, hA7, hC7⟩ := print_drop_of (P := Try.prog) (Value.int .u8) 0 27 5 .i64 Try.underlying27 hi07 hsz7 A0 c0 l (t : Int) (of_decide_eq_true p0) (of_decide_eq_true p1) HC0.out
  have hr7 := Kd.C_of_reads (h1 := fun _ => rfl) (hA7 _ (Kd.reads_of_C HR0.out))
  rw [Int.toNat_natCast] at hcut7 hC7 hr7
  obtain ⟨q, hq⟩ : ∃ q, l.drop t = q := ⟨_, rfl⟩
  rw [hq] at hcut7 hC7 hr7 h2 e1
  have hql : q.length ≤ 140737488351232 := by rw [← hq, List.length_drop]; have h_ := HX.out.2; omega
  have hqin : InB q := by rw [← hq]; exact inb_drop HX.out.1 t
  have HQ := Aside0.mk (And.intro hr7 (And.intro hC7 hqin))
  have HZ := Aside0.mk (And.intro h1 (And.intro h2 e1))
  clear hA7 hC7 hi07 hsz7 hr7 hqin hq ht h1 h2 e1 hc0
  by_cases hz : q.length = 0
  · have hzi : ((q.length : Int) == 0) = true := beq_iff_eq.2 (by omega)
    have hzn : (q.length == 0) = true := beq_iff_eq.2 hz
    have hzd : decide (q.length = 0) = true := decide_eq_true hz
    have hq0 : q = [] := List.eq_nil_of_length_eq_zero hz
    have he : (!(fd l).1) = true := by rw [HZ.out.2.2, hq0]; rfl
    rw [he]
    clear hz hq0
    go_enter Try.func24, Try.ntmps24
    go_wp2_with (first
      | ((go_at_call 18); (with_reducible refine (HT.out _ HR0.out HC0.out HX.out.1 HX.out.2).mono ?_); rintro e w6 ⟨rfl, hb⟩; have HB := Aside0.mk hb; clear hb))
    go_ret
    exact ⟨rfl, HB.out⟩
  · have hzi : ((q.length : Int) == 0) = false := beq_eq_false_iff_ne.2 (by omega)
    have hzn : (q.length == 0) = false := beq_eq_false_iff_ne.2 hz
    have hzd : decide (q.length = 0) = false := decide_eq_false hz
    have hl1 : 0 < q.length := Nat.pos_of_ne_zero hz
    have hiff := bv_iff q HZ.out.2.1 hl1
    rw [HZ.out.2.2]
    have HI := Aside0.mk hiff
    have HL1 := Aside0.mk hl1
    have hw1 : IntKind.i64.wrap ((q.length : Int) + 1) = ((q.length + 1 : Nat) : Int) := by rw [i64_w, wrap_id _ (by omega) (by omega)]; rfl
    clear hiff hl1 hz hql
    go_enter Try.func24, Try.ntmps24
    go_wp2_with (first
      | ((go_at_call 18); (with_reducible refine (HT.out _ HR0.out HC0.out HX.out.1 HX.out.2).mono ?_); rintro e w6 ⟨rfl, hb⟩; have HB := Aside0.mk hb; clear hb))
    go_loopg [4] 6 (fun kq v4 W => ∃ (n : Nat), v4 = .int .i64 (n : Int) ∧ Aside0 (6 - n < kq ∧ q.length < n) ∧ Aside0 (∀ m, q.length < m → m < n → m ≤ 4 → bv q m = false) ∧ Aside0 (Below w.heap.size w W))
    case atStart => exact ⟨q.length + 1, rfl, ⟨by have := HL1.out; omega⟩, ⟨fun m k1 k2 => by omega⟩, HB⟩
    case round =>
      clear HB
      obtain ⟨n, rfl, HN, HM, HB⟩ := hrel
      by_cases h4 : n ≤ 4
      · have d4 : decide ((n : Int) ≤ 4) = true := decide_eq_true (by omega)
        have d5 : decide (n ≤ 4) = true := decide_eq_true h4
        have q1 : IntKind.i64.wrap ((n : Int) + 1) = ((n + 1 : Nat) : Int) := by rw [i64_w, wrap_id _ (by omega) (by omega)]; rfl
        cases gk with
        | zero => exact absurd HN.out.1 (Nat.not_lt_zero _)
        | succ k9 =>
        have HN4 := Aside0.mk h4
        clear h4
        have HV := Aside0.mk (fun W (hb : Below w.heap.size w W) => begun_calls A7 (c0 - t) q n W (Kd.C_below HQ.out.1 hb) HQ.out.2.1 HQ.out.2.2 HL1.out HN.out.2 HN4.out)
        cases hv : bv q n with
        | true =>
          rw [hv] at HV
          have he : (!(fd q).1) = true := by rw [HI.out.1 ⟨n, HN.out.2, HN4.out, hv⟩]; rfl
          clear hv
          go_wp2_with (first
            | ((go_at_call 44); (with_reducible refine (HV.out _ HB.out).mono ?_); rintro e w7 ⟨rfl, hb⟩; have HB2 := Aside0.mk (below_step HB.out hb); clear hb))
          go_ret
          exact ⟨by rw [he]; rfl, HB2.out⟩
        | false =>
          rw [hv] at HV
          have HVN := Aside0.mk hv
          clear hv
          go_wp2_with (first
            | ((go_at_call 44); (with_reducible refine (HV.out _ HB.out).mono ?_); rintro e w7 ⟨rfl, hb⟩; have HB2 := Aside0.mk (below_step HB.out hb); clear hb))
          go_roundg k9
          case measure => omega
          case rel => exact ⟨n + 1, rfl, ⟨by have := HN.out; have := HN4.out; omega⟩, ⟨fun m k1 k2 k3 => (Nat.lt_or_ge m n).elim (fun h => HM.out m k1 h k3) (fun h => by rw [show m = n by omega]; exact HVN.out)⟩, HB2⟩
      · have d4 : decide ((n : Int) ≤ 4) = false := decide_eq_false (by omega)
        have d5 : decide (n ≤ 4) = false := decide_eq_false h4
        have he : (!(fd q).1) = false := by
          cases hf : (fd q).1 with
          | true => rfl
          | false =>
            obtain ⟨m, k1, k2, k3⟩ := HI.out.2 hf
            rw [HM.out m k1 (by omega) k2] at k3
            cases k3
        clear h4
        go_wp2_with (fail)
        go_ret
        exact ⟨by rw [he]; rfl, HB.out⟩
end Go.Proofs.Ytabjfpjmiiiecaa.BG
