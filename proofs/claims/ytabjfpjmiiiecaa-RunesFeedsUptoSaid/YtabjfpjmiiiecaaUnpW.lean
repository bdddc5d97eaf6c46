/- runes.Unpuny, walked. -/
import Derived.Test.YtabjfpjmiiiecaaD4
import Derived.Test.YtabjfpjmiiiecaaD1
import Derived.Test.YtabjfpjmiiiecaaUnpM
namespace Go.Proofs.Ytabjfpjmiiiecaa.UN
set_option linter.unusedVariables false
set_option linter.unusedSimpArgs false
open Go.RowKit Go.Proofs.YtabjfpjmiiiecaaW.PrintWords Go.Proofs.YtabjfpjmiiiecaaW.PrintLast Go.Proofs.YtabjfpjmiiiecaaW.PrintMore Go.Proofs.Ytabjfpjmiiiecaa.B Go.Proofs.Ytabjfpjmiiiecaa.D Go.Proofs.Ytabjfpjmiiiecaa.DE Go.Proofs.Ytabjfpjmiiiecaa.CI Go.Lib
/-- What stands while Unpuny runs: the row, the spot's block. -/
structure UI (w : World) (g : Nat) (v : Value) (xs : List Int) (W : World) : Prop where
  ow : OwnR w W v xs
  bk : BK g 0 0 W
  bl : Below w.heap.size w W
  gg : w.heap.size ≤ g
theorem UI.below {w W W' : World} {g : Nat} {v : Value} {xs : List Int} (h : UI w g v xs W) (hb : Below W.heap.size W W') : UI w g v xs W' :=
  ⟨Kd.R_below h.ow hb, blk_below h.bk hb, below_step h.bl hb, h.gg⟩
theorem UI.grown {w W W' : World} {g : Nat} {v v' : Value} {xs xs' : List Int} (h : UI w g v xs W) (ho : OwnR w W' v' xs') (hb : Below w.heap.size w W') (hg : W.grownBy W' v.ownBlock) : UI w g v' xs' W' :=
  ⟨ho, blk_grown h.bk hg (Kd.R_ne h.ow h.bk (by decide)), hb, h.gg⟩
theorem UI.drew {w W : World} {g : Nat} {v : Value} {xs : List Int} (h : UI w g v xs W) : UI w g v xs W.drew := ⟨h.ow, h.bk, h.bl.drew, h.gg⟩
/-- The end with an error: the spot is told, no list. -/
theorem UI.fault {w W : World} {g : Nat} {v : Value} {xs : List Int} (h : UI w g v xs W) (e a : Int) : Below w.heap.size w ((W.setCell ⟨g, 0, none⟩ (.int .i64 e)).setCell ⟨g, 1, none⟩ (.int .i64 a)) := below_set (below_set h.bl h.gg) h.gg
/-- What is asked at the end. -/
def UQ (s : ByteArray) (pz : Int) (w : World) (e : Ending) (w' : World) : Prop := ∃ v, e = .returned (.tuple #[v, .agg #[.int .i64 (unpV s pz).2.1, .int .i64 (unpV s pz).2.2]]) ∧ OwnR w w' v (unpV s pz).1 ∧ Below w.heap.size w w'
set_option maxHeartbeats 8000000 in
set_option maxRecDepth 100000 in
theorem unp_walk (s : ByteArray) (hs : s.size ≤ 35184372088831) (pz : Int) (hps : pz < s.size) (w : World) (hp : ∀ W, Calls Try.prog 37 #[.string s, .int .u8 45] W fun e W' => e = .returned (.int .i64 pz) ∧ Below W.heap.size W W') :
    Calls Try.prog 15 #[.string s] w (UQ s pz w) := by
  have HB := Aside0.mk (Below.refl w.heap.size w)
  have HP := Aside0.mk hps
  have HS := Aside0.mk hs
  clear hps hs
  go_enter Try.func15, Try.ntmps15
  go_upto_if 22 with (first | ((with_reducible refine gate_dst (N := 3) rfl ?_); refine box_event ?hg (N := 3) ?hd (cs := #[.int .i64 0, .int .i64 0]) (t := 33) ?hr ?_; (case hd => rfl); (case hg => rfl); (case hr => first | (go_simp; done) | (go_simp; rfl)); intro g hg w5 hbox hb; have n0 := Aside0.mk (below_step HB.out hb); have GG := Aside0.mk (show w.heap.size ≤ g by rw [hg]; exact below_size HB.out); have HX := Aside0.mk (show BK g 0 0 w5 from hbox); clear HB hb hbox; have HB := n0; clear n0 hg) | (go_at_call 37; (with_reducible refine (hp _).mono ?_); rintro e w6 ⟨rfl, hb⟩; have n0 := Aside0.mk (below_step HB.out hb); have n1 := Aside0.mk (show BK g 0 0 w6 from blk_below HX.out hb); clear HB hb HX; have HB := n0; have HX := n1; clear n0 n1))
  have U0 : Aside0 (UI w g (.slice none 0 0) [] w6) := ⟨⟨Kd.R_nil _ _ _ _ _, HX.out, HB.out, GG.out⟩⟩
  clear HB HX GG
  go_cut [4, 5] from 6 to 42 (fun v4 v5 W => ∃ (out : List Int) (p : Nat), v5 = .int .i64 (p : Int) ∧ Aside0 (unpV s pz = outP s s.size out p 128 0 72 true ∧ out.length ≤ p ∧ p ≤ s.size) ∧ Aside0 (UI w g v4 out W))
  case first =>
    by_cases hz : 0 < pz
    · obtain ⟨p, rfl⟩ : ∃ p : Nat, pz = (p : Int) := ⟨pz.toNat, (Int.toNat_of_nonneg (by omega)).symm⟩
      have h0 : 0 < p := by omega
      have hps := HP.out
      have l1 : decide ((0 : Int) < (p : Int)) = true := decide_eq_true hz
      have l2 : decide (0 < p) = true := decide_eq_true h0
      have l3 : (0 < p) = True := eq_true h0
      have HP := Aside0.mk (show 0 < p ∧ p < s.size from ⟨h0, by omega⟩)
      have q1 : IntKind.i64.wrap ((p : Int) + 1) = ((p + 1 : Nat) : Int) := by have h_ := HS.out; rw [i64_w, wrap_id _ (by omega) (by omega)]; rfl
      clear h0 hps hz
      rw [l1]
      go_wp2
      go_loopg [4, 24] p (fun kq v4 v24 W => ∃ (j : Nat), v24 = .int .i64 (j : Int) ∧ Aside0 (j ≤ p ∧ p - j ≤ kq ∧ basicV (bytesOf s) (p - j) j = basicV (bytesOf s) p 0) ∧ Aside0 (UI w g v4 ((bytesOf s).take j) W))
      case atStart => exact ⟨0, rfl, ⟨by omega, by omega, rfl⟩, U0⟩
      case round =>
        obtain ⟨j, rfl, HJ, HU⟩ := hrel
        obtain ⟨hj1, hj2, hj3⟩ := HJ.out
        have hS := HS.out
        have hP := HP.out
        have hlen := bytesOf_len s
        by_cases hlt : j < p
        · cases gk with
          | zero => omega
          | succ k9 =>
          have hl2 : decide ((j : Int) < (p : Int)) = true := decide_eq_true (by omega)
          have hl3 : (j < p) = True := eq_true hlt
          have hl4 : decide (j < p) = true := decide_eq_true hlt
          have hjs : j < (bytesOf s).length := by omega
          obtain ⟨c, hc⟩ : ∃ c, bt s (j : Int) = c := ⟨_, rfl⟩
          have hx8 : ∀ h : j < s.size, ((s[j]'h).toNat : Int) = c := fun h => (bt_at s (j : Int) h).trans hc
          have hjz : j < s.size := by omega
          have hx9 := hx8 hjz
          have hcb : (bytesOf s)[j] = c := (bt_bytes s j hjs).symm.trans hc
          have hgd : (bytesOf s).getD j 0 = c := by rw [List.getD_eq_getElem?_getD, List.getElem?_eq_getElem hjs]; exact hcb
          have p1 := eq_true (show (0 : Int) ≤ (j : Int) by omega)
          have p2 := eq_true (show (j : Int) < (s.size : Int) by omega)
          have q2 : IntKind.i64.wrap ((j : Int) + 1) = ((j + 1 : Nat) : Int) := by rw [i64_w, wrap_id _ (by omega) (by omega)]; rfl
          have hr : 0 ≤ c ∧ c ≤ 255 := by rw [← hcb]; exact bytesOf_in s _ (List.getElem_mem hjs)
          have q3 : IntKind.i32.wrap c = c := by
            unfold IntKind.wrap
            simp only [show IntKind.i32.bits = 32 from rfl, show IntKind.i32.signed = true from rfl, Bool.true_and, decide_eq_true_eq, show (2 : Int) ^ 32 = 4294967296 from by decide, show (2 : Int) ^ (32 - 1) = 2147483648 from by decide]
            split <;> omega
          rw [show p - j = (p - (j + 1)) + 1 from by omega, basicV, hgd] at hj3
          by_cases h127 : c > 127
          · have k1 : decide (127 < c) = true := decide_eq_true h127
            rw [if_pos h127] at hj3
            have HR : Aside0 (unpV s (p : Int) = ([], 51, (j : Int))) := ⟨by unfold unpV; rw [if_pos (by omega), Int.toNat_natCast, ← hj3]⟩
            have b0 : wr.cell? ⟨g, 0, none⟩ = some (.int .i64 0) := blk_cell HU.out.bk 0
            have b1 : wr.cell? ⟨g, 1, none⟩ = some (.int .i64 0) := blk_cell HU.out.bk 1
            have f0 := blk_frozen HU.out.bk 0
            have f1 := blk_frozen HU.out.bk 1
            clear hj1 hj2 hj3 hS hP hlen hc hcb hgd hr h127
            go_wp2
            refine bodyPost_ret (results_tc rfl _ _ g 33 #[.int .i64 51, .int .i64 (j : Int)] (0, 0) _ rfl (by refine blk_put (cs := #[.int .i64 51, .int .i64 0]) ?_ 1 _ rfl; refine blk_put (cs := #[.int .i64 0, .int .i64 0]) ?_ 0 _ rfl; exact HU.out.bk) Try.underlying33 rfl (by kernel_rfl)) rfl ?_
            exact ⟨.slice none 0 0, by rw [HR.out]; rfl, by rw [HR.out]; exact Kd.R_nil _ _ _ _ _, HU.out.fault 51 (j : Int)⟩
          · have k1 : decide (127 < c) = false := decide_eq_false h127
            rw [if_neg h127] at hj3
            have HJ2 := Aside0.mk (show j + 1 ≤ p ∧ p - (j + 1) ≤ k9 ∧ basicV (bytesOf s) (p - (j + 1)) (j + 1) = basicV (bytesOf s) p 0 from ⟨by omega, by omega, hj3⟩)
            have HT := Aside0.mk (show (bytesOf s).take (j + 1) = (bytesOf s).take j ++ [c] from by rw [List.take_succ_eq_append_getElem hjs, hcb])
            have HL := Aside0.mk (show (((bytesOf s).take j).length + 1) * 4 ≤ 140737488355328 by rw [List.length_take]; omega)
            clear hj1 hj2 hj3 hS hP hlen hc hcb hgd hr
            go_wp2_with ((with_reducible refine gate_builtin (b := .append) (xs := #[.tmp 33, .tmp 38]) rfl ?_); at_builtin; refine Kd.R_append (Kd.int .i32) (w0 := w) w.heap.size rfl (.tmp 33) (.tmp 38) 28 21 (.int .i32 0) 4 rfl Try.underlying28 info21 rfl (by decide) (by omega) _ ((bytesOf s).take j) c [.int .i32 c] (fun _ => True) (fun _ => False) rfl rfl rfl (fun _ hk => hk.elim) (fun _ _ => trivial) HU.out.ow HU.out.bl (below_size HU.out.bl) HL.out ?_; intro v9 w9 ho hb hg hat; rw [← HT.out] at ho; have HU9 : Aside0 (UI w g v9 ((bytesOf s).take (j + 1)) w9) := ⟨HU.out.grown ho hb hg⟩; clear ho hb hg hat)
            go_roundg k9
            case measure => omega
            case rel => exact ⟨j + 1, rfl, HJ2, HU9⟩
        · have hl2 : decide ((j : Int) < (p : Int)) = false := decide_eq_false (by omega)
          have hl4 : decide (j < p) = false := decide_eq_false hlt
          obtain rfl : j = p := by omega
          rw [Nat.sub_self, basicV] at hj3
          have HR := Aside0.mk (show unpV s (j : Int) = outP s s.size ((bytesOf s).take j) (j + 1) 128 0 72 true ∧ ((bytesOf s).take j).length ≤ j + 1 ∧ j + 1 ≤ s.size from ⟨by unfold unpV; rw [if_pos (by omega), Int.toNat_natCast, ← hj3], by rw [List.length_take]; omega, by omega⟩)
          clear hj1 hj2 hj3 hS hP hlen
          go_wp2
          go_meet
          case rel => exact ⟨(bytesOf s).take j, j + 1, rfl, HR, HU⟩
    · have l1 : decide ((0 : Int) < pz) = false := decide_eq_false hz
      have HR := Aside0.mk (show unpV s pz = outP s s.size [] 0 128 0 72 true ∧ ([] : List Int).length ≤ 0 ∧ 0 ≤ s.size from ⟨by unfold unpV; rw [if_neg hz], Nat.le_refl _, Nat.zero_le _⟩)
      clear hz
      rw [l1]
      go_wp2
      go_meet
      case rel => exact ⟨[], 0, rfl, HR, U0⟩
  case rest =>
    clear U0
    obtain ⟨out, p, rfl, HR, HU⟩ := hcut
    go_wp2
    go_loopg [4, 5, 8, 9, 10, 11] s.size (fun kq v4 v5 v8 v9 v10 v11 W => ∃ (out : List Int) (p : Nat) (n place bias : Int) (first : Bool), v5 = .int .i64 (p : Int) ∧ v8 = .int .i64 n ∧ v9 = .int .i64 place ∧ v10 = .int .i64 bias ∧ v11 = .bool first ∧ Aside0 (unpV s pz = outP s kq out p n place bias first ∧ out.length ≤ p ∧ p ≤ s.size ∧ s.size - p ≤ kq ∧ 0 ≤ place ∧ place ≤ (out.length : Int)) ∧ Aside0 (UI w g v4 out W))
    case atStart => exact ⟨out, p, 128, 0, 72, true, rfl, rfl, rfl, rfl, rfl, ⟨HR.out.1, HR.out.2.1, HR.out.2.2, by omega, by omega, by omega⟩, HU⟩
    case round =>
      clear HR HU HP
      obtain ⟨out, p, n, place, bias, first, rfl, rfl, rfl, rfl, rfl, HR, HU⟩ := hrel
      by_cases hlt : p < s.size
      · cases gk with
        | zero => exact absurd HR.out.2.2.2.1 (by omega)
        | succ k9 =>
        have hl2 : decide ((p : Int) < (s.size : Int)) = true := decide_eq_true (by omega)
        have hl3 : (p < s.size) = True := eq_true hlt
        have hl4 : decide (p < s.size) = true := decide_eq_true hlt
        have HLT := Aside0.mk hlt
        clear hlt
        obtain ⟨A4, c4, rfl⟩ := Kd.R_slice HU.out.ow
        go_wp2_with (fail)
        go_loopg [5, 12, 13, 14] s.size (fun kq v5 v12 v13 v14 W => ∃ (q : Nat) (st wt k : Int), v5 = .int .i64 (q : Int) ∧ v12 = .int .i64 st ∧ v13 = .int .i64 wt ∧ v14 = .int .i64 k ∧ Aside0 (digP s bias kq q st wt k = digP s bias s.size p 0 1 36 ∧ q ≤ s.size ∧ s.size - q ≤ kq) ∧ Aside0 (UI w g (.slice A4 out.length c4) out W))
        case atStart => exact ⟨p, 0, 1, 36, rfl, rfl, rfl, rfl, ⟨rfl, HR.out.2.2.1, by omega⟩, HU⟩
        case round =>
          clear HU hl2 hl3 hl4
          obtain ⟨q, st, wt, k, rfl, rfl, rfl, rfl, HD, HU⟩ := hrel
          obtain ⟨hd1, hd2, hd3⟩ := HD.out
          have hS := HS.out
          by_cases hq : q < s.size
          · cases gk with
            | zero => omega
            | succ k8 =>
            have hl2 : ((q : Int) == (s.size : Int)) = false := beq_eq_false_iff_ne.mpr (by omega)
            have hl3 : (q == s.size) = false := beq_eq_false_iff_ne.mpr (by omega)
            have hl4 : decide (q = s.size) = false := decide_eq_false (by omega)
            obtain ⟨c, hc⟩ : ∃ c, bt s (q : Int) = c := ⟨_, rfl⟩
            have hx8 : ∀ h : q < s.size, ((s[q]'h).toNat : Int) = c := fun h => (bt_at s (q : Int) h).trans hc
            have hx9 := hx8 hq
            have p1 := eq_true (show (0 : Int) ≤ (q : Int) by omega)
            have p2 := eq_true (show (q : Int) < (s.size : Int) by omega)
            have q2 : IntKind.i64.wrap ((q : Int) + 1) = ((q + 1 : Nat) : Int) := by rw [i64_w, wrap_id _ (by omega) (by omega)]; rfl
            have hr : 0 ≤ c ∧ c ≤ 255 := by rw [← hx9]; exact ⟨by omega, by have := (s[q]'hq).toNat_lt; omega⟩
            have hv := valV_ev c hr
            rw [digP, if_pos hq, hc] at hd1
            generalize valV c = vc at hv hd1
            obtain ⟨d, b⟩ := vc
            dsimp only at hd1
            have HV := Aside0.mk hv
            clear hv hc hr hx8
            cases b with
            | false =>
              rw [if_neg (by decide)] at hd1
              have HE : Aside0 (unpV s pz = ([], 51, (q : Int))) := ⟨by rw [HR.out.1, outP, if_pos HLT.out, ← hd1]; exact if_neg (show ¬ (51 : Int) = 0 by decide)⟩
              clear hd1 hd2 hd3 hS
              go_wp2_with (go_at_call 38; (with_reducible refine (runes_value.calls 3 c d false _ HV.out).mono ?_); rintro e w6 ⟨rfl, hd⟩; have n0 := Aside0.mk (HU.out.below hd.below); clear HU hd; have HU := n0; clear n0; have b0 : w6.cell? ⟨g, 0, none⟩ = some (.int .i64 0) := blk_cell HU.out.bk 0; have b1 : w6.cell? ⟨g, 1, none⟩ = some (.int .i64 0) := blk_cell HU.out.bk 1; have f0 := blk_frozen HU.out.bk 0; have f1 := blk_frozen HU.out.bk 1)
              refine bodyPost_ret (results_tc rfl _ _ g 33 #[.int .i64 51, .int .i64 (q : Int)] (0, 0) _ rfl (by refine blk_put (cs := #[.int .i64 51, .int .i64 0]) ?_ 1 _ rfl; refine blk_put (cs := #[.int .i64 0, .int .i64 0]) ?_ 0 _ rfl; exact HU.out.bk) Try.underlying33 rfl (by kernel_rfl)) rfl ?_
              exact ⟨.slice none 0 0, by rw [HE.out]; rfl, by rw [HE.out]; exact Kd.R_nil _ _ _ _ _, HU.out.fault 51 (q : Int)⟩
            | true =>
              rw [if_pos rfl] at hd1
              obtain ⟨m, hm⟩ : ∃ m, wrap64 (d * wt) = m := ⟨_, rfl⟩
              rw [hm] at hd1
              obtain ⟨st2, hst⟩ : ∃ x, wrap64 (st + m) = x := ⟨_, rfl⟩
              rw [hst] at hd1
              have q3 : IntKind.i64.wrap (d * wt) = m := by rw [i64_w]; exact hm
              have q4 : IntKind.i64.wrap (st + m) = st2 := by rw [i64_w]; exact hst
              by_cases hov : st2 > 2147483647
              · rw [if_pos hov] at hd1
                have HE : Aside0 (unpV s pz = ([], 52, (q : Int))) := ⟨by rw [HR.out.1, outP, if_pos HLT.out, ← hd1]; exact if_neg (show ¬ (52 : Int) = 0 by decide)⟩
                have k1 : decide (st2 > 2147483647) = true := decide_eq_true hov
                have k2 : decide (2147483647 < st2) = true := decide_eq_true hov
                clear hd1 hd2 hd3 hS hm hst hov
                go_wp2_with (go_at_call 38; (with_reducible refine (runes_value.calls 3 c d true _ HV.out).mono ?_); rintro e w6 ⟨rfl, hd⟩; have n0 := Aside0.mk (HU.out.below hd.below); clear HU hd; have HU := n0; clear n0; have b0 : w6.cell? ⟨g, 0, none⟩ = some (.int .i64 0) := blk_cell HU.out.bk 0; have b1 : w6.cell? ⟨g, 1, none⟩ = some (.int .i64 0) := blk_cell HU.out.bk 1; have f0 := blk_frozen HU.out.bk 0; have f1 := blk_frozen HU.out.bk 1)
                refine bodyPost_ret (results_tc rfl _ _ g 33 #[.int .i64 52, .int .i64 (q : Int)] (0, 0) _ rfl (by refine blk_put (cs := #[.int .i64 52, .int .i64 0]) ?_ 1 _ rfl; refine blk_put (cs := #[.int .i64 0, .int .i64 0]) ?_ 0 _ rfl; exact HU.out.bk) Try.underlying33 rfl (by kernel_rfl)) rfl ?_
                exact ⟨.slice none 0 0, by rw [HE.out]; rfl, by rw [HE.out]; exact Kd.R_nil _ _ _ _ _, HU.out.fault 52 (q : Int)⟩
              · rw [if_neg hov] at hd1
                have k1 : decide (st2 > 2147483647) = false := decide_eq_false hov
                have k2 : decide (2147483647 < st2) = false := decide_eq_false hov
                obtain ⟨tb, htb⟩ : ∃ t, bndV k bias = t := ⟨_, rfl⟩
                rw [htb] at hd1
                have HT := Aside0.mk (show runes_bound.f k bias = some tb from by rw [← htb]; rfl)
                by_cases hdt : d < tb
                · rw [if_pos hdt] at hd1
                  have k3 : decide (d < tb) = true := decide_eq_true hdt
                  obtain ⟨cn, ps, tq, n2, pl, e1, e2, e3, e4, e5, e6, e7, e8, hcn, hB, hE0, hE1⟩ := round_facts s hS (unpV s pz) out p q k9 n place bias st2 first HLT.out hq hd1 HR.out
                  have HI := Aside0.mk (isV_eq n2)
                  have HB2 := Aside0.mk hB
                  have HCN := Aside0.mk hcn
                  have HQ := Aside0.mk (show q < s.size from hq)
                  have HL := Aside0.mk (show (out.length + 1) * 4 ≤ 140737488355328 by clear e1 e2 e3 e4 hm hst q3 q4 HD; omega)
                  have e9 : wrap64 ((q : Int)) = (q : Int) := wrap_id _ (by clear e1 e2 e3 e4 hm hst q3 q4; omega) (by clear e1 e2 e3 e4 hm hst q3 q4; omega)
                  clear hB hcn
                  cases hiv : isV n2 with
                  | false =>
                    rw [hiv] at HI
                    have HE := Aside0.mk (hE0 hiv)
                    clear HD hd1 hd2 hd3 hS hm hst hov hdt htb hE0 hE1 hiv
                    go_wp2_with (first | (go_at_call 38; (with_reducible refine (runes_value.calls 3 c d true _ HV.out).mono ?_); rintro e w6 ⟨rfl, hd⟩; have n0 := Aside0.mk (HU.out.below hd.below); clear HU hd; have HU := n0; clear n0) | (go_at_call 39; (with_reducible refine (runes_bound.calls k bias _ _ HT.out).mono ?_); rintro e w7 ⟨rfl, hb⟩; have n0 := Aside0.mk (HU.out.below hb); clear HU hb; have HU := n0; clear n0) | (go_at_call 40; (with_reducible refine (runes_is.calls n2 false _ HI.out).mono ?_); rintro e w8 ⟨rfl, hd⟩; have n0 := Aside0.mk (HU.out.below hd.below); clear HU hd; have HU := n0; clear n0; have b0 : w8.cell? ⟨g, 0, none⟩ = some (.int .i64 0) := blk_cell HU.out.bk 0; have b1 : w8.cell? ⟨g, 1, none⟩ = some (.int .i64 0) := blk_cell HU.out.bk 1; have f0 := blk_frozen HU.out.bk 0; have f1 := blk_frozen HU.out.bk 1))
                    refine bodyPost_ret (results_tc rfl _ _ g 33 #[.int .i64 50, .int .i64 (q : Int)] (0, 0) _ rfl (by refine blk_put (cs := #[.int .i64 50, .int .i64 0]) ?_ 1 _ rfl; refine blk_put (cs := #[.int .i64 0, .int .i64 0]) ?_ 0 _ rfl; exact HU.out.bk) Try.underlying33 rfl (by kernel_rfl)) rfl ?_
                    exact ⟨.slice none 0 0, by rw [HE.out]; rfl, by rw [HE.out]; exact Kd.R_nil _ _ _ _ _, HU.out.fault 50 (q : Int)⟩
                  | true =>
                    rw [hiv] at HI
                    have HE := Aside0.mk (hE1 hiv)
                    obtain ⟨ys, hys⟩ : ∃ ys, out ++ [0] = ys := ⟨_, rfl⟩
                    have HY := Aside0.mk hys
                    have HYL := Aside0.mk (show 0 < ys.length ∧ ys.length = out.length + 1 from by rw [← hys, List.length_append]; simp)
                    have HN2 := Aside0.mk (show 0 ≤ n2 ∧ n2 ≤ 1114111 from by unfold isV at hiv; have h_ := of_decide_eq_true hiv; exact ⟨h_.1, h_.2.1⟩)
                    clear HD hd1 hd2 hd3 hS hm hst hov hdt htb hE0 hE1 hiv hys
                    go_wp2_with (first | (go_at_call 38; (with_reducible refine (runes_value.calls 3 c d true _ HV.out).mono ?_); rintro e w6 ⟨rfl, hd⟩; have n0 := Aside0.mk (HU.out.below hd.below); clear HU hd; have HU := n0; clear n0) | (go_at_call 39; (with_reducible refine (runes_bound.calls k bias _ _ HT.out).mono ?_); rintro e w7 ⟨rfl, hb⟩; have n0 := Aside0.mk (HU.out.below hb); clear HU hb; have HU := n0; clear n0) | (go_at_call 40; (with_reducible refine (runes_is.calls n2 true _ HI.out).mono ?_); rintro e w8 ⟨rfl, hd⟩; have n0 := Aside0.mk (HU.out.below hd.below); clear HU hd; have HU := n0; clear n0) | ((with_reducible refine gate_builtin (b := .append) (xs := #[.tmp 108, .tmp 109]) rfl ?_); at_builtin; refine Kd.R_append (Kd.int .i32) (w0 := w) w.heap.size rfl (.tmp 108) (.tmp 109) 28 21 (.int .i32 0) 4 rfl Try.underlying28 info21 rfl (by decide) (by omega) _ out 0 [.int .i32 0] (fun _ => True) (fun _ => False) rfl rfl rfl (fun _ hk => hk.elim) (fun _ _ => trivial) HU.out.ow HU.out.bl (below_size HU.out.bl) HL.out ?_; intro v9 w9 ho hb hg hat; rw [HY.out] at ho; have n0 : Aside0 (UI w g v9 ys w9) := ⟨HU.out.grown ho hb hg⟩; clear ho hb hg hat HU; have HU := n0; clear n0; obtain ⟨g9, c9, rfl, hbg, hlt9, _⟩ := Kd.R_form HU.out.ow HYL.out.1; have HG9 := Aside0.mk hbg; clear hbg hlt9))
                    have hc9 := (Kd.R_reads' HU.out.ow).2.1
                    have hyl := HYL.out.2
                    have hpl := HB2.out.2.2.2.1
                    have HO9 := Aside0.mk HU.out.ow
                    have x1 : IntKind.i64.wrap ((pl : Int) + 1) = ((pl + 1 : Nat) : Int) := by have h_ := HB2.out.2.2.2.2.1; have h2_ := HQ.out; have h3_ := HS.out; have h4_ := HLT.out; clear e1 e2 e3 e4 q3 q4; rw [i64_w, wrap_id _ (by omega) (by omega)]; rfl
                    have y1 : (0 : Int) ≤ (pl : Int) + 1 := by omega
                    have y2 : (pl : Int) + 1 ≤ (ys.length : Int) := by clear e1 e2 e3 e4 q3 q4 x1; omega
                    have y3 : (0 : Int) ≤ (pl : Int) := by omega
                    have y4 : (pl : Int) ≤ (ys.length : Int) := by clear e1 e2 e3 e4 q3 q4 x1; omega
                    have x2 : (pl + 1 ≤ ys.length) = True := eq_true (by clear e1 e2 e3 e4 q3 q4 x1; omega)
                    have x3 : (pl ≤ ys.length) = True := eq_true (by clear e1 e2 e3 e4 q3 q4 x1; omega)
                    have x4 : (ys.length ≤ c9) = True := eq_true hc9
                    have x5 : decide (pl + 1 ≤ ys.length) = true := decide_eq_true (by clear e1 e2 e3 e4 q3 q4 x1; omega)
                    have x6 : decide (pl ≤ ys.length) = true := decide_eq_true (by clear e1 e2 e3 e4 q3 q4 x1; omega)
                    have x7 : decide (ys.length ≤ c9) = true := decide_eq_true hc9
                    replace y1 := eq_true y1
                    replace y2 := eq_true y2
                    replace y3 := eq_true y3
                    replace y4 := eq_true y4
                    have HPY := Aside0.mk (show pl < ys.length by clear e1 e2 e3 e4 q3 q4 x1; omega)
                    have HCY := Aside0.mk hc9
                    clear hyl hpl hc9
                    obtain ⟨A9, z1⟩ : ∃ A : Option Addr, (if c9 = pl + 1 then some (⟨g9, 0, none⟩ : Addr) else some ⟨g9, pl + 1, none⟩) = A := ⟨_, rfl⟩
                    have Z1 := Aside0.mk z1
                    have z2 : (c9 = pl) = False := eq_false (by have h4 := HCY.out; have h5 := HPY.out; clear e1 e2 e3 e4 q3 q4 x1; omega)
                    go_region_law (refine copy_in (by kernel_rfl) (.tmp 114) (.tmp 117) 28 (by kernel_rfl) (by kernel_rfl) (by kernel_rfl) w.heap.size g9 c9 pl ys A9 (some ⟨g9, pl, none⟩) (ys.length - (pl + 1)) (c9 - (pl + 1)) (ys.length - pl) (c9 - pl) (by kernel_rfl) (by kernel_rfl) HPY.out rfl rfl (by have h4 := HCY.out; intro h_; exact ⟨Z1.out.symm.trans (if_neg (by clear e1 e2 e3 e4 q3 q4 x1; omega)), rfl⟩) HO9.out ?_; intro w2 ho hg; have HU2 : Aside0 (UI w g (.slice (some ⟨g9, 0, none⟩) ys.length c9) (shiftL ys pl) w2) := ⟨HU.out.drew.grown ho (pw_below_grown HU.out.bl.drew _ (below_size HU.out.bl.drew) hg (fun k hk => by injection hk with hk; rw [← hk]; exact HG9.out)) hg⟩; clear ho hg)
                    clear HU z1 z2 x1 x2 x3 x4 x5 x6 x7 y1 y2 y4 HO9
                    have HR2 := Kd.R_cell (0 : Int) (show Kd.R (Kd.int .i32) 21 w2 w.heap.size (fun _ => True) (.slice (some ⟨g9, 0, none⟩) (shiftL ys pl).length c9) (shiftL ys pl) by rw [shift_len ys pl HPY.out]; exact HU2.out.ow) (pl : Int) (by omega) (by rw [shift_len ys pl HPY.out]; have h_ := HPY.out; clear e1 e2 e3 e4 q3 q4; omega)
                    rw [Int.toNat_natCast] at HR2
                    obtain ⟨r1, r2⟩ := HR2
                    have x1 : wrap32 n2 = n2 := by have h_ := HN2.out; clear e1 e2 e3 e4 q3 q4; unfold wrap32; omega
                    have x2 : (pl < ys.length) = True := eq_true HPY.out
                    have x3 : ((pl : Int) < (ys.length : Int)) = True := eq_true (by have h_ := HPY.out; clear e1 e2 e3 e4 q3 q4; omega)
                    have x4 : decide (pl < ys.length) = true := decide_eq_true HPY.out
                    have x5 : IntKind.i64.wrap ((pl : Int) + 1) = ((pl + 1 : Nat) : Int) := by have h_ := HB2.out.2.2.2.2.1; have h0_ := HB2.out.2.2.2.1; have h2_ := HQ.out; have h3_ := HS.out; have h4_ := HLT.out; clear e1 e2 e3 e4 q3 q4; rw [i64_w, wrap_id _ (by omega) (by omega)]; rfl
                    have HAD := Aside0.mk (adapt_some st2 cn first HB2.out.1 HB2.out.2.1 HB2.out.2.2.2.2.2.2)
                    have HU : Aside0 (UI w g (.slice (some ⟨g9, 0, none⟩) ys.length c9) ((shiftL ys pl).set pl n2) (w2.setCell ⟨g9, pl, none⟩ (.int .i32 n2))) := by
                      have h_ := Kd.R_putg HU2.out.ow (pl : Int) n2
                      rw [Int.toNat_natCast] at h_
                      exact ⟨HU2.out.grown h_.1 (pw_below_grown HU2.out.bl _ (below_size HU2.out.bl) h_.2 (fun k hk => by injection hk with hk; rw [← hk]; exact HG9.out)) h_.2⟩
                    go_wp2_with (go_at_call 41; (with_reducible refine (runes_adapt.calls 12 st2 cn first _ _ HAD.out).mono ?_); rintro e w3 ⟨rfl, hd⟩; have n0 := Aside0.mk (HU.out.below hd.below); clear HU hd; have HU := n0; clear n0)
                    go_roundg k9
                    case measure => omega
                    case rel =>
                      have hb2 := HB2.out
                      have hq2 := HQ.out
                      have hpl := hb2.2.2.2.1
                      have hin := ins_len out pl n2
                      have hsi := shift_ins out pl n2 hpl
                      rw [HY.out] at hsi
                      rw [hsi] at HU
                      clear e1 e2 e3 e4 q3 q4 x1 x5
                      exact ⟨insL out pl n2, q + 1, n2, _, _, _, rfl, rfl, rfl, rfl, rfl, ⟨HE.out, by omega, by omega, by omega, by omega, by omega⟩, HU⟩
                · rw [if_neg hdt] at hd1
                  have k3 : decide (d < tb) = false := decide_eq_false hdt
                  have HD2 := Aside0.mk (show digP s bias k8 (q + 1) st2 (wrap64 (wt * wrap64 (36 - tb))) (wrap64 (k + 36)) = digP s bias s.size p 0 1 36 ∧ q + 1 ≤ s.size ∧ s.size - (q + 1) ≤ k8 from ⟨hd1, by omega, by omega⟩)
                  clear hd1 hd2 hd3 hS hm hst hov hdt htb
                  go_wp2_with (first | (go_at_call 38; (with_reducible refine (runes_value.calls 3 c d true _ HV.out).mono ?_); rintro e w6 ⟨rfl, hd⟩; have n0 := Aside0.mk (HU.out.below hd.below); clear HU hd; have HU := n0; clear n0) | (go_at_call 39; (with_reducible refine (runes_bound.calls k bias _ _ HT.out).mono ?_); rintro e w7 ⟨rfl, hb⟩; have n0 := Aside0.mk (HU.out.below hb); clear HU hb; have HU := n0; clear n0))
                  go_roundg k8
                  case measure => omega
                  case rel => exact ⟨q + 1, st2, _, _, rfl, rfl, rfl, rfl, HD2, HU⟩
          · have hl2 : ((q : Int) == (s.size : Int)) = true := beq_iff_eq.mpr (by omega)
            have hl3 : (q == s.size) = true := beq_iff_eq.mpr (by omega)
            have hl4 : decide (q = s.size) = true := decide_eq_true (by omega)
            have he : digP s bias gk q st wt k = (51, 0, q) := by
              cases gk with
              | zero => rfl
              | succ k8 => rw [digP, if_neg hq]
            have HE : Aside0 (unpV s pz = ([], 51, (q : Int))) := ⟨by rw [HR.out.1, outP, if_pos HLT.out, ← hd1, he]; exact if_neg (show ¬ (51 : Int) = 0 by decide)⟩
            have b0 : wr.cell? ⟨g, 0, none⟩ = some (.int .i64 0) := blk_cell HU.out.bk 0
            have b1 : wr.cell? ⟨g, 1, none⟩ = some (.int .i64 0) := blk_cell HU.out.bk 1
            have f0 := blk_frozen HU.out.bk 0
            have f1 := blk_frozen HU.out.bk 1
            clear hd1 hd2 hd3 hS hq he
            go_wp2_with (fail)
            refine bodyPost_ret (results_tc rfl _ _ g 33 #[.int .i64 51, .int .i64 (q : Int)] (0, 0) _ rfl (by refine blk_put (cs := #[.int .i64 51, .int .i64 0]) ?_ 1 _ rfl; refine blk_put (cs := #[.int .i64 0, .int .i64 0]) ?_ 0 _ rfl; exact HU.out.bk) Try.underlying33 rfl (by kernel_rfl)) rfl ?_
            exact ⟨.slice none 0 0, by rw [HE.out]; rfl, by rw [HE.out]; exact Kd.R_nil _ _ _ _ _, HU.out.fault 51 (q : Int)⟩
      · have hl2 : decide ((p : Int) < (s.size : Int)) = false := decide_eq_false (by omega)
        have hl4 : decide (p < s.size) = false := decide_eq_false hlt
        have he : outP s gk out p n place bias first = (out, 0, 0) := by
          cases gk with
          | zero => rfl
          | succ k9 => rw [outP, if_neg hlt]
        have HE : Aside0 (unpV s pz = (out, 0, 0)) := ⟨by rw [HR.out.1, he]⟩
        have b0 : wr.cell? ⟨g, 0, none⟩ = some (.int .i64 0) := blk_cell HU.out.bk 0
        have b1 : wr.cell? ⟨g, 1, none⟩ = some (.int .i64 0) := blk_cell HU.out.bk 1
        have f0 := blk_frozen HU.out.bk 0
        have f1 := blk_frozen HU.out.bk 1
        clear he hlt
        go_wp2_with (fail)
        refine bodyPost_ret (results_tc rfl _ _ g 33 #[.int .i64 0, .int .i64 0] (0, 0) _ rfl (by refine blk_put (cs := #[.int .i64 0, .int .i64 0]) ?_ 1 _ rfl; refine blk_put (cs := #[.int .i64 0, .int .i64 0]) ?_ 0 _ rfl; exact HU.out.bk) Try.underlying33 rfl (by kernel_rfl)) rfl ?_
        exact ⟨_, by rw [HE.out], by rw [HE.out]; exact own_put (own_put HU.out.ow HU.out.bk (by decide) 0 _) (blk_put HU.out.bk 0 _ rfl) (by decide) 1 _, HU.out.fault 0 0⟩
end Go.Proofs.Ytabjfpjmiiiecaa.UN
