/- QueueRings: every script with two rings, of numbers and of structs, answers as the reference's rings do (walked by hand). -/
import Derived.Test.YtekjkookkjjbcaaPairM
import Derived.Test.YtekjkookkjjbcaaOpenOps
namespace Go.Proofs.Ytekjkookkjjbcaa.Pure
set_option linter.unusedVariables false
set_option linter.unusedSimpArgs false
set_option linter.unusedVariables false
set_option linter.unusedSimpArgs false
open Go.RowKit Go.Proofs.YtekjkookkjjbcaaW.PrintWords Go.Proofs.YtekjkookkjjbcaaW.PrintLast Go.Proofs.YtekjkookkjjbcaaW.PrintMore Go.Proofs.Ytekjkookkjjbcaa.B Go.Proofs.Ytekjkookkjjbcaa.M Go.Proofs.Ytekjkookkjjbcaa.PA Go.Proofs.Ytekjkookkjjbcaa.PB
open Go.Proofs.Ytekjkookkjjbcaa.FL (pushL dropL newC both)
set_option maxHeartbeats 8000000 in
set_option maxRecDepth 100000 in
theorem rings_all (most : Int) (a1 : Option Addr) (n cap1 : Nat) (w : World) (who op num : Nat → Int) (hn : n ≤ 8796093022208)
    (h1 : ∀ i, i < n → ∃ x, a1 = some x ∧ w.cell? (x.add (i * 3)) = some (.int .i64 (who i)) ∧ w.cell? ⟨(x.add (i * 3)).block, (x.add (i * 3)).off + 1, none⟩ = some (.int .i64 (op i)) ∧ w.cell? ⟨(x.add (i * 3)).block, (x.add (i * 3)).off + 2, none⟩ = some (.int .i64 (num i))) :
    Calls Try.prog 8 #[.int .i64 most, .slice a1 n cap1] w fun e w' => e = .returned (.bool true) ∧ Below w.heap.size w w' := by
  have H1 := Aside0.mk h1
  have HN := Aside0.mk hn
  have HE := Aside0.mk (emp4 w)
  obtain ⟨c, hc⟩ : ∃ c, newC most = c := ⟨_, rfl⟩
  have HC := Aside0.mk hc
  clear h1 hn hc
  go_enter Try.func8, Try.ntmps8
  go_wp2_with (first
    | ((go_at_call 25); (with_reducible refine (m_new1 HE.out most).mono ?_); rintro e w1 ⟨rp, rfl, nr, h1⟩; rw [HC.out]; have NR := Aside0.mk nr; have HA := Aside0.mk h1; clear HE nr h1)
    | ((go_at_call 40); (with_reducible refine (m_new2 HA.out most).mono ?_); rintro e w2 ⟨rq, rfl, nr, h2⟩; rw [HC.out]; have NQ := Aside0.mk nr; have HB := Aside0.mk h2; clear HA nr h2)
    | ((go_at_call 30); (with_reducible refine (m_new4 HX.out most).mono ?_); rintro e w4 ⟨yp, rfl, nr, h4⟩; rw [HC.out]; have HL := Aside0.mk h4; have n1 := NR.out.trans NX.out.symm; have n2 := NQ.out.trans nr.symm; clear HX nr h4)
    | ((go_at_call 30); (with_reducible refine (m_new3 HB.out most).mono ?_); rintro e w3 ⟨xp, rfl, nr, h3⟩; rw [HC.out]; have NX := Aside0.mk nr; have HX := Aside0.mk h3; clear HB nr h3))
  go_loopg [5, 7, 9, 11, 63] (n + 1) (fun kq v5 v7 v9 v11 v63 W => ∃ (i : Nat) (rp rq xp yp : Option Addr) (ma mb : Int) (xs : List Int) (ys : List RH.T2), v5 = .pointer rp ∧ v7 = .pointer rq ∧ v9 = .pointer xp ∧ v11 = .pointer yp ∧ v63 = .int .i64 (i : Int) ∧ Aside0 (n - i < kq ∧ i ≤ n) ∧ Aside0 (Has (L4 w rp xp ma ma xs (both xs) rq yp mb mb ys ys) W))
  case atStart => exact ⟨0, rp, rq, xp, yp, most, most, [], [], rfl, rfl, rfl, rfl, rfl, ⟨by omega, by omega⟩, HL⟩
  case round =>
    clear HL n1 n2 NR NQ NX HC
    obtain ⟨i, rp, rq, xp, yp, ma, mb, xs, ys, rfl, rfl, rfl, rfl, rfl, HI, HL⟩ := hrel
    by_cases hlt : i < n
    · have hl2 : decide ((i : Int) < (n : Int)) = true := decide_eq_true (by omega)
      have hl3 : decide (i < n) = true := decide_eq_true hlt
      obtain ⟨x, rfl, x0, x1, x2⟩ := H1.out i hlt
      have c0 := pw_cell_below HL.out.bl x0
      have c1 := pw_cell_below HL.out.bl x1
      have c2 := pw_cell_below HL.out.bl x2
      have p1 := eq_true (show (0 : Int) ≤ (i : Int) by omega)
      have p2 := eq_true (show (i : Int) < (n : Int) by omega)
      have q1 : IntKind.i64.wrap ((i : Int) + 1) = ((i + 1 : Nat) : Int) := by have h_ := HI.out; have h2_ := HN.out; rw [i64_w, wrap_id _ (by omega) (by omega)]; rfl
      cases gk with
      | zero => exact absurd HI.out.1 (Nat.not_lt_zero _)
      | succ k9 =>
      have HI2 := Aside0.mk (show n - (i + 1) < k9 ∧ i + 1 ≤ n from ⟨by have h_ := HI.out; omega, by omega⟩)
      obtain ⟨q, hq⟩ : ∃ q, who i = q := ⟨_, rfl⟩
      obtain ⟨d, hd⟩ : ∃ d, op i = d := ⟨_, rfl⟩
      obtain ⟨N, hN⟩ : ∃ N, num i = N := ⟨_, rfl⟩
      rw [hq] at c0
      rw [hd] at c1
      rw [hN] at c2
      have h5 := HL.out.new #[.int .i64 q, .int .i64 d, .int .i64 N] 33
      clear x0 x1 x2 hlt hd hN hq HL
      go_upto_block 2 with (fail)
      obtain ⟨ob, hob⟩ : ∃ ob, wr.heap.size = ob := ⟨_, rfl⟩
      rw [hob] at h5
      rw [hob]
      obtain ⟨V, hV⟩ : ∃ V, wr.alloc (.cells #[.int .i64 q, .int .i64 d, .int .i64 N] 33 (0, 0)) = V := ⟨_, rfl⟩
      rw [hV] at h5
      rw [hV]
      have H5 := Aside0.mk h5
      clear h5 hV hob c0 c1 c2 p1 p2 hl2 hl3
      go_cut [5, 6, 7, 8, 9, 10, 11] from 68 to 178 (fun s5 s6 s7 s8 s9 s10 s11 wx => ∃ (rp rq xp yp : Option Addr), s5 = .pointer rp ∧ s7 = .pointer rq ∧ s9 = .pointer xp ∧ s11 = .pointer yp ∧ Aside0 (∃ (ma mb : Int) (xs : List Int) (ys : List RH.T2), Has (L4 w rp xp ma ma xs (both xs) rq yp mb mb ys ys) wx))
      case first =>
        have c0 : V.cell? ⟨ob, 0, none⟩ = some (.int .i64 q) := blk_cell H5.out.snd.box 0
        have c1 : V.cell? ⟨ob, 1, none⟩ = some (.int .i64 d) := blk_cell H5.out.snd.box 1
        have c2 : V.cell? ⟨ob, 2, none⟩ = some (.int .i64 N) := blk_cell H5.out.snd.box 2
        have kl : ob < V.heap.size := blk_lt H5.out.snd.box
        by_cases q0 : q = 0
        · subst q0
          by_cases d4 : d = 4
          · subst d4
            obtain ⟨cN, hcN⟩ : ∃ cN, newC N = cN := ⟨_, rfl⟩
            have HC := Aside0.mk hcN
            clear hcN
            go_wp2_with (first
              | ((go_at_call 25); (with_reducible refine (l_new1 H5.out N).mono ?_); rintro e w1 ⟨rp2, rfl, nr, h1⟩; rw [HC.out]; have NR := Aside0.mk nr; have HA := Aside0.mk h1; clear nr h1; have c0 := blk_cell HA.out.snd.box 0; have c1 := blk_cell HA.out.snd.box 1; have c2 := blk_cell HA.out.snd.box 2; have kl := blk_lt HA.out.snd.box)
              | ((go_at_call 30); (with_reducible refine (l_new2 HA.out N).mono ?_); rintro e w2 ⟨xp2, rfl, nr, h2⟩; rw [HC.out]; have n1 := NR.out.trans nr.symm; have HB := Aside0.mk h2; clear nr h2; have c0 := blk_cell HB.out.snd.box 0; have c1 := blk_cell HB.out.snd.box 1; have c2 := blk_cell HB.out.snd.box 2; have kl := blk_lt HB.out.snd.box))
            go_meet
            exact ⟨_, _, _, _, rfl, rfl, rfl, rfl, ⟨_, _, _, _, HB.out.fst⟩⟩
          · have k0 : (d == 4) = false := beq_eq_false_iff_ne.2 d4
            have k1 : decide (d = 4) = false := decide_eq_false d4
            clear d4
            go_wp2_with (first
              | ((go_at_call 41); (with_reducible refine (l_first H5.out).mono ?_); rintro e w1 ⟨rfl, xs2, h1⟩; have HA := Aside0.mk h1; clear h1; have c0 := blk_cell HA.out.snd.box 0; have c1 := blk_cell HA.out.snd.box 1; have c2 := blk_cell HA.out.snd.box 2; have kl := blk_lt HA.out.snd.box))
            go_meet
            exact ⟨_, _, _, _, rfl, rfl, rfl, rfl, ⟨_, _, _, _, HA.out.fst⟩⟩
        · have k0 : (q == 0) = false := beq_eq_false_iff_ne.2 q0
          have k1 : decide (q = 0) = false := decide_eq_false q0
          by_cases q1 : q = 1
          · subst q1
            clear k0 k1 q0
            by_cases d4 : d = 4
            · subst d4
              obtain ⟨cN, hcN⟩ : ∃ cN, newC N = cN := ⟨_, rfl⟩
              have HC := Aside0.mk hcN
              clear hcN
              go_wp2_with (first
                | ((go_at_call 40); (with_reducible refine (l_new3 H5.out N).mono ?_); rintro e w1 ⟨rp2, rfl, nr, h1⟩; rw [HC.out]; have NR := Aside0.mk nr; have HA := Aside0.mk h1; clear nr h1; have c0 := blk_cell HA.out.snd.box 0; have c1 := blk_cell HA.out.snd.box 1; have c2 := blk_cell HA.out.snd.box 2; have kl := blk_lt HA.out.snd.box)
                | ((go_at_call 30); (with_reducible refine (l_new4 HA.out N).mono ?_); rintro e w2 ⟨xp2, rfl, nr, h2⟩; rw [HC.out]; have n1 := NR.out.trans nr.symm; have HB := Aside0.mk h2; clear nr h2; have c0 := blk_cell HB.out.snd.box 0; have c1 := blk_cell HB.out.snd.box 1; have c2 := blk_cell HB.out.snd.box 2; have kl := blk_lt HB.out.snd.box))
              go_meet
              exact ⟨_, _, _, _, rfl, rfl, rfl, rfl, ⟨_, _, _, _, HB.out.fst⟩⟩
            · have k0 : (d == 4) = false := beq_eq_false_iff_ne.2 d4
              have k1 : decide (d = 4) = false := decide_eq_false d4
              clear d4
              go_wp2_with (first
                | ((go_at_call 42); (with_reducible refine (l_second H5.out).mono ?_); rintro e w1 ⟨rfl, xs2, h1⟩; have HA := Aside0.mk h1; clear h1; have c0 := blk_cell HA.out.snd.box 0; have c1 := blk_cell HA.out.snd.box 1; have c2 := blk_cell HA.out.snd.box 2; have kl := blk_lt HA.out.snd.box))
              go_meet
              exact ⟨_, _, _, _, rfl, rfl, rfl, rfl, ⟨_, _, _, _, HA.out.fst⟩⟩
          · have k2 : (q == 1) = false := beq_eq_false_iff_ne.2 q1
            have k3 : decide (q = 1) = false := decide_eq_false q1
            clear q0 q1
            by_cases d4 : d = 4
            · subst d4
              go_wp2_with (fail)
              go_meet
              exact ⟨_, _, _, _, rfl, rfl, rfl, rfl, ⟨_, _, _, _, H5.out.fst⟩⟩
            · have k4 : (d == 4) = false := beq_eq_false_iff_ne.2 d4
              have k5 : decide (d = 4) = false := decide_eq_false d4
              clear d4
              go_wp2_with (fail)
              go_meet
              exact ⟨_, _, _, _, rfl, rfl, rfl, rfl, ⟨_, _, _, _, H5.out.fst⟩⟩
      case rest =>
        clear H5
        obtain ⟨rp2, rq2, xp2, yp2, rfl, rfl, rfl, rfl, HZ⟩ := hcut
        obtain ⟨ma2, mb2, xs2, ys2, h2⟩ := HZ.out
        have HH := Aside0.mk h2
        clear HZ h2
        go_wp2_with (first
          | ((go_at_call 29); (with_reducible refine (l_lenA HH.out).mono ?_); rintro e w1 ⟨rfl, h1⟩; clear HH; have HH := Aside0.mk h1; clear h1)
          | ((go_at_call 26); (with_reducible refine (l_roomA HH.out).mono ?_); rintro e w1 ⟨rfl, h1⟩; clear HH; have HH := Aside0.mk h1; clear h1)
          | ((go_at_call 44); (with_reducible refine (l_lenB HH.out).mono ?_); rintro e w1 ⟨rfl, h1⟩; clear HH; have HH := Aside0.mk h1; clear h1)
          | ((go_at_call 45); (with_reducible refine (l_roomB HH.out).mono ?_); rintro e w1 ⟨rfl, h1⟩; clear HH; have HH := Aside0.mk h1; clear h1)
          | ((go_at_call 37); (with_reducible refine (l_lenX HH.out).mono ?_); rintro e w1 ⟨rfl, h1⟩; clear HH; have HH := Aside0.mk h1; clear h1)
          | ((go_at_call 43); (with_reducible refine (l_roomX HH.out).mono ?_); rintro e w1 ⟨rfl, h1⟩; clear HH; have HH := Aside0.mk h1; clear h1)
          | ((go_at_call 37); (with_reducible refine (l_lenY HH.out).mono ?_); rintro e w1 ⟨rfl, h1⟩; clear HH; have HH := Aside0.mk h1; clear h1)
          | ((go_at_call 43); (with_reducible refine (l_roomY HH.out).mono ?_); rintro e w1 ⟨rfl, h1⟩; clear HH; have HH := Aside0.mk h1; clear h1))
        go_roundg k9
        case measure => omega
        case rel => exact ⟨i + 1, rp2, rq2, xp2, yp2, ma2, mb2, xs2, ys2, rfl, rfl, rfl, rfl, rfl, HI2, HH⟩
    · have hl2 : decide ((i : Int) < (n : Int)) = false := decide_eq_false (by omega)
      have hl3 : decide (i < n) = false := decide_eq_false hlt
      clear hlt
      go_wp2_with (first
        | ((go_at_call 25); (with_reducible refine (e_new HL.out).mono ?_); rintro e w5 ⟨r2, rfl, h5⟩; have HA := Aside0.mk h5; clear h5)
        | ((go_at_call 27); (with_reducible refine (e_push HA.out).mono ?_); rintro e w6 ⟨rfl, h6⟩; have HB := Aside0.mk h6; clear h6)
        | ((go_at_call 28); (with_reducible refine (e_pop HB.out).mono ?_); rintro e w7 ⟨rfl, h7⟩; have HZ := Aside0.mk h7; clear h7))
      go_ret
      exact ⟨rfl, HZ.out⟩
theorem QueueRings (a0 : Int) (a1 : Option Addr) (len1 cap1 : Nat) (f : Nat → Int × Int × Int) (w : World) (w0 : (Lit.int .i64 a0).wf = true)
    (h1 : ∀ i, i < len1 → ∃ x, a1 = some x ∧ w.cell? (x.add (i * 3)) = some (.int .i64 (f i).1) ∧ w.cell? ⟨(x.add (i * 3)).block, (x.add (i * 3)).off + 1, none⟩ = some (.int .i64 (f i).2.1) ∧ w.cell? ⟨(x.add (i * 3)).block, (x.add (i * 3)).off + 2, none⟩ = some (.int .i64 (f i).2.2)) (_y1 : len1 * 24 ≤ 140737488351232) :
    Calls Try.prog 8 #[.int .i64 a0, .slice a1 len1 cap1] w fun e w' => e = .returned (.bool true) ∧ Below w.heap.size w w' :=
  rings_all a0 a1 len1 cap1 w (fun i => (f i).1) (fun i => (f i).2.1) (fun i => (f i).2.2) (by omega) h1
end Go.Proofs.Ytekjkookkjjbcaa.Pure
