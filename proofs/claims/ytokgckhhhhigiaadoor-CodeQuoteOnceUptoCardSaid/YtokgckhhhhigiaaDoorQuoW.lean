/- code.Quote (walked by hand). -/
import Derived.Test.YtokgckhhhhigiaaDoorQ
import Derived.Test.YtokgckhhhhigiaaDoorMk
import Derived.Test.YtokgckhhhhigiaaDoorTurn
import Derived.Test.YtokgckhhhhigiaaDoorDA
import Derived.WalkSpells
import Derived.Deep.LoopGhost
import Derived.Deep.CutRange
namespace Go.Proofs.YtokgckhhhhigiaaDoor.QW
set_option linter.unusedVariables false
set_option linter.unusedSimpArgs false
open Go.RowKit Go.Proofs.YtokgckhhhhigiaaDoorW.PrintWords Go.Proofs.YtokgckhhhhigiaaDoorW.PrintLast Go.Proofs.YtokgckhhhhigiaaDoorW.PrintMore Go.Proofs.YtokgckhhhhigiaaDoor.B Go.Proofs.YtokgckhhhhigiaaDoor.M Go.Proofs.YtokgckhhhhigiaaDoor.D Go.Proofs.YtokgckhhhhigiaaDoor.Turn Go.Proofs.YtokgckhhhhigiaaDoor.Glob Go.Proofs.YtokgckhhhhigiaaDoor.Q

theorem rd_nat (xs : List Int) (i : Nat) (h : i < xs.length) : rd xs (i : Int) = xs[i] := by
  unfold rd
  simp [List.getD_eq_getElem?_getD, h]
theorem ends_f (l : List Int) : code_ends.f l = some (endsB l) := by
  unfold code_ends.f
  match l with
  | [] => simp [endsB]
  | [a] => simp [endsB]
  | a :: b :: r =>
    have h0 : rd (a :: b :: r) 0 = a := by simp [rd]
    have h1 : rd (a :: b :: r) 1 = b := by simp [rd]
    rw [h0, h1, if_pos (by simp only [List.length_cons]; omega), if_pos (by simp only [List.length_cons]; omega)]
    by_cases ha : a = 13
    · rw [if_pos ha, if_pos (by simp only [List.length_cons]; omega)]
      simp [endsB, ha]
    · rw [if_neg ha]
      simp [endsB, ha]
theorem hex_one_fin : ∀ c : Fin 256, octet_HexOf.f 3 [(c.val : Int)] = some (strOfNums [hx ((c.val : Int) / 16), hx ((c.val : Int) % 16)]) := by decide +kernel
theorem hex_one (c : Int) (h : 0 ≤ c ∧ c ≤ 255) : octet_HexOf.f 3 [c] = some (strOfNums [hx (c / 16), hx (c % 16)]) := Q.of_fin (n := 256) (p := fun c => octet_HexOf.f 3 [c] = some (strOfNums [hx (c / 16), hx (c % 16)])) hex_one_fin c (by omega)

/-- The tail of a row that is read. -/
theorem C_tail {w : World} {A : Option Addr} {xs : List Int} {c : Nat} (h : Kd.C (Kd.int .u8) w A xs.length xs) (j : Nat) (hj : j ≤ xs.length) (hc : xs.length ≤ c) : Kd.C (Kd.int .u8) w (if c = j then A else A.map (·.add (j * 1))) (xs.drop j).length (xs.drop j) := Kd.C_drop h hj hc
theorem C_one {w : World} {A : Option Addr} {xs : List Int} {c : Nat} (h : Kd.C (Kd.int .u8) w A xs.length xs) (j : Nat) (hj : j < xs.length) (hc : xs.length ≤ c) : Kd.C (Kd.int .u8) w (if c = j then A else A.map (·.add (j * 1))) 1 [xs[j]] := by
  have := Kd.C_mid h (lo := j) (hi := j + 1) (by omega) (by omega) hc
  have e : (xs.take (j + 1)).drop j = [xs[j]] := by
    rw [List.drop_take, show j + 1 - j = 1 by omega, List.drop_eq_getElem_cons hj]
    rfl
  rw [e] at this
  exact this
theorem cuts (i' : Int) {i : TypeInfo} (hi : Tryd.prog.info? 5 = some i) (hsz : i.size = 1) (A : Option Addr) (n c j : Nat) (h : j ≤ n) (hj : i' = (j : Int)) : ∀ W : World, (Instr.slice 22 (.slice A n c) (some (.int .i64 i')) none none).run Tryd.prog W = .ok (.slice (if c = j then A else A.map (·.add (j * 1))) (n - j) (c - j)) W := by
  subst hj
  exact cut_from (P := Tryd.prog) 22 5 .i64 Tryd.underlying22 hi 1 hsz A n c (j : Int) (by omega) (by omega)

theorem cutm {i : TypeInfo} (hi : Tryd.prog.info? 5 = some i) (hsz : i.size = 1) (A : Option Addr) (n c j : Nat) (h : j + 1 ≤ n) (hc : n ≤ c) : ∀ W : World, (Instr.slice 22 (.slice A n c) (some (.int .i64 (j : Int))) (some (.int .i64 ((j : Int) + 1))) none).run Tryd.prog W = .ok (.slice (if c = j then A else A.map (·.add (j * 1))) 1 (c - j)) W := by
  have h1 := cut_mid (P := Tryd.prog) 22 5 .i64 .i64 Tryd.underlying22 hi 1 hsz A n c (j : Int) ((j : Int) + 1) (by omega) (by omega) (by omega) hc
  rw [show ((j : Int) + 1).toNat = j + 1 by omega, show ((j : Int)).toNat = j by omega, show j + 1 - j = 1 by omega] at h1
  exact h1
/-- What stands of the row that is made: it is the call's own, and of what was there nothing has turned. -/
structure Hq (w : World) (v : Value) (out : List Int) (W : World) : Prop where
  own : W.ownsRow w.heap.size 5 1 v out.length (nums .u8 out)
  below : Below w.heap.size w W
theorem Hq.step {w W W' : World} {v : Value} {out : List Int} (h : Hq w v out W) (hb : Below W.heap.size W W') : Hq w v out W' :=
  ⟨own_move h.own (fun k hk => hb.block k (own_lt h.own k hk)), below_step h.below hb⟩
theorem Hq.drewN {w W : World} {v : Value} {out : List Int} (h : Hq w v out W) (n : Nat) : Hq w v out (W.drewN n) := h.step (pw_below_drewN (Below.refl _ _) n)
theorem Hq.alloc {w W : World} {v : Value} {out : List Int} (h : Hq w v out W) (o : Obj) : Hq w v out (W.alloc o) := h.step (below_alloc (Below.refl _ _) o)
/-- A row that stands beside another, and can be read. -/
structure Sg (W : World) (v : Value) (m : Nat) (A : Option Addr) (sg : List Int) : Prop where
  reads : ReadsInt W .u8 A sg.length sg
  far : ∀ ad, A = some ad → some ad.block ≠ v.ownBlock
  near : ∀ ad, A = some ad → ad.block < W.heap.size
theorem Sg.step {W W' : World} {v : Value} {m : Nat} {A : Option Addr} {sg : List Int} (h : Sg W v m A sg) (hb : Below W.heap.size W W') : Sg W' v m A sg :=
  ⟨h.reads.below hb, h.far, fun ad e => Nat.lt_of_lt_of_le (h.near ad e) hb.size⟩
theorem Sg.grown {W W' : World} {v v' : Value} {m : Nat} {A : Option Addr} {sg : List Int} (h : Sg W v m A sg) (hg : W.grownBy W' v.ownBlock) (hat : v'.ownBlock = v.ownBlock ∨ ∃ b, v'.ownBlock = some b ∧ W.heap.size ≤ b) : Sg W' v' m A sg := by
  refine ⟨⟨h.reads.1, h.reads.2.1, fun hp => ?_⟩, fun ad e => ?_, fun ad e => Nat.lt_of_lt_of_le (h.near ad e) hg.size⟩
  · obtain ⟨ad, e, hc⟩ := h.reads.2.2 hp
    refine ⟨ad, e, fun j hj => ?_⟩
    have hb := hg.block ad.block (h.near ad e) (h.far ad e)
    have := hc j hj
    have hbl : (ad.add j).block = ad.block := by unfold Addr.add; split <;> rfl
    unfold World.cell? at this ⊢
    rw [hbl] at this ⊢
    rw [hb]
    exact this
  · rcases hat with hat | ⟨b, hat, hle⟩
    · rw [hat]; exact h.far ad e
    · rw [hat]
      have := h.near ad e
      intro he
      injection he with he
      omega

theorem reads_C {w : World} {A : Option Addr} {n : Nat} {xs : List Int} (h : Kd.C (Kd.int .u8) w A n xs) : ReadsInt w .u8 A n xs := by
  have := Kd.reads_of_C (d := (0 : Int)) (h1 := fun _ => rfl) h
  exact this

theorem Sg.of_own {w W0 W1 : World} {v : Value} {out sg : List Int} {A : Option Addr} {c : Nat} (hq : Hq w v out W0) (ho : W1.ownsRow W0.heap.size 5 1 (.slice A sg.length c) sg.length (nums .u8 sg)) : Sg W1 v 0 A sg := by
  refine ⟨own_reads' ho, fun ad e he => ?_, fun ad e => ?_⟩
  · have h1 := own_base ho ad.block (by rw [e]; rfl)
    have h2 := own_lt hq.own ad.block he.symm
    omega
  · exact own_lt ho ad.block (by rw [e]; rfl)
theorem Sg.of_C {w W : World} {v : Value} {out sg : List Int} {A : Option Addr} (hq : Hq w v out W) (hp : 0 < sg.length) (h : Kd.C (Kd.int .u8) w A sg.length sg) : Sg W v 0 A sg := by
  refine ⟨reads_C (Kd.C_below h hq.below), fun ad e he => ?_, fun ad e => ?_⟩
  · have h1 := own_base hq.own ad.block he.symm
    exact Kd.far_C (0 : Int) h h1 ad e hp rfl
  · obtain ⟨ad', e', hc⟩ := (reads_C h).2.2 hp
    rw [e] at e'
    injection e' with e'
    subst e'
    have := World.block_lt_of_cell? w _ (hc 0 hp)
    have hbl : (ad.add 0).block = ad.block := by unfold Addr.add; split <;> rfl
    rw [hbl] at this
    exact Nat.lt_of_lt_of_le this hq.below.size
theorem own_far {w W : World} {v : Value} {out : List Int} (h : Hq w v out W) {A : Option Addr} (hA : ∀ ad, A = some ad → ad.block < w.heap.size) : ∀ ad, A = some ad → some ad.block ≠ v.ownBlock := fun ad e he => by
  have := own_base h.own ad.block he.symm
  have := hA ad e
  omega

set_option maxHeartbeats 8000000 in
set_option maxRecDepth 100000 in
theorem quote_calls (A : Option Addr) (c0 : Nat) (xs : List Int) (w : World) (HG : GOk w) (hr : Kd.C (Kd.int .u8) w A xs.length xs) (hc : xs.length ≤ c0) (hin : InB xs) (hs : xs.length ≤ 10000000000000) :
    Calls Tryd.prog 12 #[.slice A xs.length c0] w fun e w' => e = .returned (.string (strOfNums (quo xs))) ∧ Below w.heap.size w w' := by
  obtain ⟨ii, hi, _, hsz, _⟩ := info_parts info5
  have HH0 : Aside0 (Hq w (.slice none 0 0) [] w) := ⟨⟨own_nil w w.heap.size 5 1, Below.refl _ _⟩⟩
  have HR := Aside0.mk hr
  have HI := Aside0.mk hin
  clear hr hin
  go_enter Tryd.func12, Tryd.ntmps12
  go_wp2
  go_loopg [3, 4, 5, 6, 7, 8, 9] xs.length (fun gk v3 v4 v5 v6 v7 v8 v9 wr => ∃ (j row : Nat) (out : List Int), v4 = .int .i64 row ∧ v5 = .int .i64 j ∧ Aside0 (gk = xs.length - j) ∧ j ≤ xs.length ∧ row ≤ 76 ∧ Aside0 (out ++ qL (xs.length - j) (xs.drop j) row = quo xs) ∧ Aside0 (Hq w v3 out wr) ∧ Aside0 (out.length ≤ 6 * j) ∧ Aside0 (InB out))
  case atStart => exact ⟨0, 0, [], rfl, rfl, ⟨rfl⟩, by omega, by omega, ⟨rfl⟩, HH0, ⟨by simp⟩, ⟨fun x hx => by cases hx⟩⟩
  case round =>
    clear HH0
    obtain ⟨j, row, out, rfl, rfl, HGK, hj, hrow, HQ, HH, HL, HIO⟩ := hrel
    by_cases hlt : j < xs.length
    · obtain ⟨ad, rfl, hcell0⟩ := Kd.at_int HR.out (j : Int) (by omega) (by omega)
      have HCELL : Aside0 (w.cell? (ad.add j) = some (.int .u8 xs[j])) := ⟨by rw [rd_nat _ _ hlt] at hcell0; exact hcell0⟩
      clear hcell0
      have hd : xs.drop j = xs[j] :: xs.drop (j + 1) := List.drop_eq_getElem_cons hlt
      have hq := HQ.out
      obtain ⟨m, hm⟩ : ∃ m, xs.length - j = m + 1 := ⟨xs.length - j - 1, by omega⟩
      have hmm : m = xs.length - (j + 1) := by omega
      rw [hm, hd, qL] at hq
      have HQ1 := Aside0.mk hq
      clear hq HQ hm
      have hcut := cuts (j : Int) hi hsz (some ad) xs.length c0 j hj rfl
      have hdl : xs.length - j = (xs.drop j).length := by rw [List.length_drop]
      have HC1 := Aside0.mk (C_tail HR.out j hj hc)
      obtain ⟨A1, hA1⟩ : ∃ A1, A1 = (if c0 = j then (some ad : Option Addr) else (some ad : Option Addr).map (·.add (j * 1))) := ⟨_, rfl⟩
      obtain ⟨c1, hc1⟩ : ∃ c1, c1 = c0 - j := ⟨_, rfl⟩
      obtain ⟨l, hll⟩ : ∃ l, l = xs.drop j := ⟨_, rfl⟩
      rw [← hA1, ← hc1, hdl] at hcut
      rw [← hA1] at HC1
      rw [← hll] at hcut HC1 hd
      have HLC : Aside0 (l.length ≤ c1) := ⟨by rw [hll, hc1, List.length_drop]; omega⟩
      have HD := Aside0.mk hd
      have HLL := Aside0.mk hll
      have HMM := Aside0.mk hmm
      have HGG : Aside0 (GOk wr) := ⟨GOk.of_below HG HH.out.below⟩
      have HCW := Aside0.mk (Kd.C_below HC1.out HH.out.below)
      have HA1 := Aside0.mk hA1
      have HC1' := Aside0.mk hc1
      clear hA1 hc1 hd hll hdl hmm
      by_cases he : endsB (xs[j] :: xs.drop (j + 1)) = true
      · have hq := HQ1.out
        rw [if_pos he] at hq
        have HQ2 := Aside0.mk hq
        rw [← HD.out] at he
        have HE := Aside0.mk he
        have HJ2 : Aside0 (j + 2 ≤ xs.length) := ⟨by
          obtain ⟨r, hr⟩ := (endsB_iff l).1 he
          have := congrArg List.length HLL.out
          rw [hr, List.length_drop] at this
          simp at this
          omega⟩
        clear he hq HQ1
        have hw1 : wrap64 ((j : Int) + 1) = ((j + 1 : Nat) : Int) := by rw [wrap_id _ (by omega) (by omega)]; omega
        go_wp2_with (first
          | ((go_at_call 24); (with_reducible refine (code_ends.calls A1 c1 l true _ HCW.out HLC.out (by rw [ends_f, HE.out])).mono ?_); rintro e w' ⟨rfl, ⟨nd, rfl⟩⟩)
          | (at_builtin; refine print_append_row (w0 := w) w.heap.size rfl (.tmp 20) (.tmp 21) 22 5 .u8 1 rfl Tryd.underlying22 info5 (by decide) u3 out [13, 10] _ 2 2 rfl rfl ?aO ?aR ?aB ?aS ?aL ?_; (case aO => exact ((HH.out.drewN nd).alloc _).own); (case aR => exact own_reads' (own_lit (wr.drewN nd) 0 5 .u8 [13, 10] (Nat.zero_le _) (by decide))); (case aB => exact ((HH.out.drewN nd).alloc _).below); (case aS => exact ((HH.out.drewN nd).alloc (.cells #[.int .u8 13, .int .u8 10] 5)).below.size); (case aL => have := HL.out; omega); intro v1 w1 ho hb hg hat; have HH1 := Aside0.mk (Hq.mk ho hb); clear ho hb hg hat))
        go_roundg (xs.length - (j + 2))
        case measure => have := HGK.out; omega
        case rel =>
          refine ⟨j + 2, 0, out ++ [13, 10], rfl, by go_num, ⟨rfl⟩, HJ2.out, by omega, ⟨?_⟩, HH1, ⟨by have := HL.out; rw [List.length_append]; simp; omega⟩, ⟨fun x hx => ?_⟩⟩
          · have := HQ2.out
            rw [List.append_assoc]
            simp only [List.cons_append, List.nil_append]
            rw [← this, List.drop_drop, qL_more m (xs.length - (j + 2)) _ _ (by have := HMM.out; rw [List.length_drop]; omega) (by rw [List.length_drop]; omega)]
          · rcases List.mem_append.1 hx with h | h
            · exact HIO.out x h
            · simp at h; omega
      · have hq := HQ1.out
        rw [if_neg he] at hq
        have HQ2 := Aside0.mk hq
        have HE : Aside0 (endsB l = false) := ⟨by rw [HD.out]; exact Bool.eq_false_iff.2 he⟩
        obtain ⟨c, hcc⟩ : ∃ c, c = xs[j] := ⟨_, rfl⟩
        obtain ⟨r, hrr⟩ : ∃ r, r = xs.drop (j + 1) := ⟨_, rfl⟩
        have hci : 0 ≤ c ∧ c ≤ 255 := by rw [hcc]; exact HI.out _ (List.getElem_mem hlt)
        have hq := HQ2.out
        rw [← hcc, ← hrr] at hq
        clear HQ2
        have HQ2 := Aside0.mk hq
        have HRR := Aside0.mk hrr
        have HCC := Aside0.mk hcc
        have HCI := Aside0.mk hci
        clear hq HQ1 he hrr hcc hci
        have hw1 : wrap64 ((j : Int) + 1) = ((j + 1 : Nat) : Int) := by rw [wrap_id _ (by omega) (by omega)]; omega
        go_upto_region 10 with (first
          | ((go_at_call 24); (with_reducible refine (code_ends.calls A1 c1 l false _ HCW.out HLC.out (by rw [ends_f, HE.out])).mono ?_); rintro e w' ⟨rfl, ⟨nd, rfl⟩⟩))
        have HH1 := Aside0.mk (HH.out.drewN nd)
        have HC2 := Aside0.mk (Kd.C_drewN HCW.out nd)
        have HG1 : Aside0 (GOk (wr.drewN nd)) := ⟨GOk.of_below HGG.out (pw_below_drewN (Below.refl _ _) nd)⟩
        clear HCW HH HGG hcut
        generalize wr.drewN nd = w1 at HH1 HC2 HG1 ⊢
        -- whether it is the line's last
        go_cut [6] from 10 to 84 (fun s6 wx => s6 = .bool (lastB r) ∧ Aside0 (Below w1.heap.size w1 wx))
        case first =>
          by_cases hn : j + 1 = xs.length
          · have hnb : ((j : Int) + 1 == (xs.length : Int)) = true := beq_iff_eq.2 (by omega)
            have hnp : ((j : Int) + 1 = (xs.length : Int)) = True := eq_true (by omega)
            have hr0 : lastB r = true := by rw [HRR.out, List.drop_eq_nil_of_le (by omega)]; rfl
            have HR0 := Aside0.mk hr0
            clear hn hr0
            go_wp2_with (fail)
            go_meet
            exact ⟨by rw [HR0.out], ⟨Below.refl _ _⟩⟩
          · have hnb : ((j : Int) + 1 == (xs.length : Int)) = false := beq_eq_false_iff_ne.2 (by omega)
            have hnp : ((j : Int) + 1 = (xs.length : Int)) = False := eq_false (by omega)
            have hj1 : j + 1 ≤ xs.length := by omega
            have hr0 : lastB r = endsB r := by
              have : r ≠ [] := fun h => by have := congrArg List.length HRR.out; rw [h, List.length_drop] at this; simp at this; omega
              unfold lastB
              cases r
              · exact absurd rfl this
              · rfl
            have HR1 := Aside0.mk hr0
            have hcut2 := cuts ((j : Int) + 1) hi hsz (some ad) xs.length c0 (j + 1) hj1 (by omega)
            have hdl : xs.length - (j + 1) = r.length := by rw [HRR.out, List.length_drop]
            obtain ⟨A2, hA2⟩ : ∃ A2, A2 = (if c0 = j + 1 then (some ad : Option Addr) else (some ad : Option Addr).map (·.add ((j + 1) * 1))) := ⟨_, rfl⟩
            obtain ⟨c2, hc2⟩ : ∃ c2, c2 = c0 - (j + 1) := ⟨_, rfl⟩
            have HC3 := Aside0.mk (Kd.C_below (C_tail HR.out (j + 1) hj1 hc) HH1.out.below)
            rw [← HRR.out, ← hA2] at HC3
            rw [← hA2, ← hc2, hdl] at hcut2
            have HLC2 : Aside0 (r.length ≤ c2) := ⟨by rw [hc2, ← hdl]; omega⟩
            clear hn hr0 hA2 hc2 hdl hj1
            go_wp2_with (first
              | ((go_at_call 24); (with_reducible refine (code_ends.calls A2 c2 r (endsB r) _ HC3.out HLC2.out (by rw [ends_f])).mono ?_); rintro e w' ⟨rfl, ⟨nd2, rfl⟩⟩))
            go_meet
            exact ⟨by rw [HR1.out], ⟨pw_below_drewN (Below.refl _ _) nd2⟩⟩
        case rest =>
          obtain ⟨rfl, HBC⟩ := hcut
          have HH2 := Aside0.mk (HH1.out.step HBC.out)
          have HG2 : Aside0 (GOk wc) := ⟨GOk.of_below HG1.out HBC.out⟩
          have hcell : wc.cell? (ad.add j) = some (.int .u8 c) := by rw [HCC.out]; exact pw_cell_below HH2.out.below HCELL.out
          have HCW := Aside0.mk (C_one (c := c0) HR.out j hlt hc)
          have hcutM := cutm hi hsz (some ad) xs.length c0 j hlt hc
          rw [← HA1.out, ← HC1'.out] at hcutM
          rw [← HA1.out] at HCW
          have p44 : 0 ≤ (j : Int) := by omega
          have q44 : (j : Int) < (xs.length : Int) := by omega
          clear HH1 HG1 HC2 HBC
          go_upto_region 13 with (fail)
          -- whether it is written by a sign
          go_cut [6, 8, 63] from 10 to 84 (fun s6 s8 s63 wx => s6 = .bool (lastB r) ∧ s8 = s8 ∧ s63 = .bool (sgnB c (lastB r)) ∧ Aside0 (Below wc.heap.size wc wx))
          case first =>
            obtain ⟨lb, hlb⟩ : ∃ lb, lb = lastB r := ⟨_, rfl⟩
            have HLB := Aside0.mk hlb
            rw [← hlb]
            obtain ⟨ib, hib⟩ : ∃ ib, ib = isB 12 c := ⟨_, rfl⟩
            have HIB := Aside0.mk hib
            have HIF : Aside0 (octet_Is.f 12 c = some ib) := ⟨congrArg some hib.symm⟩
            clear hlb hib
            cases ib
            · have HS : Aside0 (true = sgnB c (lastB r)) := ⟨by rw [← HLB.out]; unfold sgnB blankB; rw [← HIB.out]; rfl⟩
              go_wp2_with (first
                | ((go_at_call 25); (with_reducible refine (octet_Is.calls 12 c false _ HG2.out HIF.out).mono ?_); rintro e w' ⟨rfl, hb⟩; have HBI := Aside0.mk hb; clear hb))
              go_meet
              exact ⟨congrArg Value.bool HLB.out, trivial, congrArg Value.bool HS.out, HBI⟩
            · cases h61 : (c == 61)
              · cases lb
                · have HS : Aside0 (false = sgnB c (lastB r)) := ⟨by rw [← HLB.out]; unfold sgnB blankB; rw [← HIB.out, h61]; rfl⟩
                  go_wp2_with (first
                    | ((go_at_call 25); (with_reducible refine (octet_Is.calls 12 c true _ HG2.out HIF.out).mono ?_); rintro e w' ⟨rfl, hb⟩; have HBI := Aside0.mk hb; clear hb))
                  go_meet
                  exact ⟨congrArg Value.bool HLB.out, trivial, congrArg Value.bool HS.out, HBI⟩
                · cases h32 : (c == 32)
                  · cases h9 : (c == 9)
                    · have HS : Aside0 (false = sgnB c (lastB r)) := ⟨by rw [← HLB.out]; unfold sgnB blankB; rw [← HIB.out, h61, h32, h9]; rfl⟩
                      go_wp2_with (first
                        | ((go_at_call 25); (with_reducible refine (octet_Is.calls 12 c true _ HG2.out HIF.out).mono ?_); rintro e w' ⟨rfl, hb⟩; have HBI := Aside0.mk hb; clear hb))
                      go_meet
                      exact ⟨congrArg Value.bool HLB.out, trivial, congrArg Value.bool HS.out, HBI⟩
                    · have HS : Aside0 (true = sgnB c (lastB r)) := ⟨by rw [← HLB.out]; unfold sgnB blankB; rw [← HIB.out, h61, h32, h9]; rfl⟩
                      go_wp2_with (first
                        | ((go_at_call 25); (with_reducible refine (octet_Is.calls 12 c true _ HG2.out HIF.out).mono ?_); rintro e w' ⟨rfl, hb⟩; have HBI := Aside0.mk hb; clear hb))
                      go_meet
                      exact ⟨congrArg Value.bool HLB.out, trivial, congrArg Value.bool HS.out, HBI⟩
                  · have HS : Aside0 (true = sgnB c (lastB r)) := ⟨by rw [← HLB.out]; unfold sgnB blankB; rw [← HIB.out, h61, h32]; rfl⟩
                    go_wp2_with (first
                      | ((go_at_call 25); (with_reducible refine (octet_Is.calls 12 c true _ HG2.out HIF.out).mono ?_); rintro e w' ⟨rfl, hb⟩; have HBI := Aside0.mk hb; clear hb))
                    go_meet
                    exact ⟨congrArg Value.bool HLB.out, trivial, congrArg Value.bool HS.out, HBI⟩
              · have HS : Aside0 (true = sgnB c (lastB r)) := ⟨by rw [← HLB.out]; unfold sgnB blankB; rw [← HIB.out, h61]; rfl⟩
                go_wp2_with (first
                  | ((go_at_call 25); (with_reducible refine (octet_Is.calls 12 c true _ HG2.out HIF.out).mono ?_); rintro e w' ⟨rfl, hb⟩; have HBI := Aside0.mk hb; clear hb))
                go_meet
                exact ⟨congrArg Value.bool HLB.out, trivial, congrArg Value.bool HS.out, HBI⟩
          case rest =>
            obtain ⟨rfl, _, rfl, HBC2⟩ := hcut
            have HH3 := Aside0.mk (HH2.out.step HBC2.out)
            have HG3 : Aside0 (GOk wc) := ⟨GOk.of_below HG2.out HBC2.out⟩
            have hx := HCW.out
            rw [← HCC.out] at hx
            have HCX := Aside0.mk hx
            obtain ⟨lst, hlst⟩ : ∃ lst, lst = lastB r := ⟨_, rfl⟩
            have HLS := Aside0.mk hlst
            rw [← hlst]
            clear hx HH2 HG2 HCW HBC2 hlst
            go_upto_if 63 with (fail)
            -- the sign
            go_cut [7] from 10 to 84 (fun s7 wx => ∃ A7 c7, s7 = .slice A7 (sgn c lst).length c7 ∧ Aside0 (Sg wx u3 0 A7 (sgn c lst)) ∧ Aside0 (Hq w u3 out wx))
            case first =>
              cases hsg : sgnB c lst
              · have HSG : Aside0 (sgn c lst = [c]) := ⟨by unfold sgn; rw [hsg]; rfl⟩
                go_wp2_with (fail)
                go_meet
                refine ⟨A1, c1, by rw [HSG.out]; rfl, ⟨by rw [HSG.out]; exact Sg.of_C HH3.out (by simp) HCX.out⟩, HH3⟩
              · have HSG : Aside0 (sgn c lst = [61, hx (c / 16), hx (c % 16)]) := ⟨by unfold sgn; rw [hsg]; rfl⟩
                have HX1 := Aside0.mk (hex_one c HCI.out)
                have HBX : Aside0 (bytesOf (strOfNums [hx (c / 16), hx (c % 16)]) = [hx (c / 16), hx (c % 16)]) := ⟨bytesOf_strOfNums _ (fun x hx' => by
                  have h1 := hx_of (c / 16) (by have := HCI.out; omega)
                  have h2 := hx_of (c % 16) (by have := HCI.out; omega)
                  rcases List.mem_cons.1 hx' with rfl | hx'
                  · omega
                  · obtain rfl := List.mem_singleton.1 hx'
                    omega)⟩
                have HL1 : Aside0 (([c] : List Int).length ≤ c1) := ⟨by rw [HC1'.out]; simp; omega⟩
                go_wp2_with (first
                  | ((go_at_call 26); refine (calls_of_args (args' := #[.slice A1 ([c] : List Int).length c1]) rfl ?_); (with_reducible refine (octet_HexOf.calls 3 A1 c1 [c] _ _ (Kd.C_alloc (Kd.C_below HCX.out HH3.out.below) _) HL1.out HX1.out).mono ?_); rintro e w' ⟨rfl, hb⟩; have HBI := Aside0.mk hb; clear hb)
                  | (at_builtin; refine print_append_str (w0 := wc) wc.heap.size rfl (.tmp 64) (.tmp 66) 22 9 5 rfl Tryd.underlying22 Tryd.underlying9 info5 (.slice (some ⟨wc.heap.size, 0, none⟩) 1 1) [61] (strOfNums [hx (c / 16), hx (c % 16)]) rfl rfl ?aO ?aB ?aS ?aL ?_; (case aO => exact own_move (own_lit wc wc.heap.size 5 .u8 [61] (Nat.le_refl _) (by decide)) (fun k hk => HBI.out.block k (own_lt (own_lit wc wc.heap.size 5 .u8 [61] (Nat.le_refl _) (by decide)) k hk))); (case aB => exact below_step (below_alloc (Below.refl _ _) _) HBI.out); (case aS => exact (below_step (below_alloc (Below.refl wc.heap.size wc) _) HBI.out).size); (case aL => rw [strOfNums_len]; simp only [List.length_cons, List.length_nil]; omega); intro v1 w1 ho hb hg; obtain ⟨A7, c7, rfl⟩ := own_slice ho; have HO7 := Aside0.mk ho; have HB7 := Aside0.mk hb; clear ho hb hg))
                go_meet
                refine ⟨A7, c7, by rw [HSG.out, HBX.out]; rfl, ⟨?_⟩, ⟨HH3.out.step HB7.out⟩⟩
                have ho := HO7.out
                rw [HBX.out] at ho
                rw [HSG.out]
                exact Sg.of_own HH3.out ho
            case rest =>
              obtain ⟨A7, c7, rfl, HS7, HH4⟩ := hcut
              have hsl := sgn_len c lst
              have hq := HQ2.out
              rw [← HLS.out] at hq
              obtain ⟨sg, hsg⟩ : ∃ sg, sg = sgn c lst := ⟨_, rfl⟩
              have HSGI : Aside0 (InB sg) := ⟨by
                rw [hsg]
                have hci := HCI.out
                rcases sgn_cases c lst with h | ⟨h, _⟩
                · rw [h]
                  have h1 := hx_of (c / 16) (by omega)
                  have h2 := hx_of (c % 16) (by omega)
                  intro x hx'
                  rcases List.mem_cons.1 hx' with rfl | hx'
                  · omega
                  · rcases List.mem_cons.1 hx' with rfl | hx'
                    · omega
                    · obtain rfl := List.mem_singleton.1 hx'
                      omega
                · rw [h]
                  intro x hx'
                  obtain rfl := List.mem_singleton.1 hx'
                  exact hci⟩
              rw [← hsg] at hq hsl HS7
              rw [← hsg]
              have HRL : Aside0 (m = xs.length - (j + 1) ∧ r = xs.drop (j + 1)) := ⟨HMM.out, HRR.out⟩
              have hll2 := HL.out
              have hsz1 : out.length + 4 ≤ 60000000000100 := by omega
              have hsz2 : out.length ≤ 6 * j := hll2
              have HLW := Aside0.mk hsz2
              clear HCX HG3 HLS hsg HQ2 hll2 hsz2
              have hmo : mostN lst = if lst = true then 76 else 75 := rfl
              by_cases hov : row + sg.length > mostN lst
              · rw [if_pos hov] at hq
                have HQ3 := Aside0.mk hq
                clear hq
                cases lst
                · have hov2 : (75 : Int) < (row : Int) + (sg.length : Int) := by simp [mostN] at hov; omega
                  clear hov hmo
                  go_wp2_with (first
                    | (at_builtin; refine print_append_row (w0 := w) w.heap.size rfl (.tmp 75) (.tmp 76) 22 5 .u8 1 rfl Tryd.underlying22 info5 (by decide) u3 out [61, 13, 10] _ 3 3 rfl rfl ?aO ?aR ?aB ?aS ?aL ?_; (case aO => exact (HH4.out.alloc _).own); (case aR => exact own_reads' (own_lit wc 0 5 .u8 [61, 13, 10] (Nat.zero_le _) (by decide))); (case aB => exact (HH4.out.alloc _).below); (case aS => exact (HH4.out.alloc (.cells #[.int .u8 61, .int .u8 13, .int .u8 10] 5)).below.size); (case aL => omega); intro v1 w1 ho hb hg hat; have HH5 := Aside0.mk (Hq.mk ho hb); have HS5 := Aside0.mk ((HS7.out.step (below_alloc (Below.refl _ _) _)).grown hg hat); clear ho hb hg hat)
                    | (at_builtin; refine print_append_row (w0 := w) w.heap.size rfl (.tmp 78) (.tmp 79) 22 5 .u8 1 rfl Tryd.underlying22 info5 (by decide) v1 (out ++ [61, 13, 10]) sg _ _ _ rfl rfl ?aO ?aR ?aB ?aS ?aL ?_; (case aO => exact HH5.out.own); (case aR => exact HS5.out.reads); (case aB => exact HH5.out.below); (case aS => exact HH5.out.below.size); (case aL => rw [List.length_append]; simp only [List.length_cons, List.length_nil]; omega); intro v2 w2 ho hb hg hat; have HH6 := Aside0.mk (Hq.mk ho hb); clear ho hb hg hat))
                  go_roundg (xs.length - (j + 1))
                  case measure => have := HGK.out; omega
                  case rel =>
                    refine ⟨j + 1, sg.length, out ++ [61, 13, 10] ++ sg, by go_num, by go_num, ⟨rfl⟩, by omega, by omega, ⟨?_⟩, HH6, ⟨by have := HLW.out; simp only [List.length_append, List.length_cons, List.length_nil]; omega⟩, ⟨?_⟩⟩
                    · have h1 := HQ3.out
                      rw [← h1, ← HRL.out.2, ← HRL.out.1]
                      simp
                    · intro x hx'
                      rcases List.mem_append.1 hx' with h | h
                      · rcases List.mem_append.1 h with h | h
                        · exact HIO.out x h
                        · simp at h; omega
                      · exact HSGI.out x h
                · have hov2 : (76 : Int) < (row : Int) + (sg.length : Int) := by simp [mostN] at hov; omega
                  clear hov hmo
                  go_wp2_with (first
                    | (at_builtin; refine print_append_row (w0 := w) w.heap.size rfl (.tmp 75) (.tmp 76) 22 5 .u8 1 rfl Tryd.underlying22 info5 (by decide) u3 out [61, 13, 10] _ 3 3 rfl rfl ?aO ?aR ?aB ?aS ?aL ?_; (case aO => exact (HH4.out.alloc _).own); (case aR => exact own_reads' (own_lit wc 0 5 .u8 [61, 13, 10] (Nat.zero_le _) (by decide))); (case aB => exact (HH4.out.alloc _).below); (case aS => exact (HH4.out.alloc (.cells #[.int .u8 61, .int .u8 13, .int .u8 10] 5)).below.size); (case aL => omega); intro v1 w1 ho hb hg hat; have HH5 := Aside0.mk (Hq.mk ho hb); have HS5 := Aside0.mk ((HS7.out.step (below_alloc (Below.refl _ _) _)).grown hg hat); clear ho hb hg hat)
                    | (at_builtin; refine print_append_row (w0 := w) w.heap.size rfl (.tmp 78) (.tmp 79) 22 5 .u8 1 rfl Tryd.underlying22 info5 (by decide) v1 (out ++ [61, 13, 10]) sg _ _ _ rfl rfl ?aO ?aR ?aB ?aS ?aL ?_; (case aO => exact HH5.out.own); (case aR => exact HS5.out.reads); (case aB => exact HH5.out.below); (case aS => exact HH5.out.below.size); (case aL => rw [List.length_append]; simp only [List.length_cons, List.length_nil]; omega); intro v2 w2 ho hb hg hat; have HH6 := Aside0.mk (Hq.mk ho hb); clear ho hb hg hat))
                  go_roundg (xs.length - (j + 1))
                  case measure => have := HGK.out; omega
                  case rel =>
                    refine ⟨j + 1, sg.length, out ++ [61, 13, 10] ++ sg, by go_num, by go_num, ⟨rfl⟩, by omega, by omega, ⟨?_⟩, HH6, ⟨by have := HLW.out; simp only [List.length_append, List.length_cons, List.length_nil]; omega⟩, ⟨?_⟩⟩
                    · have h1 := HQ3.out
                      rw [← h1, ← HRL.out.2, ← HRL.out.1]
                      simp
                    · intro x hx'
                      rcases List.mem_append.1 hx' with h | h
                      · rcases List.mem_append.1 h with h | h
                        · exact HIO.out x h
                        · simp at h; omega
                      · exact HSGI.out x h
              · rw [if_neg hov] at hq
                have HQ3 := Aside0.mk hq
                clear hq
                cases lst
                · have hov2 : (row : Int) + (sg.length : Int) ≤ 75 := by simp [mostN] at hov; omega
                  clear hov hmo
                  go_wp2_with (first
                    | (at_builtin; refine print_append_row (w0 := w) w.heap.size rfl (.tmp 78) (.tmp 79) 22 5 .u8 1 rfl Tryd.underlying22 info5 (by decide) u3 out sg _ _ _ rfl rfl ?aO ?aR ?aB ?aS ?aL ?_; (case aO => exact HH4.out.own); (case aR => exact HS7.out.reads); (case aB => exact HH4.out.below); (case aS => exact HH4.out.below.size); (case aL => omega); intro v2 w2 ho hb hg hat; have HH6 := Aside0.mk (Hq.mk ho hb); clear ho hb hg hat))
                  go_roundg (xs.length - (j + 1))
                  case measure => have := HGK.out; omega
                  case rel =>
                    refine ⟨j + 1, row + sg.length, out ++ sg, by go_num, by go_num, ⟨rfl⟩, by omega, by omega, ⟨?_⟩, HH6, ⟨by have := HLW.out; simp only [List.length_append, List.length_cons, List.length_nil]; omega⟩, ⟨?_⟩⟩
                    · have h1 := HQ3.out
                      rw [← h1, ← HRL.out.2, ← HRL.out.1]
                      simp
                    · intro x hx'
                      rcases List.mem_append.1 hx' with h | h
                      · exact HIO.out x h
                      · exact HSGI.out x h
                · have hov2 : (row : Int) + (sg.length : Int) ≤ 76 := by simp [mostN] at hov; omega
                  clear hov hmo
                  go_wp2_with (first
                    | (at_builtin; refine print_append_row (w0 := w) w.heap.size rfl (.tmp 78) (.tmp 79) 22 5 .u8 1 rfl Tryd.underlying22 info5 (by decide) u3 out sg _ _ _ rfl rfl ?aO ?aR ?aB ?aS ?aL ?_; (case aO => exact HH4.out.own); (case aR => exact HS7.out.reads); (case aB => exact HH4.out.below); (case aS => exact HH4.out.below.size); (case aL => omega); intro v2 w2 ho hb hg hat; have HH6 := Aside0.mk (Hq.mk ho hb); clear ho hb hg hat))
                  go_roundg (xs.length - (j + 1))
                  case measure => have := HGK.out; omega
                  case rel =>
                    refine ⟨j + 1, row + sg.length, out ++ sg, by go_num, by go_num, ⟨rfl⟩, by omega, by omega, ⟨?_⟩, HH6, ⟨by have := HLW.out; simp only [List.length_append, List.length_cons, List.length_nil]; omega⟩, ⟨?_⟩⟩
                    · have h1 := HQ3.out
                      rw [← h1, ← HRL.out.2, ← HRL.out.1]
                      simp
                    · intro x hx'
                      rcases List.mem_append.1 hx' with h | h
                      · exact HIO.out x h
                      · exact HSGI.out x h
    · have hje : j = xs.length := by omega
      have hq := HQ.out
      rw [hje, List.drop_eq_nil_of_le (Nat.le_refl _), qL_nil, List.append_nil] at hq
      have HQE := Aside0.mk hq
      clear hq HQ
      have hcv := own_string (P := Tryd.prog) Tryd.underlying22 Tryd.underlying5 Tryd.underlying9 HH.out.own
      go_wp2_with (fail)
      go_ret
      exact ⟨by rw [HQE.out]; rfl, HH.out.below⟩
end Go.Proofs.YtokgckhhhhigiaaDoor.QW
