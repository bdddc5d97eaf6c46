/- SumCut: the walk of the statement (by hand), along the way on which all tests hold. -/
import Derived.Test.YtlaglidgjnpncaaSumS
import Derived.Test.YtlaglidgjnpncaaSumP
import Derived.Test.YtlaglidgjnpncaaH1
namespace Go.Proofs.Ytlaglidgjnpncaa.SumF
set_option linter.unusedVariables false
set_option linter.unusedSimpArgs false
set_option linter.unusedVariables false
set_option linter.unusedSimpArgs false
open Go.RowKit Go.Proofs.YtlaglidgjnpncaaW.PrintWords Go.Proofs.YtlaglidgjnpncaaW.PrintLast Go.Proofs.YtlaglidgjnpncaaW.PrintMore Go.Proofs.Ytlaglidgjnpncaa.B Go.Proofs.Ytlaglidgjnpncaa.M Go.Proofs.Ytlaglidgjnpncaa.H Go.Proofs.Ytlaglidgjnpncaa.SumP Go.Proofs.Ytlaglidgjnpncaa.Crc

/-- The sum of bytes. -/
def crc (l : List Int) : Int := ofW (more 0#32 (ws l))
theorem crc_nil : crc [] = 0 := by unfold crc ws; rw [List.map_nil, more_nil]; rfl
theorem ws_append (a b : List Int) : ws (a ++ b) = ws a ++ ws b := List.map_append
theorem crc_more (a b : List Int) (hb : InB b) : sum_More.f (crc a) b = some (crc (a ++ b)) := by
  unfold crc
  rw [More_w _ _ hb, toW_ofW, ← more_append, ws_append]
theorem crc_of (b : List Int) (hb : InB b) : sum_Of.f b = some (crc b) := Of_w b hb
theorem crc_join (a b : List Int) (h : b.length < 9223372036854775808) : sum_Join.f (crc a) (crc b) (b.length : Int) = some (crc (a ++ b), 0) := by
  unfold crc
  rw [Join_w _ _ _ h, jn, ws_append, more_append, more_join (more 0#32 (ws a)) (ws b)]
  simp [ws]

set_option maxHeartbeats 8000000 in
set_option maxRecDepth 100000 in
theorem SumCut_true (k : Nat) (A0 A1 : Option Addr) (c0 c1 : Nat) (b cuts : List Int) (ps : List (List Int)) (w : World) (hr0 : Kd.C (Kd.int .u8) w A0 b.length b) (hc0 : b.length ≤ c0) (hr1 : Kd.C (Kd.int .i64) w A1 cuts.length cuts) (hc1 : cuts.length ≤ c1)
    (hp : posthornlaw02_pieces.f k b cuts = some ps) (hf : ps.flatten = b) (hb : InB b) (hl : b.length ≤ 140737488355328) (hps : ps.length ≤ 140737488355328) :
    Calls Try.prog 8 #[.slice A0 b.length c0, .slice A1 cuts.length c1] w fun e w' => e = .returned (.bool true) ∧ Below w.heap.size w w' := by
  have HR0 := Aside0.mk hr0
  have HC0 := Aside0.mk hc0
  have HR1 := Aside0.mk hr1
  have HC1 := Aside0.mk hc1
  have HP := Aside0.mk hp
  have HF := Aside0.mk hf
  have HIn := Aside0.mk hb
  have HL := Aside0.mk hl
  have HB := Aside0.mk (Below.refl w.heap.size w)
  clear hr0 hc0 hr1 hc1 hp hf hb hl
  go_enter Try.func8, Try.ntmps8
  go_wp2_with (first
    | (go_at_call 12; (with_reducible refine (sum_Of.calls A0 c0 b (crc b) _ HR0.out HC0.out (crc_of b HIn.out)).mono ?_); rintro e w1 ⟨rfl, hb1⟩; have n_ := Aside0.mk (below_step HB.out hb1); clear HB hb1; have HB := n_; clear n_)
    | (go_at_call 20; refine (new_calls _).mono ?_; rintro e w2 ⟨rfl, hw2⟩; have hbk : w2.heap[w1.heap.size]? = some (.cells (strm true 0 0) 50 (0, 0)) := (by rw [hw2]; exact blk_new _ _); have n_ : Aside0 (Below w.heap.size w w2) := ⟨by rw [hw2]; exact below_alloc HB.out _⟩; have HGW : Aside0 (w.heap.size ≤ w1.heap.size) := ⟨HB.out.size⟩; have HG2 : Aside0 (w2.heap.size = w1.heap.size + 1) := ⟨by rw [hw2]; simp⟩; have HK := Aside0.mk hbk; clear HB hw2 hbk; have HB := n_; clear n_)
    | (go_at_call 21; (with_reducible refine (posthornlaw02_pieces.calls k (fun q => q < w.heap.size) A0 c0 b A1 c1 cuts ps _ ?hV ?hR HC1.out HP.out).mono ?_); (case hV => exact Kd.V_mk HC0.out (fun W' hW => Kd.C_F (Kd.heap_int .u8) HR0.out _ (fun q hq hlt => (hW q hlt (Nat.lt_of_lt_of_le hlt HB.out.size)).trans (HB.out.block q hlt)))); (case hR => exact Kd.C_below HR1.out HB.out); rintro e w3 ⟨v0, rfl, hN, hb3⟩; obtain ⟨AN, cN, hv0⟩ := Kd.N_slice hN; subst hv0; have HN := Aside0.mk hN; have nk := Aside0.mk (blk_below HK.out hb3); have n_ := Aside0.mk (below_step HB.out hb3); clear HB HK hb3 hN; have HB := n_; have HK := nk; clear n_ nk))
  obtain ⟨g, hg⟩ : ∃ g, g = w1.heap.size := ⟨_, rfl⟩
  obtain ⟨q2, hq2⟩ : ∃ q, q = w2.heap.size := ⟨_, rfl⟩
  have hG2 := HG2.out
  rw [← hg] at HK HGW hG2 ⊢
  rw [← hq2] at HN hG2
  have HG2 := Aside0.mk hG2
  clear hG2 hg hq2
  have HS : Aside0 (ps.length ≤ 9223372036854775807) := ⟨by omega⟩
  go_loopw [7, 8, 10, 11, 12, 20] (fun v7 v8 _ _ _ v20 wr => ∃ i : Nat, v20 = .int .i64 i ∧ i ≤ ps.length ∧ v7 = .int .u32 (crc (ps.take i).flatten) ∧ v8 = .int .u32 (crc (ps.take i).flatten) ∧ Aside0 (wr.heap[g]? = some (.cells (strm true (crc (ps.take i).flatten) ((ps.take i).flatten.length : Int)) 50 (0, 0))) ∧ Aside0 (Kd.N (Kd.slice 5 (Kd.int .u8)) 23 wr q2 (fun k_ => (k_ < w.heap.size ∨ q2 ≤ k_)) (.slice AN ps.length cN) ps) ∧ Aside0 (Below w.heap.size w wr)) (fun _ _ _ _ _ v20 _ => ps.length - (intOf v20).toNat)
  case atStart => exact ⟨0, rfl, by omega, by rw [List.take_zero, List.flatten_nil, crc_nil], by rw [List.take_zero, List.flatten_nil, crc_nil], ⟨by rw [List.take_zero, List.flatten_nil, crc_nil]; exact HK.out⟩, HN, HB⟩
  case round =>
    clear HB HN HK
    obtain ⟨i, rfl, hi, rfl, rfl, HK, HN, HB⟩ := hrel
    by_cases hlt : i < ps.length
    · obtain ⟨p, hpp⟩ : ∃ p, p = ps[i] := ⟨_, rfl⟩
      obtain ⟨pre, hpre⟩ : ∃ pre, pre = (ps.take i).flatten := ⟨_, rfl⟩
      have hnext : (ps.take (i + 1)).flatten = pre ++ p := by rw [take_snoc ps i hlt, List.flatten_append, hpre, hpp]; simp
      have hall : b = pre ++ p ++ (ps.drop (i + 1)).flatten := by
        rw [← hnext, ← List.flatten_append, List.take_append_drop]; exact HF.out.symm
      have hlen : pre.length + p.length ≤ b.length := by rw [hall]; simp
      have hpin : InB p := fun x hx => HIn.out x (by rw [hall]; simp [hx])
      rw [← hpre] at HK ⊢
      have HNX := Aside0.mk hnext
      have HPI := Aside0.mk hpin
      have HLN := Aside0.mk (show pre.length + p.length ≤ 140737488355328 by have := HL.out; omega)
      obtain ⟨gN, capN, hvN, hb1, hb2, cells, hcells⟩ := Kd.N_form HN.out (by omega)
      injection hvN with hA hn hcap
      subst hA
      obtain ⟨cc, hcl, hFK, hcell⟩ := Kd.N_get HN.out ([] : List Int) (i : Int) (by omega) (by omega)
      rw [Int.toNat_natCast, List.getD_eq_getElem?_getD, List.getElem?_eq_getElem hlt, Option.getD_some, ← hpp] at hFK
      rw [Int.toNat_natCast] at hcell
      obtain ⟨Ap, cp, rfl, hcp, hFp⟩ := Kd.FK_slice_open hFK
      have hx := hcell 0 _ rfl
      have hCp := Foot.now hFp
      rw [Nat.add_zero] at hx
      rw [show i * (Kd.slice 5 (Kd.int .u8)).sz = i from Nat.mul_one i] at hx
      have ha : (⟨gN, 0, none⟩ : Addr).add i = ⟨gN, i, none⟩ := by unfold Addr.add; split <;> simp_all
      rw [ha] at hx
      clear ha
      have HCp := Aside0.mk hCp
      have HXp := Aside0.mk hcp
      have p1 : (0 : Int) ≤ (i : Int) := by omega
      have q1 : (i : Int) < (ps.length : Int) := by omega
      clear hpre hnext hall hlen hpin hb1 hb2 hcells hcl hFK hcell hFp hCp hcp hn hcap hpp
      replace p1 := eq_true p1
      replace q1 := eq_true q1
      go_wp2_with (first
        | (go_at_call 14; (with_reducible refine (sum_More.calls (crc pre) Ap cp p (crc (pre ++ p)) _ HCp.out HXp.out (crc_more pre p HPI.out)).mono ?_); rintro e w4 ⟨rfl, hb⟩; have n1_ := Aside0.mk (Kd.N_below HN.out hb); have n2_ := Aside0.mk (blk_below HK.out hb); have n3_ := Aside0.mk (below_step HB.out hb); have n4_ := Aside0.mk (Kd.C_below HCp.out hb); clear HN HK HB HCp hb; have HN := n1_; have HK := n2_; have HB := n3_; have HCp := n4_; clear n1_ n2_ n3_ n4_)
        | (go_at_call 12; (with_reducible refine (sum_Of.calls Ap cp p (crc p) _ HCp.out HXp.out (crc_of p HPI.out)).mono ?_); rintro e w5 ⟨rfl, hb⟩; have n1_ := Aside0.mk (Kd.N_below HN.out hb); have n2_ := Aside0.mk (blk_below HK.out hb); have n3_ := Aside0.mk (below_step HB.out hb); have n4_ := Aside0.mk (Kd.C_below HCp.out hb); clear HN HK HB HCp hb; have HN := n1_; have HK := n2_; have HB := n3_; have HCp := n4_; clear n1_ n2_ n3_ n4_)
        | (go_at_call 18; (with_reducible refine (sum_Join.calls (crc pre) (crc p) (p.length : Int) (crc (pre ++ p)) 0 _ (crc_join pre p (by have := HLN.out; omega))).mono ?_); rintro e w6 ⟨rfl, hb⟩; have n1_ := Aside0.mk (Kd.N_below HN.out hb); have n2_ := Aside0.mk (blk_below HK.out hb); have n3_ := Aside0.mk (below_step HB.out hb); have n4_ := Aside0.mk (Kd.C_below HCp.out hb); clear HN HK HB HCp hb; have HN := n1_; have HK := n2_; have HB := n3_; have HCp := n4_; clear n1_ n2_ n3_ n4_)
        | (go_at_call 22; (with_reducible refine (write_calls g (crc pre) (pre.length : Int) (crc (pre ++ p)) Ap cp p _ HK.out HCp.out HXp.out (crc_more pre p HPI.out) (by omega) (by have := HLN.out; omega)).mono ?_); rintro e w7 ⟨rfl, hleft⟩; have n1_ := Aside0.mk (Kd.N_keep HN.out hleft.keep (fun q hq => by have h1 := HGW.out; have h2 := HG2.out; rcases hq with hq | hq <;> omega)); have n2_ := Aside0.mk hleft.blk; have n3_ := Aside0.mk (hleft.below w HGW.out HB.out); clear HN HK HB HCp hleft; have HN := n1_; have HK := n2_; have HB := n3_; clear n1_ n2_ n3_))
      go_roundw
      case rel => exact ⟨i + 1, by go_num, by omega, by rw [HNX.out], by rw [HNX.out], ⟨by rw [HNX.out, List.length_append, Int.natCast_add]; exact HK.out⟩, HN, HB⟩
      case measure => simp [intOf]; omega
    · obtain rfl : i = ps.length := by omega
      rw [List.take_length, HF.out] at HK ⊢
      clear hlt hi
      go_wp2_with (first
        | (go_at_call 23; refine (sum_calls g (crc b) (b.length : Int) _ HK.out).mono ?_; rintro e w' ⟨rfl, rfl⟩)
        | (go_at_call 24; refine (len_calls g (crc b) (b.length : Int) _ HK.out).mono ?_; rintro e w' ⟨rfl, rfl⟩)
        | (go_at_call 16; refine (posthornlaw02_wakes.calls true _ rfl).mono ?_; rintro e w8 ⟨rfl, hb⟩; have n3_ := Aside0.mk (below_step HB.out hb); clear HB hb; have HB := n3_; clear n3_))
      go_ret
      exact ⟨rfl, HB.out⟩
end Go.Proofs.Ytlaglidgjnpncaa.SumF
