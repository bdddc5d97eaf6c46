/- code.Reader: Feed, and the row that it tells (walked by hand). -/
import Derived.Test.YtokgckhhhhigiaaFeed
import Derived.Test.YtokgckhhhhigiaaOb
namespace Go.Proofs.Ytokgckhhhhigiaa.Fd2
set_option linter.unusedVariables false
set_option linter.unusedSimpArgs false
set_option linter.unusedVariables false
open Go.RowKit Go.Proofs.YtokgckhhhhigiaaW.PrintWords Go.Proofs.YtokgckhhhhigiaaW.PrintLast Go.Proofs.YtokgckhhhhigiaaW.PrintMore Go.Proofs.Ytokgckhhhhigiaa.B Go.Proofs.Ytokgckhhhhigiaa.M Go.Proofs.Ytokgckhhhhigiaa.G Go.Proofs.Ytokgckhhhhigiaa.Turn Go.Proofs.Ytokgckhhhhigiaa.Rd Go.Proofs.Ytokgckhhhhigiaa.Fd
/-- A row without room, whose block may be greater. -/
def FullB (W : World) (base : Nat) (v : Value) (xs : List Int) : Prop := (v = .slice none 0 0 ∧ xs = []) ∨ ∃ g cur, v = .slice (some ⟨g, 0, none⟩) xs.length xs.length ∧ base ≤ g ∧ W.heap[g]? = some (.cells cur 5 (0, 0)) ∧ cur.toList.take xs.length = nums .u8 xs ∧ xs.length ≤ maxLen
theorem FullB.reads {W : World} {base n c : Nat} {A : Option Addr} {xs : List Int} (h : FullB W base (.slice A n c) xs) : ReadsInt W .u8 A n xs := by
  rcases h with ⟨h, rfl⟩ | ⟨g, cur, h, _, hg, ht, hm⟩
  · injection h with h1 h2 h3
    subst h1 h2
    exact ⟨rfl, by omega, fun h => absurd h (Nat.lt_irrefl _)⟩
  · injection h with h1 h2 h3
    subst h1 h2
    refine ⟨rfl, by simp only [maxLen] at hm; omega, fun _ => ⟨_, rfl, fun j hj => ?_⟩⟩
    rw [show ((⟨g, 0, none⟩ : Addr).add j) = ⟨g, j, none⟩ from by unfold Addr.add; simp; intro h_; exact h_.symm, blk_cell hg j]
    have h9 : (cur.toList.take xs.length)[j]? = (nums .u8 xs)[j]? := by rw [ht]
    rw [List.getElem?_take, if_pos hj] at h9
    rw [← Array.getElem?_toList, h9]
    simp [nums, List.getD_eq_getElem?_getD, hj]
theorem fed_full {w W : World} {g base : Nat} {cs : Array Value} {A : Option Addr} {c : Nat} {xs : List Int} (h : Fed w g base cs (.slice A xs.length c) xs W) :
    FullB W w.heap.size (.slice A xs.length xs.length) xs ∧ W.heap[g]? = some (.cells cs 47 (0, 0)) ∧ KeepBut w W g none ∧ Below base w W := by
  refine ⟨?_, h.cells, h.keep, h.below⟩
  rcases h.row.2 with ⟨h1, h2⟩ | ⟨g9, cap, cur, h1, h2, h3, h4, h5, h6, h7⟩
  · have hx : xs = [] := List.eq_nil_of_length_eq_zero h2
    subst hx
    injection h1 with h1
    subst h1
    exact .inl ⟨rfl, rfl⟩
  · injection h1 with e1 e2 e3
    subst e1
    exact .inr ⟨g9, cur, rfl, h.fresh g9 rfl, h3, by rw [Nat.mul_one] at h7; exact h7, Nat.le_trans h4 h5⟩
set_option maxHeartbeats 8000000 in
set_option maxRecDepth 100000 in
theorem feed_calls (base g : Nat) (st0 : St) (hn0 : st0.n ≤ 3) (A : Option Addr) (c0 : Nat) (l : List Int) (w : World) (hg : base ≤ g) (hbase : base ≤ w.heap.size) (hk : w.heap[g]? = some (.cells (st0.cells true 0) 47 (0, 0)))
    (hr : Kd.C (Kd.int .u8) w A l.length l) (hA : ∀ ad, A = some ad → 0 < l.length → ad.block ≠ g) (hl : l.length ≤ 10000000000000) (hin : InB l) :
    Calls Try.prog 17 #[.pointer (some ⟨g, 0, none⟩), .slice A l.length c0] w fun e w' => ∃ v1, e = .returned (.tuple #[v1, .int .i64 (feedL l st0 []).2.2]) ∧ FullB w' w.heap.size v1 (feedL l st0 []).1 ∧
      w'.heap[g]? = some (.cells ((feedL l st0 []).2.1.cells true (feedL l st0 []).2.2) 47 (0, 0)) ∧ KeepBut w w' g none ∧ Below base w w' := by
  obtain ⟨r1, rst, r2, hres⟩ : ∃ r1 rst r2, feedL l st0 [] = (r1, rst, r2) := ⟨_, _, _, rfl⟩
  rw [hres]
  have HRES := Aside0.mk hres
  have HK := Aside0.mk hk
  have HR := Aside0.mk hr
  have HA := Aside0.mk hA
  have HN0 := Aside0.mk hn0
  have HI := Aside0.mk hin
  have hgl := blk_lt hk
  have k0 : w.cell? ⟨g, 0, none⟩ = some (.bool true) := blk_cell hk 0
  have k7 : w.cell? ⟨g, 7, none⟩ = some (.int .i64 0) := blk_cell hk 7
  have hq : IntKind.i64.wrap (Int.tdiv (l.length : Int) 4) = ((l.length / 4 : Nat) : Int) := by
    rw [i64_w, Int.tdiv_eq_ediv_of_nonneg (by omega)]
    exact wrap_id _ (by omega) (by omega)
  have hq3 : IntKind.i64.wrap (((l.length / 4 : Nat) : Int) * 3) = ((l.length / 4 * 3 : Nat) : Int) := by
    rw [i64_w]
    exact wrap_id _ (by omega) (by omega)
  have hq4 : IntKind.i64.wrap (((l.length / 4 * 3 : Nat) : Int) + 3) = ((l.length / 4 * 3 + 3 : Nat) : Int) := by
    rw [i64_w]
    exact wrap_id _ (by omega) (by omega)
  clear hres hk hr hA hn0 hin
  go_enter Try.func17, Try.ntmps17
  go_wp2_with (first
    | ((with_reducible refine gate_dst (N := 32) rfl ?_); refine Kd.R_make_cap (Kd.int .u8) _ 5 rfl (N := 32) rfl 22 _ _ rfl ((l.length : Int) / 4 * 3 + 3) rfl rfl Try.underlying22 (.int .u8 0) 1 info5 rfl (by decide) (by omega) 0 (ok := fun _ => True) (okp := fun _ => True) rfl (fun _ hk => hk) trivial (by omega) (by omega) (Below.refl _ _) (Nat.le_refl _) ?_; intro v5 w5 ho7 hb hg_ hnew_; have HO := Aside0.mk (Kd.own_of_R ho7); have HB5 := Aside0.mk hb; clear hg_ hnew_ hb ho7))
  have HF0 : Aside0 (Fed w g base (st0.cells true 0) v5 [] w5) := ⟨⟨blk_below HK.out HB5.out, own_weaken HO.out hbase, fun q hq => own_base HO.out q hq, ⟨HB5.out.size, fun i hi _ _ => HB5.out.block i hi⟩, below_lower HB5.out hbase⟩⟩
  clear HO HB5 k0 k7 hq hq3 hq4
  go_loopg [6, 8, 35] l.length (fun gk v6 v8 v35 wr => ∃ (j : Nat) (st : St) (xs : List Int), v35 = .int .i64 j ∧ Aside0 (gk = l.length - j) ∧ j ≤ l.length ∧ Aside0 (st.n ≤ 3) ∧ Aside0 (feedL (l.drop j) st xs = (r1, rst, r2)) ∧ Aside0 (Fed w g base (st.cells true 0) v6 xs wr) ∧ Aside0 (xs.length ≤ 3 * j))
  case atStart => exact ⟨0, st0, [], rfl, ⟨rfl⟩, by omega, HN0, HRES, HF0, ⟨by simp⟩⟩
  case round =>
    clear HF0
    obtain ⟨j, st, xs, rfl, HGK, hj, HN, HU, HF, HL⟩ := hrel
    by_cases hlt : j < l.length
    · obtain ⟨ad, rfl, hcell0⟩ := Kd.at_int HR.out (j : Int) (by omega) (by omega)
      have hcell : wr.cell? (ad.add j) = some (.int .u8 l[j]) := by
        obtain ⟨ad', e', h'⟩ := Kd.at_int (Kd.C_keep (0 : Int) HR.out HF.out.keep HA.out) (j : Int) (by omega) (by omega)
        injection e' with e'
        subst e'
        rw [rd_nat _ _ hlt] at h'
        exact h'
      clear hcell0
      have hci := HI.out _ (List.getElem_mem hlt)
      have hU := HU.out
      rw [drop_cons _ j hlt] at hU
      obtain ⟨ch, hch⟩ : ∃ ch, ch = l[j] := ⟨_, rfl⟩
      rw [← hch] at hcell hci hU
      have HV := Aside0.mk (val_f ch hci)
      have p37 : 0 ≤ (j : Int) := by omega
      have q37 : (j : Int) < (l.length : Int) := by omega
      have HHJ := Aside0.mk hlt
      clear hch HU hlt hci
      simp only [feedL] at hU
      cases h13 : (ch == 13)
      · cases h10 : (ch == 10)
        · rw [if_neg (by rintro (rfl | rfl); exact absurd h13 (by decide); exact absurd h10 (by decide))] at hU
          have HUU := Aside0.mk hU
          clear hU
          by_cases he : st.next (valV ch) = 0
          · have hU := HUU.out
            rw [if_neg (fun h => h he)] at hU
            have HU2 := Aside0.mk hU
            have HE := Aside0.mk he
            clear hU HUU he
            go_wp2_with (((with_reducible refine gate_callee (f := 24) rfl ?_); refine goesL_ (some 50) rfl rfl Try.func24 (by kernel_rfl) rfl #[.pointer (some ⟨g, 0, none⟩), u6, .int .u8 ch] rfl (by (try simp only [List.map_toArray, List.map_cons, List.map_nil]); first | done | rfl | (simp only [List.length_drop, List.length_take]; rfl)) ?_; (with_reducible refine (take_ok 5 g true st HN.out 0 ch (valV ch) HV.out HE.out u6 xs base _ hg (Nat.le_trans hbase HF.out.below.size) HF.out.cells HF.out.row (by have := HL.out; have := HHJ.out; omega)).mono ?_); rintro e6 w6 ⟨v7, rfl, ht⟩; refine ⟨_, rfl, ?_⟩; have HF2 := Aside0.mk (HF.out.took ht); have c7 : w6.cell? ⟨g, 7, none⟩ = some (.int .i64 0) := blk_cell ht.cells 7; have f7 := blk_frozen ht.cells 7; have hl6 := blk_lt ht.cells; clear ht))
            go_roundg (l.length - (j + 1))
            case measure => have := HGK.out; have := HHJ.out; omega
            case rel => exact ⟨j + 1, st.put (valV ch), xs ++ st.out (valV ch), by go_num, ⟨rfl⟩, by have := HHJ.out; omega, ⟨St.put_n _ _ HN.out⟩, HU2, ⟨by have := HF2.out.set hg 7 (.int .i64 0) ((st.put (valV ch)).cells true 0) rfl; exact this⟩, ⟨by have := HL.out; have := out_len st (valV ch); rw [List.length_append]; omega⟩⟩
          · have hU := HUU.out
            rw [if_pos he] at hU
            simp only [Prod.mk.injEq] at hU
            obtain ⟨rfl, rfl, h2⟩ := hU
            have HHE := Aside0.mk he
            have H2 := Aside0.mk h2
            have hnb : (r2 != 0) = true := bne_iff_ne.2 (by rw [← h2]; exact he)
            clear HUU he h2
            obtain ⟨A6, c6, hv6⟩ := own_slice HF.out.row
            subst hv6
            have hc6 : xs.length ≤ c6 := own_le HF.out.row
            go_wp2_with (((with_reducible refine gate_callee (f := 24) rfl ?_); refine goesL_ (some 50) rfl rfl Try.func24 (by kernel_rfl) rfl #[.pointer (some ⟨g, 0, none⟩), .slice A6 xs.length c6, .int .u8 ch] rfl (by (try simp only [List.map_toArray, List.map_cons, List.map_nil]); first | done | rfl | (simp only [List.length_drop, List.length_take]; rfl)) ?_; (with_reducible refine (take_no 5 g true st HN.out 0 ch (valV ch) HV.out HHE.out _ _ HF.out.cells).mono ?_); rintro e6 w6 ⟨rfl, ⟨nd, rfl⟩⟩; refine ⟨_, rfl, ?_⟩; rw [H2.out]; have HF2 := Aside0.mk (HF.out.drewN nd); have c7 : (wr.drewN nd).cell? ⟨g, 7, none⟩ = some (.int .i64 0) := blk_cell HF.out.cells 7; have f7 : (wr.drewN nd).frozen? ⟨g, 7, none⟩ = false := blk_frozen HF.out.cells 7; have hl6 := blk_lt HF.out.cells))
            have c7b : ((wr.drewN nd).setCell ⟨g, 7, none⟩ (.int .i64 r2)).cell? ⟨g, 7, none⟩ = some (.int .i64 r2) := blk_cell (HF2.out.set hg 7 (.int .i64 r2) (st.cells true r2) rfl).cells 7
            go_region
            all_goals go_wp2
            all_goals go_ret2
            all_goals exact ⟨_, rfl, fed_full (Fed.drew (HF2.out.set hg 7 (.int .i64 r2) (st.cells true r2) rfl))⟩
        · rw [if_pos (.inr (beq_iff_eq.1 h10))] at hU
          have HU2 := Aside0.mk hU
          clear hU
          go_wp2_with (fail)
          go_roundg (l.length - (j + 1))
          case measure => have := HGK.out; have := HHJ.out; omega
          case rel => exact ⟨j + 1, st, xs, by go_num, ⟨rfl⟩, by have := HHJ.out; omega, ⟨HN.out⟩, HU2, ⟨HF.out⟩, ⟨by have := HL.out; omega⟩⟩
      · rw [if_pos (.inl (beq_iff_eq.1 h13))] at hU
        have HU2 := Aside0.mk hU
        clear hU
        go_wp2_with (fail)
        go_roundg (l.length - (j + 1))
        case measure => have := HGK.out; have := HHJ.out; omega
        case rel => exact ⟨j + 1, st, xs, by go_num, ⟨rfl⟩, by have := HHJ.out; omega, ⟨HN.out⟩, HU2, ⟨HF.out⟩, ⟨by have := HL.out; omega⟩⟩
    · obtain rfl : j = l.length := by omega
      have hU := HU.out
      rw [List.drop_eq_nil_of_le (Nat.le_refl _)] at hU
      simp only [feedL, Prod.mk.injEq] at hU
      obtain ⟨rfl, rfl, rfl⟩ := hU
      obtain ⟨A6, c6, hv6⟩ := own_slice HF.out.row
      subst hv6
      have hc6 : xs.length ≤ c6 := own_le HF.out.row
      have c7 : wr.cell? ⟨g, 7, none⟩ = some (.int .i64 0) := blk_cell HF.out.cells 7
      clear HU hlt
      go_wp2_with (fail)
      go_region
      all_goals go_wp2
      all_goals go_ret2
      all_goals exact ⟨_, rfl, fed_full (Fed.drew HF.out)⟩

end Go.Proofs.Ytokgckhhhhigiaa.Fd2
