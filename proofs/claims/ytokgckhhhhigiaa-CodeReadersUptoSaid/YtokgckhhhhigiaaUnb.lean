/- code.Unbase64 (walked by hand), as a fold of take. -/
import Derived.Test.YtokgckhhhhigiaaNew
namespace Go.Proofs.Ytokgckhhhhigiaa.Rd
set_option linter.unusedVariables false
set_option linter.unusedSimpArgs false
open Go.RowKit Go.Proofs.YtokgckhhhhigiaaW.PrintWords Go.Proofs.YtokgckhhhhigiaaW.PrintLast Go.Proofs.YtokgckhhhhigiaaW.PrintMore Go.Proofs.Ytokgckhhhhigiaa.B Go.Proofs.Ytokgckhhhhigiaa.M Go.Proofs.Ytokgckhhhhigiaa.G Go.Proofs.Ytokgckhhhhigiaa.Turn

/-- What a byte is: a letter's number, 64, or 65. -/
def valV (c : Int) : Int := (code_value.f 5 c).getD 65
theorem val_fin : ∀ c : Fin 256, code_value.f 5 (c.val : Int) = some (valV (c.val : Int)) := by decide +kernel
theorem val_f (c : Int) (h : 0 ≤ c ∧ c ≤ 255) : code_value.f 5 c = some (valV c) := by
  have := val_fin ⟨c.toNat, by omega⟩
  simp only at this
  rwa [Int.toNat_of_nonneg h.1] at this

def unbL : List Int → St → List Int → Nat → List Int × Int × Int
  | [], st, out, i => if st.n > 0 then ([], 41, (i : Int)) else (out, 0, 0)
  | ch :: r, st, out, i => if st.next (valV ch) ≠ 0 then ([], st.next (valV ch), (i : Int)) else unbL r (st.put (valV ch)) (out ++ st.out (valV ch)) (i + 1)
theorem take_no (k : Nat) (g : Nat) (m : Bool) (s : St) (hn : s.n ≤ 3) (er ch v : Int) (hv : code_value.f k ch = some v) (hnx : s.next v ≠ 0) (v0 : Value) (w : World) (hk : w.heap[g]? = some (.cells (s.cells m er) 47 (0, 0))) :
    Calls Try.prog 24 #[.pointer (some ⟨g, 0, none⟩), v0, .int .u8 ch] w fun e w' => e = .returned (.tuple #[v0, .int .i64 (s.next v)]) ∧ Drawn0 w w' :=
  take_bad k g m s.a s.b s.c s.d s.n hn s.o er ch v hv hnx v0 w hk
theorem spot_ne {w : World} {base g n : Nat} {v0 : Value} {xs : List Value} {cs : Array Value} (ho : w.ownsRow base 5 1 v0 n xs) (hk : w.heap[g]? = some (.cells cs 31 (0, 0))) : some g ≠ v0.ownBlock := by
  intro hq
  obtain ⟨cs', hcs⟩ := own_typed ho g hq.symm
  rw [hcs] at hk
  injection hk with hk
  injection hk with _ h3
  exact absurd h3 (by decide)
theorem out_len (s : St) (v : Int) : (s.out v).length ≤ 3 := by
  unfold St.out fourB
  repeat' split
  all_goals simp

set_option maxHeartbeats 8000000 in
set_option maxRecDepth 100000 in
theorem unb_calls (s : ByteArray) (r1 : List Int) (r2 r3 : Int) (w : World) (hs : s.size ≤ 40000000000000) (h : unbL (bytesOf s) St.new [] 0 = (r1, r2, r3)) :
    Calls Try.prog 13 #[.string s] w fun e w' => ∃ v0_ : Value, e = .returned (.tuple #[v0_, .agg #[.int .i64 r2, .int .i64 r3]]) ∧ Kd.R (Kd.int .u8) 5 w' w.heap.size (fun _ => True) v0_ r1 ∧ Below w.heap.size w w' := by
  have HH := Aside0.mk h
  clear h
  have HB := Aside0.mk (Below.refl w.heap.size w)
  have hq : IntKind.i64.wrap (Int.tdiv (s.size : Int) 4) = ((s.size / 4 : Nat) : Int) := by
    rw [i64_w, Int.tdiv_eq_ediv_of_nonneg (by omega)]
    exact wrap_id _ (by omega) (by omega)
  have hq3 : IntKind.i64.wrap (((s.size / 4 : Nat) : Int) * 3) = ((s.size / 4 * 3 : Nat) : Int) := by
    rw [i64_w]
    exact wrap_id _ (by omega) (by omega)
  go_enter Try.func13, Try.ntmps13
  go_wp2_with (first
    | ((with_reducible refine gate_dst (N := 3) rfl ?_); (try (refine gate_guard (by rfl) ?_; dsimp only)); refine box_event ?hg (N := 3) ?hd (cs := #[.int .i64 0, .int .i64 0]) (t := 31) ?hr ?_; (case hd => rfl); (case hg => rfl); (case hr => first | (go_simp; done) | (go_simp; rfl)); intro g3 hg3 w3 hbox hb; have hg3' := (by rw [hg3]; exact (below_step HB.out (Below.refl _ _)).size : w.heap.size ≤ g3); have n0_ := Aside0.mk (below_step HB.out hb); clear HB; have HB := n0_; have BK3 := Aside0.mk hbox; clear n0_ hbox hb hg3)
    | ((with_reducible refine gate_callee (f := 15) rfl ?_); refine goesL_ (some 8) rfl rfl Try.func15 (by kernel_rfl) rfl #[] rfl (by (try simp only [List.map_toArray, List.map_cons, List.map_nil]); first | done | rfl | (simp only [List.length_drop, List.length_take]; rfl)) ?_; (with_reducible refine (new_calls _).mono ?_); rintro e4 w4 ⟨g, rfl, hgw, hkg, hb⟩; refine ⟨_, rfl, ?_⟩; have n0_ := Aside0.mk (below_step HB.out hb); have n1_ := Aside0.mk (blk_below BK3.out hb); have hgg := Nat.le_trans HB.out.size hgw; have hne3 := Nat.ne_of_lt (Nat.lt_of_lt_of_le (blk_lt BK3.out) hgw); clear HB BK3; have HB := n0_; have BK3 := n1_; have HK := Aside0.mk hkg; clear n0_ n1_ hb hkg hgw)
    | ((with_reducible refine gate_dst (N := 13) rfl ?_); refine Kd.R_make_cap (Kd.int .u8) _ 5 rfl (N := 13) rfl 22 _ _ rfl ((s.size : Int) / 4 * 3) rfl rfl Try.underlying22 (.int .u8 0) 1 info5 rfl (by decide) (by omega) 0 (ok := fun _ => True) (okp := fun _ => True) rfl (fun _ hk => hk) trivial (by omega) (by omega) (Below.refl _ _) (Nat.le_refl _) ?_; intro v5 w5 ho7 hb hg_ hnew_; have n0_ := Aside0.mk (below_step HB.out hb); have n1_ := Aside0.mk (blk_below BK3.out hb); have n2_ := Aside0.mk (blk_below HK.out hb); have HO := Aside0.mk (own_weaken (Kd.own_of_R ho7) HB.out.size); clear HB BK3 HK; have HB := n0_; have BK3 := n1_; have HK := n2_; clear n0_ n1_ n2_ hb hg_ hnew_ ho7))
  go_loopw [5, 6, 7, 16] (fun v5 v6 v7 v16 wr => ∃ j : Nat, v16 = .int .i64 j ∧ j ≤ s.size ∧ ∃ (st : St) (xs : List Int), Aside0 (st.n ≤ 3) ∧ Aside0 (unbL ((bytesOf s).drop j) st xs j = (r1, r2, r3)) ∧ Aside0 (wr.heap[g]? = some (.cells (st.cells true 0) 47 (0, 0))) ∧ Aside0 (wr.heap[g3]? = some (.cells #[.int .i64 0, .int .i64 0] 31 (0, 0))) ∧ Aside0 (wr.ownsRow w.heap.size 5 1 v5 xs.length (nums .u8 xs)) ∧ Aside0 (xs.length ≤ 3 * j) ∧ Aside0 (Below w.heap.size w wr)) (fun _ _ _ v16 _ => s.size - (intOf v16).toNat)
  case atStart => exact ⟨0, rfl, by omega, St.new, [], ⟨by decide⟩, HH, HK, BK3, HO, ⟨by simp⟩, HB⟩
  case round =>
    clear HH HK BK3 HO HB
    obtain ⟨j, rfl, hj, st, xs, HN, HU, HK, BK3, HO, HL, HB⟩ := hrel
    by_cases hlt : j < s.size
    · have hjl : j < (bytesOf s).length := by rw [bytesOf_len]; exact hlt
      have hch := bytesOf_in s _ (List.getElem_mem hjl)
      have hbt := bt_bytes s j hjl
      have hU := HU.out
      rw [drop_cons _ j hjl, ← hbt] at hU
      rw [← hbt] at hch
      have hbt2 := hbt
      have hvv := val_f _ hch
      have p12 : 0 ≤ (j : Int) := by omega
      have q12 : (j : Int) < (s.size : Int) := by omega
      have hx12 : ∀ h : j < s.size, ((s[j]'h).toNat : Int) = bt s (j : Int) := fun h => by simp [bt, h]
      simp only [unbL] at hU
      obtain ⟨ch, hcc⟩ : ∃ ch, ch = bt s (j : Int) := ⟨_, rfl⟩
      rw [← hcc] at hU hvv hx12
      have HV := Aside0.mk hvv
      have HUU := Aside0.mk hU
      clear hbt hbt2 hvv hU HU hch hjl hcc
      by_cases he : st.next (valV ch) = 0
      · have hU := HUU.out
        rw [if_neg (fun h => h he)] at hU
        have HU2 := Aside0.mk hU
        have HE := Aside0.mk he
        clear hU HUU he
        replace p12 := eq_true p12
        replace q12 := eq_true q12
        go_wp2_with (((with_reducible refine gate_callee (f := 24) rfl ?_); refine goesL_ (some 25) rfl rfl Try.func24 (by kernel_rfl) rfl #[.pointer (some ⟨g, 0, none⟩), u5, .int .u8 ch] rfl (by (try simp only [List.map_toArray, List.map_cons, List.map_nil]); first | done | rfl | (simp only [List.length_drop, List.length_take]; rfl)) ?_; (with_reducible refine (take_ok 5 g true st HN.out 0 ch (valV ch) HV.out HE.out u5 xs w.heap.size _ hgg HB.out.size HK.out HO.out (by have := HL.out; omega)).mono ?_); rintro e6 w6 ⟨v7, rfl, ht⟩; refine ⟨_, rfl, ?_⟩; have HT := Aside0.mk ht; clear ht))
        go_roundw
        case rel => exact ⟨j + 1, by go_num, by omega, st.put (valV ch), xs ++ st.out (valV ch), ⟨St.put_n _ _ HN.out⟩, HU2, ⟨HT.out.cells⟩, ⟨(HT.out.keep.2 g3 (blk_lt BK3.out) hne3 (spot_ne HO.out BK3.out)).trans BK3.out⟩, ⟨HT.out.row⟩, ⟨by have := HL.out; have := out_len st (valV ch); rw [List.length_append]; omega⟩, ⟨HB.out.trans HT.out.below⟩⟩
        case measure => simp [intOf]; omega
      · have hU := HUU.out
        rw [if_pos he] at hU
        simp only [Prod.mk.injEq] at hU
        obtain ⟨rfl, h2, rfl⟩ := hU
        have HHE := Aside0.mk he
        have H2 := Aside0.mk h2
        have hnb : (r2 != 0) = true := bne_iff_ne.2 (by rw [← h2]; exact he)
        clear HUU he h2
        have hz0 : wr.cell? ⟨g3, 0, none⟩ = some (.int .i64 0) := blk_cell BK3.out 0
        have hz1 : wr.cell? ⟨g3, 1, none⟩ = some (.int .i64 0) := blk_cell BK3.out 1
        have hzf0 := blk_frozen BK3.out 0
        have hzf1 := blk_frozen BK3.out 1
        replace p12 := eq_true p12
        replace q12 := eq_true q12
        go_wp2_with (((with_reducible refine gate_callee (f := 24) rfl ?_); refine goesL_ (some 25) rfl rfl Try.func24 (by kernel_rfl) rfl #[.pointer (some ⟨g, 0, none⟩), u5, .int .u8 ch] rfl (by (try simp only [List.map_toArray, List.map_cons, List.map_nil]); first | done | rfl | (simp only [List.length_drop, List.length_take]; rfl)) ?_; (with_reducible refine (take_no 5 g true st HN.out 0 ch (valV ch) HV.out HHE.out u5 _ HK.out).mono ?_); rintro e6 w6 ⟨rfl, ⟨nd, rfl⟩⟩; refine ⟨_, rfl, ?_⟩; rw [H2.out]))
        refine bodyPost_ret (results_tc rfl _ _ g3 31 #[.int .i64 r2, .int .i64 (j : Int)] (0, 0) _ rfl (by refine blk_put (cs := #[.int .i64 r2, .int .i64 0]) ?_ 1 _ rfl; refine blk_put (cs := #[.int .i64 0, .int .i64 0]) ?_ 0 _ rfl; exact BK3.out) Try.underlying31 rfl (by kernel_rfl)) rfl ?_
        exact ⟨_, rfl, Kd.R_nil _ _ _ _ _, ((pw_below_drewN HB.out nd).setCell (p := ⟨g3, 0, none⟩) hg3' _).setCell (p := ⟨g3, 1, none⟩) hg3' _⟩
    · obtain rfl : j = s.size := by omega
      have hU := HU.out
      rw [List.drop_eq_nil_of_le (by rw [bytesOf_len]; omega)] at hU
      simp only [unbL] at hU
      have HUU := Aside0.mk hU
      have hc5 : wr.cell? ⟨g, 5, none⟩ = some (.int .i64 st.n) := blk_cell HK.out 5
      have hz0 : wr.cell? ⟨g3, 0, none⟩ = some (.int .i64 0) := blk_cell BK3.out 0
      have hz1 : wr.cell? ⟨g3, 1, none⟩ = some (.int .i64 0) := blk_cell BK3.out 1
      have hzf0 := blk_frozen BK3.out 0
      have hzf1 := blk_frozen BK3.out 1
      clear hU HU hlt
      by_cases hn : st.n > 0
      · have hU := HUU.out
        rw [if_pos hn] at hU
        simp only [Prod.mk.injEq] at hU
        obtain ⟨rfl, rfl, rfl⟩ := hU
        have hni : ((st.n : Int) > 0) = True := eq_true (by omega)
        have hnd : decide ((st.n : Int) > 0) = true := decide_eq_true (by omega)
        clear HUU
        go_wp2
        refine bodyPost_ret (results_tc rfl _ _ g3 31 #[.int .i64 41, .int .i64 (s.size : Int)] (0, 0) _ rfl (by refine blk_put (cs := #[.int .i64 41, .int .i64 0]) ?_ 1 _ rfl; refine blk_put (cs := #[.int .i64 0, .int .i64 0]) ?_ 0 _ rfl; exact BK3.out) Try.underlying31 rfl (by kernel_rfl)) rfl ?_
        exact ⟨_, rfl, Kd.R_nil _ _ _ _ _, (HB.out.setCell (p := ⟨g3, 0, none⟩) hg3' _).setCell (p := ⟨g3, 1, none⟩) hg3' _⟩
      · have hU := HUU.out
        rw [if_neg hn] at hU
        simp only [Prod.mk.injEq] at hU
        obtain ⟨rfl, rfl, rfl⟩ := hU
        have hn0 : st.n = 0 := by omega
        have hnd : decide ((st.n : Int) > 0) = false := decide_eq_false (by omega)
        clear HUU
        go_wp2
        refine bodyPost_ret (results_tc rfl _ _ g3 31 #[.int .i64 0, .int .i64 0] (0, 0) _ rfl (by refine blk_put (cs := #[.int .i64 0, .int .i64 0]) ?_ 1 _ rfl; refine blk_put (cs := #[.int .i64 0, .int .i64 0]) ?_ 0 _ rfl; exact BK3.out) Try.underlying31 rfl (by kernel_rfl)) rfl ?_
        have hsn := spot_ne HO.out BK3.out
        exact ⟨u5, rfl, Kd.R_of_own (h1 := fun _ => rfl) (ok := fun _ => True) (own_move (own_move HO.out (fun q hq => Below.heap_setCell _ _ _ _ (by rintro rfl; exact hsn hq.symm))) (fun q hq => Below.heap_setCell _ _ _ _ (by rintro rfl; exact hsn hq.symm))) (fun _ _ => trivial), (HB.out.setCell (p := ⟨g3, 0, none⟩) hg3' _).setCell (p := ⟨g3, 1, none⟩) hg3' _⟩
end Go.Proofs.Ytokgckhhhhigiaa.Rd
