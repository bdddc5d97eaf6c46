/- Each of a ring of whole numbers, and Fold over it (walked by hand). -/
import Derived.RangeFuncNested
import Derived.RangeFuncBound
import Derived.RangeFuncCalls
import Derived.RangeFuncLeaves
import Derived.Shelf.Abstract
import Derived.Shelf.RegionOpen
import Derived.WalkKit
import Derived.OwnWalkIn
import Derived.TacticsInMore
import Derived.LoopNIn
import Derived.LoopIn
import Derived.Test.YtekjkookkjjbcaaRingF
namespace Go.Proofs.Ytekjkookkjjbcaa.EA
set_option linter.unusedVariables false
set_option linter.unusedSimpArgs false
set_option linter.unusedVariables false
set_option linter.unusedSimpArgs false
open Go.RowKit Go.Shelf Go.Proofs.YtekjkookkjjbcaaW.PrintWords Go.Proofs.YtekjkookkjjbcaaW.PrintLast Go.Proofs.YtekjkookkjjbcaaW.PrintMore Go.Proofs.Ytekjkookkjjbcaa.B Go.Proofs.Ytekjkookkjjbcaa.M Go.Proofs.Ytekjkookkjjbcaa.RI
attribute [local go_sem] Oper.semAt_some
/-- What a round keeps: the rows of whole numbers that lay. -/
def KpI (B : Nat) (W W' : World) : Prop := ∀ i cs, B ≤ i → W.heap[i]? = some (.cells cs 3 (0, 0)) → W'.heap[i]? = some (.cells cs 3 (0, 0))
theorem KpI.t {B : Nat} {X Y Z : World} (h : KpI B X Y) (k : KpI B Y Z) : KpI B X Z := fun i cs hi e => k i cs hi (h i cs hi e)
theorem KpI.refl (B : Nat) (X : World) : KpI B X X := fun _ _ _ h => h
theorem KpI.b {B n : Nat} (W : World) (l : Nat) (o o' : Obj) (hl : n ≤ l) (h : W.heap[l]? = some o) (hc : o.isCells = false) (_ : o.isWalk = false) : KpI B W (W.putObj l o') := fun i cs _ e => by
  have hne : i ≠ l := fun e2 => by
    subst e2
    rw [e] at h
    cases h
    cases hc
  exact (World.putObj_heap_other hne).trans e
theorem KpI.of_below {B : Nat} {W W' : World} (h : Below W.heap.size W W') : KpI B W W' := fun i cs _ e => (h.block i (Array.getElem?_eq_some_iff.1 e).1).trans e
theorem KpI.set {B b o : Nat} {W : World} {v : Value} {cb : Array Value} {t : Nat} (hb : W.heap[b]? = some (.cells cb t (0, 0))) (ht : t ≠ 3) : KpI B W (W.setCell ⟨b, o, none⟩ v) := fun i cs _ e => by
  refine (Below.heap_setCell W ⟨b, o, none⟩ v i (fun e2 => ?_)).trans e
  subst e2
  rw [e] at hb
  injection hb with hb
  injection hb with _ hb
  exact ht hb.symm
/-- What has come behind k rounds. -/
def uptoI (xs : List Int) (k : Nat) : List (Nat × Int) := (List.range k).map fun j => (j, xs.getD j 0)
theorem uptoI_succ (xs : List Int) (k : Nat) : uptoI xs (k + 1) = uptoI xs k ++ [(k, xs.getD k 0)] := by simp [uptoI, List.range_succ]
theorem uptoI_len (xs : List Int) (k : Nat) : (uptoI xs k).length = k := by simp [uptoI]
theorem uptoI_snd (xs : List Int) : (uptoI xs xs.length).map (·.2) = xs := by
  apply List.ext_getElem
  · simp [uptoI]
  · intro i h1 h2
    simp [uptoI, List.getD_eq_getElem?_getD, h2]
abbrev encI (x : Nat × Int) : Array Value := #[.int .i64 (x.1 : Int), .int .i64 x.2]
set_option maxHeartbeats 1000000 in
theorem each_in (n : Nat) (rp : Option Addr) (w : World) :
    CallsIn Fence.wide n Try.prog 38 #[.pointer rp] w fun e w' => e = .returned (.func (.func 75) #[] #[.pointer (some ⟨w.heap.size, 0, none⟩)]) ∧ w' = w.alloc (.cells #[.pointer rp] 44) := by
  refine callsIn_of_wp Try.func38 rfl trivial ?_ rfl
  simp only [Try.ntmps38, List.size_toArray, List.length_cons, List.length_nil, Nat.reduceAdd, Nat.reduceSub, Array.replicate_succ, Array.replicate_zero, List.push_toArray, List.append_toArray, List.nil_append, List.cons_append]
  gi_wp2
  go_ret
  exact ⟨rfl, rfl⟩
set_option maxRecDepth 100000 in
set_option maxHeartbeats 2000000 in
/-- Of no ring: no round. -/
theorem each_nil_in (n : Nat) (l Bs : Nat) (J : List (Nat × Int) → World → Prop) (W : World) (hBs : W.cell? ⟨Bs, 0, none⟩ = some (.pointer none)) (h0 : J [] W) :
    CallsIn Fence.wide n Try.prog 75 #[.func (.yield l) #[] #[], .pointer (some ⟨Bs, 0, none⟩)] W fun e W' => (∃ v, e = .returned v) ∧ J [] W' := by
  refine callsIn_of_wp Try.func75 rfl trivial ?_ rfl
  simp only [Try.ntmps75, List.size_toArray, List.length_cons, List.length_nil, Nat.reduceAdd, Nat.reduceSub, Array.replicate_succ, Array.replicate_zero, List.push_toArray, List.append_toArray, List.nil_append, List.cons_append]
  gi_wp2
  refine bodyPost_ret (results_none rfl _ _ _) rfl ?_
  exact ⟨⟨_, rfl⟩, h0⟩
set_option maxRecDepth 100000 in
set_option maxHeartbeats 4000000 in
theorem each1_in (n : Nat) (hn : 1 ≤ n) (l Bs B g : Nat) (xs : List Int) (hreach : xs.length ≤ 1048576) (J Jx : List (Nat × Int) → World → Prop)
    (hY : ∀ pre x W, J pre W → pre.length < xs.length → YieldAt Fence.wide (n - 1) Try.prog l (encI x) W fun e W' =>
      (e = .returned (.bool true) ∧ J (pre ++ [x]) W' ∧ KpI B W W') ∨ (e = .returned (.bool false) ∧ Jx (pre ++ [x]) W'))
    (W : World) (hB : B ≤ W.heap.size) (hBs : W.cell? ⟨Bs, 0, none⟩ = some (.pointer (some ⟨g, 0, none⟩)))
    (hrow : Calls Try.prog 73 #[.pointer (some ⟨g, 0, none⟩)] W fun e W' => ∃ v', e = .returned v' ∧ OwnI W W' v' xs ∧ Below W.heap.size W W')
    (hJ : ∀ W', Below W.heap.size W W' → J [] W') :
    CallsIn Fence.wide n Try.prog 75 #[.func (.yield l) #[] #[], .pointer (some ⟨Bs, 0, none⟩)] W fun e W' => (∃ v, e = .returned v) ∧
      ((∃ ys, ys = uptoI xs xs.length ∧ J ys W') ∨ (∃ pre, (∃ k, k ≤ xs.length ∧ pre = uptoI xs k) ∧ Jx pre W')) := by
  refine callsIn_of_wp Try.func75 rfl trivial ?_ rfl
  simp only [Try.ntmps75, List.size_toArray, List.length_cons, List.length_nil, Nat.reduceAdd, Nat.reduceSub, Array.replicate_succ, Array.replicate_zero, List.push_toArray, List.append_toArray, List.nil_append, List.cons_append]
  gi_wp2_with (refine ⟨trivial, ?_⟩; gi_at_call 73; refine (callsIn_wide.2 hrow).mono ?_; rintro e w1 ⟨v', rfl, ho, hb⟩; obtain ⟨A1, c1, rfl⟩ := Kd.R_slice ho; have HO := Aside0.mk ho; have HJ1 := Aside0.mk (hJ _ hb); have HW1 := Aside0.mk hb; clear hrow ho hb)
  have HR := Aside0.mk hreach
  have HJ := Aside0.mk hJ
  clear hJ
  obtain ⟨N, hN⟩ : ∃ N, xs.length = N := ⟨_, rfl⟩
  have HN := Aside0.mk hN
  rw [hN] at hY hreach ⊢
  clear hN
  gi_loopw [10] (fun p wr => ∃ k : Nat, k ≤ N ∧ p = .int .i64 (k : Int) ∧ J (uptoI xs k) wr ∧ Aside0 (KpI B w1 wr)) (fun p _ => N - (intOf p).toNat)
  case atStart => exact ⟨0, Nat.zero_le _, rfl, HJ1.out, ⟨KpI.refl _ _⟩⟩
  case round =>
    obtain ⟨k, hk, rfl, hJs, HK⟩ := hrel
    by_cases hlt : k < N
    · obtain ⟨g9, c9, hv, hb9, _, cs9, hc9⟩ := Kd.R_form HO.out (by rw [HN.out]; omega)
      obtain ⟨ad, e, hx⟩ := Kd.at_int (Kd.R_reads' HO.out).2.2 (k : Int) (by omega) (by rw [HN.out]; omega)
      injection hv with hv1 hv2 hv3
      rw [hv1] at e
      injection e with e
      subst e
      subst hv1
      have hrd : rd xs (k : Int) = xs.getD k 0 := by unfold rd; rw [Int.toNat_natCast]
      rw [hrd] at hx
      simp only [Int.toNat_natCast] at hx
      have ha : (Addr.add ⟨g9, 0, none⟩ k) = (⟨g9, k, none⟩ : Addr) := by unfold Addr.add; simp; intro h; exact h.symm
      have hk9 : wr.heap[g9]? = w1.heap[g9]? := (HK.out g9 cs9 (Nat.le_trans hB hb9) hc9).trans hc9.symm
      have hcx : wr.cell? ⟨g9, k, none⟩ = some (.int .i64 (xs.getD k 0)) := by
        rw [ha] at hx
        simp only [World.cell?, hk9] at hx ⊢
        exact hx
      obtain ⟨fn, tmps, assign, body, hy, hR⟩ := hY _ (k, xs.getD k 0) wr hJs (by rw [uptoI_len]; exact hlt)
      dsimp only [encI] at hy
      obtain ⟨y, hy2⟩ : ∃ y, xs.getD k 0 = y := ⟨_, rfl⟩
      rw [hy2] at hcx hy hR
      have HY2 := Aside0.mk hy2
      clear hrd hx hy2
      have p1 := eq_true (show (0 : Int) ≤ (k : Int) by omega)
      have p2 := eq_true (show (k : Int) < (N : Int) by omega)
      have hl2 : decide ((k : Int) < (N : Int)) = true := decide_eq_true (by omega)
      have hl3 : decide (k < N) = true := decide_eq_true hlt
      have q1 : IntKind.i64.wrap ((k : Int) + 1) = ((k + 1 : Nat) : Int) := by have h_ := HR.out; have h2_ := HN.out; rw [i64_w, wrap_id _ (by omega) (by omega)]; rfl
      clear ha hk9 hc9 hb9 hv2 hv3
      gi_wp2
      refine hR.mono ?_
      rintro e W3 (⟨rfl, hJ3, hk3⟩ | ⟨rfl, hJx3⟩)
      · gi_wp2
        go_roundw
        case rel => exact ⟨k + 1, by omega, rfl, by rw [uptoI_succ, HY2.out]; exact hJ3, ⟨HK.out.t hk3⟩⟩
        case measure => simp [intOf]; omega
      · gi_wp2
        refine bodyPost_ret (results_none rfl _ _ _) rfl ?_
        exact ⟨⟨_, rfl⟩, .inr ⟨_, ⟨k + 1, by rw [HN.out]; omega, by rw [uptoI_succ, HY2.out]⟩, hJx3⟩⟩
    · obtain rfl : k = N := by omega
      have hl2 : decide ((k : Int) < (k : Int)) = false := decide_eq_false (by omega)
      gi_wp2
      go_end0
      exact ⟨⟨_, rfl⟩, .inl ⟨_, rfl, by rw [HN.out]; exact hJs⟩⟩
/-- A ring's pointer, and what its row is. -/
def RowOf (w : World) (rp : Option Addr) (xs : List Int) : Prop := xs.length ≤ 1048576 ∧ ((rp = none ∧ xs = []) ∨ ∃ g, rp = some ⟨g, 0, none⟩ ∧ ∀ W, Below w.heap.size w W → Calls Try.prog 73 #[.pointer (some ⟨g, 0, none⟩)] W fun e W' => ∃ v', e = .returned v' ∧ OwnI W W' v' xs ∧ Below W.heap.size W W')
theorem RowOf.nil (w : World) : RowOf w none [] := ⟨Nat.zero_le _, .inl ⟨rfl, rfl⟩⟩
theorem RowOf.below {w w1 : World} {rp : Option Addr} {xs : List Int} (h : RowOf w rp xs) (hb : Below w.heap.size w w1) : RowOf w1 rp xs :=
  ⟨h.1, h.2.imp id fun ⟨g, e, hc⟩ => ⟨g, e, fun W hW => hc W (below_step hb hW)⟩⟩
theorem RowOf.ring {w0 w : World} {g : Nat} {most : Int} {xs : List Int} {b : Option Nat} (h : RQ w0 w g most xs b) : RowOf w (some ⟨g, 0, none⟩) xs :=
  ⟨by have := h.bounds; omega, .inr ⟨g, rfl, fun W hW => row_q (h.below hW)⟩⟩
theorem RB_below {W W' : World} {g : Nat} {most : Int} {v : Value} {f n : Nat} (h : RB W g most v f n) (hb : Below W.heap.size W W') : RB W' g most v f n := blk_below h hb
set_option maxHeartbeats 8000000 in
set_option maxRecDepth 100000 in
theorem row_empty (W : World) (g : Nat) (most : Int) (v : Value) (f n : Nat) (h : RB W g most v f n) (hn : n = 0) :
    Calls Try.prog 73 #[.pointer (some ⟨g, 0, none⟩)] W fun e W' => ∃ v', e = .returned v' ∧ OwnI W W' v' [] ∧ Below W.heap.size W W' := by
  have HG := Aside0.mk h
  have HN := Aside0.mk hn
  have HB := Aside0.mk (Below.refl W.heap.size W)
  have kn1 := eq_true (show (0 : Int) ≤ (n : Int) by omega)
  clear h hn
  go_enter Try.func73, Try.ntmps73
  go_wp2_with (first
    | ((go_at_call 29); (with_reducible refine (len_calls _ g most v f n (RB_below HG.out HB.out)).mono ?_); rintro e w1 ⟨rfl, hd⟩; have n0 := Aside0.mk (below_step HB.out hd.below); clear HB hd; have HB := n0; clear n0)
    | ((with_reducible refine gate_dst (N := 7) rfl ?_); refine Kd.R_make_cap (Kd.int .i64) _ 3 ?hg (N := 7) ?hd 40 _ _ rfl (n : Int) rfl rfl Try.underlying40 (.int .i64 0) 8 infoR rfl (by decide) (by decide) (0 : Int) (ok := fun _ => True) (okp := fun _ => True) rfl (fun _ hk => hk) trivial (by omega) (by have h_ := HN.out; omega) (Below.refl _ _) (Nat.le_refl _) ?_; (case hd => rfl); (case hg => rfl); intro v1 w1 ho1 hb hg_ hn_; have HO := Aside0.mk (show OI W w1 v1 [] from ⟨Kd.R_lower ho1 (below_size HB.out), below_step HB.out hb⟩); clear HB ho1 hb hg_ hn_)
    | ((go_at_call 29); (with_reducible refine (len_calls _ g most v f n (RB_below HG.out HO.out.bl)).mono ?_); rintro e w2 ⟨rfl, hd⟩; have n0 := Aside0.mk (HO.out.below hd.below); clear HO hd; have HO := n0; clear n0))
  go_loopg [3, 10] 0 (fun kq v3 v10 W2 => v10 = .int .i64 0 ∧ Aside0 (OI W W2 v3 []))
  case atStart => exact ⟨rfl, HO⟩
  case round =>
    clear HO
    obtain ⟨rfl, HO⟩ := hrel
    have hn := HN.out
    have hl2 : decide ((0 : Int) < (n : Int)) = false := decide_eq_false (by omega)
    have hl3 : decide (0 < n) = false := decide_eq_false (by omega)
    clear hn
    go_wp2_with (fail)
    go_ret
    exact ⟨_, rfl, HO.out.ow, HO.out.bl⟩
theorem RowOf.zero {w : World} {g : Nat} {v : Value} {most : Int} {f : Nat} (h : RB w g most v f 0) : RowOf w (some ⟨g, 0, none⟩) [] :=
  ⟨Nat.zero_le _, .inr ⟨g, rfl, fun W hW => row_empty W g most v f 0 (RB_below h hW) rfl⟩⟩
theorem each_stops (n : Nat) (hn : 1 ≤ n) (Bs B : Nat) (rp : Option Addr) (xs : List Int) (w : World) (h : RowOf w rp xs) (hlt : Bs < w.heap.size) (hc : w.cell? ⟨Bs, 0, none⟩ = some (.pointer rp)) (hB : B ≤ w.heap.size) :
    SeqStopsK Fence.wide n Try.prog 75 #[.pointer (some ⟨Bs, 0, none⟩)] encI (KpI B) (fun ys => ys = uptoI xs xs.length) (fun pre => ∃ k, k ≤ xs.length ∧ pre = uptoI xs k) xs.length w := fun l J Jx W hW hJ _ hY h0 => by
  have hc' := (hW.cell (p := ⟨Bs, 0, none⟩) hlt).trans hc
  rcases h.2 with ⟨rfl, rfl⟩ | ⟨g, rfl, hr⟩
  · exact (each_nil_in n l Bs J W hc' h0).mono fun e W' ⟨he, hj⟩ => ⟨he, .inl ⟨_, rfl, hj⟩⟩
  · exact each1_in n hn l Bs B g xs h.1 J Jx hY W (Nat.le_trans hB hW.size) hc' (hr W hW) fun W' hb => hJ [] W W' none h0 ⟨hb.os, hb.tape, hb.output, hb.size, fun i hi _ => hb.block i hi⟩ (fun r e => by cases e)
/-- What add makes. -/
def addV (a : ByteArray) (v : Int) : ByteArray := a ++ strOfNums [(wrap64 (97 + (Int.tmod (wrap64 ((Int.tmod v 26) + 26)) 26))) % 256]
def foldV (a : ByteArray) (xs : List Int) : ByteArray := xs.foldl addV a
theorem foldV_snoc (a : ByteArray) (xs : List Int) (x : Int) : foldV a (xs ++ [x]) = addV (foldV a xs) x := by simp [foldV]
theorem addV_size (a : ByteArray) (v : Int) : (addV a v).size = a.size + 1 := by
  unfold addV
  rw [ByteArray.size_append]
  rfl
theorem foldV_size (a : ByteArray) (xs : List Int) : (foldV a xs).size = a.size + xs.length := by
  induction xs generalizing a with
  | nil => rfl
  | cons x xs ih =>
    show (foldV (addV a x) xs).size = _
    rw [ih, addV_size, List.length_cons]
    omega
set_option maxHeartbeats 8000000 in
set_option maxRecDepth 100000 in
theorem add_calls (a : ByteArray) (v : Int) (w : World) (h : a.size ≤ 4611686018427387904) :
    Calls Try.prog 35 #[.string a, .int .i64 v] w fun e w' => e = .returned (.string (addV a v)) ∧ Below w.heap.size w w' := by
  have HB := Aside0.mk (Below.refl w.heap.size w)
  obtain ⟨ys, hys⟩ : ∃ ys : List Int, ys = [(wrap64 (97 + (Int.tmod (wrap64 ((Int.tmod v 26) + 26)) 26))) % 256] := ⟨_, rfl⟩
  have HY := Aside0.mk hys
  have HE : Aside0 (addV a v = a ++ strOfNums ys) := ⟨by rw [hys]; rfl⟩
  have c3 : a.size + (strOfNums ys).size ≤ 9223372036854775807 := by
    have := addV_size a v
    rw [HE.out, ByteArray.size_append] at this
    omega
  have c3b0 := eq_true c3
  have c3b1 : decide (a.size + (strOfNums ys).size ≤ 9223372036854775807) = true := decide_eq_true c3
  have c3b2 : (9223372036854775807 < a.size + (strOfNums ys).size) = False := eq_false (Nat.not_lt.2 c3)
  clear hys c3 h
  rw [HE.out]
  go_enter Try.func35, Try.ntmps35
  go_wp2_with (first | ((with_reducible refine gate_dst (N := 12) rfl ?_); refine Kd.R_lit (Kd.int .u8) _ 5 ?hg (N := 12) ?hd (xs := ([(wrap64 (97 + (Int.tmod (wrap64 ((Int.tmod v 26) + 26)) 26))) % 256] : List Int)) (inner := [.int .u8 ((wrap64 (97 + (Int.tmod (wrap64 ((Int.tmod v 26) + 26)) 26))) % 256)]) (ok := fun _ => True) (okp := fun _ => True) ?hr ?hp (fun _ hk => hk) trivial (Below.refl _ _) (Nat.le_refl _) (by simp) ?_; (case hd => rfl); (case hg => rfl); (case hr => first | (go_simp; done) | (go_simp; rfl)); (case hp => exact (Reps.one (show Kd.M (Kd.int .u8) _ _ _ ((wrap64 (97 + (Int.tmod (wrap64 ((Int.tmod v 26) + 26)) 26))) % 256) [.int .u8 ((wrap64 (97 + (Int.tmod (wrap64 ((Int.tmod v 26) + 26)) 26))) % 256)] from rfl) (Reps.none _ _))); intro v154 w4 ho5 hb hg_ hnew_; clear hg_ hnew_; (rw [← HY.out] at ho5); have n0_ := Aside0.mk (Kd.R_lower ho5 (below_size HB.out)); have n1_ := Aside0.mk (below_step HB.out hb); clear HB; have HO155 := n0_; have HB := n1_; clear n0_ n1_; clear hb ho5; have hcv6 := own_string (P := Try.prog) Try.underlying107 Try.underlying5 Try.underlying9 (Kd.own_of_R HO155.out)))
  go_ret
  exact ⟨rfl, by repeat (first | (with_reducible first | exact HB.out | apply below_alloc | apply pw_below_drewN | apply below_drew1) | exact HB.out)⟩
end Go.Proofs.Ytekjkookkjjbcaa.EA
