/- Each of a ring of things (walked by hand). -/
import Derived.RangeFuncNested
import Derived.RangeFuncBound
import Derived.RangeFuncCalls
import Derived.RangeFuncLeaves
import Derived.Shelf.Abstract
import Derived.Shelf.RegionOpen
import Derived.WalkKit
import Derived.OwnWalkIn
import Derived.TacticsInMore
import Derived.LoopNIn
import Derived.LoopIn
import Derived.Test.YtekjkookkjjbcaaPairS
import Derived.Test.YtekjkookkjjbcaaEach
namespace Go.Proofs.Ytekjkookkjjbcaa.EX
set_option linter.unusedVariables false
set_option linter.unusedSimpArgs false
set_option linter.unusedVariables false
set_option linter.unusedSimpArgs false
open Go.RowKit Go.Shelf Go.Proofs.YtekjkookkjjbcaaW.PrintWords Go.Proofs.YtekjkookkjjbcaaW.PrintLast Go.Proofs.YtekjkookkjjbcaaW.PrintMore Go.Proofs.Ytekjkookkjjbcaa.B Go.Proofs.Ytekjkookkjjbcaa.M Go.Proofs.Ytekjkookkjjbcaa.RX
open Go.Proofs.Ytekjkookkjjbcaa.RH (T2 d2 kT RT MovedR R2_cell)
attribute [local go_sem] Oper.semAt_some
/-- What a round keeps: the rows of whole numbers that lay. -/
def KpI (B : Nat) (W W' : World) : Prop := ∀ i cs, B ≤ i → W.heap[i]? = some (.cells cs 29 (0, 0)) → W'.heap[i]? = some (.cells cs 29 (0, 0))
theorem KpI.t {B : Nat} {X Y Z : World} (h : KpI B X Y) (k : KpI B Y Z) : KpI B X Z := fun i cs hi e => k i cs hi (h i cs hi e)
theorem KpI.refl (B : Nat) (X : World) : KpI B X X := fun _ _ _ h => h
theorem KpI.b {B n : Nat} (W : World) (l : Nat) (o o' : Obj) (hl : n ≤ l) (h : W.heap[l]? = some o) (hc : o.isCells = false) (_ : o.isWalk = false) : KpI B W (W.putObj l o') := fun i cs _ e => by
  have hne : i ≠ l := fun e2 => by
    subst e2
    rw [e] at h
    cases h
    cases hc
  exact (World.putObj_heap_other hne).trans e
theorem KpI.of_below {B : Nat} {W W' : World} (h : Below W.heap.size W W') : KpI B W W' := fun i cs _ e => (h.block i (Array.getElem?_eq_some_iff.1 e).1).trans e
theorem KpI.set {B b o : Nat} {W : World} {v : Value} {cb : Array Value} {t : Nat} (hb : W.heap[b]? = some (.cells cb t (0, 0))) (ht : t ≠ 29) : KpI B W (W.setCell ⟨b, o, none⟩ v) := fun i cs _ e => by
  refine (Below.heap_setCell W ⟨b, o, none⟩ v i (fun e2 => ?_)).trans e
  subst e2
  rw [e] at hb
  injection hb with hb
  injection hb with _ hb
  exact ht hb.symm
/-- What has come behind k rounds. -/
def uptoI (xs : List T2) (k : Nat) : List (Nat × T2) := (List.range k).map fun j => (j, xs.getD j d2)
theorem uptoI_succ (xs : List T2) (k : Nat) : uptoI xs (k + 1) = uptoI xs k ++ [(k, xs.getD k d2)] := by simp [uptoI, List.range_succ]
theorem uptoI_len (xs : List T2) (k : Nat) : (uptoI xs k).length = k := by simp [uptoI]
theorem uptoI_snd (xs : List T2) : (uptoI xs xs.length).map (·.2) = xs := by
  apply List.ext_getElem
  · simp [uptoI]
  · intro i h1 h2
    simp [uptoI, List.getD_eq_getElem?_getD, h2]
abbrev encI (x : Nat × T2) : Array Value := #[.int .i64 (x.1 : Int), .agg #[.int .i64 x.2.1, .int .i64 x.2.2]]
set_option maxHeartbeats 1000000 in
theorem each_in (n : Nat) (rp : Option Addr) (w : World) :
    CallsIn Fence.wide n Try.prog 80 #[.pointer rp] w fun e w' => e = .returned (.func (.func 92) #[] #[.pointer (some ⟨w.heap.size, 0, none⟩)]) ∧ w' = w.alloc (.cells #[.pointer rp] 67) := by
  refine callsIn_of_wp Try.func80 rfl trivial ?_ rfl
  simp only [Try.ntmps80, List.size_toArray, List.length_cons, List.length_nil, Nat.reduceAdd, Nat.reduceSub, Array.replicate_succ, Array.replicate_zero, List.push_toArray, List.append_toArray, List.nil_append, List.cons_append]
  gi_wp2
  go_ret
  exact ⟨rfl, rfl⟩
set_option maxRecDepth 100000 in
set_option maxHeartbeats 2000000 in
/-- Of no ring: no round. -/
theorem each_nil_in (n : Nat) (l Bs : Nat) (J : List (Nat × T2) → World → Prop) (W : World) (hBs : W.cell? ⟨Bs, 0, none⟩ = some (.pointer none)) (h0 : J [] W) :
    CallsIn Fence.wide n Try.prog 92 #[.func (.yield l) #[] #[], .pointer (some ⟨Bs, 0, none⟩)] W fun e W' => (∃ v, e = .returned v) ∧ J [] W' := by
  refine callsIn_of_wp Try.func92 rfl trivial ?_ rfl
  simp only [Try.ntmps92, List.size_toArray, List.length_cons, List.length_nil, Nat.reduceAdd, Nat.reduceSub, Array.replicate_succ, Array.replicate_zero, List.push_toArray, List.append_toArray, List.nil_append, List.cons_append]
  gi_wp2
  refine bodyPost_ret (results_none rfl _ _ _) rfl ?_
  exact ⟨⟨_, rfl⟩, h0⟩
set_option maxRecDepth 100000 in
set_option maxHeartbeats 4000000 in
theorem each1_in (n : Nat) (hn : 1 ≤ n) (l Bs B g : Nat) (xs : List T2) (hreach : xs.length ≤ 1048576) (J Jx : List (Nat × T2) → World → Prop)
    (hY : ∀ pre x W, J pre W → pre.length < xs.length → YieldAt Fence.wide (n - 1) Try.prog l (encI x) W fun e W' =>
      (e = .returned (.bool true) ∧ J (pre ++ [x]) W' ∧ KpI B W W') ∨ (e = .returned (.bool false) ∧ Jx (pre ++ [x]) W'))
    (W : World) (hB : B ≤ W.heap.size) (hBs : W.cell? ⟨Bs, 0, none⟩ = some (.pointer (some ⟨g, 0, none⟩)))
    (hrow : Calls Try.prog 83 #[.pointer (some ⟨g, 0, none⟩)] W fun e W' => ∃ v', e = .returned v' ∧ OwnI W W' v' xs ∧ Below W.heap.size W W')
    (h0 : J [] W) (hJ : ∀ pre W W', J pre W → Below W.heap.size W W' → J pre W') :
    CallsIn Fence.wide n Try.prog 92 #[.func (.yield l) #[] #[], .pointer (some ⟨Bs, 0, none⟩)] W fun e W' => (∃ v, e = .returned v) ∧
      ((∃ ys, ys = uptoI xs xs.length ∧ J ys W') ∨ (∃ pre, (∃ k, k ≤ xs.length ∧ pre = uptoI xs k) ∧ Jx pre W')) := by
  refine callsIn_of_wp Try.func92 rfl trivial ?_ rfl
  simp only [Try.ntmps92, List.size_toArray, List.length_cons, List.length_nil, Nat.reduceAdd, Nat.reduceSub, Array.replicate_succ, Array.replicate_zero, List.push_toArray, List.append_toArray, List.nil_append, List.cons_append]
  gi_wp2_with (refine ⟨trivial, ?_⟩; gi_at_call 83; refine (callsIn_wide.2 hrow).mono ?_; rintro e w1 ⟨v', rfl, ho, hb⟩; obtain ⟨A1, c1, rfl⟩ := Kd.R_slice ho; have HO := Aside0.mk ho; have HJ1 := Aside0.mk (hJ _ _ _ h0 hb); have HW1 := Aside0.mk hb; clear hrow ho hb)
  have HR := Aside0.mk hreach
  have HJ := Aside0.mk hJ
  clear hJ
  obtain ⟨N, hN⟩ : ∃ N, xs.length = N := ⟨_, rfl⟩
  have HN := Aside0.mk hN
  rw [hN] at hY hreach ⊢
  clear hN
  gi_loopw [10] (fun p wr => ∃ k : Nat, k ≤ N ∧ p = .int .i64 (k : Int) ∧ J (uptoI xs k) wr ∧ Aside0 (KpI B w1 wr)) (fun p _ => N - (intOf p).toNat)
  case atStart => exact ⟨0, Nat.zero_le _, rfl, HJ1.out, ⟨KpI.refl _ _⟩⟩
  case round =>
    obtain ⟨k, hk, rfl, hJs, HK⟩ := hrel
    by_cases hlt : k < N
    · obtain ⟨g9, c9, hv, hb9, _, cs9, hc9⟩ := Kd.R_form HO.out (by rw [HN.out]; omega)
      injection hv with hv1 hv2 hv3
      subst hv1
      have hx := R2_cell HO.out k (by rw [HN.out]; exact hlt)
      have hk9 : wr.heap[g9]? = w1.heap[g9]? := (HK.out g9 cs9 (Nat.le_trans hB hb9) hc9).trans hc9.symm
      have hcx : wr.cell? ⟨g9, k * 2, none⟩ = some (.int .i64 (xs.getD k d2).1) := by
        have h_ := hx.1
        simp only [World.cell?, hk9] at h_ ⊢
        exact h_
      have hcy : wr.cell? ⟨g9, k * 2 + 1, none⟩ = some (.int .i64 (xs.getD k d2).2) := by
        have h_ := hx.2.1
        simp only [World.cell?, hk9] at h_ ⊢
        exact h_
      obtain ⟨fn, tmps, assign, body, hy, hR⟩ := hY _ (k, xs.getD k d2) (wr.alloc (.cells #[.int .i64 (xs.getD k d2).1, .int .i64 (xs.getD k d2).2] 29 (0, 0))) (HJ.out _ _ _ hJs (below_alloc (Below.refl _ _) _)) (by rw [uptoI_len]; exact hlt)
      dsimp only [encI] at hy
      obtain ⟨y, hy2⟩ : ∃ y, xs.getD k d2 = y := ⟨_, rfl⟩
      rw [hy2] at hcx hcy hy hR
      have HY2 := Aside0.mk hy2
      clear hx hy2
      have p1 := eq_true (show (0 : Int) ≤ (k : Int) by omega)
      have p2 := eq_true (show (k : Int) < (N : Int) by omega)
      have hl2 : decide ((k : Int) < (N : Int)) = true := decide_eq_true (by omega)
      have hl3 : decide (k < N) = true := decide_eq_true hlt
      have q1 : IntKind.i64.wrap ((k : Int) + 1) = ((k + 1 : Nat) : Int) := by have h_ := HR.out; have h2_ := HN.out; rw [i64_w, wrap_id _ (by omega) (by omega)]; rfl
      clear hk9 hc9 hb9 hv2 hv3
      gi_wp2
      refine hR.mono ?_
      rintro e W3 (⟨rfl, hJ3, hk3⟩ | ⟨rfl, hJx3⟩)
      · gi_wp2
        go_roundw
        case rel => exact ⟨k + 1, by omega, rfl, by rw [uptoI_succ, HY2.out]; exact hJ3, ⟨(HK.out.t (KpI.of_below (below_alloc (Below.refl _ _) _))).t hk3⟩⟩
        case measure => simp [intOf]; omega
      · gi_wp2
        refine bodyPost_ret (results_none rfl _ _ _) rfl ?_
        exact ⟨⟨_, rfl⟩, .inr ⟨_, ⟨k + 1, by rw [HN.out]; omega, by rw [uptoI_succ, HY2.out]⟩, hJx3⟩⟩
    · obtain rfl : k = N := by omega
      have hl2 : decide ((k : Int) < (k : Int)) = false := decide_eq_false (by omega)
      gi_wp2
      go_end0
      exact ⟨⟨_, rfl⟩, .inl ⟨_, rfl, by rw [HN.out]; exact hJs⟩⟩
/-- A ring's pointer, and what its row is. -/
def RowOf (w : World) (rp : Option Addr) (xs : List T2) : Prop := xs.length ≤ 1048576 ∧ ((rp = none ∧ xs = []) ∨ ∃ g, rp = some ⟨g, 0, none⟩ ∧ ∀ W, Below w.heap.size w W → Calls Try.prog 83 #[.pointer (some ⟨g, 0, none⟩)] W fun e W' => ∃ v', e = .returned v' ∧ OwnI W W' v' xs ∧ Below W.heap.size W W')
theorem RowOf.nil (w : World) : RowOf w none [] := ⟨Nat.zero_le _, .inl ⟨rfl, rfl⟩⟩
theorem RowOf.below {w w1 : World} {rp : Option Addr} {xs : List T2} (h : RowOf w rp xs) (hb : Below w.heap.size w w1) : RowOf w1 rp xs :=
  ⟨h.1, h.2.imp id fun ⟨g, e, hc⟩ => ⟨g, e, fun W hW => hc W (below_step hb hW)⟩⟩
theorem RowOf.ring {w0 w : World} {g : Nat} {most : Int} {xs : List T2} {b : Option Nat} (h : RQ w0 w g most xs b) : RowOf w (some ⟨g, 0, none⟩) xs :=
  ⟨by have := h.bounds; omega, .inr ⟨g, rfl, fun W hW => row_q (h.below hW)⟩⟩
theorem each_stops (n : Nat) (hn : 1 ≤ n) (Bs B : Nat) (rp : Option Addr) (xs : List T2) (w : World) (h : RowOf w rp xs) (hlt : Bs < w.heap.size) (hc : w.cell? ⟨Bs, 0, none⟩ = some (.pointer rp)) (hB : B ≤ w.heap.size) :
    SeqStopsK Fence.wide n Try.prog 92 #[.pointer (some ⟨Bs, 0, none⟩)] encI (KpI B) (fun ys => ys = uptoI xs xs.length) (fun pre => ∃ k, k ≤ xs.length ∧ pre = uptoI xs k) xs.length w := fun l J Jx W hW hJ _ hY h0 => by
  have hc' := (hW.cell (p := ⟨Bs, 0, none⟩) hlt).trans hc
  rcases h.2 with ⟨rfl, rfl⟩ | ⟨g, rfl, hr⟩
  · exact (each_nil_in n l Bs J W hc' h0).mono fun e W' ⟨he, hj⟩ => ⟨he, .inl ⟨_, rfl, hj⟩⟩
  · exact each1_in n hn l Bs B g xs h.1 J Jx hY W (Nat.le_trans hB hW.size) hc' (hr W hW) h0 fun pre W W' h hb => hJ pre W W' none h ⟨hb.os, hb.tape, hb.output, hb.size, fun i hi _ => hb.block i hi⟩ (fun r e => by cases e)
end Go.Proofs.Ytekjkookkjjbcaa.EX
