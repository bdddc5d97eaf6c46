/- QueueNil: what is none, and what New did not make (walked by hand). -/
import Derived.Test.YtekjkookkjjbcaaNilC
namespace Go.Proofs.Ytekjkookkjjbcaa.Pure
set_option linter.unusedVariables false
set_option linter.unusedSimpArgs false
set_option linter.unusedVariables false
set_option linter.unusedSimpArgs false
open Go.RowKit Go.Shelf Go.Proofs.YtekjkookkjjbcaaW.PrintWords Go.Proofs.YtekjkookkjjbcaaW.PrintLast Go.Proofs.YtekjkookkjjbcaaW.PrintMore Go.Proofs.Ytekjkookkjjbcaa.B Go.Proofs.Ytekjkookkjjbcaa.M Go.Proofs.Ytekjkookkjjbcaa.RI Go.Proofs.Ytekjkookkjjbcaa.EA Go.Proofs.Ytekjkookkjjbcaa.NI
attribute [local go_sem] Oper.semAt_some
theorem infoS : (Try.prog.info? 9).map (fun i => (i.zero, i.size, i.bytes)) = some (some (.string ⟨#[]⟩), 1, 16) := by kernel_rfl
set_option maxRecDepth 100000 in
set_option maxHeartbeats 4000000 in
theorem zr_row {W : World} {g : Nat} (h : ZR W g) :
    Calls Try.prog 90 #[.pointer (some ⟨g, 0, none⟩)] W fun e W' => ∃ A c, e = .returned (.slice A 0 c) ∧ Below W.heap.size W W' := by
  have HZ := Aside0.mk h
  have HB := Aside0.mk (Below.refl W.heap.size W)
  clear h
  go_enter Try.func90, Try.ntmps90
  go_wp2_with (first
    | ((go_at_call 64); (with_reducible refine (zr_len (HZ.out.below HB.out)).mono ?_); rintro e w1 ⟨rfl, hd⟩; have n0 := Aside0.mk (below_step HB.out hd); clear HB hd; have HB := n0; clear n0)
    | ((with_reducible refine gate_dst (N := 7) rfl ?_); refine Kd.R_make_cap Kd.string _ 9 ?hg (N := 7) ?hd 78 _ _ rfl (0 : Int) rfl rfl Try.underlying78 (.string ⟨#[]⟩) 16 infoS rfl (by decide) (by decide) (⟨#[]⟩ : ByteArray) (ok := fun _ => True) (okp := fun _ => True) rfl (fun _ hk => hk) trivial (by omega) (by decide) (Below.refl _ _) (Nat.le_refl _) ?_; (case hd => rfl); (case hg => rfl); intro v1 w1 ho1 hb hg_ hn_; obtain ⟨A1, c1, rfl⟩ := Kd.R_slice ho1; have n0 := Aside0.mk (below_step HB.out hb); clear HB ho1 hb hg_ hn_; have HB := n0; clear n0))
  go_loopg [3, 10] 0 (fun kq v3 v10 W2 => v10 = .int .i64 0 ∧ Aside0 (Below W.heap.size W W2 ∧ ∃ A c, v3 = .slice A 0 c))
  case atStart => exact ⟨rfl, ⟨HB.out, _, _, rfl⟩⟩
  case round =>
    clear HB
    obtain ⟨rfl, HO⟩ := hrel
    obtain ⟨hb, A2, c2, rfl⟩ := HO.out
    clear HO
    go_wp2_with (fail)
    go_ret
    exact ⟨_, _, rfl, hb⟩
theorem boxed_below' {X Y : World} {b t : Nat} {v : Value} (h : Boxed X b t v) (hb : Below X.heap.size X Y) : Boxed Y b t v := blk_below h hb
theorem eachS_in (n : Nat) (rp : Option Addr) (w : World) :
    CallsIn Fence.wide n Try.prog 63 #[.pointer rp] w fun e w' => e = .returned (.func (.func 91) #[] #[.pointer (some ⟨w.heap.size, 0, none⟩)]) ∧ w' = w.alloc (.cells #[.pointer rp] 118) := by
  refine callsIn_of_wp Try.func63 rfl trivial ?_ rfl
  simp only [Try.ntmps63, List.size_toArray, List.length_cons, List.length_nil, Nat.reduceAdd, Nat.reduceSub, Array.replicate_succ, Array.replicate_zero, List.push_toArray, List.append_toArray, List.nil_append, List.cons_append]
  gi_wp2
  go_ret
  exact ⟨rfl, rfl⟩
set_option maxRecDepth 100000 in
set_option maxHeartbeats 4000000 in
theorem eachS1_in (n : Nat) (hn : 1 ≤ n) (l Bs g : Nat) (J : List (Nat × ByteArray) → World → Prop) (W : World) (hBs : W.cell? ⟨Bs, 0, none⟩ = some (.pointer (some ⟨g, 0, none⟩))) (hz : ZR W g) (hJ : ∀ W', Below W.heap.size W W' → J [] W') :
    CallsIn Fence.wide n Try.prog 91 #[.func (.yield l) #[] #[], .pointer (some ⟨Bs, 0, none⟩)] W fun e W' => (∃ v, e = .returned v) ∧ J [] W' := by
  refine callsIn_of_wp Try.func91 rfl trivial ?_ rfl
  simp only [Try.ntmps91, List.size_toArray, List.length_cons, List.length_nil, Nat.reduceAdd, Nat.reduceSub, Array.replicate_succ, Array.replicate_zero, List.push_toArray, List.append_toArray, List.nil_append, List.cons_append]
  gi_wp2
  refine ⟨trivial, ?_⟩
  gi_at_call 90
  refine (callsIn_wide.2 (zr_row hz)).mono ?_
  rintro e w1 ⟨A1, c1, rfl, hb⟩
  have HJ1 := Aside0.mk (hJ _ hb)
  clear hb
  gi_wp2
  gi_loopw [10] (fun p wr => p = .int .i64 0 ∧ J [] wr) (fun _ _ => 0)
  case atStart => exact ⟨rfl, HJ1.out⟩
  case round =>
    obtain ⟨rfl, hJs⟩ := hrel
    gi_wp2
    go_end0
    exact ⟨⟨_, rfl⟩, hJs⟩
def KpT (_ _ : World) : Prop := True
theorem eachS_stops (n : Nat) (hn : 1 ≤ n) (Bs g : Nat) (w : World) (hz : ZR w g) (hlt : Bs < w.heap.size) (hc : w.cell? ⟨Bs, 0, none⟩ = some (.pointer (some ⟨g, 0, none⟩))) :
    SeqStopsK Fence.wide n Try.prog 91 #[.pointer (some ⟨Bs, 0, none⟩)] (fun x : Nat × ByteArray => #[.int .i64 (x.1 : Int), .string x.2]) KpT (fun ys => ys = []) (fun _ => False) 0 w := fun l J Jx W hW hJ _ _ h0 => by
  have hc' := (hW.cell (p := ⟨Bs, 0, none⟩) hlt).trans hc
  exact (eachS1_in n hn l Bs g J W hc' (blk_below hz hW) fun W' hb => hJ [] W W' none h0 ⟨hb.os, hb.tape, hb.output, hb.size, fun i hi _ => hb.block i hi⟩ (fun r e => by cases e)).mono fun e W' ⟨he, hj⟩ => ⟨he, .inl ⟨_, rfl, hj⟩⟩
set_option maxRecDepth 100000 in
set_option maxHeartbeats 4000000 in
theorem nil_in (n : Int) (w : World) :
    Calls Try.prog 11 #[.int .i64 n] w fun e W' => e = .returned (.bool true) ∧ Below w.heap.size w W' := by
  refine (callsIn_wide (n := 6)).1 ?_
  refine callsIn_of_wp_marks Try.func11 rfl trivial ?_ rfl
  simp only [Try.ntmps11, List.size_toArray, List.length_cons, List.length_nil, Nat.reduceAdd, Nat.reduceSub, Array.replicate_succ, Array.replicate_zero, List.push_toArray, List.append_toArray, List.nil_append, List.cons_append]
  gi_wp2
  have hb2 : Boxed (((w.alloc (.cells #[.bool false] 4)).alloc (.cells #[.int .i64 0, .slice none 0 0, .int .i64 0, .int .i64 0] 80)).alloc (.cells #[.nilFunc, .slice none 0 0, .int .i64 0] 85)) w.heap.size 4 (.bool false) := ((Boxed.new w _ _).alloc _).alloc _
  have hz1 : ZR (((w.alloc (.cells #[.bool false] 4)).alloc (.cells #[.int .i64 0, .slice none 0 0, .int .i64 0, .int .i64 0] 80)).alloc (.cells #[.nilFunc, .slice none 0 0, .int .i64 0] 85)) (w.heap.size + 1) := by
    have := blk_below (heap_alloc_new (w.alloc (.cells #[.bool false] 4)) (.cells #[.int .i64 0, .slice none 0 0, .int .i64 0, .int .i64 0] 80)) (below_alloc (Below.refl _ _) (.cells #[.nilFunc, .slice none 0 0, .int .i64 0] 85))
    rw [World.size_alloc] at this
    exact this
  have hz2 : ZH (((w.alloc (.cells #[.bool false] 4)).alloc (.cells #[.int .i64 0, .slice none 0 0, .int .i64 0, .int .i64 0] 80)).alloc (.cells #[.nilFunc, .slice none 0 0, .int .i64 0] 85)) (w.heap.size + 1 + 1) := by
    have := heap_alloc_new ((w.alloc (.cells #[.bool false] 4)).alloc (.cells #[.int .i64 0, .slice none 0 0, .int .i64 0, .int .i64 0] 80)) (.cells #[.nilFunc, .slice none 0 0, .int .i64 0] 85)
    rw [World.size_alloc, World.size_alloc] at this
    exact this
  have hB0 : Below w.heap.size w (((w.alloc (.cells #[.bool false] 4)).alloc (.cells #[.int .i64 0, .slice none 0 0, .int .i64 0, .int .i64 0] 80)).alloc (.cells #[.nilFunc, .slice none 0 0, .int .i64 0] 85)) := below_alloc (below_alloc (below_alloc (Below.refl _ _) _) _) _
  obtain ⟨W0, hW0⟩ : ∃ W0, (((w.alloc (.cells #[.bool false] 4)).alloc (.cells #[.int .i64 0, .slice none 0 0, .int .i64 0, .int .i64 0] 80)).alloc (.cells #[.nilFunc, .slice none 0 0, .int .i64 0] 85)) = W0 := ⟨_, rfl⟩
  rw [hW0] at hb2 hz1 hz2 hB0
  rw [hW0]
  clear hW0
  obtain ⟨b2, hb2e⟩ : ∃ b2, w.heap.size = b2 := ⟨_, rfl⟩
  have HBE := Aside0.mk hb2e
  rw [hb2e] at hb2 hz1 hz2
  rw [hb2e]
  obtain ⟨g4, hg4⟩ : ∃ g4, b2 + 1 = g4 := ⟨_, rfl⟩
  rw [hg4] at hz1 hz2
  rw [hg4]
  obtain ⟨g6, hg6⟩ : ∃ g6, g4 + 1 = g6 := ⟨_, rfl⟩
  rw [hg6] at hz2
  rw [hg6]
  have HZ := Aside0.mk (And.intro hz1 hz2)
  have H2 := Aside0.mk hb2
  have HB := Aside0.mk (Below.refl W0.heap.size W0)
  have HB0 := Aside0.mk hB0
  clear hb2 hz1 hz2 hB0 hb2e hg4 hg6
  gi_wp2_with (first
    | (refine ⟨trivial, ?_⟩; gi_at_call 28; refine (callsIn_wide.2 (NI.pop_nil _)).mono ?_; rintro e w9 ⟨rfl, hb⟩; have n0 := Aside0.mk (below_step HB.out hb); clear HB hb; have HB := n0; clear n0)
    | (refine ⟨trivial, ?_⟩; gi_at_call 54; refine (callsIn_wide.2 (zr_pop (HZ.out.1.below HB.out))).mono ?_; rintro e w9 ⟨rfl, hb⟩; have n0 := Aside0.mk (below_step HB.out hb); clear HB hb; have HB := n0; clear n0)
    | (refine ⟨trivial, ?_⟩; gi_at_call 39; refine (callsIn_wide.2 (at_nil _ n)).mono ?_; rintro e w9 ⟨rfl, hb⟩; have n0 := Aside0.mk (below_step HB.out hb.below); clear HB hb; have HB := n0; clear n0)
    | (refine ⟨trivial, ?_⟩; gi_at_call 55; refine (callsIn_wide.2 (zr_at (HZ.out.1.below HB.out) n)).mono ?_; rintro e w9 ⟨rfl, hb⟩; have n0 := Aside0.mk (below_step HB.out hb); clear HB hb; have HB := n0; clear n0)
    | (refine ⟨trivial, ?_⟩; gi_at_call 56; refine (callsIn_wide.2 (hi_pop _)).mono ?_; rintro e w9 ⟨rfl, hb⟩; have n0 := Aside0.mk (below_step HB.out hb); clear HB hb; have HB := n0; clear n0)
    | (refine ⟨trivial, ?_⟩; gi_at_call 57; refine (callsIn_wide.2 (zh_pop (HZ.out.2.below HB.out))).mono ?_; rintro e w9 ⟨rfl, hb⟩; have n0 := Aside0.mk (below_step HB.out hb); clear HB hb; have HB := n0; clear n0)
    | (refine ⟨trivial, ?_⟩; gi_at_call 58; refine (callsIn_wide.2 (hi_peek _)).mono ?_; rintro e w9 ⟨rfl, hb⟩; have n0 := Aside0.mk (below_step HB.out hb); clear HB hb; have HB := n0; clear n0)
    | (refine ⟨trivial, ?_⟩; gi_at_call 59; refine (callsIn_wide.2 (zh_peek (HZ.out.2.below HB.out))).mono ?_; rintro e w9 ⟨rfl, hb⟩; have n0 := Aside0.mk (below_step HB.out hb); clear HB hb; have HB := n0; clear n0)
    | (refine ⟨trivial, ?_⟩; gi_at_call 27; refine (callsIn_wide.2 (push_nil _ n)).mono ?_; rintro e w9 ⟨rfl, hb⟩; have n0 := Aside0.mk (below_step HB.out hb.below); clear HB hb; have HB := n0; clear n0)
    | (refine ⟨trivial, ?_⟩; gi_at_call 60; refine (callsIn_wide.2 (zr_push (HZ.out.1.below HB.out) _)).mono ?_; rintro e w9 ⟨rfl, hb⟩; have n0 := Aside0.mk (below_step HB.out hb); clear HB hb; have HB := n0; clear n0)
    | (refine ⟨trivial, ?_⟩; gi_at_call 61; refine (callsIn_wide.2 (hi_push _ n)).mono ?_; rintro e w9 ⟨rfl, hb⟩; have n0 := Aside0.mk (below_step HB.out hb); clear HB hb; have HB := n0; clear n0)
    | (refine ⟨trivial, ?_⟩; gi_at_call 62; refine (callsIn_wide.2 (zh_push (HZ.out.2.below HB.out) _)).mono ?_; rintro e w9 ⟨rfl, hb⟩; have n0 := Aside0.mk (below_step HB.out hb); clear HB hb; have HB := n0; clear n0))
  refine ⟨trivial, ?_⟩
  gi_at_call 38
  refine (each_in _ _ _).mono ?_
  rintro e w' ⟨rfl, rfl⟩
  gi_wp2
  have b13 : Boxed (w9.alloc (.cells #[.pointer none] 44)) w9.heap.size 44 (.pointer none) := Boxed.new _ _ _
  have hB1 := below_alloc HB.out (.cells #[.pointer none] 44)
  obtain ⟨W1, hW1⟩ : ∃ W1, w9.alloc (.cells #[.pointer none] 44) = W1 := ⟨_, rfl⟩
  rw [hW1] at b13 hB1
  rw [hW1]
  clear hW1 HB
  refine wpIn_rangeFunc_ownH rfl (by decide) (gf := 75) (lb := #[.pointer (some ⟨w9.heap.size, 0, none⟩)]) rfl trivial (enters_of Try.func75 (by kernel_rfl) rfl)
    (each_stops 5 (by decide) w9.heap.size W1.heap.size none [] W1 (RowOf.nil W1) b13.lt b13.cell (Nat.le_refl _)) (fun h k => h.t k) (fun W l o o' hl h1 h2 h3 => KpI.b (n := W1.heap.size) W l o o' hl h1 h2 h3) (Below.refl _ _) (fun _ => rfl)
    (fun pre W => Below W1.heap.size W1 W) (fun _ _ _ => False)
    (ownFrom_below (Nat.le_refl _) (Nat.le_refl _)) (fun _ _ _ _ _ hs _ _ => hs) (Below.refl _ _) (fun _ _ _ => True) (fun _ _ _ _ _ _ _ _ _ => trivial) ?assign ?body ?done ?stop
  case assign =>
    rintro l pre x W K hi hK
    gi_wp2
    exact hK _ _ (KeepsFrom.refl _ _) (KpI.refl _ _) hi trivial
  case body =>
    rintro l pre x a' W _ _ _ _ hl
    exact absurd hl (Nat.not_lt_zero _)
  case stop =>
    rintro D c pre W _ _ h _
    exact h.elim
  case done =>
    rintro D1 ys W hD1 _ hI hK1
    have HD1 := Aside0.mk (And.intro hD1 hK1)
    have HBW := Aside0.mk (below_step hB1 hI)
    clear hD1 hK1 hI
    gi_wp2_with (refine ⟨trivial, ?_⟩; gi_at_call 63; refine (eachS_in _ _ _).mono ?_; rintro e w' ⟨rfl, rfl⟩)
    have b14 : Boxed (W.alloc (.cells #[.pointer (some ⟨g4, 0, none⟩)] 118)) W.heap.size 118 (.pointer (some ⟨g4, 0, none⟩)) := Boxed.new _ _ _
    have hB2 := below_alloc HBW.out (.cells #[.pointer (some ⟨g4, 0, none⟩)] 118)
    have hK2 : (W.alloc (.cells #[.pointer (some ⟨g4, 0, none⟩)] 118)).heap[D1]? = some (.deferred (some [])) := blk_below HD1.out.2 (below_alloc (Below.refl _ _) _)
    obtain ⟨W2, hW2⟩ : ∃ W2, W.alloc (.cells #[.pointer (some ⟨g4, 0, none⟩)] 118) = W2 := ⟨_, rfl⟩
    rw [hW2] at b14 hB2 hK2
    rw [hW2]
    have hzW2 := HZ.out.1.below hB2
    refine wpIn_rangeFunc_ownH rfl (by decide) (gf := 91) (lb := #[.pointer (some ⟨W.heap.size, 0, none⟩)]) rfl trivial (enters_of Try.func91 (by kernel_rfl) rfl)
      (eachS_stops 5 (by decide) W.heap.size g4 W2 hzW2 b14.lt b14.cell) (fun _ _ => trivial) (fun _ _ _ _ _ _ _ _ => trivial) (Below.refl _ _) (fun _ => rfl)
      (fun pre W' => Below W2.heap.size W2 W') (fun _ _ _ => False)
      (ownFrom_below (Nat.le_refl _) (Nat.le_refl _)) (fun _ _ _ _ _ hs _ _ => hs) (Below.refl _ _) (fun _ _ _ => True) (fun _ _ _ _ _ _ _ _ _ => trivial) ?assign ?body ?done ?stop
    case assign =>
      rintro l pre x W' K hi hK
      gi_wp2
      exact hK _ _ (KeepsFrom.refl _ _) trivial hi trivial
    case body =>
      rintro l pre x a' W' _ _ _ _ hl
      exact absurd hl (Nat.not_lt_zero _)
    case stop =>
      rintro D c pre W' _ _ h _
      exact h.elim
    case done =>
      rintro D2 ys2 W' hD2 _ hI2 hK3
      have hB3 := below_step hB2 hI2
      have HZ2 := Aside0.mk (And.intro (HZ.out.1.below hB3) (HZ.out.2.below hB3))
      have H22 := Aside0.mk (boxed_below' H2.out hB3)
      have HB := Aside0.mk (Below.refl W'.heap.size W')
      have HK := Aside0.mk (And.intro hK3 (show W'.heap[D1]? = some (.deferred (some [])) from blk_below hK2 hI2))
      have HBB := Aside0.mk (below_step HB0.out hB3)
      have HNE : Aside0 (D1 ≠ D2 ∧ w.heap.size ≤ D1 ∧ w.heap.size ≤ D2) := ⟨by
        have h1 := (Array.getElem?_eq_some_iff.1 hK2).1
        have h2 := HD1.out.1
        have h3 := (below_step HB0.out hB1).size
        have h4 := (below_step HB0.out hB2).size
        omega⟩
      clear hK3 hI2 hB3 hK2 hB2 b14 hzW2
      gi_wp2_with (first
      | (refine ⟨trivial, ?_⟩; gi_at_call 24; refine (callsIn_wide.2 (wakes_calls _)).mono ?_; rintro e w9 ⟨rfl, hb⟩; have n0 := Aside0.mk (below_step HB.out hb); clear HB hb; have HB := n0; clear n0)
      | (refine ⟨trivial, ?_⟩; gi_at_call 29; refine (callsIn_wide.2 (len_nil _)).mono ?_; rintro e w9 ⟨rfl, hb⟩; have n0 := Aside0.mk (below_step HB.out hb.below); clear HB hb; have HB := n0; clear n0)
      | (refine ⟨trivial, ?_⟩; gi_at_call 64; refine (callsIn_wide.2 (zr_len (HZ2.out.1.below HB.out))).mono ?_; rintro e w9 ⟨rfl, hb⟩; have n0 := Aside0.mk (below_step HB.out hb); clear HB hb; have HB := n0; clear n0)
      | (refine ⟨trivial, ?_⟩; gi_at_call 65; refine (callsIn_wide.2 (hi_len _)).mono ?_; rintro e w9 ⟨rfl, hb⟩; have n0 := Aside0.mk (below_step HB.out hb); clear HB hb; have HB := n0; clear n0)
      | (refine ⟨trivial, ?_⟩; gi_at_call 66; refine (callsIn_wide.2 (zh_len (HZ2.out.2.below HB.out))).mono ?_; rintro e w9 ⟨rfl, hb⟩; have n0 := Aside0.mk (below_step HB.out hb); clear HB hb; have HB := n0; clear n0)
      | (refine ⟨trivial, ?_⟩; gi_at_call 26; refine (callsIn_wide.2 (room_nil _)).mono ?_; rintro e w9 ⟨rfl, hb⟩; have n0 := Aside0.mk (below_step HB.out hb.below); clear HB hb; have HB := n0; clear n0)
      | (refine ⟨trivial, ?_⟩; gi_at_call 67; refine (callsIn_wide.2 (zr_room (HZ2.out.1.below HB.out))).mono ?_; rintro e w9 ⟨rfl, hb⟩; have n0 := Aside0.mk (below_step HB.out hb); clear HB hb; have HB := n0; clear n0)
      | (refine ⟨trivial, ?_⟩; gi_at_call 32; refine (callsIn_wide.2 (drop_nil _ n)).mono ?_; rintro e w9 ⟨rfl, hb⟩; have n0 := Aside0.mk (below_step HB.out hb.below); clear HB hb; have HB := n0; clear n0)
      | (refine ⟨trivial, ?_⟩; gi_at_call 68; refine (callsIn_wide.2 (zr_drop (HZ2.out.1.below HB.out) n)).mono ?_; rintro e w9 ⟨rfl, hb⟩; have n0 := Aside0.mk (below_step HB.out hb); clear HB hb; have HB := n0; clear n0)
      | (refine ⟨trivial, ?_⟩; gi_at_call 69; refine (callsIn_wide.2 (hi_new _)).mono ?_; rintro e w9 ⟨rfl, hb⟩; have n0 := Aside0.mk (below_step HB.out hb); clear HB hb; have HB := n0; clear n0; have k2 := boxed_below' H22.out HB.out; have kc := k2.cell; have kf := k2.frozen; have kl := k2.lt; have HK2 := Aside0.mk k2; clear k2))
      have hKx := (KeepsOthers.setCell w9 ⟨b2, 0, none⟩ (.bool true)).same D2 _ (blk_below HK.out.1 HB.out) rfl
      have hKy := (KeepsOthers.setCell w9 ⟨b2, 0, none⟩ (.bool true)).same D1 _ (blk_below HK.out.2 HB.out) rfl
      refine ⟨by simp, .inl ⟨_, _, rfl, run_takeDeferred hKx, ?_⟩⟩
      have hKz : ((w9.setCell ⟨b2, 0, none⟩ (.bool true)).putObj D2 (.deferred none)).heap[D1]? = some (.deferred (some [])) := (World.putObj_heap_other HNE.out.1).trans hKy
      refine ⟨by simp, .inl ⟨_, _, rfl, run_takeDeferred hKz, ?_⟩⟩
      have hc5 := cell_kept (cell_kept (HK2.out.set (.bool true)).cell (grownBy_putObj' _ D2 (.deferred none)) (fun r e => by cases e; exact ⟨_, hKx, rfl⟩)) (grownBy_putObj' _ D1 (.deferred none)) (fun r e => by cases e; exact ⟨_, hKz, rfl⟩)
      refine ⟨.bool true, ?_, rfl, ?_⟩
      · simp [results, Try.results11, go_sem, hc5]
      · have hw : Below w.heap.size w (w9.setCell ⟨b2, 0, none⟩ (.bool true)) := below_set (below_step HBB.out HB.out) (Nat.le_of_eq HBE.out)
        exact (hw.trans (belowK_b (w := w) (Nat.le_refl _) _ D2 _ _ HNE.out.2.2 hKx rfl rfl)).trans (belowK_b (w := w) (Nat.le_refl _) _ D1 _ _ HNE.out.2.1 hKz rfl rfl)
theorem QueueNil (a0 : Int) (w : World) (w0 : (Lit.int .i64 a0).wf = true) :
    Calls Try.prog 11 #[.int .i64 a0] w fun e w' => e = .returned (.bool true) ∧ Below w.heap.size w w' := nil_in a0 w
end Go.Proofs.Ytekjkookkjjbcaa.Pure
