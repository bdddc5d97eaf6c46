/- Fold over a ring of whole numbers (walked by hand). -/
import Derived.Test.YtekjkookkjjbcaaEach
namespace Go.Proofs.Ytekjkookkjjbcaa.EA
set_option linter.unusedVariables false
set_option linter.unusedSimpArgs false
set_option linter.unusedVariables false
set_option linter.unusedSimpArgs false
open Go.RowKit Go.Shelf Go.Proofs.YtekjkookkjjbcaaW.PrintWords Go.Proofs.YtekjkookkjjbcaaW.PrintLast Go.Proofs.YtekjkookkjjbcaaW.PrintMore Go.Proofs.Ytekjkookkjjbcaa.B Go.Proofs.Ytekjkookkjjbcaa.M Go.Proofs.Ytekjkookkjjbcaa.RI
attribute [local go_sem] Oper.semAt_some
theorem add_notnil : ∀ W, (binOp .eql 57 (.func (.func 35) #[] #[]) .nilFunc).run Try.prog W = .ok (.bool false) W := fun W => by kernel_rfl
theorem fold_nil_calls (rp : Option Addr) (a0 : ByteArray) (w : World) :
    Calls Try.prog 36 #[.pointer rp, .string a0, .nilFunc] w fun e W' => e = .returned (.string a0) ∧ Below w.heap.size w W' := by
  have hnn : ∀ W, (binOp .eql 57 .nilFunc .nilFunc).run Try.prog W = .ok (.bool true) W := fun W => by kernel_rfl
  go_enter Try.func36, Try.ntmps36
  go_wp2
  go_ret
  exact ⟨rfl, by repeat (first | exact Below.refl _ _ | (refine below_alloc ?_ _))⟩
theorem boxed_keep {X Y : World} {row : Option Nat} {b t n : Nat} {v : Value} (h : Boxed X b t v) (hg : X.grownBy Y row) (hr : ∀ r, row = some r → n ≤ r ∧ ∃ o : Obj, X.heap[r]? = some o ∧ o.isCells = false) : Boxed Y b t v :=
  h.kept hg (fun e => by
    obtain ⟨_, o, ho, hc⟩ := hr b e.symm
    rw [show X.heap[b]? = _ from h] at ho
    cases ho
    cases hc)
theorem boxed_below {X Y : World} {b t : Nat} {v : Value} (h : Boxed X b t v) (hb : Below X.heap.size X Y) : Boxed Y b t v := blk_below h hb
theorem keeps_below {X Y : World} (hb : Below X.heap.size X Y) : KeepsOthers X Y := ⟨hb.size, fun k o hk _ => (hb.block k (Array.getElem?_eq_some_iff.1 hk).1).trans hk⟩
set_option maxRecDepth 100000 in
set_option maxHeartbeats 4000000 in
theorem fold_calls (rp : Option Addr) (a0 : ByteArray) (xs : List Int) (w : World) (hr : RowOf w rp xs) (ha : a0.size ≤ 1048576) :
    Calls Try.prog 36 #[.pointer rp, .string a0, .func (.func 35) #[] #[]] w fun e W' => e = .returned (.string (foldV a0 xs)) ∧ Below w.heap.size w W' := by
  refine (callsIn_wide (n := 6)).1 ?_
  refine callsIn_of_wp_marks Try.func36 rfl trivial ?_ rfl
  simp only [Try.ntmps36, List.size_toArray, List.length_cons, List.length_nil, Nat.reduceAdd, Nat.reduceSub, Array.replicate_succ, Array.replicate_zero, List.push_toArray, List.append_toArray, List.nil_append, List.cons_append]
  have hnn := add_notnil
  gi_wp2_with (refine ⟨trivial, ?_⟩; gi_at_call 38; refine (each_in _ _ _).mono ?_; rintro e w' ⟨rfl, rfl⟩)
  have b4 : Boxed (((w.alloc (.cells #[.string a0] 9)).alloc (.cells #[.func (.func 35) #[] #[]] 57)).alloc (.cells #[.pointer rp] 44)) w.heap.size 9 (.string a0) := ((Boxed.new w _ _).alloc _).alloc _
  have b5 : Boxed (((w.alloc (.cells #[.string a0] 9)).alloc (.cells #[.func (.func 35) #[] #[]] 57)).alloc (.cells #[.pointer rp] 44)) (w.heap.size + 1) 57 (.func (.func 35) #[] #[]) := by
    have := (Boxed.new (w.alloc (.cells #[.string a0] 9)) 57 (.func (.func 35) #[] #[])).alloc (.cells #[.pointer rp] 44)
    rw [World.size_alloc] at this
    exact this
  have b13 : Boxed (((w.alloc (.cells #[.string a0] 9)).alloc (.cells #[.func (.func 35) #[] #[]] 57)).alloc (.cells #[.pointer rp] 44)) (w.heap.size + 1 + 1) 44 (.pointer rp) := by
    have := Boxed.new ((w.alloc (.cells #[.string a0] 9)).alloc (.cells #[.func (.func 35) #[] #[]] 57)) 44 (.pointer rp)
    rw [World.size_alloc, World.size_alloc] at this
    exact this
  have hB0 : Below w.heap.size w (((w.alloc (.cells #[.string a0] 9)).alloc (.cells #[.func (.func 35) #[] #[]] 57)).alloc (.cells #[.pointer rp] 44)) := below_alloc (below_alloc (below_alloc (Below.refl _ _) _) _) _
  obtain ⟨W0, hW0⟩ : ∃ W0, (((w.alloc (.cells #[.string a0] 9)).alloc (.cells #[.func (.func 35) #[] #[]] 57)).alloc (.cells #[.pointer rp] 44)) = W0 := ⟨_, rfl⟩
  rw [hW0] at b4 b5 b13 hB0
  rw [hW0]
  clear hW0
  have hr0 := hr.below hB0
  have hlen := hr.1
  refine wpIn_rangeFunc_ownF rfl (by decide) (gf := 75) (lb := #[.pointer (some ⟨w.heap.size + 1 + 1, 0, none⟩)]) rfl trivial (enters_of Try.func75 (by kernel_rfl) rfl)
    (each_stops 5 (by decide) (w.heap.size + 1 + 1) W0.heap.size rp xs W0 hr0 b13.lt b13.cell (Nat.le_refl _)) (fun h k => h.t k) (fun W l o o' hl h1 h2 h3 => KpI.b (n := W0.heap.size) W l o o' hl h1 h2 h3) (Below.refl _ _) (fun _ => rfl)
    (fun pre W => (Boxed W w.heap.size 9 (.string (foldV a0 (pre.map (·.2)))) ∧ Boxed W (w.heap.size + 1) 57 (.func (.func 35) #[] #[])) ∧ Below w.heap.size w W)
    (fun _ _ _ => False)
    (OwnFrom.and (fun s X Y row hs hg hrr => ⟨boxed_keep hs.1 hg hrr, boxed_keep hs.2 hg hrr⟩) (ownFrom_below (Nat.le_refl _) hB0.size))
    (fun _ _ _ _ _ hs _ _ => hs)
    ⟨⟨b4, b5⟩, hB0⟩
    (fun x => { tmps := #[.pointer rp, .string a0, .func (.func 35) #[] #[], undef, .pointer (some ⟨w.heap.size, 0, none⟩), .pointer (some ⟨w.heap.size + 1, 0, none⟩), .string ⟨#[]⟩, undef, .int .i64 x.2, .func (.func 35) #[] #[], .bool false, undef, .pointer rp, .func (.func 75) #[] #[.pointer (some ⟨w.heap.size + 1 + 1, 0, none⟩)], .int .i64 (x.1 : Int), .int .i64 x.2, undef, undef, undef, undef, undef], defers := [] }) ?assign ?body ?done ?stop
  case assign =>
    intro l x W K hK
    gi_wp2
    exact hK
  case body =>
    rintro l pre x W ⟨⟨h4, h5⟩, hB⟩ hpl
    have c4 := h4.cell
    have c5 := h5.cell
    have hsz : (foldV a0 (pre.map (·.2))).size ≤ 4611686018427387904 := by rw [foldV_size, List.length_map]; omega
    have H4 := Aside0.mk h4
    have H5 := Aside0.mk h5
    have HBB := Aside0.mk hB
    have HS := Aside0.mk hsz
    clear h4 h5 hB hsz hr hr0 b4 b5 b13 hnn
    gi_wp2_with (refine ⟨trivial, ?_⟩; gi_at_call 35; refine (CallsIn.inRound l (callsIn_wide.2 (add_calls _ _ _ HS.out))).mono ?_; rintro e w1 ⟨rfl, hb⟩; have k4 := boxed_below H4.out hb; have kc := k4.cell; have kf := k4.frozen; have HB1 := Aside0.mk hb; have HK4 := Aside0.mk k4; clear hb k4)
    have hv : addV (foldV a0 (List.map (fun x => x.2) pre)) x.2 = foldV a0 (List.map (fun x => x.2) (pre ++ [x])) := by rw [List.map_append, List.map_cons, List.map_nil, foldV_snoc]
    refine ⟨(keeps_below HB1.out).trans (KeepsOthers.setCell _ _ _), (KpI.of_below HB1.out).t (KpI.set HK4.out (by decide)), ⟨?_, ?_⟩, ?_⟩
    · rw [← hv]
      exact HK4.out.set _
    · exact (Below.heap_setCell w1 ⟨w.heap.size, 0, none⟩ _ (w.heap.size + 1) (by show w.heap.size + 1 ≠ w.heap.size; omega)).trans (boxed_below H5.out HB1.out)
    · exact below_set (below_step HBB.out HB1.out) (Nat.le_refl _)
  case done =>
    rintro D ys W hD rfl ⟨⟨h4, h5⟩, hB⟩ hK
    rw [uptoI_snd] at h4
    have c4 := h4.cell
    clear h4 h5
    gi_wp2
    refine ⟨by simp, .inl ⟨_, _, rfl, run_takeDeferred hK, ?_⟩⟩
    exact ⟨_, results_tmp rfl _ _ _, rfl, hB.trans (belowK_b (w := w) (Nat.le_refl _) W D _ _ (Nat.le_trans hB0.size hD) hK rfl rfl)⟩
  case stop =>
    rintro D c pre W _ _ h _
    exact h.elim
end Go.Proofs.Ytekjkookkjjbcaa.EA
