/- QueueEach: a ring under its own Each (walked by hand). -/
import Derived.Test.YtekjkookkjjbcaaEachC
namespace Go.Proofs.Ytekjkookkjjbcaa.Pure
set_option linter.unusedVariables false
set_option linter.unusedSimpArgs false
set_option linter.unusedVariables false
set_option linter.unusedSimpArgs false
open Go.RowKit Go.Shelf Go.Proofs.YtekjkookkjjbcaaW.PrintWords Go.Proofs.YtekjkookkjjbcaaW.PrintLast Go.Proofs.YtekjkookkjjbcaaW.PrintMore Go.Proofs.Ytekjkookkjjbcaa.B Go.Proofs.Ytekjkookkjjbcaa.M Go.Proofs.Ytekjkookkjjbcaa.RI Go.Proofs.Ytekjkookkjjbcaa.EA Go.Proofs.Ytekjkookkjjbcaa.EC
attribute [local go_sem] Oper.semAt_some
theorem run_store_func {P : Program} {w : World} (a : Addr) (m : Mode) (f : Fn) (x y : Array Value) : (store a (.func f x y) m).run P w = stored P w a (.func f x y) m := run_store P w a _ m rfl
attribute [local go_sem] run_store_func
theorem boxed_below {X Y : World} {b t : Nat} {v : Value} (h : Boxed X b t v) (hb : Below X.heap.size X Y) : Boxed Y b t v := blk_below h hb
theorem boxed_keep {X Y : World} {row : Option Nat} {b t n : Nat} {v : Value} (h : Boxed X b t v) (hg : X.grownBy Y row) (hr : ∀ r, row = some r → n ≤ r ∧ ∃ o : Obj, X.heap[r]? = some o ∧ o.isCells = false) : Boxed Y b t v :=
  h.kept hg (fun e => by
    obtain ⟨_, o, ho, hc⟩ := hr b e.symm
    rw [show X.heap[b]? = _ from h] at ho
    cases ho
    cases hc)
theorem keeps_below {X Y : World} (hb : Below X.heap.size X Y) : KeepsOthers X Y := ⟨hb.size, fun k o hk _ => (hb.block k (Array.getElem?_eq_some_iff.1 hk).1).trans hk⟩
theorem each_fin0 {w X : World} {b6 D1 D2 : Nat} (T : Array Value) (hT : T.getD 6 undef = .pointer (some ⟨b6, 0, none⟩)) (h6' : Boxed X b6 4 (.bool true)) (hb : Below w.heap.size w X) (hKy : X.heap[D1]? = some (.deferred (some []))) (hKx : X.heap[D2]? = some (.deferred (some []))) (hne : D1 ≠ D2) (h2 : w.heap.size ≤ D2) (h1 : w.heap.size ≤ D1) :
    bodyPostM Fence.wide 9 Try.prog Try.f7 (fun e W' => e = .returned (.bool true) ∧ Below w.heap.size w W') .ret { tmps := T, defers := [{ target := .collected D2, args := #[] }, { target := .collected D1, args := #[] }] } X := by
  refine ⟨by simp, .inl ⟨_, _, rfl, run_takeDeferred hKx, ?_⟩⟩
  have hKz : (X.putObj D2 (.deferred none)).heap[D1]? = some (.deferred (some [])) := (World.putObj_heap_other hne).trans hKy
  refine ⟨by simp, .inl ⟨_, _, rfl, run_takeDeferred hKz, ?_⟩⟩
  have hc5 := cell_kept (cell_kept h6'.cell (grownBy_putObj' _ D2 (.deferred none)) (fun r e => by cases e; exact ⟨_, hKx, rfl⟩)) (grownBy_putObj' _ D1 (.deferred none)) (fun r e => by cases e; exact ⟨_, hKz, rfl⟩)
  refine ⟨.bool true, ?_, rfl, (hb.trans (belowK_b (w := w) (Nat.le_refl _) _ D2 _ _ h2 hKx rfl rfl)).trans (belowK_b (w := w) (Nat.le_refl _) _ D1 _ _ h1 hKz rfl rfl)⟩
  have hT' : T[6]?.getD undef = .pointer (some ⟨b6, 0, none⟩) := by simpa using hT
  simp [results, Try.results7, go_sem, hT', hc5]
theorem each_fin {w W X : World} {b6 D1 D2 : Nat} (T : Array Value) (hT : T.getD 6 undef = .pointer (some ⟨b6, 0, none⟩)) (hb6 : w.heap.size ≤ b6) (hX : ∃ m, X = (W.drewN m).setCell ⟨b6, 0, none⟩ (.bool true)) {v : Value} (h6 : Boxed W b6 4 v) (hB : Below w.heap.size w W) (hD1 : W.heap[D1]? = some (.deferred (some []))) (hD2 : W.heap[D2]? = some (.deferred (some []))) (hne : D1 ≠ D2) (h2 : w.heap.size ≤ D2) (h1 : w.heap.size ≤ D1) :
    bodyPostM Fence.wide 9 Try.prog Try.f7 (fun e W' => e = .returned (.bool true) ∧ Below w.heap.size w W') .ret { tmps := T, defers := [{ target := .collected D2, args := #[] }, { target := .collected D1, args := #[] }] } X := by
  obtain ⟨m, rfl⟩ := hX
  exact each_fin0 T hT ((show Boxed (W.drewN m) b6 4 v from h6).set _) (below_set (pw_below_drewN hB m) hb6) ((KeepsOthers.setCell (W.drewN m) ⟨b6, 0, none⟩ (.bool true)).same D1 _ hD1 rfl) ((KeepsOthers.setCell (W.drewN m) ⟨b6, 0, none⟩ (.bool true)).same D2 _ hD2 rfl) hne h2 h1
set_option maxRecDepth 100000 in
set_option maxHeartbeats 8000000 in
theorem each_good (a0 : Option Addr) (n cap0 : Nat) (drops leave : Int) (w : World) (xs : List Int) (hxs : xs.length = n) (hn : n + 3 ≤ 1048576)
    (h1 : ∀ i, i < n → ∃ x, a0 = some x ∧ w.cell? (x.add i) = some (.int .i64 (xs.getD i 0))) :
    Calls Try.prog 7 #[.slice a0 n cap0, .int .i64 drops, .int .i64 leave] w fun e W' => e = .returned (.bool true) ∧ Below w.heap.size w W' := by
  refine (callsIn_wide (n := 9)).1 ?_
  refine callsIn_of_wp_marks Try.func7 rfl trivial ?_ rfl
  simp only [Try.ntmps7, List.size_toArray, List.length_cons, List.length_nil, Nat.reduceAdd, Nat.reduceSub, Array.replicate_succ, Array.replicate_zero, List.push_toArray, List.append_toArray, List.nil_append, List.cons_append]
  have H1 := Aside0.mk h1
  have HN := Aside0.mk hn
  have HX := Aside0.mk hxs
  obtain ⟨M, hM⟩ : ∃ M : Nat, n + 3 = M := ⟨_, rfl⟩
  have HM := Aside0.mk hM
  have q3 : IntKind.i64.wrap ((n : Int) + 3) = (M : Int) := by rw [i64_w, wrap_id _ (by omega) (by omega)]; omega
  have k1 : decide ((M : Int) > 1048576) = false := decide_eq_false (by omega)
  have k2 : decide ((1048576 : Int) < (M : Int)) = false := decide_eq_false (by omega)
  have k3 : decide (1048576 < M) = false := decide_eq_false (by omega)
  clear hM
  clear h1 hn hxs
  gi_wp2
  have hx4 : X4 ((((w.alloc (.cells #[.slice a0 n cap0] 40)).alloc (.cells #[.int .i64 drops] 3)).alloc (.cells #[.int .i64 leave] 3)).alloc (.cells #[.bool false] 4)) w.heap.size (w.heap.size + 1) (w.heap.size + 1 + 1) (w.heap.size + 1 + 1 + 1) a0 n cap0 drops leave := by
    refine ⟨(((Boxed.new w _ _).alloc _).alloc _).alloc _, ?_, ?_, ?_⟩
    · have := ((Boxed.new (w.alloc (.cells #[.slice a0 n cap0] 40)) 3 (.int .i64 drops)).alloc (.cells #[.int .i64 leave] 3)).alloc (.cells #[.bool false] 4)
      rw [World.size_alloc] at this
      exact this
    · have := (Boxed.new ((w.alloc (.cells #[.slice a0 n cap0] 40)).alloc (.cells #[.int .i64 drops] 3)) 3 (.int .i64 leave)).alloc (.cells #[.bool false] 4)
      rw [World.size_alloc, World.size_alloc] at this
      exact this
    · have := Boxed.new (((w.alloc (.cells #[.slice a0 n cap0] 40)).alloc (.cells #[.int .i64 drops] 3)).alloc (.cells #[.int .i64 leave] 3)) 4 (.bool false)
      rw [World.size_alloc, World.size_alloc, World.size_alloc] at this
      exact this
  have hB0 : Below w.heap.size w ((((w.alloc (.cells #[.slice a0 n cap0] 40)).alloc (.cells #[.int .i64 drops] 3)).alloc (.cells #[.int .i64 leave] 3)).alloc (.cells #[.bool false] 4)) := below_alloc (below_alloc (below_alloc (below_alloc (Below.refl _ _) _) _) _) _
  obtain ⟨W0, hW0⟩ : ∃ W0, ((((w.alloc (.cells #[.slice a0 n cap0] 40)).alloc (.cells #[.int .i64 drops] 3)).alloc (.cells #[.int .i64 leave] 3)).alloc (.cells #[.bool false] 4)) = W0 := ⟨_, rfl⟩
  rw [hW0] at hx4 hB0
  rw [hW0]
  clear hW0
  obtain ⟨b3, hb3⟩ : ∃ b3, w.heap.size = b3 := ⟨_, rfl⟩
  have HB3 := Aside0.mk hb3
  rw [hb3] at hx4
  rw [hb3]
  obtain ⟨b4, hb4⟩ : ∃ b4, b3 + 1 = b4 := ⟨_, rfl⟩
  rw [hb4] at hx4
  rw [hb4]
  obtain ⟨b5, hb5⟩ : ∃ b5, b4 + 1 = b5 := ⟨_, rfl⟩
  rw [hb5] at hx4
  rw [hb5]
  obtain ⟨b6, hb6⟩ : ∃ b6, b5 + 1 = b6 := ⟨_, rfl⟩
  rw [hb6] at hx4
  rw [hb6]
  have HB6 : Aside0 (w.heap.size ≤ b6) := ⟨by omega⟩
  have HX4 := Aside0.mk hx4
  have HB0 := Aside0.mk hB0
  clear hx4 hB0 hb3 hb4 hb5 hb6
  gi_wp2_with (first
    | (refine ⟨trivial, ?_⟩; gi_at_call 24; refine (callsIn_wide.2 (wakes_calls _)).mono ?_; rintro e wb ⟨rfl, hb⟩; have HXB := Aside0.mk (HX4.out.below hb); have HWB := Aside0.mk (below_step HB0.out hb); have c3 := HXB.out.x3.cell; have c6 := HXB.out.x6.cell; clear hb)
    | (refine ⟨trivial, ?_⟩; gi_at_call 25; refine (callsIn_wide.2 (new_q wb _ (Below.refl _ _) (M : Int) (by have h_ := HN.out; have h2_ := HM.out; omega))).mono ?_; rintro e w2 ⟨g, rfl, hq, hb, _⟩; have hxa := (HXB.out.below hb).below (below_alloc (Below.refl _ _) (.cells #[.pointer (some ⟨g, 0, none⟩)] 44)); have c3' := hxa.x3.cell; have HRS : Aside0 (RS wb (w2.alloc (.cells #[.pointer (some ⟨g, 0, none⟩)] 44)) g (M : Int) [] none w2.heap.size) := ⟨⟨hq.below (below_alloc (Below.refl _ _) _), Boxed.new _ _ _⟩⟩; clear hq hb hxa))
  obtain ⟨b7, hb7⟩ : ∃ b7, w2.heap.size = b7 := ⟨_, rfl⟩
  rw [hb7] at HRS
  rw [hb7]
  obtain ⟨W1, hW1⟩ : ∃ W1, w2.alloc (.cells #[.pointer (some ⟨g, 0, none⟩)] 44 (0, 0)) = W1 := ⟨_, rfl⟩
  rw [hW1] at HRS c3'
  rw [hW1]
  clear hW1 hb7 c3' c3 c6 k1 k2 k3 q3
  gi_loopw [38] (fun p W => ∃ (i : Nat) (rb : Option Nat), i ≤ n ∧ p = .int .i64 (i : Int) ∧ Aside0 (RS wb W g (M : Int) (xs.take i) rb b7)) (fun p _ => n - (intOf p).toNat)
  case atStart => exact ⟨0, none, Nat.zero_le _, rfl, HRS⟩
  case round =>
    clear HRS
    obtain ⟨i, rb, hi, rfl, HS⟩ := hrel
    have c7 := HS.out.x7.cell
    by_cases hlt : i < n
    · obtain ⟨x, rfl, x0⟩ := H1.out i hlt
      have c0 := pw_cell_below (below_step HWB.out HS.out.rq.bl) x0
      have hl2 : decide ((i : Int) < (n : Int)) = true := decide_eq_true (by omega)
      have hl3 : decide (i < n) = true := decide_eq_true hlt
      have p1 := eq_true (show (0 : Int) ≤ (i : Int) by omega)
      have p2 := eq_true (show (i : Int) < (n : Int) by omega)
      have q1 : IntKind.i64.wrap ((i : Int) + 1) = ((i + 1 : Nat) : Int) := by have h_ := HN.out; rw [i64_w, wrap_id _ (by omega) (by omega)]; rfl
      have HT : Aside0 (((xs.take i).length : Int) < (M : Int)) := ⟨by have h_ := HM.out; rw [List.length_take]; omega⟩
      obtain ⟨y, hy⟩ : ∃ y, xs.getD i 0 = y := ⟨_, rfl⟩
      have HT2 : Aside0 (xs.take i ++ [y] = xs.take (i + 1)) := ⟨by
        have hj2 : i < xs.length := by have h_ := HX.out; omega
        rw [← hy, List.getD_eq_getElem?_getD, List.getElem?_eq_getElem hj2, Option.getD_some, List.take_append_getElem]⟩
      rw [hy] at c0
      clear x0 hy
      gi_wp2_with (refine ⟨trivial, ?_⟩; gi_at_call 27; refine (callsIn_wide.2 (rs_push HS.out HT.out y)).mono ?_; rintro e w5 ⟨rfl, rb5, hs⟩; rw [HT2.out] at hs; have HS5 := Aside0.mk hs; clear hs)
      go_roundw
      case rel => exact ⟨i + 1, rb5, by omega, rfl, HS5⟩
      case measure => simp [intOf]; omega
    · obtain rfl : i = n := by omega
      have hl2 : decide ((i : Int) < (i : Int)) = false := decide_eq_false (by omega)
      have hxt : xs.take i = xs := List.take_of_length_le (by have h_ := HX.out; omega)
      rw [hxt] at HS
      clear hxt hlt hi
      gi_wp2_with (refine ⟨trivial, ?_⟩; gi_at_call 38; refine (each_in _ _ _).mono ?_; rintro e w' ⟨rfl, rfl⟩)
      have hbA : Below wr.heap.size wr (((wr.alloc (.cells #[.pointer (some ⟨g, 0, none⟩)] 44)).alloc (.cells #[.func (.func 75) #[] #[.pointer (some ⟨wr.heap.size, 0, none⟩)]] 63)).alloc (.cells #[.int .i64 0] 3)) := below_alloc (below_alloc (below_alloc (Below.refl _ _) _) _) _
      have hra : RA wb (((wr.alloc (.cells #[.pointer (some ⟨g, 0, none⟩)] 44)).alloc (.cells #[.func (.func 75) #[] #[.pointer (some ⟨wr.heap.size, 0, none⟩)]] 63)).alloc (.cells #[.int .i64 0] 3)) g (M : Int) xs rb b7 (wr.heap.size + 1) (wr.heap.size + 1 + 1) wr.heap.size 0 := by
        have hs := HS.out.below hbA
        refine ⟨hs.rq, hs.x7, ?_, ((Boxed.new _ _ _).alloc _).alloc _, ?_, fun e => ?_⟩
        · have := (Boxed.new (wr.alloc (.cells #[.pointer (some ⟨g, 0, none⟩)] 44)) 63 (.func (.func 75) #[] #[.pointer (some ⟨wr.heap.size, 0, none⟩)])).alloc (.cells #[.int .i64 0] 3)
          rw [World.size_alloc] at this
          exact this
        · have := Boxed.new ((wr.alloc (.cells #[.pointer (some ⟨g, 0, none⟩)] 44)).alloc (.cells #[.func (.func 75) #[] #[.pointer (some ⟨wr.heap.size, 0, none⟩)]] 63)) 3 (.int .i64 0)
          rw [World.size_alloc, World.size_alloc] at this
          exact this
        · obtain ⟨_, h2⟩ := rq_blk HS.out.rq
          obtain ⟨cs, hcs⟩ := h2 _ e
          have := blk_lt hcs
          omega
      have hrbA : ∀ k, rb = some k → k < (((wr.alloc (.cells #[.pointer (some ⟨g, 0, none⟩)] 44)).alloc (.cells #[.func (.func 75) #[] #[.pointer (some ⟨wr.heap.size, 0, none⟩)]] 63)).alloc (.cells #[.int .i64 0] 3)).heap.size := fun k hk => by
        obtain ⟨_, h2⟩ := rq_blk HS.out.rq
        obtain ⟨cs, hcs⟩ := h2 _ hk
        exact Nat.lt_of_lt_of_le (blk_lt hcs) hbA.size
      obtain ⟨WX, hWX⟩ : ∃ WX, (((wr.alloc (.cells #[.pointer (some ⟨g, 0, none⟩)] 44)).alloc (.cells #[.func (.func 75) #[] #[.pointer (some ⟨wr.heap.size, 0, none⟩)]] 63)).alloc (.cells #[.int .i64 0] 3)) = WX := ⟨_, rfl⟩
      rw [hWX] at hra hrbA
      rw [hWX]
      obtain ⟨b13, hb13⟩ : ∃ b13, wr.heap.size = b13 := ⟨_, rfl⟩
      rw [hb13] at hra
      rw [hb13]
      obtain ⟨b11, hb11⟩ : ∃ b11, b13 + 1 = b11 := ⟨_, rfl⟩
      rw [hb11] at hra
      rw [hb11]
      obtain ⟨b12, hb12⟩ : ∃ b12, b11 + 1 = b12 := ⟨_, rfl⟩
      rw [hb12] at hra
      rw [hb12]
      have hwb12 : wb.heap.size ≤ b12 := by have h_ := HS.out.rq.bl.size; omega
      have hbX := hra.rq.bl
      clear hWX hbA hb13 hb11 hb12 c7 hl2
      refine rangeG (fun x T => (((T.setIfInBounds 49 (.int .i64 (x.1 : Int))).setIfInBounds 50 (.int .i64 x.2)).setIfInBounds 13 (.int .i64 (x.1 : Int))).setIfInBounds 14 (.int .i64 x.2)) rfl (by decide) (gf := 75) (lb := #[.pointer (some ⟨b13, 0, none⟩)]) rfl trivial (enters_of Try.func75 (by kernel_rfl) rfl)
        (each_stops 8 (by decide) b13 WX.heap.size (some ⟨g, 0, none⟩) xs WX (RowOf.ring hra.rq) hra.x13.lt hra.x13.cell (Nat.le_refl _)) (fun h k => h.t k) (fun W l o o' hl h1 h2 h3 => KpI.b (n := WX.heap.size) W l o o' hl h1 h2 h3) (Below.refl _ _) (fun _ => rfl)
        (fun pre W => ∃ ys rb, RA wb W g (M : Int) ys rb b7 b11 b12 b13 (pre.length : Int) ∧ (pre = [] → ∀ k, rb = some k → k < WX.heap.size))
        (fun c pre W => c = .ret ∧ ¬ ∃ k, k ≤ xs.length ∧ pre = uptoI xs k)
        (fun s X Y row hs hg hr => by
          obtain ⟨ys, rb, h1, h2⟩ := hs
          exact ⟨ys, rb, h1.turn hg (fun r e => (hr r e).2) (fun r e => Nat.le_trans hbX.size (hr r e).1), h2⟩)
        (fun _ _ _ _ _ hs _ _ => hs)
        ⟨xs, rb, hra, fun _ => hrbA⟩ ?assign ?body ?done ?stop
      case assign =>
        intro l x W K hK
        gi_wp2
        exact hK
      case body =>
        rintro l pre ⟨xi, xv⟩ W ⟨ys, rb, hR, hrb⟩ hpl
        have hx4 := HXB.out.below hR.rq.bl
        have c3 := hx4.x3.cell
        have c4 := hx4.x4.cell
        have c6 := hx4.x6.cell
        have f6 := hx4.x6.frozen
        have c7 := hR.x7.cell
        have c12 := hR.x12.cell
        have f12 := hR.x12.frozen
        have hpi : pre.length < i := by have h_ := HX.out; omega
        obtain ⟨xa, ha, x0⟩ := H1.out pre.length hpi
        have c0 := pw_cell_below (below_step HWB.out hR.rq.bl) x0
        have HR := Aside0.mk hR
        have HRB := Aside0.mk hrb
        have HPI := Aside0.mk hpi
        obtain ⟨j, hj⟩ : ∃ j, pre.length = j := ⟨_, rfl⟩
        have HJ := Aside0.mk hj
        rw [hj] at c0 c12 HPI
        obtain ⟨y, hy⟩ : ∃ y, xs.getD j 0 = y := ⟨_, rfl⟩
        have HY := Aside0.mk hy
        rw [hy] at c0
        subst ha
        have d1 : decide ((j : Int) ≥ (i : Int)) = false := decide_eq_false (by have h_ := HPI.out; omega)
        have d2 : decide ((i : Int) ≤ (j : Int)) = false := decide_eq_false (by have h_ := HPI.out; omega)
        have d3 : decide (i ≤ j) = false := decide_eq_false (by have h_ := HPI.out; omega)
        have p1 := eq_true (show (0 : Int) ≤ (j : Int) by omega)
        have p2 := eq_true (show (j : Int) < (i : Int) by have h_ := HPI.out; omega)
        have p3 := eq_true (show j < i from HPI.out)
        have q1 : IntKind.i64.wrap ((j : Int) + 1) = ((j + 1 : Nat) : Int) := by have h_ := HPI.out; have h2_ := HN.out; rw [i64_w, wrap_id _ (by omega) (by omega)]; rfl
        have nn1 : 1 ≤ 9 - 1 - 1 := by decide
        clear hx4 hR hrb hpi x0 hj hy hpl
        simp only [List.setIfInBounds_toArray, List.set_cons_succ, List.set_cons_zero]
        by_cases hxi : xi = j
        · subst hxi
          by_cases hxv : xv = y
          · subst hxv
            have HC := Aside0.mk (HR.out.count hwb12 ((xi : Int) + 1))
            have hlen : ((pre ++ [(xi, xv)]).length : Int) = (xi : Int) + 1 := by rw [List.length_append, HJ.out]; rfl
            have HLE := Aside0.mk hlen
            have HLT := Aside0.mk hra.x12.lt
            clear hlen
            by_cases hj0 : xi = 0
            · have e0 : decide ((xi : Int) = 0) = true := decide_eq_true (by omega)
              have e1 : ((xi : Int) == 0) = true := beq_iff_eq.2 (by omega)
              have e2 : decide (xi = 0) = true := decide_eq_true hj0
              have HP0 : Aside0 (∀ k, rb = some k → k < WX.heap.size) := ⟨HRB.out (List.length_eq_zero_iff.1 (by rw [HJ.out]; exact hj0))⟩
              clear hj0
              have c7a := HC.out.x7.cell
              have HC1 := HC
              gi_wp2_with (first
                | (refine ⟨trivial, ?_⟩; gi_at_call 27; refine (CallsIn.inRound l (callsIn_wide.2 (e_push HC1.out.rq 77))).mono ?_; clear HC1; rintro e w3 ⟨c31, rfl, ys3, rb3, hq3, hs3⟩; have R3 := Aside0.mk (HC.out.step hq3 hs3); have S3 := Aside0.mk hs3; have c7b := R3.out.x7.cell; have c4b := (HXB.out.below hq3.bl).x4.cell; clear hq3 hs3)
                | (refine ⟨trivial, ?_⟩; gi_at_call 32; refine (CallsIn.inRound l (callsIn_wide.2 (e_drop R3.out.rq drops))).mono ?_; rintro e w4 ⟨c41, rfl, ys4, rb4, hq4, hs4⟩; have R4 := Aside0.mk (R3.out.step hq4 hs4); have S4 := Aside0.mk (S3.out.trans hs4); have c7c := R4.out.x7.cell; clear hq4 hs4)
                | (refine ⟨trivial, ?_⟩; gi_at_call 27; refine (CallsIn.inRound l (callsIn_wide.2 (e_push R4.out.rq 78))).mono ?_; rintro e w5 ⟨c51, rfl, ys5, rb5, hq5, hs5⟩; have R5 := Aside0.mk (R4.out.step hq5 hs5); have S5 := Aside0.mk (S4.out.trans hs5); clear hq5 hs5))
              exact ⟨((KeepsOthers.setCell _ _ _).trans (HC.out.others S5.out)).from _, (KpI.low HLT.out).t (HC.out.kp S5.out HP0.out), ys5, rb5, by rw [HLE.out]; exact R5.out, fun h => absurd h (by simp)⟩
            · have e0 : decide ((xi : Int) = 0) = false := decide_eq_false (by omega)
              have e1 : ((xi : Int) == 0) = false := beq_eq_false_iff_ne.2 (by omega)
              have e2 : decide (xi = 0) = false := decide_eq_false hj0
              have HJ0 := Aside0.mk hj0
              clear hj0
              gi_wp2
              exact ⟨(KeepsOthers.setCell _ _ _).from _, KpI.low HLT.out, ys, rb, by rw [HLE.out]; exact HC.out, fun h => absurd h (by simp)⟩
          · have e0 : decide (xv = y) = false := decide_eq_false hxv
            have e1 : (xv == y) = false := beq_eq_false_iff_ne.2 hxv
            have HV := Aside0.mk hxv
            clear hxv
            gi_wp2
            exact ⟨(KeepsOthers.setCell _ _ _).from _, rfl, fun ⟨k, _, hk⟩ => by
              have h_ := upto_last hk
              rw [HJ.out, HY.out] at h_
              injection h_ with _ h_
              exact HV.out h_⟩
        · have e0 : decide ((xi : Int) = (j : Int)) = false := decide_eq_false (by omega)
          have e1 : ((xi : Int) == (j : Int)) = false := beq_eq_false_iff_ne.2 (by omega)
          have e2 : decide (xi = j) = false := decide_eq_false hxi
          have HV := Aside0.mk hxi
          clear hxi
          gi_wp2
          exact ⟨(KeepsOthers.setCell _ _ _).from _, rfl, fun ⟨k, _, hk⟩ => by
            have h_ := upto_last hk
            rw [HJ.out] at h_
            injection h_ with h_ _
            exact HV.out h_⟩
      case stop =>
        rintro D c pre W _ ⟨k, hk, rfl⟩ ⟨_, h⟩ _
        exact absurd ⟨k, hk, rfl⟩ h
      case done =>
        rintro D1 zs W hD1 rfl ⟨ys, rb, hR, _⟩ hK1
        rw [uptoI_len, show xs.length = i from HX.out] at hR
        have hx4 := HXB.out.below hR.rq.bl
        have c3 := hx4.x3.cell
        have c6 := hx4.x6.cell
        have c11 := hR.x11.cell
        have c12 := hR.x12.cell
        have HR := Aside0.mk hR
        have HD1 := Aside0.mk (And.intro hD1 hK1)
        have hRY := hR.below (below_alloc (Below.refl _ _) (.cells #[.int .i64 0] 3 (0, 0)))
        have c11' := hRY.x11.cell
        have hm15 : Boxed (W.alloc (.cells #[.int .i64 0] 3 (0, 0))) W.heap.size 3 (.int .i64 0) := Boxed.new _ _ _
        have hKY : (W.alloc (.cells #[.int .i64 0] 3 (0, 0))).heap[D1]? = some (.deferred (some [])) := blk_below hK1 (below_alloc (Below.refl _ _) _)
        have hrb15 : rb ≠ some W.heap.size := fun e => by
          obtain ⟨_, h2⟩ := rq_blk hR.rq
          obtain ⟨cs, hcs⟩ := h2 _ e
          exact absurd (blk_lt hcs) (Nat.lt_irrefl _)
        have hx6 := (hx4.below (below_alloc (Below.refl _ _) (.cells #[.int .i64 0] 3 (0, 0)))).x6
        clear hx4 hR
        gi_wp2
        obtain ⟨WY, hWY⟩ : ∃ WY, W.alloc (.cells #[.int .i64 0] 3 (0, 0)) = WY := ⟨_, rfl⟩
        have hYs : WY.heap.size = W.heap.size + 1 := by rw [← hWY]; exact World.size_alloc _ _
        rw [hWY] at hRY hm15 hKY hx6
        rw [hWY]
        obtain ⟨b15, hb15⟩ : ∃ b15, W.heap.size = b15 := ⟨_, rfl⟩
        rw [hb15] at hm15 hrb15
        rw [hb15]
        have h12 : b12 ≠ b15 := by have h_ := HR.out.x12.lt; omega
        have hD1Y : D1 < WY.heap.size := (Array.getElem?_eq_some_iff.1 hKY).1
        have hwbY := hRY.rq.bl
        have hwb15 : wb.heap.size ≤ b15 := by have h_ := HR.out.rq.bl.size; omega
        clear hWY hYs hb15 c3 c6 c11 c12 c11'
        have hys : ys.length ≤ 1048576 := by have h_ := hRY.rq.bounds; omega
        refine rangeH (fun x T => (((T.setIfInBounds 84 (.int .i64 (x.1 : Int))).setIfInBounds 85 (.int .i64 x.2)).setIfInBounds 16 (.int .i64 (x.1 : Int))).setIfInBounds 17 (.int .i64 x.2)) rfl (by decide) (gf := 75) (lb := #[.pointer (some ⟨b13, 0, none⟩)]) rfl trivial (enters_of Try.func75 (by kernel_rfl) rfl)
          (each_stops 8 (by decide) b13 WY.heap.size (some ⟨g, 0, none⟩) ys WY (RowOf.ring hRY.rq) hRY.x13.lt hRY.x13.cell (Nat.le_refl _)) (fun h k => h.t k) (fun W l o o' hl h1 h2 h3 => KpI.b (n := WY.heap.size) W l o o' hl h1 h2 h3) (Below.refl _ _) (fun _ => rfl)
          (fun pre W => RA wb W g (M : Int) ys rb b7 b11 b12 b13 (i : Int) ∧ Boxed W b15 3 (.int .i64 (pre.length : Int)) ∧ W.heap[D1]? = some (.deferred (some [])))
          (fun c pre W => (c = .ret ∧ ¬ ∃ k, k ≤ ys.length ∧ pre = uptoI ys k) ∨ (c = .ret ∧ Boxed W b6 4 (.bool true) ∧ Below w.heap.size w W ∧ W.heap[D1]? = some (.deferred (some []))) ∨ (c = .exit 4 ∧ (RA wb W g (M : Int) ys rb b7 b11 b12 b13 (i : Int) ∧ Boxed W b15 3 (.int .i64 (pre.length : Int)) ∧ W.heap[D1]? = some (.deferred (some []))) ∧ 40 < pre.length))
          (fun s X Y row hs hg hr => ?own)
          (fun c s X Y row hs hg hr => ?ownx)
          ⟨hRY, hm15, hKY⟩ ?assign ?body ?done ?stop
        case own => exact each_own hs hg hr hwbY.size hD1Y
        case ownx =>
          rcases hs with hs | ⟨h1, h2, h3, h4⟩ | ⟨h1, h2, h3⟩
          · exact .inl hs
          · refine .inr (.inl ⟨h1, h2.kept hg (fun e => ?_), h3.grown hg h3.size (fun r e => ?_), (hg.block D1 (Array.getElem?_eq_some_iff.1 h4).1 (fun e => ?_)).trans h4⟩)
            · obtain ⟨_, o, ho, hc⟩ := hr b6 e.symm
              rw [show X.heap[b6]? = _ from h2] at ho
              cases ho
              cases hc
            · exact Nat.le_trans (Nat.le_trans (below_step HWB.out hRY.rq.bl).size (Nat.le_refl _)) (hr r e).1
            · have := (hr D1 e.symm).1
              omega
          · exact .inr (.inr ⟨h1, each_own h2 hg hr hwbY.size hD1Y, h3⟩)
        case assign =>
          intro l pre x W K hi hK
          gi_wp2
          exact hK _ _ (KeepsFrom.refl _ _) (KpI.refl _ _) hi rfl
        case body =>
          rintro l pre ⟨xi, xv⟩ a' W hl hrec ⟨hR, hm, hD⟩ rfl hpl
          have c7 := hR.x7.cell
          have nn1 : 1 ≤ 9 - 1 - 1 := by decide
          obtain ⟨j, hj⟩ : ∃ j, pre.length = j := ⟨_, rfl⟩
          have HJ := Aside0.mk hj
          have HRM := Aside0.mk (And.intro hR (And.intro hm hD))
          have HPL := Aside0.mk hpl
          rw [hj] at HRM HPL
          have HREC := Aside0.mk hrec
          clear hR hm hD hj hpl hrec
          simp only [List.setIfInBounds_toArray, List.set_cons_succ, List.set_cons_zero]
          by_cases hxi : xi = j
          · subst hxi
            obtain ⟨y, hy⟩ : ∃ y, ys.getD xi 0 = y := ⟨_, rfl⟩
            have HY := Aside0.mk hy
            have HAT := Aside0.mk (e_at HRM.out.1.rq xi HPL.out)
            rw [hy] at HAT
            clear hy
            by_cases hxv : xv = y
            · subst hxv
              gi_wp2_with (refine ⟨trivial, ?_⟩; gi_at_call 39; refine (CallsIn.inRound l (callsIn_wide.2 HAT.out)).mono ?_; rintro e w3 ⟨rfl, hb⟩; have hR3 := HRM.out.1.below hb; have c11 := (hR3.below (below_alloc (Below.refl _ _) (.cells #[.int .i64 0] 3 (0, 0)))).x11.cell; have cm := (boxed_below HRM.out.2.1 hb).cell; have HB3 := Aside0.mk hb; clear hb hR3)
              have hb3 := HB3.out
              have hRC := (HRM.out.1.below hb3).below (below_alloc (Below.refl _ _) (.cells #[.int .i64 0] 3 (0, 0)))
              have hbC : Below W.heap.size W (w3.alloc (.cells #[.int .i64 0] 3 (0, 0))) := below_alloc hb3 _
              have hmC := boxed_below HRM.out.2.1 hbC
              have hDC := blk_below HRM.out.2.2 hbC
              have h20 : Boxed (w3.alloc (.cells #[.int .i64 0] 3 (0, 0))) w3.heap.size 3 (.int .i64 0) := Boxed.new _ _ _
              have hne1 : rb ≠ some w3.heap.size := fun e => by
                obtain ⟨_, h2⟩ := rq_blk (HRM.out.1.below hb3).rq
                obtain ⟨cs, hcs⟩ := h2 _ e
                exact absurd (blk_lt hcs) (Nat.lt_irrefl _)
              have hne2 : b12 ≠ w3.heap.size := by have h_ := (HRM.out.1.below hb3).x12.lt; omega
              have hne3 : b15 ≠ w3.heap.size := by have h_ := (boxed_below HRM.out.2.1 hb3).lt; omega
              have hW3 := hb3.size
              have hrecC : ∃ r, (w3.alloc (.cells #[.int .i64 0] 3 (0, 0))).heap[l]? = some (.loop r) := HREC.out.imp fun r h => blk_below h hbC
              obtain ⟨WC, hWC⟩ : ∃ WC, w3.alloc (.cells #[.int .i64 0] 3 (0, 0)) = WC := ⟨_, rfl⟩
              have hCs : WC.heap.size = w3.heap.size + 1 := by rw [← hWC]; exact World.size_alloc _ _
              rw [hWC] at hRC hbC hmC hDC h20 hrecC
              rw [hWC]
              obtain ⟨b20, hb20⟩ : ∃ b20, w3.heap.size = b20 := ⟨_, rfl⟩
              rw [hb20] at h20 hne1 hne2 hne3 hW3 hCs
              rw [hb20]
              have hwb20 : wb.heap.size ≤ b20 := by have h_ := HRM.out.1.rq.bl.size; omega
              obtain ⟨r₀, hr₀⟩ := hrecC
              clear hWC hb20 c11 cm hb3
              refine rangeN (fun x T => (T.setIfInBounds 105 (.int .i64 (x.1 : Int))).setIfInBounds 106 (.int .i64 x.2)) (l₀ := l) (r₀ := r₀) rfl hr₀ (by decide) (gf := 75) (lb := #[.pointer (some ⟨b13, 0, none⟩)]) rfl trivial (enters_of Try.func75 (by kernel_rfl) rfl)
                ((each_stops 6 (by decide) b13 WC.heap.size (some ⟨g, 0, none⟩) ys WC (RowOf.ring hRC.rq) hRC.x13.lt hRC.x13.cell (Nat.le_refl _)).inRound l) (fun h k => h.t k) (fun W l o o' hl h1 h2 h3 => KpI.b (n := WC.heap.size) W l o o' hl h1 h2 h3) (Below.refl _ _) (fun _ => rfl)
                (fun pre2 W2 => (RA wb W2 g (M : Int) ys rb b7 b11 b12 b13 (i : Int) ∧ Boxed W2 b15 3 (.int .i64 (xi : Int)) ∧ W2.heap[D1]? = some (.deferred (some []))) ∧ Boxed W2 b20 3 (.int .i64 (pre2.length : Int)) ∧ KeepsFrom WY.heap.size W W2 ∧ KpI WY.heap.size W W2)
                (fun _ _ _ => False)
                (fun s X Y row hs hg hr => ?own2) (fun _ _ _ _ _ hs _ _ => hs)
                ⟨⟨hRC, hmC, hDC⟩, h20, (keeps_below hbC).from _, KpI.of_below hbC⟩ ?assign2 ?body2 ?done2 ?stop2
              case own2 =>
                refine ⟨each_own hs.1 hg hr hRC.rq.bl.size (by have := (Array.getElem?_eq_some_iff.1 hDC).1; omega), boxed_keep hs.2.1 hg hr, ⟨Nat.le_trans hs.2.2.1.size hg.size, fun k o hB hk ho => ?_⟩, fun i2 cs hi2 e2 => ?_⟩
                · have hk1 := hs.2.2.1.same k o hB hk ho
                  refine (hg.block k (Array.getElem?_eq_some_iff.1 hk1).1 (fun e => ?_)).trans hk1
                  have h_ := (hr k e.symm).1
                  have h2_ := (Array.getElem?_eq_some_iff.1 hk).1
                  omega
                · have hk1 := hs.2.2.2 i2 cs hi2 e2
                  refine (hg.block i2 (Array.getElem?_eq_some_iff.1 hk1).1 (fun e => ?_)).trans hk1
                  have h_ := (hr i2 e.symm).1
                  have h2_ := (Array.getElem?_eq_some_iff.1 e2).1
                  omega
              case assign2 =>
                intro l2 pre2 x2 W2 K hi2 hK
                gi_wp2
                exact hK _ _ (KeepsFrom.refl _ _) (KpI.refl _ _) hi2 rfl
              case body2 =>
                rintro l2 pre2 x2 a2 W2 _ _ ⟨⟨hR2, hm2, hD2⟩, hk2, hKF, hKP⟩ rfl hpl2
                have c20 := hk2.cell
                have f20 := hk2.frozen
                have q2 : IntKind.i64.wrap ((pre2.length : Int) + 1) = (pre2.length : Int) + 1 := by rw [i64_w, wrap_id _ (by omega) (by omega)]
                simp only [List.setIfInBounds_toArray, List.set_cons_succ, List.set_cons_zero]
                gi_wp2
                refine ⟨(KeepsOthers.setCell _ _ _).from _, KpI.low h20.lt, ⟨hR2.far hk2 hwb20 hne1 hne2, (Below.heap_setCell W2 ⟨b20, 0, none⟩ _ b15 hne3).trans hm2, (KeepsOthers.setCell W2 ⟨b20, 0, none⟩ _).same D1 _ hD2 rfl⟩, ?_, hKF.trans ((KeepsOthers.setCell _ _ _).from _), fun i2 cs hi2 e2 => ?_⟩
                · rw [List.length_append]
                  exact hk2.set _
                · refine (Below.heap_setCell W2 ⟨b20, 0, none⟩ _ i2 (fun e => ?_)).trans (hKP i2 cs hi2 e2)
                  have h2_ := (Array.getElem?_eq_some_iff.1 e2).1
                  have e : i2 = b20 := e
                  omega
              case stop2 =>
                rintro c pre2 W2 _ h
                exact h.elim
              case done2 =>
                rintro zs2 W2 rfl ⟨⟨hR2, hm2, hD2⟩, hk2, hKF, hKP⟩
                rw [uptoI_len] at hk2
                have hmx : Try.prog.follows .mixedOrders = true := by kernel_rfl
                have cm := hm2.cell
                have fm := hm2.frozen
                have q2 : IntKind.i64.wrap ((xi : Int) + 1) = (xi : Int) + 1 := by have h_ := HPL.out; rw [i64_w, wrap_id _ (by omega) (by omega)]
                have hR5 := hR2.far (m := (xi : Int) + 1) hm2 hwb15 hrb15 h12
                have hm5 := hm2.set (.int .i64 ((xi : Int) + 1))
                have hD5 := (KeepsOthers.setCell W2 ⟨b15, 0, none⟩ (.int .i64 ((xi : Int) + 1))).same D1 _ hD2 rfl
                have hk5 : Boxed (W2.setCell ⟨b15, 0, none⟩ (.int .i64 ((xi : Int) + 1))) b20 3 (.int .i64 (ys.length : Int)) := (Below.heap_setCell W2 ⟨b15, 0, none⟩ _ b20 (Ne.symm hne3)).trans hk2
                have hKF5 := hKF.trans ((KeepsOthers.setCell W2 ⟨b15, 0, none⟩ (.int .i64 ((xi : Int) + 1))).from WY.heap.size)
                have hKP5 := hKP.t (KpI.low (B := WY.heap.size) (o := 0) (v := .int .i64 ((xi : Int) + 1)) (W := W2) hm15.lt)
                have c20 := hk5.cell
                have c7b := hR5.x7.cell
                have hx5 := HXB.out.below hR5.rq.bl
                have c5 := hx5.x5.cell
                have c6 := hx5.x6.cell
                have f6 := hx5.x6.frozen
                have HL := Aside0.mk (fun (W3 : World) (hb : Below (W2.setCell ⟨b15, 0, none⟩ (.int .i64 ((xi : Int) + 1))).heap.size (W2.setCell ⟨b15, 0, none⟩ (.int .i64 ((xi : Int) + 1))) W3) => len_q (hR5.rq.below hb))
                clear hR2 hm2 hD2 hk2 hKF hKP
                gi_wp2
                generalize W2.setCell ⟨b15, 0, none⟩ (.int .i64 ((xi : Int) + 1)) = W5 at *
                clear cm fm
                have hlen : ((pre ++ [(xi, xv)]).length : Int) = (xi : Int) + 1 := by rw [List.length_append, HJ.out]; rfl
                have HE1 := Aside0.mk (fun (m : Nat) => show KeepsFrom WY.heap.size W ((W5.drewN m).setCell ⟨b6, 0, none⟩ (.bool true)) ∧ Boxed ((W5.drewN m).setCell ⟨b6, 0, none⟩ (.bool true)) b6 4 (.bool true) ∧ Below w.heap.size w ((W5.drewN m).setCell ⟨b6, 0, none⟩ (.bool true)) ∧ ((W5.drewN m).setCell ⟨b6, 0, none⟩ (.bool true)).heap[D1]? = some (.deferred (some [])) from
                  ⟨(show KeepsFrom WY.heap.size W (W5.drewN m) from ⟨hKF5.size, hKF5.same⟩).trans ((KeepsOthers.setCell _ _ _).from _), (show Boxed (W5.drewN m) b6 4 (.bool false) from hx5.x6).set _, below_set (pw_below_drewN (below_step HWB.out hR5.rq.bl) m) HB6.out, (KeepsOthers.setCell (W5.drewN m) ⟨b6, 0, none⟩ (.bool true)).same D1 _ hD5 rfl⟩)
                have HE2 := Aside0.mk (fun (m : Nat) => show KeepsFrom WY.heap.size W (W5.drewN m) ∧ KpI WY.heap.size W (W5.drewN m) ∧ RA wb (W5.drewN m) g (M : Int) ys rb b7 b11 b12 b13 (i : Int) ∧ Boxed (W5.drewN m) b15 3 (.int .i64 ((pre ++ [(xi, xv)]).length : Int)) ∧ (W5.drewN m).heap[D1]? = some (.deferred (some [])) from
                  ⟨⟨hKF5.size, hKF5.same⟩, hKP5, hR5.below (pw_below_drewN (Below.refl _ _) m), by rw [hlen]; exact hm5, hD5⟩)
                have HLEN2 : Aside0 (40 < xi → 40 < (pre ++ [(xi, xv)]).length) := ⟨fun h => by rw [List.length_append, HJ.out]; exact Nat.lt_succ_of_lt h⟩
                clear hlen hKF5 hKP5 hR5 hm5 hD5 hk5 hx5
                by_cases hlv : (xi : Int) = leave
                · have e0 : decide ((xi : Int) = leave) = true := decide_eq_true hlv
                  have e1 : ((xi : Int) == leave) = true := beq_iff_eq.2 hlv
                  clear hlv
                  first
                    | (gi_region_with_o (refine ⟨trivial, ?_⟩; gi_at_call 29; refine (CallsIn.inRound l (callsIn_wide.2 (HL.out _ (by first | exact Below.refl _ _ | exact (Below.refl _ _).drew)))).mono ?_; rintro e w9 ⟨rfl, ⟨nd, rfl⟩⟩))
                    | fail
                  all_goals gi_wp2
                  all_goals exact ⟨(HE1.out _).1, .inr (.inl ⟨rfl, (HE1.out _).2⟩)⟩
                · have e0 : decide ((xi : Int) = leave) = false := decide_eq_false hlv
                  have e1 : ((xi : Int) == leave) = false := beq_eq_false_iff_ne.2 hlv
                  clear hlv
                  by_cases h40 : 40 < xi
                  · have g1 : decide ((xi : Int) > 40) = true := decide_eq_true (by omega)
                    have g2 : decide ((40 : Int) < (xi : Int)) = true := decide_eq_true (by omega)
                    have g3 : decide (40 < xi) = true := decide_eq_true h40
                    have H40 := Aside0.mk h40
                    clear h40
                    first
                      | (gi_region_with_o (refine ⟨trivial, ?_⟩; gi_at_call 29; refine (CallsIn.inRound l (callsIn_wide.2 (HL.out _ (by first | exact Below.refl _ _ | exact (Below.refl _ _).drew)))).mono ?_; rintro e w9 ⟨rfl, ⟨nd, rfl⟩⟩))
                      | fail
                    all_goals gi_wp2
                    all_goals exact ⟨(HE2.out _).1, .inr (.inr ⟨rfl, (HE2.out _).2.2, HLEN2.out H40.out⟩)⟩
                  · have g1 : decide ((xi : Int) > 40) = false := decide_eq_false (by omega)
                    have g2 : decide ((40 : Int) < (xi : Int)) = false := decide_eq_false (by omega)
                    have g3 : decide (40 < xi) = false := decide_eq_false h40
                    clear h40
                    first
                      | (gi_region_with_o (refine ⟨trivial, ?_⟩; gi_at_call 29; refine (CallsIn.inRound l (callsIn_wide.2 (HL.out _ (by first | exact Below.refl _ _ | exact (Below.refl _ _).drew)))).mono ?_; rintro e w9 ⟨rfl, ⟨nd, rfl⟩⟩))
                      | fail
                    all_goals gi_wp2
                    all_goals exact HE2.out _
            · have e0 : decide (xv = y) = false := decide_eq_false hxv
              have e1 : (xv == y) = false := beq_eq_false_iff_ne.2 hxv
              have HV := Aside0.mk hxv
              clear hxv
              gi_wp2_with (refine ⟨trivial, ?_⟩; gi_at_call 39; refine (CallsIn.inRound l (callsIn_wide.2 HAT.out)).mono ?_; rintro e w3 ⟨rfl, hb⟩; have hR3 := HRM.out.1.below hb; have c6 := (HXB.out.below hR3.rq.bl).x6.cell; have f6 := (HXB.out.below hR3.rq.bl).x6.frozen; have cm := (boxed_below HRM.out.2.1 hb).cell; have HB3 := Aside0.mk hb; clear hb hR3)
              exact ⟨((keeps_below HB3.out).trans (KeepsOthers.setCell _ _ _)).from _, .inl ⟨rfl, fun ⟨k, _, hk⟩ => by
                have h_ := upto_last hk
                rw [HJ.out, HY.out] at h_
                injection h_ with _ h_
                exact HV.out h_⟩⟩
          · have e0 : decide ((xi : Int) = (j : Int)) = false := decide_eq_false (by omega)
            have e1 : ((xi : Int) == (j : Int)) = false := beq_eq_false_iff_ne.2 (by omega)
            have e2 : decide (xi = j) = false := decide_eq_false hxi
            have HV := Aside0.mk hxi
            clear hxi
            gi_wp2_with (refine ⟨trivial, ?_⟩; gi_at_call 39; refine (CallsIn.inRound l (callsIn_wide.2 (e_at_any HRM.out.1.rq (xi : Int)))).mono ?_; rintro e w3 ⟨v3, o3, rfl, hb⟩; have hR3 := HRM.out.1.below hb; have c6 := (HXB.out.below hR3.rq.bl).x6.cell; have f6 := (HXB.out.below hR3.rq.bl).x6.frozen; have cm := (boxed_below HRM.out.2.1 hb).cell; have HB3 := Aside0.mk hb; clear hb hR3)
            all_goals exact ⟨((keeps_below HB3.out).trans (KeepsOthers.setCell _ _ _)).from _, .inl ⟨rfl, fun ⟨k, _, hk⟩ => by
              have h_ := upto_last hk
              rw [HJ.out] at h_
              injection h_ with h_ _
              exact HV.out h_⟩⟩
        case stop =>
          rintro D2 c pre W hD2 ⟨k, hk, rfl⟩ hx hK2
          rcases hx with ⟨_, hx⟩ | ⟨rfl, h6, hB, hD⟩ | ⟨rfl, ⟨hR, hm, hD⟩, h40⟩
          · exact absurd ⟨k, hk, rfl⟩ hx
          · gi_wp2
            exact each_fin0 _ rfl h6 hB hD hK2 (by omega) (by have h_ := (below_step HWB.out hRY.rq.bl).size; omega) (by have h_ := (below_step HWB.out hra.rq.bl).size; have h2_ := HD1.out.1; omega)
          · rw [uptoI_len] at hm h40
            have g1 : decide ((k : Int) > 40) = true := decide_eq_true (by omega)
            have g2 : decide ((40 : Int) < (k : Int)) = true := decide_eq_true (by omega)
            have g3 : decide (40 < k) = true := decide_eq_true h40
            clear hk h40
            by_cases hky : k = ys.length
            · subst hky
              have hx4 := HXB.out.below hR.rq.bl
              have c6 := hx4.x6.cell
              have f6 := hx4.x6.frozen
              have c7 := hR.x7.cell
              have cm := hm.cell
              have HR := Aside0.mk hR
              have hmx : Try.prog.follows .mixedOrders = true := by kernel_rfl
              have HL := Aside0.mk (fun (W2 : World) (hb : Below W.heap.size W W2) => len_q (hR.rq.below hb))
              clear hR hx4 hm
              gi_wp2
              have H6 := Aside0.mk (HXB.out.below HR.out.rq.bl).x6
              have HF := Aside0.mk (fun (X : World) (T : Array Value) (hX : ∃ m, X = (W.drewN m).setCell ⟨b6, 0, none⟩ (.bool true)) (hT : T.getD 6 undef = .pointer (some ⟨b6, 0, none⟩)) => each_fin T hT HB6.out hX H6.out (below_step HWB.out HR.out.rq.bl) hD hK2 (by omega) (by have h_ := (below_step HWB.out hRY.rq.bl).size; omega) (by have h_ := (below_step HWB.out hra.rq.bl).size; have h2_ := HD1.out.1; omega))
              first
                | (gi_region_with_o (refine ⟨trivial, ?_⟩; gi_at_call 29; refine (callsIn_wide.2 (HL.out _ (by first | exact Below.refl _ _ | exact (Below.refl _ _).drew))).mono ?_; rintro e w9 ⟨rfl, ⟨nd, rfl⟩⟩))
                | fail
              all_goals gi_wp2
              all_goals exact HF.out _ _ ⟨_, rfl⟩ rfl
            · have e0 : decide ((k : Int) = (ys.length : Int)) = false := decide_eq_false (by omega)
              have e1 : ((k : Int) == (ys.length : Int)) = false := beq_eq_false_iff_ne.2 (by omega)
              have e2 : decide (k = ys.length) = false := decide_eq_false hky
              have HKY := Aside0.mk hky
              clear hky
              have hx4 := HXB.out.below hR.rq.bl
              have c6 := hx4.x6.cell
              have f6 := hx4.x6.frozen
              have c7 := hR.x7.cell
              have cm := hm.cell
              have HR := Aside0.mk hR
              have hmx : Try.prog.follows .mixedOrders = true := by kernel_rfl
              have HL := Aside0.mk (fun (W2 : World) (hb : Below W.heap.size W W2) => len_q (hR.rq.below hb))
              clear hR hx4 hm
              gi_wp2
              have H6 := Aside0.mk (HXB.out.below HR.out.rq.bl).x6
              have HF := Aside0.mk (fun (X : World) (T : Array Value) (hX : ∃ m, X = (W.drewN m).setCell ⟨b6, 0, none⟩ (.bool true)) (hT : T.getD 6 undef = .pointer (some ⟨b6, 0, none⟩)) => each_fin T hT HB6.out hX H6.out (below_step HWB.out HR.out.rq.bl) hD hK2 (by omega) (by have h_ := (below_step HWB.out hRY.rq.bl).size; omega) (by have h_ := (below_step HWB.out hra.rq.bl).size; have h2_ := HD1.out.1; omega))
              first
                | (gi_region_with_o (refine ⟨trivial, ?_⟩; gi_at_call 29; refine (callsIn_wide.2 (HL.out _ (by first | exact Below.refl _ _ | exact (Below.refl _ _).drew))).mono ?_; rintro e w9 ⟨rfl, ⟨nd, rfl⟩⟩))
                | fail
              all_goals gi_wp2
              all_goals exact HF.out _ _ ⟨_, rfl⟩ rfl
        case done =>
          rintro D2 zs W hD2 rfl ⟨hR, hm, hD⟩ hK2
          rw [uptoI_len] at hm
          have hx4 := HXB.out.below hR.rq.bl
          have c6 := hx4.x6.cell
          have f6 := hx4.x6.frozen
          have c7 := hR.x7.cell
          have cm := hm.cell
          have HR := Aside0.mk hR
          have hmx : Try.prog.follows .mixedOrders = true := by kernel_rfl
          have HL := Aside0.mk (fun (W2 : World) (hb : Below W.heap.size W W2) => len_q (hR.rq.below hb))
          clear hR hx4 hm
          gi_wp2
          have H6 := Aside0.mk (HXB.out.below HR.out.rq.bl).x6
          have HF := Aside0.mk (fun (X : World) (T : Array Value) (hX : ∃ m, X = (W.drewN m).setCell ⟨b6, 0, none⟩ (.bool true)) (hT : T.getD 6 undef = .pointer (some ⟨b6, 0, none⟩)) => each_fin T hT HB6.out hX H6.out (below_step HWB.out HR.out.rq.bl) hD hK2 (by omega) (by have h_ := (below_step HWB.out hRY.rq.bl).size; omega) (by have h_ := (below_step HWB.out hra.rq.bl).size; have h2_ := HD1.out.1; omega))
          first
            | (gi_region_with_o (refine ⟨trivial, ?_⟩; gi_at_call 29; refine (callsIn_wide.2 (HL.out _ (by first | exact Below.refl _ _ | exact (Below.refl _ _).drew))).mono ?_; rintro e w9 ⟨rfl, ⟨nd, rfl⟩⟩))
            | fail
          all_goals gi_wp2
          all_goals exact HF.out _ _ ⟨_, rfl⟩ rfl
end Go.Proofs.Ytekjkookkjjbcaa.Pure
