/- QueueRings: the ring of things gone through beside the reference's (walked by hand). -/
import Derived.Test.YtekjkookkjjbcaaPairK
namespace Go.Proofs.Ytekjkookkjjbcaa.PB
set_option linter.unusedVariables false
set_option linter.unusedSimpArgs false
set_option linter.unusedVariables false
set_option linter.unusedSimpArgs false
open Go.RowKit Go.Shelf Go.Proofs.YtekjkookkjjbcaaW.PrintWords Go.Proofs.YtekjkookkjjbcaaW.PrintLast Go.Proofs.YtekjkookkjjbcaaW.PrintMore Go.Proofs.Ytekjkookkjjbcaa.B Go.Proofs.Ytekjkookkjjbcaa.M Go.Proofs.Ytekjkookkjjbcaa.RR Go.Proofs.Ytekjkookkjjbcaa.EX Go.Proofs.Ytekjkookkjjbcaa.PA
open Go.Proofs.Ytekjkookkjjbcaa.RH (T2 d2 kT RT MovedR)
open Go.Proofs.Ytekjkookkjjbcaa.FL (pushL dropL newC both)
attribute [local go_sem] Oper.semAt_some
/-- A loop over an iterator whose second value is boxed. -/
theorem rangeA {F : Fence} {n : Nat} {P : Program} {α : Type} (f : α → Nat → Array Value → Array Value) (bx : α → Obj) (hbx : ∀ x, (bx x).isCells = true) {g : Operand} {ps : Array Tmp} {assign body : Code} {Q : Exit → Act → World → Prop} {a : Act} {w : World}
    (hro : F.round = none) (h1 : 1 ≤ n) {gf : Nat} {lb : Array Value} (hg : a.eval g = .func (.func gf) #[] lb) (hFg : F.fn gf) (eg : ∀ args w, (callFunc gf args).run P w = .ok (.enter gf args) w)
    {encs : α → Array Value} {Kp : World → World → Prop} {S Sp : List α → Prop} {N : Nat} {w0 : World} (hseq : SeqStopsK F (n - 1) P gf lb encs Kp S Sp N w0)
    (hKt : ∀ {A B C : World}, Kp A B → Kp B C → Kp A C) (hKb : ∀ (W : World) (l : Nat) (o o' : Obj), w.heap.size ≤ l → W.heap[l]? = some o → o.isCells = false → o.isWalk = false → Kp W (W.putObj l o')) (hb0 : Below w0.heap.size w0 w) (hps : ∀ x, (encs x).size = ps.size)
    (I : List α → World → Prop) (Ix : Code → List α → World → Prop) (hI : OwnFrom w.heap.size I) (hIx : ∀ c, OwnFrom w.heap.size (Ix c)) (h0 : I [] w)
    (hassign : ∀ (l : Nat) (pre : List α) (x : α) (W : World) (K : Act → World → Prop), I pre W → (∀ a' W', KeepsFrom w.heap.size W W' → Kp W W' → I pre W' → (∃ b, a' = { tmps := f x b a.tmps, defers := [] } ∧ W'.heap[b]? = some (bx x)) → K a' W') →
      assign.wpIn (F.inRound l) (n - 1 - 1) P (Exit.then K (fun _ _ _ => False)) { tmps := (ps.zip (encs x)).foldl (fun t (p, v) => t.setIfInBounds p v) a.tmps, defers := [] } W)
    (hbody : ∀ (l : Nat) (pre : List α) (x : α) (a' : Act) (W : World), w.heap.size ≤ l → (∃ r, W.heap[l]? = some (.loop r)) → I pre W → (∃ b, a' = { tmps := f x b a.tmps, defers := [] } ∧ W.heap[b]? = some (bx x)) → pre.length < N → body.wpIn (F.inRound l) (n - 1 - 1) P (ownPostG w.heap.size Kp I Ix (pre ++ [x]) W) a' W)
    (hdone : ∀ (D : Nat) (xs : List α) (W : World), w.heap.size ≤ D → S xs → I xs W → W.heap[D]? = some (.deferred (some [])) → Q .normal { a with defers := { target := .collected D, args := #[] } :: a.defers } W)
    (hstop : ∀ (D : Nat) (c : Code) (pre : List α) (W : World), w.heap.size ≤ D → Sp pre → Ix c pre W → W.heap[D]? = some (.deferred (some [])) → c.wpIn F n P Q { a with defers := { target := .collected D, args := #[] } :: a.defers } W) :
    (Code.rangeFunc g ps assign body).wpIn F n P Q a w :=
  wpIn_rangeFunc_ownH hro h1 hg hFg eg hseq hKt hKb hb0 hps I Ix hI hIx h0 (fun x a' W => ∃ b, a' = { tmps := f x b a.tmps, defers := [] } ∧ W.heap[b]? = some (bx x)) (fun x a' _ X Y row hs hg hr => by
    obtain ⟨b, h1, h2⟩ := hs
    refine ⟨b, h1, (hg.block b (Array.getElem?_eq_some_iff.1 h2).1 (fun e => ?_)).trans h2⟩
    obtain ⟨_, o9, ho, hc⟩ := hr b e.symm
    rw [h2] at ho
    cases ho
    rw [hbx] at hc
    cases hc) hassign hbody hdone hstop
theorem KpI.low {B b o : Nat} {W : World} {v : Value} (h : b < B) : KpI B W (W.setCell ⟨b, o, none⟩ v) := fun i cs hi e =>
  (Below.heap_setCell W ⟨b, o, none⟩ v i (by show i ≠ b; omega)).trans e
theorem upto_last {xs : List T2} {pre : List (Nat × T2)} {x : Nat × T2} {k : Nat} (h : pre ++ [x] = uptoI xs k) : x = (pre.length, xs.getD pre.length d2) := by
  cases k with
  | zero => simp [uptoI] at h
  | succ k =>
    have hl := congrArg List.length h
    rw [uptoI_len, List.length_append, List.length_singleton] at hl
    obtain rfl : pre.length = k := by omega
    rw [uptoI_succ] at h
    have := (List.append_inj' h rfl).2
    simpa using this
theorem second_fin {w X : World} {A o : Ob w} {b4 b5 b6 bn be te : Nat} {xp rp : Option Addr} {who d N n : Int} {D : Nat} (T : Array Value) (hT : T.getD 8 undef = .pointer (some ⟨b6, 0, none⟩)) (h : Has (Fl w A o b4 b5 b6 xp who d N true bn be te rp n) X) (hD : X.heap[D]? = some (.deferred (some []))) (hw : w.heap.size ≤ D) :
    bodyPostM Fence.wide 9 Try.prog Try.f42 (fun e W' => e = .returned (.bool true) ∧ Has (both2 A o) W') .ret { tmps := T, defers := [{ target := .collected D, args := #[] }] } X := by
  refine ⟨by simp, .inl ⟨_, _, rfl, run_takeDeferred hD, ?_⟩⟩
  have h2 := h.turn (grownBy_putObj' X D (.deferred none)) (fun r e => by cases e; exact ⟨_, hD, rfl⟩) (fun r e => by cases e; exact hw)
  have hc := Fr.c6 (Fl.fr h2)
  have hT' : T[8]?.getD undef = .pointer (some ⟨b6, 0, none⟩) := by simpa using hT
  refine ⟨.bool true, ?_, rfl, Fr.rest (Fl.fr h2)⟩
  simp [results, Try.results42, go_sem, hT', hc]
set_option maxRecDepth 100000 in
set_option maxHeartbeats 8000000 in
theorem second_each {w W : World} {o : Ob w} {rp xp : Option Addr} {most who N id : Int} {xs : List T2} (h : Has (both2 (AY w rp xp most xs xs) o) W) :
    Calls Try.prog 42 #[.pointer rp, .pointer xp, .agg #[.int .i64 who, .int .i64 5, .int .i64 N], .int .i64 id] W fun e W' => e = .returned (.bool true) ∧ Has (both2 (AY w rp xp most xs xs) o) W' := by
  refine (callsIn_wide (n := 9)).1 ?_
  refine callsIn_of_wp_marks Try.func42 rfl trivial ?_ rfl
  simp only [Try.ntmps42, List.size_toArray, List.length_cons, List.length_nil, Nat.reduceAdd, Nat.reduceSub, Array.replicate_succ, Array.replicate_zero, List.push_toArray, List.append_toArray, List.nil_append, List.cons_append]
  have H0 := Fl.make (Fr.make h xp who 5 N) 67 rp
  simp only [World.size_alloc] at H0
  gi_wp2_with (refine ⟨trivial, ?_⟩; gi_at_call 80; refine (each_in _ _ _).mono ?_; rintro e w' ⟨rfl, rfl⟩)
  obtain ⟨WX, hWX⟩ : ∃ WX, ((((W.alloc (.cells #[.pointer xp] 51 (0, 0))).alloc (.cells #[.int .i64 who, .int .i64 5, .int .i64 N] 33 (0, 0))).alloc (.cells #[.bool false] 4 (0, 0))).alloc (.cells #[.int .i64 0] 3 (0, 0))).alloc (.cells #[.pointer rp] 67 (0, 0)) = WX := ⟨_, rfl⟩
  rw [hWX] at H0
  rw [hWX]
  obtain ⟨b4, hb4⟩ : ∃ b4, W.heap.size = b4 := ⟨_, rfl⟩
  rw [hb4] at H0
  rw [hb4]
  obtain ⟨b5, hb5⟩ : ∃ b5, b4 + 1 = b5 := ⟨_, rfl⟩
  rw [hb5] at H0
  rw [hb5]
  obtain ⟨b6, hb6⟩ : ∃ b6, b5 + 1 = b6 := ⟨_, rfl⟩
  rw [hb6] at H0
  rw [hb6]
  obtain ⟨bn, hbn⟩ : ∃ bn, b6 + 1 = bn := ⟨_, rfl⟩
  rw [hbn] at H0
  rw [hbn]
  obtain ⟨be, hbe⟩ : ∃ be, bn + 1 = be := ⟨_, rfl⟩
  rw [hbe] at H0
  rw [hbe]
  clear hWX hb4 hb5 hb6 hbn hbe h
  have hwX := H0.bl
  have hrow := t_row (Fr.rest (Fl.fr H0)).fst.fst
  have HLX := Aside0.mk hrow.1
  have hbe := blk_lt H0.snd.box
  have hbn := blk_lt H0.fst.snd.box
  refine rangeA (fun x b T => (((T.setIfInBounds 97 (.int .i64 (x.1 : Int))).setIfInBounds 98 (.agg #[.int .i64 x.2.1, .int .i64 x.2.2])).setIfInBounds 19 (.int .i64 (x.1 : Int))).setIfInBounds 20 (.pointer (some ⟨b, 0, none⟩))) (fun x => .cells #[.int .i64 x.2.1, .int .i64 x.2.2] 29 (0, 0)) (fun _ => rfl) rfl (by decide) (gf := 92) (lb := #[.pointer (some ⟨be, 0, none⟩)]) rfl trivial (enters_of Try.func92 (by kernel_rfl) rfl)
    (each_stops 8 (by decide) be WX.heap.size rp xs WX hrow hbe (Fl.ce H0) (Nat.le_refl _)) (fun h k => h.t k) (fun W l o o' hl h1 h2 h3 => KpI.b (n := WX.heap.size) W l o o' hl h1 h2 h3) (Below.refl _ _) (fun _ => rfl)
    (fun pre W => Has (Fl w (AY w rp xp most xs xs) o b4 b5 b6 xp who 5 N false bn be 67 rp (pre.length : Int)) W)
    (fun c pre W => (c = .ret ∧ ¬ ∃ k, k ≤ xs.length ∧ pre = uptoI xs k) ∨ (c = .exit 1 ∧ Has (Fl w (AY w rp xp most xs xs) o b4 b5 b6 xp who 5 N false bn be 67 rp (pre.length : Int)) W ∧ (pre.length : Int) = N + 1))
    (fun s X Y row hs hg hr => hs.turn hg (fun r e => (hr r e).2) (fun r e => Nat.le_trans hwX.size (hr r e).1))
    (fun c s X Y row hs hg hr => hs.imp (fun h => h) fun ⟨h1, h2, h3⟩ => ⟨h1, h2.turn hg (fun r e => (hr r e).2) (fun r e => Nat.le_trans hwX.size (hr r e).1), h3⟩)
    H0 ?assign ?body ?done ?stop
  case assign =>
    intro l pre x W K hi hK
    gi_wp2
    have hb := below_alloc (Below.refl W.heap.size W) (.cells #[.int .i64 x.2.1, .int .i64 x.2.2] 29 (0, 0))
    exact hK _ _ ((keeps_below hb).from _) (KpI.of_below hb) (Has.below hi hb) ⟨_, rfl, heap_alloc_new W _⟩
  case body =>
    rintro l pre ⟨xi, xv⟩ a' W hl hrec hR ⟨b20, rfl, h20⟩ hpl
    have k20 := blk_cell h20 0
    have k21 := blk_cell h20 1
    have H20 := Aside0.mk h20
    clear h20
    have nn1 : 1 ≤ 9 - 1 - 1 := by decide
    obtain ⟨j, hj⟩ : ∃ j, pre.length = j := ⟨_, rfl⟩
    rw [hj] at hR hpl
    have HJ := Aside0.mk hj
    have HPL := Aside0.mk hpl
    have hA := x_at_below (Fr.rest (Fl.fr hR)).fst.snd (j : Int)
    rw [atV_in d2 xs j hpl, inB_in hpl] at hA
    obtain ⟨y, hy⟩ : ∃ y, xs.getD j d2 = y := ⟨_, rfl⟩
    have HY := Aside0.mk hy
    rw [hy] at hA
    have HA := Aside0.mk hA
    have HR := Aside0.mk hR
    have k4 := Fr.c4 (Fl.fr hR)
    have k52 := Fr.c52 (Fl.fr hR)
    have k6 := Fr.c6 (Fl.fr hR)
    have kf := Fr.f6 (Fl.fr hR)
    have kn := Fl.cn hR
    have kfn := Fl.fn hR
    have q1 : IntKind.i64.wrap ((j : Int) + 1) = (j : Int) + 1 := by have h_ := HLX.out; rw [i64_w, wrap_id _ (by omega) (by omega)]
    clear hR hA hy hj hpl hrec H0 hrow hbe
    simp only [List.setIfInBounds_toArray, List.set_cons_succ, List.set_cons_zero]
    have HARM : True := trivial
    by_cases hxi : xi = j
    · subst hxi
      have hlen : ((pre ++ [(xi, xv)]).length : Int) = (xi : Int) + 1 := by rw [List.length_append, HJ.out]; rfl
      have HLE := Aside0.mk hlen
      clear hlen
      by_cases hxv : xv = y
      · subst hxv
        by_cases hN : (xi : Int) = N
        · have HNN := Aside0.mk hN
          have e0 : decide ((xi : Int) = N) = true := decide_eq_true hN
          have e1 : ((xi : Int) == N) = true := beq_iff_eq.2 hN
          clear hN
          gi_wp2_with (refine ⟨trivial, ?_⟩; gi_at_call 77; refine (CallsIn.inRound l (callsIn_wide.2 HA.out)).mono ?_; rintro e w3 ⟨rfl, hb⟩; have hb3 := below_alloc hb (.cells #[.int .i64 xv.1, .int .i64 xv.2] 29 (0, 0)); have h3 := HR.out.below hb3; have k4 := Fr.c4 (Fl.fr h3); have k52 := Fr.c52 (Fl.fr h3); have k6 := Fr.c6 (Fl.fr h3); have kf := Fr.f6 (Fl.fr h3); have kn := Fl.cn h3; have kfn := Fl.fn h3; have h20 := blk_below H20.out hb3; have k20 := blk_cell h20 0; have k21 := blk_cell h20 1; have HB3 := Aside0.mk hb3; clear h20; have H3 := Aside0.mk h3; clear hb hb3 h3)
          exact ⟨((keeps_below HB3.out).trans (KeepsOthers.setCell _ _ _)).from _, .inr ⟨rfl, (show Has (Fl w (AY w rp xp most xs xs) o b4 b5 b6 xp who 5 N false bn be 67 rp ((pre ++ [(xi, xv)]).length : Int)) _ by rw [HLE.out]; exact Fl.count H3.out _), (show ((pre ++ [(xi, xv)]).length : Int) = N + 1 by rw [HLE.out, HNN.out])⟩⟩
        · have e0 : decide ((xi : Int) = N) = false := decide_eq_false hN
          have e1 : ((xi : Int) == N) = false := beq_eq_false_iff_ne.2 hN
          clear hN
          gi_wp2_with (refine ⟨trivial, ?_⟩; gi_at_call 77; refine (CallsIn.inRound l (callsIn_wide.2 HA.out)).mono ?_; rintro e w3 ⟨rfl, hb⟩; have hb3 := below_alloc hb (.cells #[.int .i64 xv.1, .int .i64 xv.2] 29 (0, 0)); have h3 := HR.out.below hb3; have k4 := Fr.c4 (Fl.fr h3); have k52 := Fr.c52 (Fl.fr h3); have k6 := Fr.c6 (Fl.fr h3); have kf := Fr.f6 (Fl.fr h3); have kn := Fl.cn h3; have kfn := Fl.fn h3; have h20 := blk_below H20.out hb3; have k20 := blk_cell h20 0; have k21 := blk_cell h20 1; have HB3 := Aside0.mk hb3; clear h20; have H3 := Aside0.mk h3; clear hb hb3 h3)
          exact ⟨((keeps_below HB3.out).trans (KeepsOthers.setCell _ _ _)).from _, (KpI.of_below HB3.out).t (PB.KpI.low hbn), (show Has (Fl w (AY w rp xp most xs xs) o b4 b5 b6 xp who 5 N false bn be 67 rp ((pre ++ [(xi, xv)]).length : Int)) _ by rw [HLE.out]; exact Fl.count H3.out _)⟩
      · have HV := Aside0.mk hxv
        by_cases hx1 : xv.1 = y.1
        · have hx2 : xv.2 ≠ y.2 := fun e => hxv (Prod.ext hx1 e)
          have e3 : decide (xv.1 = y.1) = true := decide_eq_true hx1
          have e4 : (xv.1 == y.1) = true := beq_iff_eq.2 hx1
          have e0 : decide (xv.2 = y.2) = false := decide_eq_false hx2
          have e1 : (xv.2 == y.2) = false := beq_eq_false_iff_ne.2 hx2
          clear hx1 hx2 hxv
          gi_wp2_with (refine ⟨trivial, ?_⟩; gi_at_call 77; refine (CallsIn.inRound l (callsIn_wide.2 HA.out)).mono ?_; rintro e w3 ⟨rfl, hb⟩; have hb3 := below_alloc hb (.cells #[.int .i64 y.1, .int .i64 y.2] 29 (0, 0)); have h3 := HR.out.below hb3; have k4 := Fr.c4 (Fl.fr h3); have k52 := Fr.c52 (Fl.fr h3); have k6 := Fr.c6 (Fl.fr h3); have kf := Fr.f6 (Fl.fr h3); have kn := Fl.cn h3; have kfn := Fl.fn h3; have h20 := blk_below H20.out hb3; have k20 := blk_cell h20 0; have k21 := blk_cell h20 1; have HB3 := Aside0.mk hb3; clear h20; clear hb hb3 h3)
          exact ⟨((keeps_below HB3.out).trans (KeepsOthers.setCell _ _ _)).from _, .inl ⟨rfl, fun ⟨k, _, hk⟩ => by
            have h_ := upto_last hk
            rw [HJ.out, HY.out] at h_
            injection h_ with _ h_
            exact HV.out h_⟩⟩
        · have e0 : decide (xv.1 = y.1) = false := decide_eq_false hx1
          have e1 : (xv.1 == y.1) = false := beq_eq_false_iff_ne.2 hx1
          clear hx1 hxv
          gi_wp2_with (refine ⟨trivial, ?_⟩; gi_at_call 77; refine (CallsIn.inRound l (callsIn_wide.2 HA.out)).mono ?_; rintro e w3 ⟨rfl, hb⟩; have hb3 := below_alloc hb (.cells #[.int .i64 y.1, .int .i64 y.2] 29 (0, 0)); have h3 := HR.out.below hb3; have k4 := Fr.c4 (Fl.fr h3); have k52 := Fr.c52 (Fl.fr h3); have k6 := Fr.c6 (Fl.fr h3); have kf := Fr.f6 (Fl.fr h3); have kn := Fl.cn h3; have kfn := Fl.fn h3; have h20 := blk_below H20.out hb3; have k20 := blk_cell h20 0; have k21 := blk_cell h20 1; have HB3 := Aside0.mk hb3; clear h20; clear hb hb3 h3)
          exact ⟨((keeps_below HB3.out).trans (KeepsOthers.setCell _ _ _)).from _, .inl ⟨rfl, fun ⟨k, _, hk⟩ => by
            have h_ := upto_last hk
            rw [HJ.out, HY.out] at h_
            injection h_ with _ h_
            exact HV.out h_⟩⟩
    · have e0 : decide ((xi : Int) = (j : Int)) = false := decide_eq_false (by omega)
      have e1 : ((xi : Int) == (j : Int)) = false := beq_eq_false_iff_ne.2 (by omega)
      have e2 : decide (xi = j) = false := decide_eq_false hxi
      have HV := Aside0.mk hxi
      clear hxi
      gi_wp2_with (refine ⟨trivial, ?_⟩; gi_at_call 77; refine (CallsIn.inRound l (callsIn_wide.2 HA.out)).mono ?_; rintro e w3 ⟨rfl, hb⟩; have hb3 := below_alloc hb (.cells #[.int .i64 y.1, .int .i64 y.2] 29 (0, 0)); have h3 := HR.out.below hb3; have k4 := Fr.c4 (Fl.fr h3); have k52 := Fr.c52 (Fl.fr h3); have k6 := Fr.c6 (Fl.fr h3); have kf := Fr.f6 (Fl.fr h3); have kn := Fl.cn h3; have kfn := Fl.fn h3; have h20 := blk_below H20.out hb3; have k20 := blk_cell h20 0; have k21 := blk_cell h20 1; have HB3 := Aside0.mk hb3; clear h20; clear hb hb3 h3)
      all_goals exact ⟨((keeps_below HB3.out).trans (KeepsOthers.setCell _ _ _)).from _, .inl ⟨rfl, fun ⟨k, _, hk⟩ => by
        have h_ := upto_last hk
        rw [HJ.out] at h_
        injection h_ with h_ _
        exact HV.out h_⟩⟩
  case stop =>
    rintro D c pre W hD ⟨k, hk, rfl⟩ (⟨_, h⟩ | ⟨rfl, hR, hN⟩) hK
    · exact absurd ⟨k, hk, rfl⟩ h
    · rw [uptoI_len] at hR hN
      have hmx : Try.prog.follows .mixedOrders = true := by kernel_rfl
      have k4 := Fr.c4 (Fl.fr hR)
      have k52 := Fr.c52 (Fl.fr hR)
      have k6 := Fr.c6 (Fl.fr hR)
      have kf := Fr.f6 (Fl.fr hR)
      have kn := Fl.cn hR
      have q1 : IntKind.i64.wrap (N + 1) = (k : Int) := by have h_ := HLX.out; rw [i64_w, wrap_id _ (by omega) (by omega)]; omega
      have HL := Aside0.mk (fun (V : World) (hb : Below W.heap.size W V) => x_len_drawn ((Fr.rest (Fl.fr (hR.below hb))).fst.snd))
      have HF := Aside0.mk (fun (m : Nat) (T : Array Value) (hT : T.getD 8 undef = .pointer (some ⟨b6, 0, none⟩)) => second_fin T hT ((((Moves.set (W.drewN m) 0 (.bool true)).r _).l _).l _ |>.has (hR.below (pw_below_drewN (Below.refl _ _) m))) ((KeepsOthers.setCell (W.drewN m) ⟨b6, 0, none⟩ (.bool true)).same D _ hK rfl) (Nat.le_trans hwX.size hD))
      clear hR hN
      by_cases hkx : k = xs.length
      · subst hkx
        gi_wp2
        first
          | (gi_region_with_o (refine ⟨trivial, ?_⟩; gi_at_call 37; refine (callsIn_wide.2 (HL.out _ (by first | exact Below.refl _ _ | exact (Below.refl _ _).drew))).mono ?_; rintro e w9 ⟨rfl, ⟨nd, rfl⟩⟩))
          | fail
        all_goals gi_wp2
        all_goals exact HF.out _ _ rfl
      · have e0 : decide ((k : Int) = (xs.length : Int)) = false := decide_eq_false (by omega)
        have e1 : ((k : Int) == (xs.length : Int)) = false := beq_eq_false_iff_ne.2 (by omega)
        have e2 : decide (k = xs.length) = false := decide_eq_false hkx
        clear hkx
        gi_wp2
        first
          | (gi_region_with_o (refine ⟨trivial, ?_⟩; gi_at_call 37; refine (callsIn_wide.2 (HL.out _ (by first | exact Below.refl _ _ | exact (Below.refl _ _).drew))).mono ?_; rintro e w9 ⟨rfl, ⟨nd, rfl⟩⟩))
          | fail
        all_goals gi_wp2
        all_goals exact HF.out _ _ rfl
  case done =>
    rintro D zs W hD rfl hR hK
    rw [uptoI_len] at hR
    have hmx : Try.prog.follows .mixedOrders = true := by kernel_rfl
    have k4 := Fr.c4 (Fl.fr hR)
    have k52 := Fr.c52 (Fl.fr hR)
    have k6 := Fr.c6 (Fl.fr hR)
    have kf := Fr.f6 (Fl.fr hR)
    have kn := Fl.cn hR
    have HL := Aside0.mk (fun (V : World) (hb : Below W.heap.size W V) => x_len_drawn ((Fr.rest (Fl.fr (hR.below hb))).fst.snd))
    have HF := Aside0.mk (fun (m : Nat) (T : Array Value) (hT : T.getD 8 undef = .pointer (some ⟨b6, 0, none⟩)) => second_fin T hT ((((Moves.set (W.drewN m) 0 (.bool true)).r _).l _).l _ |>.has (hR.below (pw_below_drewN (Below.refl _ _) m))) ((KeepsOthers.setCell (W.drewN m) ⟨b6, 0, none⟩ (.bool true)).same D _ hK rfl) (Nat.le_trans hwX.size hD))
    clear hR
    gi_wp2
    first
      | (gi_region_with_o (refine ⟨trivial, ?_⟩; gi_at_call 37; refine (callsIn_wide.2 (HL.out _ (by first | exact Below.refl _ _ | exact (Below.refl _ _).drew))).mono ?_; rintro e w9 ⟨rfl, ⟨nd, rfl⟩⟩))
      | fail
    all_goals gi_wp2
    all_goals exact HF.out _ _ rfl
end Go.Proofs.Ytekjkookkjjbcaa.PB
