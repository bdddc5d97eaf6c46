/- QueueAlike: a heap by an order that holds all things alike is a ring (walked by hand). -/
import Derived.Test.YtekjkookkjjbcaaSorts
import Derived.Test.YtekjkookkjjbcaaRingXF
namespace Go.Proofs.Ytekjkookkjjbcaa.Pure
set_option linter.unusedVariables false
set_option linter.unusedSimpArgs false
set_option linter.unusedVariables false
set_option linter.unusedSimpArgs false
open Go.RowKit Go.Proofs.YtekjkookkjjbcaaW.PrintWords Go.Proofs.YtekjkookkjjbcaaW.PrintLast Go.Proofs.YtekjkookkjjbcaaW.PrintMore Go.Proofs.Ytekjkookkjjbcaa.B Go.Proofs.Ytekjkookkjjbcaa.M Go.Proofs.Ytekjkookkjjbcaa.HW
/-- The ring's bound. -/
def mostOf (n : Nat) : Int := if (1 : Int) < (n : Int) then (n : Int) else 1
theorem max_q (ats : Array TypeId) (ty : TypeId) (n : Nat) : Builtin.max_ ats ty #[.int .i64 1, .int .i64 (n : Int)] = pure (.int .i64 (mostOf n)) := by
  rw [max_two, max2_int]
  rfl
theorem mostOf_le (n : Nat) : (n : Int) ≤ mostOf n ∧ 1 ≤ mostOf n ∧ (mostOf n ≤ 1048576 ↔ n ≤ 1048576) := by
  unfold mostOf
  split <;> omega
attribute [local go_sem high] max_q
def thA (y : T3) : Int × Int := (y.1, y.2.1)
theorem type_neA {W : World} {a b t t' : Nat} {cs ds : Array Value} (ha : W.heap[a]? = some (.cells cs t (0, 0))) (hb : W.heap[b]? = some (.cells ds t' (0, 0))) (ht : t ≠ t') : a ≠ b := fun e => by
  rw [e, hb] at ha
  injection ha with ha
  injection ha with _ ha
  exact ht ha.symm
/-- By the order that holds all alike the head of what came is the least. -/
theorem zhead {x : T3} {xs : List T3} (h : (x :: xs).Pairwise (fun y z => y.2.2 < z.2.2)) : Least zcmp (x :: xs) x := by
  refine ⟨List.mem_cons_self, fun y hy => ?_⟩
  show aheadB zcmp y x = false
  unfold aheadB zcmp
  rw [if_neg (by simp)]
  refine decide_eq_false ?_
  rcases List.mem_cons.1 hy with rfl | hy
  · omega
  · have := (List.pairwise_cons.1 h).1 y hy
    omega
/-- The heap and the ring. -/
structure FA (w W : World) (g gh : Nat) (most : Int) (xs : List (Int × Int)) (rb : Option Nat) (came : Int) (ps : List T3) (hb : Option Nat) : Prop where
  rq : RX.RQ w W g most xs rb
  hq : HQ w W gh 51 zcmp came ps hb
/-- A box of the law's own. -/
structure BoxA (W : World) (a t : Nat) (cs : Array Value) (rb : Option Nat) : Prop where
  bk : W.heap[a]? = some (.cells cs t (0, 0))
  t1 : t ≠ 97
  t2 : t ≠ 101
  t3 : t ≠ 109
  nr : rb ≠ some a
section
variable {w W W' : World} {g gh K a t : Nat} {most : Int} {xs ys : List (Int × Int)} {rb rb' hb hb' : Option Nat} {came came' : Int} {ps qs : List T3} {cs : Array Value}
theorem FA.below (h : FA w W g gh most xs rb came ps hb) (hB : Below W.heap.size W W') : FA w W' g gh most xs rb came ps hb := ⟨h.rq.below hB, h.hq.below hB⟩
theorem FA.ring (h : FA w W g gh most xs rb came ps hb) (hq : RX.RQ w W' g most ys rb') (hk : KeepBut W W' g rb) : FA w W' g gh most ys rb' came ps hb := by
  obtain ⟨⟨cg, hcg⟩, _⟩ := h.rq.blk
  have hrow := h.rq.row
  have keep : ∀ {a t : Nat} {cs : Array Value}, W.heap[a]? = some (.cells cs t (0, 0)) → t ≠ 109 → t ≠ 29 → W'.heap[a]? = W.heap[a]? := fun {a t cs} ha h1 h2 =>
    hk.2 a (blk_lt ha) (type_neA ha hcg h1) (fun e => by
      obtain ⟨⟨cr, hcr⟩, _⟩ := hrow a e.symm
      exact type_neA ha hcr h2 rfl)
  obtain ⟨⟨ch, hch⟩, _⟩ := h.hq.blk
  refine ⟨hq, h.hq.kept hq.bl (keep hch (by decide) (by decide)) (fun k hk2 => ?_)⟩
  obtain ⟨⟨cr, hcr⟩, _⟩ := h.hq.row k hk2
  exact keep hcr (by decide) (by decide)
theorem FA.heap (h : FA w W g gh most xs rb came ps hb) (hq : HQ w W' gh 51 zcmp came' qs hb') (hk : KeepBut W W' gh hb) : FA w W' g gh most xs rb came' qs hb' := by
  obtain ⟨⟨cg, hcg⟩, _⟩ := h.hq.blk
  have hrow := h.hq.row
  have keep : ∀ {a t : Nat} {cs : Array Value}, W.heap[a]? = some (.cells cs t (0, 0)) → t ≠ 97 → t ≠ 101 → W'.heap[a]? = W.heap[a]? := fun {a t cs} ha h1 h2 =>
    hk.2 a (blk_lt ha) (type_neA ha hcg h1) (fun e => by
      obtain ⟨⟨cr, hcr⟩, _⟩ := hrow a e.symm
      exact type_neA ha hcr h2 rfl)
  obtain ⟨⟨cr, hcr⟩, _⟩ := h.rq.blk
  refine ⟨h.rq.kept hq.bl (keep hcr (by decide) (by decide)) (fun k hk2 => ?_), hq⟩
  obtain ⟨⟨cr2, hcr2⟩, _⟩ := h.rq.row k hk2
  exact keep hcr2 (by decide) (by decide)
theorem BoxA.below (h : BoxA W a t cs rb) (hb : Below W.heap.size W W') : BoxA W' a t cs rb := ⟨blk_below h.bk hb, h.t1, h.t2, h.t3, h.nr⟩
theorem BoxA.heap (h : BoxA W a t cs rb) (hT : FA w W g gh most xs rb came ps hb) (hk : KeepBut W W' gh hb) : BoxA W' a t cs rb := by
  obtain ⟨⟨cg, hcg⟩, _⟩ := hT.hq.blk
  refine ⟨(hk.2 a (blk_lt h.bk) (type_neA h.bk hcg h.t1) (fun e => ?_)).trans h.bk, h.t1, h.t2, h.t3, h.nr⟩
  obtain ⟨⟨cr, hcr⟩, _⟩ := hT.hq.row a e.symm
  exact type_neA h.bk hcr h.t2 rfl
theorem BoxA.ring (h : BoxA W a t cs rb) (hT : FA w W g gh most xs rb came ps hb) (hk : KeepBut W W' g rb) : W'.heap[a]? = some (.cells cs t (0, 0)) := by
  obtain ⟨⟨cg, hcg⟩, _⟩ := hT.rq.blk
  exact (hk.2 a (blk_lt h.bk) (type_neA h.bk hcg h.t3) (fun e => h.nr e.symm)).trans h.bk
theorem BoxA.new (hT : FA w W g gh most xs rb came ps hb) (o : Array Value) (t : Nat) (t1 : t ≠ 97) (t2 : t ≠ 101) (t3 : t ≠ 109) : BoxA (W.alloc (.cells o t (0, 0))) W.heap.size t o rb :=
  ⟨heap_alloc_new W _, t1, t2, t3, fun e => by
    obtain ⟨⟨cr, hcr⟩, _⟩ := hT.rq.row _ e
    exact absurd (blk_lt hcr) (Nat.lt_irrefl _)⟩
theorem FA.bl (h : FA w W g gh most xs rb came ps hb) : Below w.heap.size w W := h.rq.bl
end
/-- Below the bound. -/
structure SA (w W : World) (g gh : Nat) (most : Int) (t : Nat) (rb : Option Nat) (came : Int) (ps : List T3) (hb : Option Nat) : Prop where
  fa : FA w W g gh most (ps.map thA) rb came ps hb
  cm : 0 ≤ came ∧ came ≤ (t : Int)
  ln : ps.length ≤ t
theorem SA.below {w W W' : World} {g gh t : Nat} {most : Int} {rb hb : Option Nat} {came : Int} {ps : List T3} (h : SA w W g gh most t rb came ps hb) (hB : Below W.heap.size W W') : SA w W' g gh most t rb came ps hb := ⟨h.fa.below hB, h.cm, h.ln⟩
set_option maxHeartbeats 8000000 in
set_option maxRecDepth 100000 in
theorem alike_big (a1 : Option Addr) (n cap1 : Nat) (w : World) (hn : n ≤ 8796093022208) (hb : 1048576 < n) :
    Calls Try.prog 10 #[.slice a1 n cap1] w fun e w' => e = .returned (.bool true) ∧ Below w.heap.size w w' := by
  have hl1 : decide ((n : Int) > 1048576) = true := decide_eq_true (by omega)
  have hl2 : decide ((1048576 : Int) < (n : Int)) = true := decide_eq_true (by omega)
  have hl3 : decide (1048576 < n) = true := decide_eq_true hb
  have HB := Aside0.mk hb
  clear hb
  go_enter Try.func10, Try.ntmps10
  go_wp2_with (first
    | ((go_at_call 23); (with_reducible refine (sorts_calls _).mono ?_); rintro e w3 ⟨rfl, hb⟩; have H0 := Aside0.mk hb; clear hb)
    | ((go_at_call 12); (with_reducible refine (newheap_qa (w0 := w) H0.out).mono ?_); rintro e w2 ⟨gh, rfl, hq, hb, _⟩; have H1 := Aside0.mk (below_step H0.out hb); clear hq hb)
    | ((go_at_call 40); (with_reducible refine (RX.new_bad _ _ (.inr (by have h_ := HB.out; have h2_ := mostOf_le n; omega))).mono ?_); rintro e w1 ⟨rfl, hd⟩; have H2 := Aside0.mk (below_step H1.out hd.below); clear hd))
  go_ret
  exact ⟨rfl, H2.out⟩
theorem a_rpop {w W : World} {g : Nat} {most : Int} {x : T3} {xs : List T3} {rb : Option Nat} (h : RX.RQ w W g most ((x :: xs).map thA) rb) :
    Calls Try.prog 53 #[.pointer (some ⟨g, 0, none⟩)] W fun e W' => e = .returned (.tuple #[.agg #[.int .i64 x.1, .int .i64 x.2.1], .bool true]) ∧ RX.RQ w W' g most (xs.map thA) rb ∧ KeepBut W W' g rb :=
  RX.pop_q h
theorem a_hpop {w W : World} {gh : Nat} {came : Int} {x : T3} {xs : List T3} {hb : Option Nat} (h : HQ w W gh 51 zcmp came (x :: xs) hb) :
    Calls Try.prog 17 #[.pointer (some ⟨gh, 0, none⟩)] W fun e W' => e = .returned (.tuple #[.agg #[.int .i64 x.1, .int .i64 x.2.1], .bool true]) ∧ ∃ b', HQ w W' gh 51 zcmp came xs b' ∧ KeepBut W W' gh hb := by
  refine (hpop_q alike_ord h (zhead h.so)).mono ?_
  rintro e W' ⟨rfl, b', h1, h2, _⟩
  rw [List.erase_cons_head] at h1
  exact ⟨rfl, b', h1, h2⟩
theorem a_peek {w W : World} {gh : Nat} {came : Int} {x : T3} {xs : List T3} {hb : Option Nat} (h : HQ w W gh 51 zcmp came (x :: xs) hb) :
    Calls Try.prog 19 #[.pointer (some ⟨gh, 0, none⟩)] W fun e W' => e = .returned (.tuple #[.agg #[.int .i64 x.1, .int .i64 x.2.1], .bool true]) ∧ Below W.heap.size W W' :=
  hpeek_q alike_ord h (zhead h.so)
theorem a_rpush {w W : World} {g gh vb : Nat} {most : Int} {ps qs : List T3} {rb hb : Option Nat} {came : Int} {cv : Array Value} (h : FA w W g gh most (ps.map thA) rb came qs hb) (hm : (ps.length : Int) < most) (N i c : Int) (hv : BoxA W vb 29 cv rb) :
    Calls Try.prog 52 #[.pointer (some ⟨g, 0, none⟩), .agg #[.int .i64 N, .int .i64 i]] W fun e W' => e = .returned (.int .i64 0) ∧ ∃ b', FA w W' g gh most ((ps ++ [(N, i, c)]).map thA) b' came qs hb ∧ W'.heap[vb]? = some (.cells cv 29 (0, 0)) := by
  refine (RX.push_q h.rq (N, i) (by rw [List.length_map]; exact hm)).mono ?_
  rintro e W' ⟨rfl, b', h1, h2, _⟩
  refine ⟨rfl, b', ?_, hv.ring h h2⟩
  have := h.ring h1 h2
  rw [List.map_append]
  exact this
theorem a_hpush {w W : World} {g gh vb : Nat} {most : Int} {xs : List (Int × Int)} {ps : List T3} {rb hb : Option Nat} {came : Int} {cv : Array Value} (h : FA w W g gh most xs rb came ps hb) (hc : 0 ≤ came ∧ came < 4611686018427387904) (hl : ps.length < 1048576) (N i : Int) (hv : BoxA W vb 29 cv rb) :
    Calls Try.prog 15 #[.pointer (some ⟨gh, 0, none⟩), .agg #[.int .i64 N, .int .i64 i]] W fun e W' => e = .returned (.int .i64 0) ∧ ∃ b', FA w W' g gh most xs rb (came + 1) (ps ++ [(N, i, came)]) b' ∧ BoxA W' vb 29 cv rb := by
  refine (hpush_q alike_ord h.hq hc hl N i).mono ?_
  rintro e W' ⟨rfl, b', h1, h2, _⟩
  exact ⟨rfl, b', h.heap h1 h2, hv.heap h h2⟩
set_option maxHeartbeats 8000000 in
set_option maxRecDepth 100000 in
theorem alike_good (a1 : Option Addr) (n cap1 : Nat) (w : World) (who op num : Nat → Int) (hn : n ≤ 1048576)
    (h1 : ∀ i, i < n → ∃ x, a1 = some x ∧ w.cell? (x.add (i * 3)) = some (.int .i64 (who i)) ∧ w.cell? ⟨(x.add (i * 3)).block, (x.add (i * 3)).off + 1, none⟩ = some (.int .i64 (op i)) ∧ w.cell? ⟨(x.add (i * 3)).block, (x.add (i * 3)).off + 2, none⟩ = some (.int .i64 (num i))) :
    Calls Try.prog 10 #[.slice a1 n cap1] w fun e w' => e = .returned (.bool true) ∧ Below w.heap.size w w' := by
  have hl1 : decide ((n : Int) > 1048576) = false := decide_eq_false (by omega)
  have hl2 : decide ((1048576 : Int) < (n : Int)) = false := decide_eq_false (by omega)
  have hl3 : decide (1048576 < n) = false := decide_eq_false (by omega)
  have H1 := Aside0.mk h1
  have HN := Aside0.mk hn
  have HM := Aside0.mk (mostOf_le n)
  clear h1 hn
  go_enter Try.func10, Try.ntmps10
  go_wp2_with (first
    | ((go_at_call 23); (with_reducible refine (sorts_calls _).mono ?_); rintro e w3 ⟨rfl, hb⟩; have H0 := Aside0.mk hb; clear hb)
    | ((go_at_call 12); (with_reducible refine (newheap_qa (w0 := w) H0.out).mono ?_); rintro e w2 ⟨gh, rfl, hq, hb, _⟩; have HQ0 := Aside0.mk hq; clear hq hb H0)
    | ((go_at_call 40); (with_reducible refine (RX.new_q w _ HQ0.out.bl _ ⟨HM.out.2.1, HM.out.2.2.2 HN.out⟩).mono ?_); rintro e w1 ⟨g, rfl, hq, hb, _⟩; have HF : Aside0 (SA w w1 g gh (mostOf n) 0 none 0 [] none) := ⟨⟨⟨hq, HQ0.out.below hb⟩, by omega, by exact Nat.le_refl _⟩⟩; clear HQ0 hq hb))
  clear hl1 hl2 hl3
  go_loopg [32] (n + 1) (fun kq v32 W => ∃ (i : Nat) (rb : Option Nat) (came : Int) (ps : List T3) (hb : Option Nat), v32 = .int .i64 (i : Int) ∧ Aside0 (n - i < kq ∧ i ≤ n) ∧ Aside0 (SA w W g gh (mostOf n) i rb came ps hb))
  case atStart => exact ⟨0, _, _, _, _, rfl, ⟨by omega, by omega⟩, HF⟩
  case round =>
    clear HF
    obtain ⟨i, rb, came, ps, hb, rfl, HI, HF⟩ := hrel
    by_cases hlt : i < n
    · have hl2 : decide ((i : Int) < (n : Int)) = true := decide_eq_true (by omega)
      have hl3 : decide (i < n) = true := decide_eq_true hlt
      obtain ⟨x, rfl, x0, x1, x2⟩ := H1.out i hlt
      have c0 := pw_cell_below HF.out.fa.bl x0
      have c1 := pw_cell_below HF.out.fa.bl x1
      have c2 := pw_cell_below HF.out.fa.bl x2
      have p1 := eq_true (show (0 : Int) ≤ (i : Int) by omega)
      have p2 := eq_true (show (i : Int) < (n : Int) by omega)
      have q1 : IntKind.i64.wrap ((i : Int) + 1) = ((i + 1 : Nat) : Int) := by have h_ := HI.out; have h2_ := HN.out; rw [i64_w, wrap_id _ (by omega) (by omega)]; rfl
      cases gk with
      | zero => exact absurd HI.out.1 (Nat.not_lt_zero _)
      | succ k9 =>
      have HI2 := Aside0.mk (show n - (i + 1) < k9 ∧ i + 1 ≤ n from ⟨by have h_ := HI.out; omega, by omega⟩)
      obtain ⟨d, hd⟩ : ∃ d, op i = d := ⟨_, rfl⟩
      obtain ⟨N, hN⟩ : ∃ N, num i = N := ⟨_, rfl⟩
      rw [hd] at c1
      rw [hN] at c2
      clear x0 x1 x2 hlt hd hN
      by_cases d0 : d = 0
      · subst d0
        have HL2 : Aside0 (ps.length < 1048576 ∧ (ps.length : Int) < mostOf n ∧ 0 ≤ came ∧ came < 4611686018427387904) := ⟨by have h_ := HF.out.ln; have h2_ := HF.out.cm; have h3_ := HI2.out; have h4_ := HN.out; have h5_ := HM.out; omega⟩
        have HC2 := Aside0.mk (And.intro HF.out.cm HF.out.ln)
        have hF2 : FA w ((wr.alloc (.cells #[.int .i64 (who i), .int .i64 0, .int .i64 N] 33 (0, 0)))) g gh (mostOf n) (ps.map thA) rb came ps hb := HF.out.fa.below (below_alloc (Below.refl _ _) _)
        have hvb := BoxA.new hF2 #[.int .i64 N, .int .i64 (i : Int)] 29 (by decide) (by decide) (by decide)
        have HF3 := Aside0.mk (hF2.below (below_alloc (Below.refl _ _) (.cells #[.int .i64 N, .int .i64 (i : Int)] 29 (0, 0))))
        clear hF2
        go_upto_region 12 with (fail)
        rw [World.size_alloc] at hvb
        obtain ⟨vb, hvbe⟩ : ∃ vb, wr.heap.size + 1 = vb := ⟨_, rfl⟩
        rw [hvbe] at hvb
        rw [hvbe]
        obtain ⟨V2, hV2⟩ : ∃ V2, (wr.alloc (.cells #[.int .i64 (who i), .int .i64 0, .int .i64 N] 33 (0, 0))).alloc (.cells #[.int .i64 N, .int .i64 (i : Int)] 29 (0, 0)) = V2 := ⟨_, rfl⟩
        rw [hV2] at hvb HF3
        rw [hV2]
        have HV2 := Aside0.mk hvb
        have HS : Aside0 (V2.cell? ⟨vb, 0, none⟩ = some (.int .i64 N) ∧ V2.cell? ⟨vb, 1, none⟩ = some (.int .i64 (i : Int))) := ⟨blk_cell hvb.bk 0, blk_cell hvb.bk 1⟩
        clear hvb hvbe hV2 c0 c1 c2
        have z0 := HS.out.1
        have z1 := HS.out.2
        go_wp2_with (first
          | ((go_at_call 15); (with_reducible refine (a_hpush HF3.out HL2.out.2.2 HL2.out.1 N (i : Int) HV2.out).mono ?_); rintro e w3 ⟨rfl, b3, hF3, hV3⟩; have HF4 := Aside0.mk hF3; have r0 := blk_cell hV3.bk 0; have r1 := blk_cell hV3.bk 1; have HV3 := Aside0.mk hV3; clear hF3 hV3)
          | ((go_at_call 52); (with_reducible refine (a_rpush HF4.out HL2.out.2.1 N (i : Int) came HV3.out).mono ?_); rintro e w4 ⟨rfl, b4, hF4, hV4⟩; have HF5 := Aside0.mk hF4; clear hF4 hV4))
        go_roundg k9
        case measure => omega
        case rel => exact ⟨i + 1, _, _, _, _, rfl, HI2, ⟨⟨HF5.out, by have h_ := HC2.out; omega, by have h_ := HC2.out; rw [List.length_append]; exact Nat.succ_le_succ h_.2⟩⟩⟩
      · have k0 : (d == 0) = false := beq_eq_false_iff_ne.2 d0
        have k0' : decide (d = 0) = false := decide_eq_false d0
        clear d0
        have HF2 : Aside0 (SA w (wr.alloc (.cells #[.int .i64 (who i), .int .i64 d, .int .i64 N] 33 (0, 0))) g gh (mostOf n) i rb came ps hb) := ⟨HF.out.below (below_alloc (Below.refl _ _) _)⟩
        by_cases hp : ps = []
        · subst hp
          have HS : Aside0 (RX.RQ w (wr.alloc (.cells #[.int .i64 (who i), .int .i64 d, .int .i64 N] 33 (0, 0))) g (mostOf n) [] rb) := ⟨HF2.out.fa.rq⟩
          go_wp2_with (first
            | ((go_at_call 19); (with_reducible refine (hpeek_none HF2.out.fa.hq).mono ?_); rintro e w3 ⟨rfl, hb⟩; have y1 := heap_alloc_new w3 (.cells #[.int .i64 0, .int .i64 0] 29 (0, 0)); have HY1 := Aside0.mk y1; have HF3 := Aside0.mk ((HF2.out.below hb).below (below_alloc (Below.refl _ _) (.cells #[.int .i64 0, .int .i64 0] 29 (0, 0)))); clear hb y1)
            | ((go_at_call 17); (with_reducible refine (hpop_none HF3.out.fa.hq).mono ?_); rintro e w4 ⟨rfl, hb⟩; have y1 := blk_below HY1.out hb; have HY2 := Aside0.mk (blk_below y1 (below_alloc (Below.refl _ _) (.cells #[.int .i64 0, .int .i64 0] 29 (0, 0)))); have HY3 := Aside0.mk (heap_alloc_new w4 (.cells #[.int .i64 0, .int .i64 0] 29 (0, 0))); have HF4 := Aside0.mk ((HF3.out.below hb).below (below_alloc (Below.refl _ _) (.cells #[.int .i64 0, .int .i64 0] 29 (0, 0)))); clear hb y1)
            | ((go_at_call 53); (with_reducible refine (RX.pop_none HF4.out.fa.rq).mono ?_); rintro e w5 ⟨rfl, hb⟩; have y2 := blk_below HY2.out hb; have y3 := blk_below HY3.out hb; have u0 := blk_cell y2 0; have u1 := blk_cell y2 1; have z0 := blk_cell y3 0; have z1 := blk_cell y3 1; have ul := blk_lt y2; have zl := blk_lt y3; have HF5 := Aside0.mk ((HF4.out.below hb).below (below_alloc (Below.refl _ _) (.cells #[.int .i64 0, .int .i64 0] 29 (0, 0)))); clear hb y2 y3))
          go_roundg k9
          case measure => omega
          case rel => exact ⟨i + 1, _, _, _, _, rfl, HI2, ⟨⟨HF5.out.fa, by have h_ := HF5.out.cm; omega, by have h_ := HF5.out.ln; omega⟩⟩⟩
        · obtain ⟨y, ys, rfl⟩ := List.exists_cons_of_ne_nil hp
          clear hp
          have HC2 := Aside0.mk (And.intro HF.out.cm HF.out.ln)
          clear HF
          go_wp2_with (first
            | ((go_at_call 19); (with_reducible refine (a_peek HF2.out.fa.hq).mono ?_); rintro e w3 ⟨rfl, hb⟩; have HB1 := Aside0.mk (BoxA.new (HF2.out.fa.below hb) #[.int .i64 y.1, .int .i64 y.2.1] 29 (by decide) (by decide) (by decide)); have HF3 := Aside0.mk ((HF2.out.fa.below hb).below (below_alloc (Below.refl _ _) (.cells #[.int .i64 y.1, .int .i64 y.2.1] 29 (0, 0)))); clear hb)
            | ((go_at_call 17); (with_reducible refine (a_hpop HF3.out.hq).mono ?_); rintro e w4 ⟨rfl, b4, hq, hk⟩; have hf := HF3.out.heap hq hk; have HB2 := Aside0.mk ((HB1.out.heap HF3.out hk).below (below_alloc (Below.refl _ _) (.cells #[.int .i64 y.1, .int .i64 y.2.1] 29 (0, 0)))); have HB3 := Aside0.mk (BoxA.new hf #[.int .i64 y.1, .int .i64 y.2.1] 29 (by decide) (by decide) (by decide)); have HF4 := Aside0.mk (hf.below (below_alloc (Below.refl _ _) (.cells #[.int .i64 y.1, .int .i64 y.2.1] 29 (0, 0)))); clear hq hk hf)
            | ((go_at_call 53); (with_reducible refine (a_rpop HF4.out.rq).mono ?_); rintro e w5 ⟨rfl, hq, hk⟩; have y2 := HB2.out.ring HF4.out hk; have y3 := HB3.out.ring HF4.out hk; have u0 := blk_cell y2 0; have u1 := blk_cell y2 1; have z0 := blk_cell y3 0; have z1 := blk_cell y3 1; have ul := blk_lt y2; have zl := blk_lt y3; have HF5 := Aside0.mk ((HF4.out.ring hq hk).below (below_alloc (Below.refl _ _) (.cells #[.int .i64 y.1, .int .i64 y.2.1] 29 (0, 0)))); clear hq hk y2 y3))
          go_roundg k9
          case measure => omega
          case rel => exact ⟨i + 1, _, _, _, _, rfl, HI2, ⟨⟨HF5.out, by have h_ := HC2.out; omega, by have h_ := HC2.out; rw [List.length_cons] at h_; omega⟩⟩⟩
    · have hl2 : decide ((i : Int) < (n : Int)) = false := decide_eq_false (by omega)
      have hl3 : decide (i < n) = false := decide_eq_false hlt
      clear hlt
      have hlm : (ps.map thA).length = ps.length := List.length_map thA
      have HLM := Aside0.mk hlm
      clear hlm
      go_wp2_with (first
        | ((go_at_call 21); (with_reducible refine (hlen_q HF.out.fa.hq).mono ?_); rintro e w3 ⟨rfl, hd⟩; have HF3 := Aside0.mk (HF.out.below hd.below); clear hd)
        | ((go_at_call 44); (with_reducible refine (RX.len_q HF3.out.fa.rq).mono ?_); rw [HLM.out]; rintro e w4 ⟨rfl, hd⟩; have HF4 := Aside0.mk (HF3.out.below hd.below); clear hd))
      go_ret
      exact ⟨by first | rfl | simp, HF4.out.fa.bl⟩
theorem QueueAlike (a1 : Option Addr) (len1 cap1 : Nat) (f : Nat → Int × Int × Int) (w : World)
    (h1 : ∀ i, i < len1 → ∃ x, a1 = some x ∧ w.cell? (x.add (i * 3)) = some (.int .i64 (f i).1) ∧ w.cell? ⟨(x.add (i * 3)).block, (x.add (i * 3)).off + 1, none⟩ = some (.int .i64 (f i).2.1) ∧ w.cell? ⟨(x.add (i * 3)).block, (x.add (i * 3)).off + 2, none⟩ = some (.int .i64 (f i).2.2)) (_y1 : len1 * 24 ≤ 140737488351232) :
    Calls Try.prog 10 #[.slice a1 len1 cap1] w fun e w' => e = .returned (.bool true) ∧ Below w.heap.size w w' := by
  by_cases h : 1048576 < len1
  · exact alike_big a1 len1 cap1 w (by omega) h
  · exact alike_good a1 len1 cap1 w (fun i => (f i).1) (fun i => (f i).2.1) (fun i => (f i).2.2) (by omega) h1
end Go.Proofs.Ytekjkookkjjbcaa.Pure
