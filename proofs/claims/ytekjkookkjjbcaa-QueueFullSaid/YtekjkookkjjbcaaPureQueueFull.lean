/- QueueFull: the greatest ring and the greatest heap take 2^20 things, and no one more (walked by hand). -/
import Derived.Test.YtekjkookkjjbcaaSorts
import Derived.Test.YtekjkookkjjbcaaRing8F
namespace Go.Proofs.Ytekjkookkjjbcaa.Pure
set_option linter.unusedVariables false
set_option linter.unusedSimpArgs false
set_option linter.unusedVariables false
set_option linter.unusedSimpArgs false
open Go.RowKit Go.Proofs.YtekjkookkjjbcaaW.PrintWords Go.Proofs.YtekjkookkjjbcaaW.PrintLast Go.Proofs.YtekjkookkjjbcaaW.PrintMore Go.Proofs.Ytekjkookkjjbcaa.B Go.Proofs.Ytekjkookkjjbcaa.M Go.Proofs.Ytekjkookkjjbcaa.HW
theorem type_neF {W : World} {a b t t' : Nat} {cs ds : Array Value} (ha : W.heap[a]? = some (.cells cs t (0, 0))) (hb : W.heap[b]? = some (.cells ds t' (0, 0))) (ht : t ≠ t') : a ≠ b := fun e => by
  rw [e, hb] at ha
  injection ha with ha
  injection ha with _ ha
  exact ht ha.symm
section
variable {w W W' : World} {g gh K : Nat} {most : Int} {xs ys : List Int} {rb rb' hb hb' : Option Nat} {c : Int → Int → Int} {came came' : Int} {ps qs : List T3}
theorem ring_blk (h : R8.RQ w W g most xs rb) : (∃ cs, W.heap[g]? = some (.cells cs 116 (0, 0))) ∧ ∀ k, rb = some k → ∃ cs, W.heap[k]? = some (.cells cs 76 (0, 0)) := by
  obtain ⟨v, rm, f, h1, h2, h3⟩ := h.ex
  refine ⟨⟨_, h1.bk⟩, fun k hk => ?_⟩
  exact Kd.R_typed h1.ow k (h3.trans hk)
theorem ring_kept (h : R8.RQ w W g most xs rb) (hb : Below w.heap.size w W') (hg : W'.heap[g]? = W.heap[g]?) (hr : ∀ k, rb = some k → W'.heap[k]? = W.heap[k]?) : R8.RQ w W' g most xs rb := by
  obtain ⟨v, rm, f, h1, h2, h3⟩ := h.ex
  exact ⟨v, rm, f, ⟨hg.trans h1.bk, h1.gg, hb, Kd.R_mono (Kd.R_move (Kd.R_tight rfl h1.ow) (fun k hk => hr k (by rw [← h3]; exact hk.symm))) (fun _ _ => trivial), h1.fl, h1.nl, h1.ml, h1.m1, h1.m2⟩, h2, h3⟩
/-- The ring and the heap. -/
structure FF (w W : World) (g gh : Nat) (most : Int) (xs : List Int) (rb : Option Nat) (came : Int) (ps : List T3) (hb : Option Nat) : Prop where
  rq : R8.RQ w W g most xs rb
  hq : HQ w W gh 13 kcmp came ps hb
theorem FF.below (h : FF w W g gh most xs rb came ps hb) (hB : Below W.heap.size W W') : FF w W' g gh most xs rb came ps hb := ⟨h.rq.below hB, h.hq.below hB⟩
theorem FF.ring (h : FF w W g gh most xs rb came ps hb) (hq : R8.RQ w W' g most ys rb') (hk : KeepBut W W' g rb) : FF w W' g gh most ys rb' came ps hb := by
  obtain ⟨⟨cg, hcg⟩, hrow⟩ := ring_blk h.rq
  have keep : ∀ {a t : Nat} {cs : Array Value}, W.heap[a]? = some (.cells cs t (0, 0)) → t ≠ 116 → t ≠ 76 → W'.heap[a]? = W.heap[a]? := fun {a t cs} ha h1 h2 =>
    hk.2 a (blk_lt ha) (type_neF ha hcg h1) (fun e => by
      obtain ⟨cr, hcr⟩ := hrow a e.symm
      exact type_neF ha hcr h2 rfl)
  obtain ⟨⟨ch, hch⟩, _⟩ := h.hq.blk
  refine ⟨hq, h.hq.kept hq.bl (keep hch (by decide) (by decide)) (fun k hk2 => ?_)⟩
  obtain ⟨⟨cr, hcr⟩, _⟩ := h.hq.row k hk2
  exact keep hcr (by decide) (by decide)
theorem FF.heap (h : FF w W g gh most xs rb came ps hb) (hq : HQ w W' gh 13 kcmp came' qs hb') (hk : KeepBut W W' gh hb) : FF w W' g gh most xs rb came' qs hb' := by
  obtain ⟨⟨cg, hcg⟩, _⟩ := h.hq.blk
  have hrow := h.hq.row
  have keep : ∀ {a t : Nat} {cs : Array Value}, W.heap[a]? = some (.cells cs t (0, 0)) → t ≠ 97 → t ≠ 101 → W'.heap[a]? = W.heap[a]? := fun {a t cs} ha h1 h2 =>
    hk.2 a (blk_lt ha) (type_neF ha hcg h1) (fun e => by
      obtain ⟨⟨cr, hcr⟩, _⟩ := hrow a e.symm
      exact type_neF ha hcr h2 rfl)
  obtain ⟨⟨cr, hcr⟩, hr2⟩ := ring_blk h.rq
  refine ⟨ring_kept h.rq hq.bl (keep hcr (by decide) (by decide)) (fun k hk2 => ?_), hq⟩
  obtain ⟨cr2, hcr2⟩ := hr2 k hk2
  exact keep hcr2 (by decide) (by decide)
end
/-- What the heap has been handed. -/
def psF (i : Nat) : List T3 := (List.range i).map fun (j : Nat) => ((j : Int), (0 : Int), (j : Int))
theorem psF_len (i : Nat) : (psF i).length = i := by unfold psF; rw [List.length_map, List.length_range]
theorem psF_succ (i : Nat) : psF (i + 1) = psF i ++ [((i : Int), (0 : Int), (i : Int))] := by unfold psF; rw [List.range_succ, List.map_append]; rfl
theorem psF_least (i : Nat) (h : 0 < i) : Least kcmp (psF i) (0, 0, 0) := by
  refine ⟨List.mem_map.2 ⟨0, List.mem_range.2 h, rfl⟩, fun y hy => ?_⟩
  obtain ⟨j, _, rfl⟩ := List.mem_map.1 hy
  show aheadB kcmp _ _ = false
  unfold aheadB kcmp
  by_cases e : j = 0
  · subst e; simp
  · have h1 : ¬ (j : Int) < 0 := by omega
    have h2 : (0 : Int) < (j : Int) := by omega
    simp [h1, h2]
    intro _
    split <;> omega
set_option maxHeartbeats 8000000 in
set_option maxRecDepth 100000 in
theorem QueueFull (w : World) :
    Calls Try.prog 9 #[] w fun e w' => e = .returned (.bool true) ∧ Below w.heap.size w w' := by
  obtain ⟨M, hM⟩ : ∃ M : Nat, M = 1048576 := ⟨_, rfl⟩
  have HM := Aside0.mk hM
  clear hM
  go_enter Try.func9, Try.ntmps9
  go_wp2_with (first
    | ((go_at_call 46); (with_reducible refine (R8.new_q w _ (Below.refl _ _) 1048576 ⟨by omega, by omega⟩).mono ?_); rintro e w1 ⟨g, rfl, hq, _, _⟩; have HR := Aside0.mk hq; clear hq)
    | ((go_at_call 12); (with_reducible refine (newheap_q (w0 := w) HR.out.bl).mono ?_); rintro e w2 ⟨gh, rfl, hq, hb, _⟩; have HF : Aside0 (FF w w2 g gh 1048576 (List.replicate 0 1) none ((0 : Nat) : Int) (psF 0) none) := ⟨⟨HR.out.below hb, hq⟩⟩; clear HR hq hb)
    | ((go_at_call 23); (with_reducible refine (sorts_calls _).mono ?_); rintro e w3 ⟨rfl, hb⟩; have n0 := Aside0.mk (HF.out.below hb); clear HF hb; have HF := n0; clear n0))
  go_loopg [18] 1048577 (fun kq v18 W => ∃ (i : Nat) (rb hb : Option Nat), v18 = .int .i64 (i : Int) ∧ Aside0 (1048576 - i < kq ∧ i ≤ 1048576) ∧ Aside0 (FF w W g gh 1048576 (List.replicate i 1) rb (i : Int) (psF i) hb))
  case atStart => exact ⟨0, _, _, rfl, ⟨by omega, by omega⟩, HF⟩
  case round =>
    clear HF
    obtain ⟨i, rb, hb, rfl, HI, HF⟩ := hrel
    by_cases hlt : i < 1048576
    · cases gk with
      | zero => exact absurd HI.out.1 (Nat.not_lt_zero _)
      | succ k9 =>
      have hl2 : decide ((i : Int) < 1048576) = true := decide_eq_true (by omega)
      have hl3 : decide (i < 1048576) = true := decide_eq_true hlt
      have q1 : IntKind.i64.wrap ((i : Int) + 1) = ((i + 1 : Nat) : Int) := by rw [i64_w, wrap_id _ (by omega) (by omega)]; rfl
      have HL := Aside0.mk hlt
      clear hlt
      go_wp2_with (first
        | ((go_at_call 47); (with_reducible refine (R8.push_q HF.out.rq 1 (by rw [List.length_replicate]; have h_ := HL.out; omega)).mono ?_); rintro e w4 ⟨rfl, b4, hq, hk, hm⟩; have e4 : List.replicate i (1 : Int) ++ [1] = List.replicate (i + 1) 1 := List.replicate_succ'.symm; rw [e4] at hq; have n0 := Aside0.mk (HF.out.ring hq hk); clear HF hq hk hm e4; have HF := n0; clear n0)
        | ((go_at_call 15); (with_reducible refine (hpush_q key_ord HF.out.hq ⟨by omega, by have h_ := HL.out; omega⟩ (by rw [psF_len]; have h_ := HL.out; omega) _ _).mono ?_); rintro e w5 ⟨rfl, b5, hq, hk, hm⟩; rw [← psF_succ] at hq; have n0 : Aside0 (FF w w5 g gh 1048576 (List.replicate (i + 1) 1) b4 ((i + 1 : Nat) : Int) (psF (i + 1)) b5) := ⟨HF.out.heap hq hk⟩; clear HF hq hk hm; have HF := n0; clear n0))
      go_roundg k9
      case measure => omega
      case rel => exact ⟨i + 1, b4, b5, rfl, ⟨by have h_ := HI.out; have h2_ := HL.out; omega, by have h2_ := HL.out; omega⟩, HF⟩
    · have hl2 : decide ((i : Int) < 1048576) = false := decide_eq_false (by omega)
      have hl3 : decide (i < 1048576) = false := decide_eq_false hlt
      have hiM : i = M := by have h_ := HI.out; have h2_ := HM.out; omega
      have HIM := Aside0.mk (show i = 1048576 by have h_ := HI.out; omega)
      clear hlt hiM
      have HLR : Aside0 ((List.replicate i (1 : Int)).length = 1048576) := ⟨by rw [List.length_replicate]; exact HIM.out⟩
      have HLP : Aside0 ((psF i).length = 1048576) := ⟨by rw [psF_len]; exact HIM.out⟩
      have HEL : Aside0 (((psF i).erase (0, 0, 0)).length = 1048575) := ⟨by rw [List.length_erase_of_mem (psF_least i (by rw [HIM.out]; omega)).1, HLP.out]⟩
      go_wp2_with (first
        | ((go_at_call 47); (with_reducible refine (R8.push_q_full HF.out.rq 1 (by have h_ := HLR.out; omega)).mono ?_); rintro e w4 ⟨rfl, hd⟩; have n0 := Aside0.mk (HF.out.below hd.below); clear HF hd; have HF := n0; clear n0)
        | ((go_at_call 15); (with_reducible refine (hpush_q_full HF.out.hq key_ord.nn (by rw [HLP.out]; exact Nat.le_refl _) _ _).mono ?_); rintro e w5 ⟨rfl, hb5⟩; have n0 := Aside0.mk (HF.out.below hb5); clear HF hb5; have HF := n0; clear n0)
        | ((go_at_call 48); (with_reducible refine (R8.room_q HF.out.rq).mono ?_); rw [HLR.out, show (1048576 : Int) - ((1048576 : Nat) : Int) = 0 by omega]; rintro e w6 ⟨rfl, hd⟩; have n0 := Aside0.mk (HF.out.below hd.below); clear HF hd; have HF := n0; clear n0)
        | ((go_at_call 17); (with_reducible refine (hpop_q key_ord HF.out.hq (psF_least i (by rw [HIM.out]; omega))).mono ?_); rintro e w7 ⟨rfl, b7, hq, hk, hm⟩; have HP := Aside0.mk ((HF.out.heap hq hk).below (below_alloc (Below.refl _ _) (.cells #[.int .i64 0, .int .i64 0] 29 (0, 0)))); clear HF hq hk hm)
        | ((go_at_call 15); (with_reducible refine (hpush_q key_ord HP.out.hq ⟨by omega, by have h_ := HIM.out; omega⟩ (by rw [HEL.out]; omega) _ _).mono ?_); rintro e w8 ⟨rfl, b8, hq, hk, hm⟩; have HP2 := Aside0.mk (HP.out.heap hq hk); clear HP hq hk hm)
        | ((go_at_call 49); (with_reducible refine (R8.drop_q HP2.out.rq 1048581 1048576 (by have h_ := HLR.out; split <;> omega) (by omega)).mono ?_); rintro e w9 ⟨rfl, hq, hk⟩; have HP3 := Aside0.mk (HP2.out.ring hq hk); clear HP2 hq hk)
        | ((go_at_call 50); (with_reducible refine (R8.len_q HP3.out.rq).mono ?_); rw [List.length_drop, HLR.out, Nat.sub_self]; rintro e w10 ⟨rfl, hd⟩; have n0 := Aside0.mk (HP3.out.below hd.below); clear HP3 hd; have HP3 := n0; clear n0)
        | ((go_at_call 47); (with_reducible refine (R8.push_q HP3.out.rq 2 (by rw [List.length_drop]; have h_ := HLR.out; omega)).mono ?_); rintro e w11 ⟨rfl, b11, hq, hk, hm⟩; have HP4 := Aside0.mk hq.bl; clear HP3 hq hk hm))
      go_ret
      exact ⟨rfl, HP4.out⟩
end Go.Proofs.Ytekjkookkjjbcaa.Pure
