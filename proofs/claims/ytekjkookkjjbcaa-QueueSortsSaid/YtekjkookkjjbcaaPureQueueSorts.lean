/- QueueSorts: a heap tells all that was pushed, each once, by rising keys, and what is alike as it came (walked by hand). -/
import Derived.Test.YtekjkookkjjbcaaSorts
namespace Go.Proofs.Ytekjkookkjjbcaa.Pure
set_option linter.unusedVariables false
set_option linter.unusedSimpArgs false
set_option linter.unusedVariables false
set_option linter.unusedSimpArgs false
open Go.RowKit Go.Proofs.YtekjkookkjjbcaaW.PrintWords Go.Proofs.YtekjkookkjjbcaaW.PrintLast Go.Proofs.YtekjkookkjjbcaaW.PrintMore Go.Proofs.Ytekjkookkjjbcaa.B Go.Proofs.Ytekjkookkjjbcaa.M Go.Proofs.Ytekjkookkjjbcaa.HW
theorem infoB : (Try.prog.info? 4).map (fun i => (i.zero, i.size, i.bytes)) = some (some (.bool false), 1, 1) := by kernel_rfl
/-- What has been pushed. -/
def pushed (kf : Nat → Int) (i : Nat) : List T3 := (List.range i).map fun j => (kf j, (j : Int), (j : Int))
theorem pushed_len (kf : Nat → Int) (i : Nat) : (pushed kf i).length = i := by unfold pushed; rw [List.length_map, List.length_range]
theorem pushed_succ (kf : Nat → Int) (i : Nat) : pushed kf (i + 1) = pushed kf i ++ [(kf i, (i : Int), (i : Int))] := by unfold pushed; rw [List.range_succ, List.map_append]; rfl
theorem pushed_mem {kf : Nat → Int} {n : Nat} {x : T3} (h : x ∈ pushed kf n) : ∃ m : Nat, m < n ∧ x = (kf m, (m : Int), (m : Int)) := by
  unfold pushed at h
  obtain ⟨m, hm, rfl⟩ := List.mem_map.1 h
  exact ⟨m, List.mem_range.1 hm, rfl⟩
theorem type_ne {W : World} {a b t t' : Nat} {cs ds : Array Value} (ha : W.heap[a]? = some (.cells cs t (0, 0))) (hb : W.heap[b]? = some (.cells ds t' (0, 0))) (ht : t ≠ t') : a ≠ b := fun e => by
  rw [e, hb] at ha
  injection ha with ha
  injection ha with _ ha
  exact ht ha.symm
/-- Between the takings. -/
structure SS (w W : World) (g : Nat) (kf : Nat → Int) (n i : Nat) (ps : List T3) (b : Option Nat) (tv : Value) (tl : List Bool) (lb : Nat) (lk lid : Int) : Prop where
  hq : HQ w W g 13 kcmp (n : Int) ps b
  tr : Kd.R Kd.bool 4 W w.heap.size (fun _ => True) tv tl
  lc : W.heap[lb]? = some (.cells #[.int .i64 lk, .int .i64 lid] 29 (0, 0))
  lw : w.heap.size ≤ lb
  pl : ps.length = n - i
  tn : tl.length = n
  sb : ∀ y, y ∈ ps → ∃ m : Nat, m < n ∧ y = (kf m, (m : Int), (m : Int)) ∧ tl.getD m false = false
  la : 0 < i → ∀ y, y ∈ ps → leW kcmp (lk, lid, lid) y
section
variable {w W W' : World} {g : Nat} {kf : Nat → Int} {n i : Nat} {ps : List T3} {b b' : Option Nat} {tv : Value} {tl : List Bool} {lb : Nat} {lk lid : Int}
theorem SS.below (h : SS w W g kf n i ps b tv tl lb lk lid) (hb : Below W.heap.size W W') : SS w W' g kf n i ps b tv tl lb lk lid :=
  ⟨h.hq.below hb, Kd.R_below h.tr hb, blk_below h.lc hb, h.lw, h.pl, h.tn, h.sb, h.la⟩
/-- A pop. -/
theorem SS.popped (h : SS w W g kf n i ps b tv tl lb lk lid) (hk : KeepBut W W' g b) :
    Kd.R Kd.bool 4 W' w.heap.size (fun _ => True) tv tl ∧ W'.heap[lb]? = some (.cells #[.int .i64 lk, .int .i64 lid] 29 (0, 0)) := by
  obtain ⟨⟨cg, hg⟩, _⟩ := h.hq.blk
  have hr := h.hq.row
  refine ⟨Kd.R_mono (Kd.R_kept (S := fun j => j = g ∨ some j = b) (Kd.R_tight rfl h.tr) ⟨hk.1, fun i hi hn => hk.2 i hi (fun e => hn (.inl e)) (fun e => hn (.inr e))⟩ (fun j hj hS => ?_)) (fun _ _ => trivial), ?_⟩
  · rcases hS with e | e
    · exact Kd.R_ne h.tr hg (by decide) (by rw [← hj, e])
    · obtain ⟨⟨cs, hc⟩, _⟩ := hr j e.symm
      exact Kd.R_ne h.tr hc (by decide) hj
  · refine (hk.2 lb (blk_lt h.lc) (type_ne h.lc hg (by decide)) (fun e => ?_)).trans h.lc
    obtain ⟨⟨cs, hc⟩, _⟩ := hr lb e.symm
    exact type_ne h.lc hc (by decide) rfl
theorem SS.next {m : Nat} {km : Int} {tb c1 : Nat} {b4 : Option Nat} (h : SS w W g kf n i ps b (.slice (some ⟨tb, 0, none⟩) n c1) tl lb lk lid) (hi : i < n) (hx : Least kcmp ps (km, (m : Int), (m : Int))) (hkm : kf m = km) (hmn : m < n) (hq : HQ w W' g 13 kcmp (n : Int) (ps.erase (km, (m : Int), (m : Int))) b4) (ht : Kd.R Kd.bool 4 W' w.heap.size (fun _ => True) (.slice (some ⟨tb, 0, none⟩) n c1) tl) (hl : W'.heap[lb]? = some (.cells #[.int .i64 lk, .int .i64 lid] 29 (0, 0))) :
    SS w (((W'.setCell ⟨tb, m, none⟩ (.bool true)).setCell ⟨lb, 0, none⟩ (.int .i64 km)).setCell ⟨lb, 1, none⟩ (.int .i64 (m : Int))) g kf n (i + 1) (ps.erase (km, (m : Int), (m : Int))) b4 (.slice (some ⟨tb, 0, none⟩) n c1) (tl.set m true) lb km (m : Int) := by
  obtain ⟨⟨cg, hg⟩, hgw⟩ := hq.blk
  obtain ⟨cells, hcb⟩ := Kd.R_typed ht tb rfl
  have htw := Kd.R_base ht tb rfl
  have e1 : tb ≠ g := type_ne hcb hg (by decide)
  have e2 : lb ≠ g := type_ne hl hg (by decide)
  have e3 : lb ≠ tb := type_ne hl hcb (by decide)
  have hk : ∀ j, j ≠ tb → j ≠ lb → (((W'.setCell ⟨tb, m, none⟩ (.bool true)).setCell ⟨lb, 0, none⟩ (.int .i64 km)).setCell ⟨lb, 1, none⟩ (.int .i64 (m : Int))).heap[j]? = W'.heap[j]? := fun j h1 h2 =>
    ((Below.heap_setCell _ ⟨lb, 1, none⟩ _ j h2).trans (Below.heap_setCell _ ⟨lb, 0, none⟩ _ j h2)).trans (Below.heap_setCell _ ⟨tb, m, none⟩ _ j h1)
  have hr := (Kd.R_putn (enc := Value.bool) ht (m : Int) true)
  rw [Int.toNat_natCast] at hr
  have hl1 : (W'.setCell ⟨tb, m, none⟩ (.bool true)).heap[lb]? = some (.cells #[.int .i64 lk, .int .i64 lid] 29 (0, 0)) := (Below.heap_setCell _ ⟨tb, m, none⟩ _ lb e3).trans hl
  have hl2 := blk_put hl1 0 (.int .i64 km) rfl
  have hnd : ps.Nodup := h.hq.so.imp (fun {a b} hab e => by rw [e] at hab; exact absurd hab (Int.lt_irrefl _))
  refine ⟨hq.kept (below_set (below_set (below_set hq.bl htw) h.lw) h.lw) (hk g e1.symm e2.symm) (fun k hk' => ?_), ?_, ?_, h.lw, ?_, ?_, ?_, ?_⟩
  · obtain ⟨⟨cs, hc⟩, _⟩ := hq.row k hk'
    exact hk k (type_ne hc hcb (by decide)) (type_ne hc hl (by decide))
  · exact Kd.R_set (Kd.R_set hr hl1 (by decide) 0 _) hl2 (by decide) 1 _
  · exact blk_put hl2 1 _ rfl
  · rw [List.length_erase_of_mem hx.1, h.pl]; omega
  · rw [List.length_set]; exact h.tn
  · intro y hy
    obtain ⟨m', hm', rfl, htl⟩ := h.sb y (List.mem_of_mem_erase hy)
    refine ⟨m', hm', rfl, ?_⟩
    have hne : m' ≠ m := fun e => by
      subst e
      rw [hkm] at hy
      exact hnd.not_mem_erase hy
    rw [List.getD_eq_getElem?_getD, List.getElem?_set_ne hne.symm, ← List.getD_eq_getElem?_getD]
    exact htl
  · intro _ y hy
    exact hx.2 y (List.mem_of_mem_erase hy)
end
set_option maxHeartbeats 8000000 in
set_option maxRecDepth 100000 in
theorem sorts_good (a1 : Option Addr) (n cap1 : Nat) (w : World) (kf : Nat → Int) (hn : n ≤ 17592186044416) (h1 : ∀ i, i < n → ∃ x, a1 = some x ∧ w.cell? (x.add i) = some (.int .i64 (kf i))) :
    Calls Try.prog 4 #[.slice a1 n cap1] w fun e w' => e = .returned (.bool true) ∧ Below w.heap.size w w' := by
  have H1 := Aside0.mk h1
  have HN := Aside0.mk hn
  clear h1 hn
  go_enter Try.func4, Try.ntmps4
  go_wp2_with (first
    | ((go_at_call 23); (with_reducible refine (sorts_calls _).mono ?_); rintro e w1 ⟨rfl, hb1⟩; have HB := Aside0.mk hb1; clear hb1)
    | ((go_at_call 12); (with_reducible refine (newheap_q (w0 := w) HB.out).mono ?_); rintro e w1 ⟨g, rfl, hq, _, _⟩; have HH : Aside0 (HQ w w1 g 13 kcmp ((0 : Nat) : Int) (pushed kf 0) none) := ⟨hq⟩; clear hq))
  clear HB
  go_loopg [20] (n + 1) (fun kq v20 W => ∃ (i : Nat) (b : Option Nat), v20 = .int .i64 (i : Int) ∧ Aside0 (n - i < kq ∧ i ≤ n ∧ i ≤ 1048576) ∧ Aside0 (HQ w W g 13 kcmp (i : Int) (pushed kf i) b))
  case atStart => exact ⟨0, none, rfl, ⟨by omega, by omega, by omega⟩, HH⟩
  case round =>
    clear HH
    obtain ⟨i, b, rfl, HI, HH⟩ := hrel
    by_cases hlt : i < n
    · cases gk with
      | zero => exact absurd HI.out.1 (Nat.not_lt_zero _)
      | succ k9 =>
      obtain ⟨x, rfl, hc⟩ := H1.out i hlt
      have hc1 := pw_cell_below HH.out.bl hc
      have hl2 : decide ((i : Int) < (n : Int)) = true := decide_eq_true (by omega)
      have p1 := eq_true (show (0 : Int) ≤ (i : Int) by omega)
      have p2 := eq_true (show (i : Int) < (n : Int) by omega)
      have q1 : IntKind.i64.wrap ((i : Int) + 1) = ((i + 1 : Nat) : Int) := by have h_ := HI.out; rw [i64_w, wrap_id _ (by omega) (by omega)]; rfl
      by_cases hf : 1048576 ≤ i
      · have k1 : decide ((i : Int) ≥ 1048576) = true := decide_eq_true (by omega)
        have k2 : decide ((1048576 : Int) ≤ (i : Int)) = true := decide_eq_true (by omega)
        have k3 : decide (1048576 ≤ i) = true := decide_eq_true hf
        have HF := Aside0.mk hf
        clear hc hlt hf
        go_wp2_with (first
          | ((go_at_call 15); (with_reducible refine (hpush_q_full HH.out key_ord.nn (by rw [pushed_len]; exact HF.out) _ _).mono ?_); rintro e w2 ⟨rfl, hb⟩; have HB := Aside0.mk hb; clear hb))
        go_ret
        exact ⟨rfl, below_step HH.out.bl HB.out⟩
      · have k1 : decide ((i : Int) ≥ 1048576) = false := decide_eq_false (by omega)
        have k2 : decide ((1048576 : Int) ≤ (i : Int)) = false := decide_eq_false (by omega)
        have k3 : decide (1048576 ≤ i) = false := decide_eq_false hf
        have HF := Aside0.mk hf
        have HI2 := Aside0.mk (show n - (i + 1) < k9 ∧ i + 1 ≤ n ∧ i + 1 ≤ 1048576 from ⟨by have h_ := HI.out; omega, by omega, by omega⟩)
        clear hc hlt hf
        go_wp2_with (first
          | ((go_at_call 15); (with_reducible refine (hpush_q key_ord HH.out ⟨by omega, by have h_ := HI2.out; omega⟩ (by rw [pushed_len]; have h_ := HI2.out; omega) _ _).mono ?_); rintro e w2 ⟨rfl, b2, hq, hk, hm⟩; rw [← pushed_succ] at hq; have n0 : Aside0 (HQ w w2 g 13 kcmp ((i + 1 : Nat) : Int) (pushed kf (i + 1)) b2) := ⟨hq⟩; clear HH hq hk hm; have HH := n0; clear n0)
          | ((go_at_call 21); (with_reducible refine (hlen_q HH.out).mono ?_); rw [pushed_len]; rintro e w4 ⟨rfl, ⟨nd, rfl⟩⟩; have n0 := Aside0.mk (HH.out.below (pw_below_drewN (Below.refl _ _) nd)); clear HH; have HH := n0; clear n0))
        go_roundg k9
        case measure => omega
        case rel => exact ⟨i + 1, b2, rfl, HI2, HH⟩
    · have hl2 : decide ((i : Int) < (n : Int)) = false := decide_eq_false (by omega)
      obtain rfl : n = i := by have h_ := HI.out; omega
      clear hlt
      go_wp2_with (first
        | ((with_reducible refine gate_dst (N := 49) rfl ?_); refine Kd.R_make Kd.bool _ 4 ?hg (N := 49) ?hd 42 _ _ rfl (n : Int) rfl rfl Try.underlying42 (.bool false) 1 infoB rfl (by decide) (by decide) false (ok := fun _ => True) (okp := fun _ => True) rfl (fun _ hk => hk) trivial (by omega) (by have h_ := HI.out; omega) HH.out.bl (below_size HH.out.bl) ?_; (case hd => rfl); (case hg => rfl); intro v1 w1 ho1 hb hg_ hn_; rw [Int.toNat_natCast] at ho1; have HT := Aside0.mk ho1; have n0 := Aside0.mk (HH.out.below (pw_below_grown (Below.refl _ _) _ (Nat.le_refl _) hg_ (fun k hk => by cases hk))); clear HH ho1 hb hg_ hn_; have HH := n0; clear n0))
      obtain ⟨A1, c1, hv1⟩ := Kd.R_slice HT.out
      rw [List.length_replicate] at hv1
      subst hv1
      obtain ⟨lb, hlb⟩ : ∃ lb, w1.heap.size = lb := ⟨_, rfl⟩
      have hbk := heap_alloc_new w1 (.cells #[.int .i64 0, .int .i64 (-1)] 29 (0, 0))
      rw [hlb] at hbk
      have HSS : Aside0 (∃ b, SS w (w1.alloc (.cells #[.int .i64 0, .int .i64 (-1)] 29 (0, 0))) g kf n 0 (pushed kf n) b (.slice A1 n c1) (List.replicate n false) lb 0 (-1)) := ⟨⟨_, ⟨HH.out.below (below_alloc (Below.refl _ _) _), Kd.R_below HT.out (below_alloc (Below.refl _ _) _), hbk, by rw [← hlb]; exact below_size HH.out.bl, pushed_len kf n, List.length_replicate, fun y hy => by
        obtain ⟨m, hm, e⟩ := pushed_mem hy
        refine ⟨m, hm, e, ?_⟩
        rw [List.getD_eq_getElem?_getD, List.getElem?_replicate, if_pos hm]
        rfl, fun h => absurd h (Nat.lt_irrefl 0)⟩⟩⟩
      have HN2 : Aside0 (n ≤ 1048576) := ⟨HI.out.2.2⟩
      rw [hlb]
      clear HH HT hbk hlb HI
      generalize w1.alloc (.cells #[.int .i64 0, .int .i64 (-1)] 29 (0, 0)) = W2 at HSS ⊢
      go_loopg [53] (n + 1) (fun kq v53 W => ∃ (i : Nat) (ps : List T3) (b : Option Nat) (tl : List Bool) (lk lid : Int), v53 = .int .i64 (i : Int) ∧ Aside0 (n - i < kq ∧ i ≤ n) ∧ Aside0 (SS w W g kf n i ps b (.slice A1 n c1) tl lb lk lid))
      case atStart =>
        obtain ⟨b, h⟩ := HSS.out
        exact ⟨0, _, b, _, _, _, rfl, ⟨by omega, by omega⟩, ⟨h⟩⟩
      case round =>
        clear HSS
        obtain ⟨i, ps, b, tl, lk, lid, rfl, HI, HS⟩ := hrel
        cases gk with
        | zero => exact absurd HI.out.1 (Nat.not_lt_zero _)
        | succ k9 =>
        by_cases hlt : i < n
        · have hl2 : decide ((i : Int) < (n : Int)) = true := decide_eq_true (by omega)
          have hl3 : decide (i < n) = true := decide_eq_true hlt
          obtain ⟨x, hx⟩ := least_ex key_ord HS.out.hq (by intro e; have := HS.out.pl; rw [e] at this; simp at this; omega)
          obtain ⟨m, hmn, rfl, htl⟩ := HS.out.sb x hx.1
          obtain ⟨x1, rfl, hkc⟩ := H1.out m hmn
          have HX := Aside0.mk (And.intro hx (And.intro hmn htl))
          have HKC := Aside0.mk hkc
          obtain ⟨tb, tc, htv, _, _, _⟩ := Kd.R_form HS.out.tr (by rw [HS.out.tn]; omega)
          rw [HS.out.tn] at htv
          injection htv with htv1 htv2 htv3
          subst htv1
          subst htv3
          have HI2 := Aside0.mk (show n - (i + 1) < k9 ∧ i + 1 ≤ n ∧ i < n from ⟨by have h_ := HI.out; omega, by omega, hlt⟩)
          clear hx hmn htl hkc hlt
          obtain ⟨km, hkm⟩ : ∃ km, kf m = km := ⟨_, rfl⟩
          have HKM := Aside0.mk hkm
          rw [hkm] at HX HKC
          clear hkm
          go_upto_region 19 with (first
            | ((go_at_call 19); (with_reducible refine (hpeek_q key_ord HS.out.hq HX.out.1).mono ?_); rintro e w3 ⟨rfl, hb⟩; have n0 := Aside0.mk ((HS.out.below hb).below (below_alloc (Below.refl _ _) (.cells #[.int .i64 km, .int .i64 (m : Int)] 29 (0, 0)))); have hpk := heap_alloc_new w3 (.cells #[.int .i64 km, .int .i64 (m : Int)] 29 (0, 0)); have HPK := Aside0.mk hpk; clear HS hb hpk; have HS := n0; clear n0)
            | ((go_at_call 17); (with_reducible refine (hpop_q key_ord HS.out.hq HX.out.1).mono ?_); rintro e w4 ⟨rfl, b4, hq, hk, hm⟩; have HQ4 := Aside0.mk hq; have HK4 := Aside0.mk hk; clear hq hk hm))
          have htr := HS.out.popped HK4.out
          have hpk4 := (HK4.out.2 w3.heap.size (by have := blk_lt HPK.out; exact this) (type_ne HPK.out HS.out.hq.blk.1.choose_spec (by decide)) (fun e => by
            obtain ⟨⟨cs, hc⟩, _⟩ := HS.out.hq.row _ e.symm
            exact type_ne HPK.out hc (by decide) rfl)).trans HPK.out
          obtain ⟨pb, hpb⟩ : ∃ pb, w3.heap.size = pb := ⟨_, rfl⟩
          rw [hpb] at hpk4
          rw [hpb]
          obtain ⟨vb, hvb⟩ : ∃ vb, w4.heap.size = vb := ⟨_, rfl⟩
          have hvk := heap_alloc_new w4 (.cells #[.int .i64 km, .int .i64 (m : Int)] 29 (0, 0))
          rw [hvb] at hvk
          rw [hvb]
          have hbl := below_alloc (Below.refl w4.heap.size w4) (.cells #[.int .i64 km, .int .i64 (m : Int)] 29 (0, 0))
          obtain ⟨w5, hw5⟩ : ∃ w5, w4.alloc (.cells #[.int .i64 km, .int .i64 (m : Int)] 29 (0, 0)) = w5 := ⟨_, rfl⟩
          rw [hw5] at hvk hbl
          rw [hw5]
          have hq5 := HQ4.out.below hbl
          have ht5 := Kd.R_below htr.1 hbl
          have hl5 := blk_below htr.2 hbl
          have hp5 := blk_below hpk4 hbl
          have a0 := blk_cell hp5 0
          have a1' := blk_cell hp5 1
          have v0 := blk_cell hvk 0
          have v1' := blk_cell hvk 1
          have l0 := blk_cell hl5 0
          have l1 := blk_cell hl5 1
          have fl := blk_frozen hl5
          have hkk := pw_cell_below hq5.bl HKC.out
          have htc := Kd.R_celln false ht5 (m : Int) (by omega) (by have h_ := HX.out.2.1; omega)
          rw [Int.toNat_natCast] at htc
          have hrd : rdOf false tl (m : Int) = false := by unfold rdOf; rw [Int.toNat_natCast]; exact HX.out.2.2
          rw [hrd] at htc
          obtain ⟨t0, ft⟩ := htc
          have HL5 := Aside0.mk hl5
          have HV5 := Aside0.mk hvk
          have HT5 := Aside0.mk ht5
          have HQ5 := Aside0.mk hq5
          have k1 : decide ((m : Int) < 0) = false := decide_eq_false (by omega)
          have k2 : decide ((m : Int) ≥ (n : Int)) = false := decide_eq_false (by have h_ := HX.out.2.1; omega)
          have k3 : decide ((n : Int) ≤ (m : Int)) = false := decide_eq_false (by have h_ := HX.out.2.1; omega)
          have k4 : decide (n ≤ m) = false := decide_eq_false (by have h_ := HX.out.2.1; omega)
          have p3 := eq_true (show (0 : Int) ≤ (m : Int) by omega)
          have p4 := eq_true (show (m : Int) < (n : Int) by have h_ := HX.out.2.1; omega)
          have p5 := eq_true (show m < n from HX.out.2.1)
          have hel : (ps.erase (km, (m : Int), (m : Int))).length = n - (i + 1) := by
            rw [List.length_erase_of_mem HX.out.1.1, HS.out.pl]; omega
          have HEL := Aside0.mk hel
          have q1 : IntKind.i64.wrap ((n : Int) - 1) = ((n - 1 : Nat) : Int) := by have h_ := HI2.out; have h2_ := HN2.out; rw [i64_w, wrap_id _ (by omega) (by omega)]; omega
          have q2 : IntKind.i64.wrap (((n - 1 : Nat) : Int) - (i : Int)) = ((n - (i + 1) : Nat) : Int) := by have h_ := HI2.out; have h2_ := HN2.out; rw [i64_w, wrap_id _ (by omega) (by omega)]; omega
          have q3 : IntKind.i64.wrap ((i : Int) + 1) = ((i + 1 : Nat) : Int) := by have h_ := HI2.out; have h2_ := HN2.out; rw [i64_w, wrap_id _ (by omega) (by omega)]; rfl
          have HLEN := Aside0.mk (fun (nn : Nat) => Calls.quiet_of ((hlen_q (HQ5.out.below (pw_below_drewN (Below.refl _ _) nn))).mono (fun e W' ⟨h1, h2⟩ => (⟨h1, h2.out⟩ : e = _ ∧ ∃ m, W' = (w5.drewN nn).drewN m))))
          rw [hel] at HLEN
          obtain ⟨cells, hcb⟩ := Kd.R_typed ht5 tb rfl
          have n1 : vb ≠ tb := type_ne hvk hcb (by decide)
          have n2 : lb ≠ tb := type_ne hl5 hcb (by decide)
          have n3 : tb ≠ vb := fun e => n1 e.symm
          have n4 : tb ≠ lb := fun e => n2 e.symm
          clear hcb htr hpk4 hvk hbl hw5 hq5 ht5 hl5 hp5 hrd hel hpb hvb
          go_quiet ((go_at_call 21; exact HLEN.out _))
          by_cases hi0 : i = 0
          · have z1 : decide ((i : Int) > 0) = false := decide_eq_false (by omega)
            have z2 : decide ((0 : Int) < (i : Int)) = false := decide_eq_false (by omega)
            have z3 : decide (0 < i) = false := decide_eq_false (by omega)
            clear hi0
            go_wp2_with (fail)
            go_roundg k9
            case measure => omega
            case rel => exact ⟨i + 1, _, _, _, _, _, rfl, ⟨HI2.out.1, HI2.out.2.1⟩, ⟨SS.next HS.out HI2.out.2.2 HX.out.1 HKM.out HX.out.2.1 (HQ5.out.below (pw_below_drewN (Below.refl _ _) _)) (Kd.R_drewN HT5.out _) HL5.out⟩⟩
          · have z1 : decide ((i : Int) > 0) = true := decide_eq_true (by omega)
            have z2 : decide ((0 : Int) < (i : Int)) = true := decide_eq_true (by omega)
            have z3 : decide (0 < i) = true := decide_eq_true (by omega)
            have hla := HS.out.la (by omega) _ HX.out.1.1
            have hlt1 : ¬ km < lk := fun e => by
              unfold leW aheadB kcmp at hla
              simp [e] at hla
            have z4 : decide (km < lk) = false := decide_eq_false hlt1
            by_cases hke : km = lk
            · have hlt2 : ¬ (m : Int) < lid := fun e => by
                unfold leW aheadB kcmp at hla
                simp [hke] at hla
                omega
              have z5 : decide ((m : Int) < lid) = false := decide_eq_false hlt2
              have z6 : (km == lk) = true := beq_iff_eq.2 hke
              have z7 : decide (km = lk) = true := decide_eq_true hke
              clear hi0 hla hlt1 hlt2 hke
              go_wp2_with (fail)
              go_roundg k9
              case measure => omega
              case rel => exact ⟨i + 1, _, _, _, _, _, rfl, ⟨HI2.out.1, HI2.out.2.1⟩, ⟨SS.next HS.out HI2.out.2.2 HX.out.1 HKM.out HX.out.2.1 (HQ5.out.below (pw_below_drewN (Below.refl _ _) _)) (Kd.R_drewN HT5.out _) HL5.out⟩⟩
            · have z6 : (km == lk) = false := beq_eq_false_iff_ne.2 hke
              have z7 : decide (km = lk) = false := decide_eq_false hke
              clear hi0 hla hlt1 hke
              go_wp2_with (fail)
              go_roundg k9
              case measure => omega
              case rel => exact ⟨i + 1, _, _, _, _, _, rfl, ⟨HI2.out.1, HI2.out.2.1⟩, ⟨SS.next HS.out HI2.out.2.2 HX.out.1 HKM.out HX.out.2.1 (HQ5.out.below (pw_below_drewN (Below.refl _ _) _)) (Kd.R_drewN HT5.out _) HL5.out⟩⟩
        · have hl2 : decide ((i : Int) < (n : Int)) = false := decide_eq_false (by omega)
          have hl3 : decide (i < n) = false := decide_eq_false hlt
          obtain rfl : ps = [] := List.eq_nil_of_length_eq_zero (by have h_ := HS.out.pl; omega)
          clear hlt
          go_wp2_with (first
            | ((go_at_call 17); (with_reducible refine (hpop_none HS.out.hq).mono ?_); rintro e w4 ⟨rfl, hb⟩; have HB := Aside0.mk hb; clear hb))
          go_ret
          exact ⟨rfl, below_alloc (below_step HS.out.hq.bl HB.out) _⟩
theorem isrow_kf {w : World} {a : Option Addr} {len cap : Nat} {z : List Int} (h : (a = none ∧ len = 0 ∧ cap = 0 ∧ z = []) ∨ ∃ x, a = some x ∧ len ≤ cap ∧ cap ≤ maxLen ∧ z.length = cap ∧ (∀ i, i < z.length → w.cell? (x.add i) = some (.int .i64 (z.getD i 0))) ∧ ∀ n ∈ z, (Lit.int .i64 n).wf = true) : ∀ i, i < len → ∃ x, a = some x ∧ w.cell? (x.add i) = some (.int .i64 ((fun i => z.getD i 0) i)) := by
  intro i hi
  rcases h with ⟨_, rfl, _⟩ | ⟨x, e, h1, h2, h3, h4, _⟩
  · omega
  · exact ⟨x, e, h4 i (by omega)⟩
theorem QueueSorts (a1 : Option Addr) (len1 cap1 : Nat) (z1 : List Int) (w : World)
    (w1 : (a1 = none ∧ len1 = 0 ∧ cap1 = 0 ∧ z1 = []) ∨ ∃ x, a1 = some x ∧ len1 ≤ cap1 ∧ cap1 ≤ maxLen ∧ z1.length = cap1 ∧ (∀ i, i < z1.length → w.cell? (x.add i) = some (.int .i64 (z1.getD i 0))) ∧ ∀ n ∈ z1, (Lit.int .i64 n).wf = true) (_y1 : len1 * 8 ≤ 140737488351232) :
    Calls Try.prog 4 #[.slice a1 len1 cap1] w fun e w' => e = .returned (.bool true) ∧ Below w.heap.size w w' :=
  sorts_good a1 len1 cap1 w (fun i => z1.getD i 0) (by omega) (isrow_kf w1)
end Go.Proofs.Ytekjkookkjjbcaa.Pure
