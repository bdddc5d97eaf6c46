/- spoil of a slice without room, whose block may be greater (walked by hand). -/
import Derived.Test.YtokgckhhhhigiaaSpoil
import Derived.ArgAppend
namespace Go.Proofs.Ytokgckhhhhigiaa.Turn
set_option linter.unusedVariables false
set_option linter.unusedSimpArgs false
set_option linter.unusedVariables false
set_option linter.unusedSimpArgs false
open Go.RowKit Go.Proofs.YtokgckhhhhigiaaW.PrintWords Go.Proofs.YtokgckhhhhigiaaW.PrintLast Go.Proofs.YtokgckhhhhigiaaW.PrintMore Go.Proofs.Ytokgckhhhhigiaa.B Go.Proofs.Ytokgckhhhhigiaa.M Go.Proofs.Ytokgckhhhhigiaa.G
/-- The block of a slice without room, while it is spoilt. -/
structure FS (w : World) (g n : Nat) (W : World) : Prop where
  lt : g < w.heap.size
  bk : ∃ cur, W.heap[g]? = some (.cells cur 5 (0, 0)) ∧ n ≤ cur.size
  gr : w.grownBy W (some g)
theorem FS.size {w W : World} {g n : Nat} (h : FS w g n W) : w.heap.size ≤ W.heap.size := h.gr.size
theorem FS.set {w W : World} {g n : Nat} (h : FS w g n W) (j : Nat) (u : Value) : FS w g n (W.setCell ⟨g, j, none⟩ u) := by
  obtain ⟨cur, h1, h2⟩ := h.bk
  exact ⟨h.lt, ⟨_, blk_put h1 j u rfl, by simpa using h2⟩, ⟨h.gr.os, h.gr.tape, h.gr.output, by rw [World.size_setCell]; exact h.gr.size, fun k hk hn => (Below.heap_setCell W ⟨g, j, none⟩ u k (fun e => hn (by rw [e]))).trans (h.gr.block k hk hn)⟩⟩
theorem FS.grown {w W W' : World} {g n : Nat} (h : FS w g n W) {row : Option Nat} (hg : W.grownBy W' row) (hr : ∀ k, row = some k → w.heap.size ≤ k) : FS w g n W' := by
  obtain ⟨cur, h1, h2⟩ := h.bk
  have hne : some g ≠ row := fun e => by have := hr g e.symm; have := h.lt; omega
  refine ⟨h.lt, ⟨cur, (hg.block g (blk_lt h1) hne).trans h1, h2⟩, ⟨hg.os.trans h.gr.os, hg.tape.trans h.gr.tape, hg.output.trans h.gr.output, Nat.le_trans h.gr.size hg.size, fun k hk hn => ?_⟩⟩
  refine (hg.block k (Nat.lt_of_lt_of_le hk h.gr.size) (fun e => ?_)).trans (h.gr.block k hk hn)
  have := hr k e.symm
  omega
theorem FS.olds {w W : World} {g n : Nat} (h : FS w g n W) : ∃ olds : List Value, olds.length = n ∧ ∀ j u, olds[j]? = some u → W.cell? ((⟨g, 0, none⟩ : Addr).add j) = some u := by
  obtain ⟨cur, h1, h2⟩ := h.bk
  refine ⟨cur.toList.take n, by rw [List.length_take]; simp; omega, fun j u hj => ?_⟩
  rw [show ((⟨g, 0, none⟩ : Addr).add j) = ⟨g, j, none⟩ from by unfold Addr.add; simp; intro h_; exact h_.symm, blk_cell h1 j]
  rw [List.getElem?_take] at hj
  split at hj
  · simpa using hj
  · cases hj
theorem FS.cell {w W : World} {g n : Nat} (h : FS w g n W) (j : Nat) (hj : j < n) : (∃ u, W.cell? ⟨g, j, none⟩ = some u) ∧ W.frozen? ⟨g, j, none⟩ = false ∧ g < W.heap.size := by
  obtain ⟨cur, h1, h2⟩ := h.bk
  exact ⟨⟨_, (blk_cell h1 j).trans (Array.getElem?_eq_getElem (by omega))⟩, blk_frozen h1 j, blk_lt h1⟩
theorem lit_cell (W : World) (y : Value) (t : Nat) : ∀ j u, [y][j]? = some u → (W.alloc (.cells #[y] t (0, 0))).cell? ((⟨W.heap.size, 0, none⟩ : Addr).add j) = some u := by
  intro j u hj
  cases j with
  | zero =>
    simp at hj
    subst hj
    exact blk_cell (heap_alloc_new W (.cells #[y] t (0, 0))) 0
  | succ j => simp at hj
set_option maxHeartbeats 4000000 in
set_option maxRecDepth 100000 in
theorem spoil_full (A : Option Addr) (c g n : Nat) (w : World) (hA : A = some ⟨g, 0, none⟩) (hc : c = n) (hs : FS w g n w) (hn : n ≤ 70368744177664) :
    Calls Try.prog 14 #[.slice A n c] w fun e w' => e = .returned (.tuple #[]) ∧ w.grownBy w' (some g) := by
  have HS := Aside0.mk hs
  have HA := Aside0.mk (And.intro hA hc)
  clear hs hA hc
  have hmk : ∀ W : World, (Instr.makeSlice 22 (.int .i64 70) (.int .i64 70)).run Try.prog W = .ok (.slice (some ⟨W.heap.size, 0, none⟩) 70 70) (W.alloc (.cells (madeCells #[.int .u8 0] 70) 5)) := print_make (P := Try.prog) 22 5 .u8 1 Try.underlying22 info5 (by decide) 70 (by decide)
  obtain ⟨ui, hui, huz⟩ := Option.map_eq_some_iff.1 info5
  simp only [Prod.mk.injEq] at huz
  have HU := Aside0.mk (And.intro hui huz)
  clear hui huz
  go_enter Try.func14, Try.ntmps14
  go_wp2
  go_loopw [2, 8] (fun v2 v8 wr => ∃ j : Nat, v8 = .int .i64 j ∧ j ≤ n ∧ Aside0 (FS w g n wr)) (fun _ v8 _ => n - (intOf v8).toNat)
  case atStart => exact ⟨0, rfl, by omega, HS⟩
  case round =>
    clear HS
    obtain ⟨j, rfl, hj, HS⟩ := hrel
    by_cases hlt : j < n
    · obtain ⟨rfl, rfl⟩ := HA.out
      obtain ⟨⟨u, hu⟩, hf, hgl⟩ := HS.out.cell j hlt
      have HN := Aside0.mk (HS.out.set j (.int .u8 90))
      go_wp2_with (first
        | ((with_reducible refine gate_store (t := 5) (p := 13) rfl ?_); refine store_event (t := 5) (p := 13) (v := ?vo_w14) (w1 := (wr.setCell ⟨g, j, none⟩ (.int .u8 90))) ?hg ?ho ?hn ?hr ?_; (case ho => rfl); (case hg => rfl); (case hn => rfl); (case hr => first | (go_simp; done) | (go_simp; rfl)); intro w14 hw; rw [← hw] at HN; clear hw))
      go_roundw
      case rel => exact ⟨j + 1, by go_num, by omega, HN⟩
      case measure => simp [intOf]; omega
    · obtain rfl : j = n := by omega
      clear hlt
      go_wp2
      go_loopw [3, 16] (fun v3 v16 w2 => ∃ k : Nat, v16 = .int .i64 k ∧ k ≤ 20 ∧ Aside0 (FS w g j w2) ∧ Aside0 ((k = 0 ∧ v3 = .slice A j c) ∨ (0 < k ∧ ∃ zs, w2.ownsRow w.heap.size 5 1 v3 (j + k) zs))) (fun _ v16 _ => 20 - (intOf v16).toNat)
      case atStart => exact ⟨0, rfl, by omega, HS, ⟨.inl ⟨rfl, rfl⟩⟩⟩
      case round =>
        clear HS
        obtain ⟨k, rfl, hk, HS, HV⟩ := hrel
        by_cases hlt : k < 20
        · rcases HV.out with ⟨rfl, rfl⟩ | ⟨hk0, zs, ho⟩
          · clear HV
            obtain ⟨olds, hol, holds⟩ := (HS.out.grown (World.grownBy_alloc wr (.cells #[.int .u8 90] 5) none) (fun k e => by cases e)).olds
            have HO := Aside0.mk (And.intro hol holds)
            clear hol holds
            go_wp2_with (first
              | ((with_reducible refine gate_builtin (b := .append) (xs := #[.tmp 18, .tmp 19]) rfl ?_); at_builtin; refine wpList_append_grows _ rfl (.tmp 18) (.tmp 19) 22 rfl 5 ui (.int .u8 0) 1 1 Try.underlying22 HU.out.1 HU.out.2.1 HU.out.2.2.1 HU.out.2.2.2 rfl (by decide) A j c olds rfl (fun e => by rw [HA.out.1] at e; cases e) (by rw [HO.out.1, Nat.mul_one]) (fun b e => by rw [HA.out.1] at e; cases e; exact HO.out.2) ⟨wr.heap.size, 0, none⟩ 1 1 [.int .u8 90] rfl rfl (lit_cell wr (.int .u8 90) 5) (by intro u hu; rw [List.mem_singleton.1 hu]; rfl) (by have h_ := HA.out.2; omega) (by simp only [maxLen]; omega) (by omega) ?_; intro v130 w11 ho1 hg; have n0_ := Aside0.mk (own_weaken ho1 (by rw [World.size_alloc]; exact Nat.le_trans HS.out.size (Nat.le_succ _))); have n2_ := Aside0.mk ((HS.out.grown (World.grownBy_alloc wr (.cells #[.int .u8 90] 5) none) (fun k e => by cases e)).grown hg (fun k e => by cases e)); clear HS; have HS := n2_; clear n2_ ho1 hg))
            go_roundw
            case rel => exact ⟨1, by go_num, by omega, HS, ⟨.inr ⟨by omega, _, n0_.out⟩⟩⟩
            case measure => simp [intOf]
          · clear HV
            have HO := Aside0.mk ho
            clear ho
            go_wp2_with (first
              | ((with_reducible refine gate_builtin (b := .append) (xs := #[.tmp 18, .tmp 19]) rfl ?_); at_builtin; refine turn_append w.heap.size rfl (.tmp 18) (.tmp 19) 22 5 (.int .u8 0) 1 rfl Try.underlying22 info5 rfl (by decide) u3 (j + k) zs (.int .u8 90) rfl rfl rfl HO.out HS.out.size (by omega) ?_; intro v130 w11 ho1 hg hrows hat; have n0_ := Aside0.mk ho1; have n2_ := Aside0.mk (HS.out.grown hg (fun k e => own_base HO.out k e)); clear HO HS; have HO := n0_; have HS := n2_; clear n0_ n2_ ho1 hg hrows hat))
            go_roundw
            case rel => exact ⟨k + 1, by go_num, by omega, HS, ⟨.inr ⟨by omega, _, HO.out⟩⟩⟩
            case measure => simp [intOf]; omega
        · obtain rfl : k = 20 := by omega
          clear hlt HV
          have HQ := Aside0.mk (own_made wr w.heap.size 5 .u8 70 HS.out.size (by omega))
          have hq : w.heap.size ≤ wr.heap.size := HS.out.size
          have H1 := Aside0.mk (HS.out.grown (World.grownBy_alloc wr (.cells (madeCells #[.int .u8 0] 70) 5) none) (fun k e => by cases e))
          clear HS
          go_wp2
          obtain ⟨q, hqe⟩ : ∃ q, q = wr.heap.size := ⟨_, rfl⟩
          obtain ⟨wq, hwq⟩ : ∃ wq, wq = wr.alloc (.cells (madeCells #[.int .u8 0] 70) 5) := ⟨_, rfl⟩
          rw [← hwq] at HQ H1 ⊢
          rw [← hqe] at HQ hq ⊢
          clear hwq hqe
          go_loopw [5, 25] (fun v5 v25 w3 => ∃ k : Nat, v25 = .int .i64 k ∧ k ≤ 70 ∧ ∃ ms, Aside0 (w3.ownsRow w.heap.size 5 1 (.slice (some ⟨q, 0, none⟩) 70 70) 70 (nums .u8 ms)) ∧ Aside0 (FS w g j w3)) (fun _ v25 _ => 70 - (intOf v25).toNat)
          case atStart => exact ⟨0, rfl, by omega, _, HQ, H1⟩
          case round =>
            clear HQ H1
            obtain ⟨k, rfl, hk, ms, HQ, HS⟩ := hrel
            by_cases hlt : k < 70
            · have HQ0 := own_weaken HQ.out (Nat.zero_le _)
              obtain ⟨u, hu⟩ := cell_some HQ0 k hlt
              have hf := HQ0.frozenAt k
              have hst := own_store HQ.out (k : Int) 90
              rw [Int.toNat_natCast] at hst
              have HM := Aside0.mk hst.1
              have HN := Aside0.mk (HS.out.grown hst.2 (fun b e => by cases e; exact hq))
              clear HQ0 hst HQ HS
              go_wp2_with (first
                | ((with_reducible refine gate_store (t := 5) (p := 30) rfl ?_); refine store_event (t := 5) (p := 30) (v := ?vo_w14) (w1 := (wr.setCell ⟨q, k, none⟩ (.int .u8 90))) ?hg ?ho ?hn ?hr ?_; (case ho => rfl); (case hg => rfl); (case hn => rfl); (case hr => first | (go_simp; done) | (go_simp; rfl)); intro w14 hw; rw [← hw] at HN HM; clear hw))
              go_roundw
              case rel => exact ⟨k + 1, by go_num, by omega, _, HM, HN⟩
              case measure => simp [intOf]; omega
            · obtain rfl : k = 70 := by omega
              clear hlt
              obtain ⟨olds, hol, holds⟩ := HS.out.olds
              have HO := Aside0.mk (And.intro hol holds)
              clear hol holds
              go_wp2_with (first
                | ((with_reducible refine gate_builtin (b := .append) (xs := #[.tmp 32, .tmp 33]) rfl ?_); at_builtin; refine wpList_append_grows _ rfl (.tmp 32) (.tmp 33) 22 rfl 5 ui (.int .u8 0) 1 1 Try.underlying22 HU.out.1 HU.out.2.1 HU.out.2.2.1 HU.out.2.2.2 rfl (by decide) A j c olds rfl (fun e => by rw [HA.out.1] at e; cases e) (by rw [HO.out.1, Nat.mul_one]) (fun b e => by rw [HA.out.1] at e; cases e; exact HO.out.2) ⟨q, 0, none⟩ 70 70 (nums .u8 ms) rfl (by have := HQ.out.1; omega) (HQ.out.cells rfl) (fun u hu => by obtain ⟨x, _, rfl⟩ := List.mem_map.1 hu; rfl) (by have h_ := HA.out.2; omega) (by simp only [maxLen]; omega) (by omega) ?_; intro v130 w11 ho1 hg
                   have hfm := form_val (own_weaken ho1 (Nat.zero_le _)) (by omega)
                   obtain ⟨g1, c1, rfl⟩ := hfm
                   have hb1 := own_base ho1 g1 rfl
                   have n2_ := HS.out.grown hg (fun k e => by cases e)
                   have n3_ := Aside0.mk (n2_.grown (own_weaken ho1 (Nat.zero_le _) |>.stored 0 (.int .u8 90)).2 (fun b e => by cases e; exact Nat.le_trans HS.out.size hb1))
                   obtain ⟨u, hu⟩ := cell_some (own_weaken ho1 (Nat.zero_le _)) 0 (by omega)
                   have hf := ho1.frozenAt 0
                   clear n2_ HO HQ HS ho1 hg)
                | ((with_reducible refine gate_store (t := 5) (p := 39) rfl ?_); refine store_event (t := 5) (p := 39) (v := ?vo_w14) (w1 := (w11.setCell ⟨g1, 0, none⟩ (.int .u8 90))) ?hg ?ho ?hn ?hr ?_; (case ho => rfl); (case hg => rfl); (case hn => rfl); (case hr => first | (go_simp; done) | (go_simp; rfl)); intro w14 hw; rw [← hw] at n3_; clear hw))
              go_end0
              exact ⟨rfl, n3_.out.gr⟩
end Go.Proofs.Ytokgckhhhhigiaa.Turn
