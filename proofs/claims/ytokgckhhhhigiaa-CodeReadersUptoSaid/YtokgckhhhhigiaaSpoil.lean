/- spoil of the statements (walked by hand): of what was there only the answer's own block turns. -/
import Derived.Test.YtokgckhhhhigiaaTurn
import Derived.Test.YtokgckhhhhigiaaLentS
namespace Go.Proofs.Ytokgckhhhhigiaa.Turn
set_option linter.unusedVariables false
set_option linter.unusedSimpArgs false
set_option linter.unusedVariables false
set_option linter.unusedSimpArgs false
open Go.RowKit Go.Proofs.YtokgckhhhhigiaaW.PrintWords Go.Proofs.YtokgckhhhhigiaaW.PrintLast Go.Proofs.YtokgckhhhhigiaaW.PrintMore Go.Proofs.Ytokgckhhhhigiaa.B Go.Proofs.Ytokgckhhhhigiaa.M Go.Proofs.Ytokgckhhhhigiaa.G

theorem form_some {w : World} {A : Option Addr} {n c : Nat} {ys : List Value} (h : w.ownsRow 0 5 1 (.slice A n c) n ys) (hn : 0 < n) : ∃ g, A = some ⟨g, 0, none⟩ ∧ n ≤ c ∧ g < w.heap.size := by
  rcases h.2 with ⟨h', h0⟩ | ⟨g, cap, cur, h', _, hg, hnc, _⟩
  · omega
  · obtain ⟨h1, _, rfl⟩ := slice_inj h'
    exact ⟨g, h1, hnc, (Array.getElem?_eq_some_iff.1 hg).1⟩
theorem form_val {w : World} {v : Value} {n : Nat} {ys : List Value} (h : w.ownsRow 0 5 1 v n ys) (hn : 0 < n) : ∃ g c, v = .slice (some ⟨g, 0, none⟩) n c := by
  rcases h.2 with ⟨h', h0⟩ | ⟨g, cap, cur, h', _⟩
  · omega
  · exact ⟨g, cap, h'⟩
theorem cell_some {w : World} {g n c : Nat} {ys : List Value} (h : w.ownsRow 0 5 1 (.slice (some ⟨g, 0, none⟩) n c) n ys) (j : Nat) (hj : j < n) : ∃ u, w.cell? ⟨g, j, none⟩ = some u := by
  have h1 := h.cellAt j (by omega)
  have hl := h.1
  rw [List.getElem?_eq_getElem (by omega)] at h1
  exact ⟨_, h1⟩

set_option maxHeartbeats 4000000 in
set_option maxRecDepth 100000 in
theorem spoil_calls (A : Option Addr) (n c : Nat) (ys : List Value) (w : World) (ho : w.ownsRow 0 5 1 (.slice A n c) n ys) (hn : n ≤ 70368744177664) :
    Calls Try.prog 14 #[.slice A n c] w fun e w' => e = .returned (.tuple #[]) ∧ w.grownBy w' (Value.slice A n c).ownBlock := by
  have HS : Aside0 (Spoilt 5 w (.slice A n c) n w) := ⟨⟨World.grownBy.refl w _, ys, ho⟩⟩
  have H0 := Aside0.mk ho
  clear ho
  have hmk : ∀ W : World, (Instr.makeSlice 22 (.int .i64 70) (.int .i64 70)).run Try.prog W = .ok (.slice (some ⟨W.heap.size, 0, none⟩) 70 70) (W.alloc (.cells (madeCells #[.int .u8 0] 70) 5)) := print_make (P := Try.prog) 22 5 .u8 1 Try.underlying22 info5 (by decide) 70 (by decide)
  go_enter Try.func14, Try.ntmps14
  go_wp2
  go_loopw [2, 8] (fun v2 v8 wr => ∃ j : Nat, v8 = .int .i64 j ∧ j ≤ n ∧ Aside0 (Spoilt 5 w (.slice A n c) n wr)) (fun _ v8 _ => n - (intOf v8).toNat)
  case atStart => exact ⟨0, rfl, by omega, HS⟩
  case round =>
    clear HS
    obtain ⟨j, rfl, hj, HS⟩ := hrel
    by_cases hlt : j < n
    · obtain ⟨zs, HO⟩ := HS.out.row
      obtain ⟨g, rfl, hnc, hgl⟩ := form_some HO (by omega)
      obtain ⟨u, hu⟩ := cell_some HO j hlt
      have hf := HO.frozenAt j
      have HN := Aside0.mk (Spoilt.step HS.out (g := .slice (some ⟨g, 0, none⟩) n c) (.inl rfl) (HO.stored j (.int .u8 90)).2 (Rows1.stored HO j (.int .u8 90)))
      clear HO
      go_wp2_with (first
        | ((with_reducible refine gate_store (t := 5) (p := 13) rfl ?_); refine store_event (t := 5) (p := 13) (v := ?vo_w14) (w1 := (wr.setCell ⟨g, j, none⟩ (.int .u8 90))) ?hg ?ho ?hn ?hr ?_; (case ho => rfl); (case hg => rfl); (case hn => rfl); (case hr => first | (go_simp; done) | (go_simp; rfl)); intro w14 hw; rw [← hw] at HN; clear hw))
      go_roundw
      case rel => exact ⟨j + 1, by go_num, by omega, HN⟩
      case measure => simp [intOf]; omega
    · obtain rfl : j = n := by omega
      clear hlt
      obtain ⟨zs, HO1⟩ := HS.out.row
      have HO := Aside0.mk HO1
      clear HO1
      have hsz := Aside0.mk HS.out.grown.size
      go_wp2
      go_loopw [3, 16] (fun v3 v16 w2 => ∃ k : Nat, v16 = .int .i64 k ∧ k ≤ 20 ∧ ∃ zs, Aside0 (w2.ownsRow 0 5 1 v3 (j + k) zs) ∧ Aside0 (Near w (.slice A j c) v3) ∧ Aside0 (Spoilt 5 w (.slice A j c) j w2)) (fun _ v16 _ => 20 - (intOf v16).toNat)
      case atStart => exact ⟨0, rfl, by omega, zs, HO, ⟨.inl rfl⟩, HS⟩
      case round =>
        clear HO HS hsz
        obtain ⟨k, rfl, hk, zs, HO, HNear, HS⟩ := hrel
        by_cases hlt : k < 20
        · go_wp2_with (first | ((with_reducible refine gate_builtin (b := .append) (xs := #[.tmp 18, .tmp 19]) rfl ?_); at_builtin; refine turn_append 0 rfl (.tmp 18) (.tmp 19) 22 5 (.int .u8 0) 1 rfl Try.underlying22 info5 rfl (by decide) u3 (j + k) zs (.int .u8 90) rfl rfl rfl HO.out (Nat.zero_le _) (by omega) ?_; intro v130 w11 ho1 hg hrows hat; have n0_ := Aside0.mk ho1; have n1_ := Aside0.mk (HNear.out.next HS.out.grown.size hat); have n2_ := Aside0.mk (HS.out.step HNear.out hg hrows); clear HO HNear HS; have HO := n0_; have HNear := n1_; have HS := n2_; clear n0_ n1_ n2_ ho1 hg hrows hat))
          go_roundw
          case rel => exact ⟨k + 1, by go_num, by omega, _, HO, HNear, HS⟩
          case measure => simp [intOf]; omega
        · obtain rfl : k = 20 := by omega
          clear hlt
          have HQ := Aside0.mk (own_made wr w.heap.size 5 .u8 70 HS.out.grown.size (by omega))
          have hq : w.heap.size ≤ wr.heap.size := HS.out.grown.size
          have H1 := Aside0.mk (HS.out.fresh (World.grownBy_alloc wr (.cells (madeCells #[.int .u8 0] 70) 5) none))
          clear HO HNear HS zs
          go_wp2
          obtain ⟨q, hqe⟩ : ∃ q, q = wr.heap.size := ⟨_, rfl⟩
          obtain ⟨wq, hwq⟩ : ∃ wq, wq = wr.alloc (.cells (madeCells #[.int .u8 0] 70) 5) := ⟨_, rfl⟩
          rw [← hwq] at HQ H1 ⊢
          rw [← hqe] at HQ hq ⊢
          clear hwq hqe
          go_loopw [5, 25] (fun v5 v25 w3 => ∃ k : Nat, v25 = .int .i64 k ∧ k ≤ 70 ∧ ∃ ms, Aside0 (w3.ownsRow w.heap.size 5 1 (.slice (some ⟨q, 0, none⟩) 70 70) 70 (nums .u8 ms)) ∧ Aside0 (Spoilt 5 w (.slice A j c) j w3)) (fun _ v25 _ => 70 - (intOf v25).toNat)
          case atStart => exact ⟨0, rfl, by omega, _, HQ, H1⟩
          case round =>
            clear HQ H1
            obtain ⟨k, rfl, hk, ms, HQ, HS⟩ := hrel
            by_cases hlt : k < 70
            · have HQ0 := own_weaken HQ.out (Nat.zero_le _)
              obtain ⟨u, hu⟩ := cell_some HQ0 k hlt
              have hf := HQ0.frozenAt k
              have hst := own_store HQ.out (k : Int) 90
              rw [Int.toNat_natCast] at hst
              have HM := Aside0.mk hst.1
              have HN := Aside0.mk (Spoilt.step HS.out (g := .slice (some ⟨q, 0, none⟩) 70 70) (.inr fun b hb => by simp [Value.ownBlock] at hb; omega) hst.2 (Rows1.stored HQ0 k (.int .u8 90)))
              clear HQ0 hst HQ HS
              go_wp2_with (first
                | ((with_reducible refine gate_store (t := 5) (p := 30) rfl ?_); refine store_event (t := 5) (p := 30) (v := ?vo_w14) (w1 := (wr.setCell ⟨q, k, none⟩ (.int .u8 90))) ?hg ?ho ?hn ?hr ?_; (case ho => rfl); (case hg => rfl); (case hn => rfl); (case hr => first | (go_simp; done) | (go_simp; rfl)); intro w14 hw; rw [← hw] at HN HM; clear hw))
              go_roundw
              case rel => exact ⟨k + 1, by go_num, by omega, _, HM, HN⟩
              case measure => simp [intOf]; omega
            · obtain rfl : k = 70 := by omega
              clear hlt
              obtain ⟨zs, HO1⟩ := HS.out.row
              have HO := Aside0.mk HO1
              clear HO1
              go_wp2_with (first
                | ((with_reducible refine gate_builtin (b := .append) (xs := #[.tmp 32, .tmp 33]) rfl ?_); at_builtin; refine turn_append_row 0 rfl (.tmp 32) (.tmp 33) 22 5 (.int .u8 0) 1 rfl Try.underlying22 info5 rfl (by decide) (.slice A j c) j zs ⟨q, 0, none⟩ 70 70 (nums .u8 ms) rfl rfl (by have := HQ.out.1; omega) (HQ.out.cells rfl) (fun u hu => by obtain ⟨x, _, rfl⟩ := List.mem_map.1 hu; rfl) HO.out (Nat.zero_le _) (by omega) ?_; intro v130 w11 ho1 hg hrows hat
                   have hfm := form_val ho1 (by omega)
                   obtain ⟨g1, c1, rfl⟩ := hfm
                   have n1_ := Aside0.mk (Near.next (v := .slice A j c) (g := .slice A j c) (.inl rfl) HS.out.grown.size hat)
                   have n2_ := HS.out.step (.inl rfl) hg hrows
                   have n3_ := Aside0.mk (n2_.step n1_.out (ho1.stored 0 (.int .u8 90)).2 (Rows1.stored ho1 0 (.int .u8 90)))
                   obtain ⟨u, hu⟩ := cell_some ho1 0 (by omega)
                   have hf := ho1.frozenAt 0
                   clear n1_ n2_ HO HQ HS ho1 hg hrows hat)
                | ((with_reducible refine gate_store (t := 5) (p := 39) rfl ?_); refine store_event (t := 5) (p := 39) (v := ?vo_w14) (w1 := (w11.setCell ⟨g1, 0, none⟩ (.int .u8 90))) ?hg ?ho ?hn ?hr ?_; (case ho => rfl); (case hg => rfl); (case hn => rfl); (case hr => first | (go_simp; done) | (go_simp; rfl)); intro w14 hw; rw [← hw] at n3_; clear hw))
              go_end0
              exact ⟨rfl, n3_.out.grown⟩
end Go.Proofs.Ytokgckhhhhigiaa.Turn
