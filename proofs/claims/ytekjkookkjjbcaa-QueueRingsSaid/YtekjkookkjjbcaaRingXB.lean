/- The ring of things: row (walked by hand). -/
import Derived.Test.YtekjkookkjjbcaaRingX
namespace Go.Proofs.Ytekjkookkjjbcaa.RX
set_option linter.unusedVariables false
set_option linter.unusedSimpArgs false
set_option linter.unusedVariables false
set_option linter.unusedSimpArgs false
open Go.RowKit Go.Proofs.YtekjkookkjjbcaaW.PrintWords Go.Proofs.YtekjkookkjjbcaaW.PrintLast Go.Proofs.YtekjkookkjjbcaaW.PrintMore Go.Proofs.Ytekjkookkjjbcaa.B Go.Proofs.Ytekjkookkjjbcaa.M Go.Proofs.Ytekjkookkjjbcaa.RH
open Go.Proofs.Ytekjkookkjjbcaa.RI (zeroed zeroed_len zeroed_zero zeroed_at set_row_grown)
abbrev OwnI (w W : World) (v : Value) (xs : List T2) : Prop := Kd.R kT 29 W w.heap.size (fun _ => True) v xs
structure OI (w W : World) (v : Value) (xs : List T2) : Prop where
  ow : OwnI w W v xs
  bl : Below w.heap.size w W
theorem OI.below {w W W' : World} {v : Value} {xs : List T2} (h : OI w W v xs) (hb : Below W.heap.size W W') : OI w W' v xs := ⟨Kd.R_below h.ow hb, below_step h.bl hb⟩
theorem OI.drew {w W : World} {v : Value} {xs : List T2} (h : OI w W v xs) : OI w W.drew v xs := ⟨h.ow, h.bl.drew⟩
theorem OI.drewN {w W : World} {v : Value} {xs : List T2} (h : OI w W v xs) (m : Nat) : OI w (W.drewN m) v xs := ⟨h.ow, pw_below_drewN h.bl m⟩
theorem OI.lit {w W : World} {v : Value} {xs : List T2} (h : OI w W v xs) (o : Obj) : OI w (W.alloc o) v xs := h.below (below_alloc (Below.refl _ _) o)
theorem own_past {w W W1 : World} {v : Value} {xs : List T2} {row : Option Nat} (h : OwnI w W v xs) (hg : W.grownBy W1 row) (hne : ∀ j, v.ownBlock = some j → some j ≠ row) : OwnI w W1 v xs :=
  Kd.R_mono (Kd.R_grown (Kd.R_tight rfl h) hg (fun k hk => hne k hk.symm)) (fun _ _ => trivial)
theorem RG.rb_below {w0 W W' : World} {g : Nat} {most : Int} {v : Value} {rm : List T2} {f n : Nat} (h : RG w0 W g most v rm f n) (hb : Below W.heap.size W W') : RG w0 W' g most v rm f n :=
  ⟨blk_below h.bk hb, h.gg, below_step h.bl hb, Kd.R_below h.ow hb, h.fl, h.nl, h.ml, h.m1, h.m2⟩
theorem elsR_take (rm : List T2) (f n i : Nat) (h : i < n) : (elsR rm f n).take (i + 1) = (elsR rm f n).take i ++ [rm.getD (posR rm.length f i) d2] := by
  have hl : i < (elsR rm f n).length := by rw [elsR_len]; exact h
  rw [take_snoc _ i hl]
  have := elsR_at rm f n i h
  rw [List.getD_eq_getElem?_getD, List.getElem?_eq_getElem hl, Option.getD_some] at this
  rw [this]
theorem elsR_at' (rm : List T2) (f n i : Nat) (h : i < n) : (elsR rm f n).getD i d2 = rm.getD (posR rm.length f i) d2 := elsR_at rm f n i h
/-- What row reads. -/
abbrev RwS (W2 : World) (g : Nat) (most : Int) (g9 c L f n p : Nat) (x : T2) : Prop := AtS W2 g most g9 c L f n p x
set_option maxHeartbeats 8000000 in
set_option maxRecDepth 100000 in
theorem row_calls (w0 W : World) (g : Nat) (most : Int) (v : Value) (rm : List T2) (f n : Nat) (h : RG w0 W g most v rm f n) :
    Calls Try.prog 83 #[.pointer (some ⟨g, 0, none⟩)] W fun e W' => ∃ v', e = .returned v' ∧ OwnI W W' v' (elsR rm f n) ∧ Below W.heap.size W W' := by
  have HG := Aside0.mk h
  have hn : n ≤ 1048576 := by have := h.nl; have := h.ml; have := h.m2; omega
  have HN := Aside0.mk hn
  have HB := Aside0.mk (Below.refl W.heap.size W)
  have kn1 := eq_true (show (0 : Int) ≤ (n : Int) by omega)
  clear h hn
  go_enter Try.func83, Try.ntmps83
  go_wp2_with (first
    | ((go_at_call 44); (with_reducible refine (len_calls _ g most v f n (HG.out.rb_below HB.out).bk).mono ?_); rintro e w1 ⟨rfl, hd⟩; have n0 := Aside0.mk (below_step HB.out hd.below); clear HB hd; have HB := n0; clear n0)
    | ((with_reducible refine gate_dst (N := 7) rfl ?_); refine Kd.R_make_cap kT _ 29 ?hg (N := 7) ?hd 55 _ _ rfl (n : Int) rfl rfl Try.underlying55 (.agg #[.int .i64 0, .int .i64 0]) 16 infoT rfl (by decide) (by decide) d2 (ok := fun _ => True) (okp := fun _ => True) ⟨[.int .i64 0], [.int .i64 0], rfl, rfl, rfl⟩ (fun _ hk => hk) trivial (by omega) (by have h_ := HN.out; omega) (Below.refl _ _) (Nat.le_refl _) ?_; (case hd => rfl); (case hg => rfl); intro v1 w1 ho1 hb hg_ hn_; have HO := Aside0.mk (show OI W w1 v1 [] from ⟨Kd.R_lower ho1 (below_size HB.out), below_step HB.out hb⟩); clear HB ho1 hb hg_ hn_)
    | ((go_at_call 44); (with_reducible refine (len_calls _ g most v f n (HG.out.rb_below HO.out.bl).bk).mono ?_); rintro e w2 ⟨rfl, hd⟩; have n0 := Aside0.mk (HO.out.below hd.below); clear HO hd; have HO := n0; clear n0))
  go_loopg [3, 10] n (fun kq v3 v10 W2 => ∃ i : Nat, v10 = .int .i64 (i : Int) ∧ Aside0 (i ≤ n ∧ n - i ≤ kq) ∧ Aside0 (OI W W2 v3 ((elsR rm f n).take i)))
  case atStart => exact ⟨0, rfl, ⟨Nat.zero_le _, by omega⟩, ⟨by rw [List.take_zero]; exact HO.out⟩⟩
  case round =>
    clear HO
    obtain ⟨i, rfl, HI, HO⟩ := hrel
    obtain ⟨hi1, hi2⟩ := HI.out
    have hn := HN.out
    by_cases hlt : i < n
    · cases gk with
      | zero => omega
      | succ k9 =>
      have hl2 : decide ((i : Int) < (n : Int)) = true := decide_eq_true (by omega)
      have hR := HG.out.rb_below HO.out.bl
      have hp := posR_lt rm.length f i n hlt hR.nl (by have := hR.fl; have := hR.nl; omega)
      have hL : rm.length ≤ 1048576 := by have := hR.ml; have := hR.m2; omega
      have hf : f ≤ 1048576 := by have := hR.fl; omega
      obtain ⟨g9, c, hv, _, hg9, _⟩ := Kd.R_form hR.ow (by omega)
      have hbk := hR.bk
      have how := hR.ow
      rw [hv] at hbk how
      have hb1 : wr.cell? ⟨g, 1, none⟩ = some (.slice (some ⟨g9, 0, none⟩) rm.length c) := blk_cell hbk 1
      obtain ⟨x1, x2, _, _⟩ := R2_cell how (posR rm.length f i) hp
      have htk := elsR_take rm f n i hlt
      have HC := Aside0.mk (fun (W2 : World) (h2 : RB W2 g most (.slice (some ⟨g9, 0, none⟩) rm.length c) f n) => place_calls W2 g most (some ⟨g9, 0, none⟩) rm.length c f n i h2 hL hf (by omega))
      have HK := Aside0.mk hbk
      have hpl : posR rm.length f i < rm.length := hp
      obtain ⟨p, hpe⟩ : ∃ p, posR rm.length f i = p := ⟨_, rfl⟩
      rw [hpe] at HC x1 x2 htk hpl
      generalize rm.getD p d2 = x at *
      have HT := Aside0.mk htk
      have p1 := eq_true (show (0 : Int) ≤ (p : Int) by omega)
      have p2 := eq_true (show (p : Int) < (rm.length : Int) by omega)
      have p3 := eq_true (show p < rm.length by omega)
      have q2 : IntKind.i64.wrap ((i : Int) + 1) = ((i + 1 : Nat) : Int) := by rw [i64_w, wrap_id _ (by omega) (by omega)]; rfl
      have HI2 := Aside0.mk (show i + 1 ≤ n ∧ n - (i + 1) ≤ k9 ∧ i ≤ 1048576 from ⟨by omega, by omega, by omega⟩)
      have HTL := Aside0.mk (show ((elsR rm f n).take i).length = i by rw [List.length_take, elsR_len]; omega)
      have hgg : g < wr.heap.size := blk_lt hbk
      clear hi1 hi2 hn hR hp hL hf hbk how htk hpe hpl
      generalize (elsR rm f n).take i = xs at *
      obtain ⟨A9, c9, rfl⟩ := Kd.R_slice HO.out.ow
      go_wp2_with (fail)
      go_region_law (first
        | (refine Kd.R_append_rows_step kT (Rr := kT.K wr) (w0 := W) W.heap.size (by kernel_rfl) (.tmp 13) (.tmp 23) 55 29 (.agg #[.int .i64 0, .int .i64 0]) 16 rfl Try.underlying55 infoT rfl (by decide) (by omega) (.slice A9 xs.length c9) xs [x] (some ⟨wr.heap.size, 0, none⟩) 1 1 (fun _ => True) (fun _ => False) (by kernel_rfl) (by kernel_rfl) ?aO ?aR ?aM (fun _ h => h.elim) (fun _ _ => trivial) ?aB ?aS ?aL ?_; (case aO => exact ((HO.out.drewN _).lit _).ow); (case aR => exact lit2_own (wr.drewN _) x); (case aM => exact fun x cs hx => kT_mk' hx); (case aB => exact ((HO.out.drewN _).lit _).bl); (case aS => exact below_size ((HO.out.drewN _).lit _).bl); (case aL => rw [HTL.out]; have h_ := HI2.out.2.2; clear q2; omega); intro v7 w7 ho7 hb7 hg7 hat7; rw [← HT.out] at ho7; have H7 := Aside0.mk (show OI W w7 v7 ((elsR rm f n).take (i + 1)) from ⟨ho7, hb7⟩); clear HO ho7 hb7 hg7 hat7)
        | (go_simp; go_at_call 84; refine (HC.out wr.drew (show RB wr.drew _ _ _ _ _ from HK.out)).mono ?_; rintro e w2 ⟨rfl, ⟨m, rfl⟩⟩))
      all_goals go_wp2_with (fail)
      all_goals (go_roundg k9; (case measure => have h_ := HI2.out; clear q2; omega); (case rel => exact ⟨i + 1, rfl, ⟨HI2.out.1, HI2.out.2.1⟩, H7⟩))
    · have hl2 : decide ((i : Int) < (n : Int)) = false := decide_eq_false (by omega)
      obtain rfl : i = n := by omega
      rw [List.take_of_length_le (by rw [elsR_len]; exact Nat.le_refl _)] at HO
      clear hi1 hi2 hn hlt
      go_wp2_with (fail)
      go_ret
      exact ⟨_, rfl, HO.out.ow, HO.out.bl⟩
end Go.Proofs.Ytekjkookkjjbcaa.RX
