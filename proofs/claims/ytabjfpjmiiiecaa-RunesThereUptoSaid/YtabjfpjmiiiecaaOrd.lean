/- The reference's order (walked by hand): the places of the wide runes, by number and from the left. -/
import Derived.Test.YtabjfpjmiiiecaaD4
import Derived.Test.YtabjfpjmiiiecaaBase
import Derived.Test.YtabjfpjmiiiecaaRunC
import Derived.Deep.RegionLaw
namespace Go.Proofs.Ytabjfpjmiiiecaa.OR
set_option linter.unusedVariables false
set_option linter.unusedSimpArgs false
set_option linter.unusedVariables false
set_option linter.unusedSimpArgs false
open Go.RowKit Go.Proofs.YtabjfpjmiiiecaaW.PrintWords Go.Proofs.YtabjfpjmiiiecaaW.PrintLast Go.Proofs.YtabjfpjmiiiecaaW.PrintMore Go.Proofs.Ytabjfpjmiiiecaa.B Go.Proofs.Ytabjfpjmiiiecaa.M Go.Proofs.Ytabjfpjmiiiecaa.D Go.Proofs.Ytabjfpjmiiiecaa.CL
/-- Where the place of a rune r goes, sought from the end. -/
def posV (l out : List Int) (r : Int) : Nat → Nat
  | 0 => 0
  | p + 1 => if rd l (out.getD p 0) > r then posV l out r p else p + 1
def insA (out : List Int) (p : Nat) (x : Int) : List Int := out.take p ++ ([x] ++ out.drop p)
def ordN (l : List Int) : Nat → List Int
  | 0 => []
  | i + 1 => if l.getD i 0 < 128 then ordN l i else insA (ordN l i) (posV l (ordN l i) (l.getD i 0) (ordN l i).length) (i : Int)
theorem insA_len (out : List Int) (p : Nat) (x : Int) : (insA out p x).length = out.length + 1 := by
  unfold insA
  rw [List.length_append, List.length_append, List.length_take, List.length_drop]
  simp
  omega
theorem ordN_len (l : List Int) : ∀ i, (ordN l i).length ≤ i
  | 0 => Nat.le_refl _
  | i + 1 => by
    have := ordN_len l i
    rw [ordN]
    split
    · omega
    · rw [insA_len]; omega
theorem ordN_in (l : List Int) : ∀ i, ∀ x ∈ ordN l i, 0 ≤ x ∧ x < (i : Int)
  | 0, x, hx => by cases hx
  | i + 1, x, hx => by
    have ih := ordN_in l i
    rw [ordN] at hx
    split at hx
    · have := ih x hx; omega
    · unfold insA at hx
      rcases List.mem_append.1 hx with hx | hx
      · have := ih x (List.mem_of_mem_take hx); omega
      · rcases List.mem_append.1 hx with hx | hx
        · simp at hx; omega
        · have := ih x (List.mem_of_mem_drop hx); omega
theorem posV_le (l out : List Int) (r : Int) : ∀ p, posV l out r p ≤ p
  | 0 => Nat.le_refl _
  | p + 1 => by
    have := posV_le l out r p
    rw [posV]
    split <;> omega
abbrev OwnI (w W : World) (v : Value) (xs : List Int) : Prop := Kd.R (Kd.int .i64) 3 W w.heap.size (fun _ => True) v xs
theorem own_past {w W W1 : World} {v : Value} {xs : List Int} {row : Option Nat} (h : OwnI w W v xs) (hg : W.grownBy W1 row) (hne : ∀ j, v.ownBlock = some j → some j ≠ row) : OwnI w W1 v xs :=
  Kd.R_mono (Kd.R_grown (Kd.R_tight rfl h) hg (fun k hk => hne k hk.symm)) (fun _ _ => trivial)
structure OI (w W : World) (v : Value) (xs : List Int) : Prop where
  ow : OwnI w W v xs
  bl : Below w.heap.size w W
theorem OI.below {w W W' : World} {v : Value} {xs : List Int} (h : OI w W v xs) (hb : Below W.heap.size W W') : OI w W' v xs := ⟨Kd.R_below h.ow hb, below_step h.bl hb⟩
theorem OI.drew {w W : World} {v : Value} {xs : List Int} (h : OI w W v xs) : OI w W.drew v xs := ⟨h.ow, h.bl.drew⟩
theorem OI.lit {w W : World} {v : Value} {xs : List Int} (h : OI w W v xs) (o : Obj) : OI w ((W.alloc o).drew) v xs := OI.drew ⟨Kd.R_below h.ow (below_alloc (Below.refl _ _) o), below_step h.bl (below_alloc (Below.refl _ _) o)⟩
theorem lit_own (W : World) (x : Int) : Kd.R (Kd.int .i64) 3 ((W.alloc (.cells #[.int .i64 x] 3 (0, 0))).drew) W.heap.size (fun _ => True) (.slice (some ⟨W.heap.size, 0, none⟩) 1 1) [x] := by
  refine Kd.R_of_own ⟨rfl, .inr ⟨W.heap.size, 1, #[.int .i64 x], rfl, Nat.le_refl _, heap_alloc_new W _, Nat.le_refl 1, by decide, rfl, rfl⟩⟩ (fun _ _ => trivial)
theorem lit_far {w W : World} {v : Value} {xs : List Int} (h : OwnI w W v xs) : ∀ j, v.ownBlock = some j → some j ≠ (Value.slice (some ⟨W.heap.size, 0, none⟩) 1 1).ownBlock := by
  intro j hj e
  have := Kd.R_lt h j hj
  simp [Value.ownBlock] at e
  omega
theorem drop_reads {w W : World} {A : Option Addr} {c m : Nat} {out : List Int} (h : OwnI w W (.slice A out.length c) out) (hm : m ≤ out.length) (hc : out.length ≤ c) : Kd.C (Kd.int .i64) W (if c = m then A else Option.map (fun x => x.add m) A) (out.length - m) (out.drop m) := by
  have h_ := Kd.C_drop (Kd.R_reads' h).2.2 hm hc
  rw [show (Kd.int .i64).sz = 1 from rfl, Nat.mul_one, List.length_drop] at h_
  exact h_
theorem len6 (out : List Int) (m : Nat) (x : Int) : ([x] ++ out.drop m).length = out.length - m + 1 := by rw [List.length_append, List.length_drop]; simp; omega
theorem lit_ne {w W : World} {v v5 : Value} {xs : List Int} (h : OwnI w W v xs) (hn : ∃ b, v5.ownBlock = some b ∧ W.heap.size ≤ b) : ∀ j, v.ownBlock = some j → some j ≠ v5.ownBlock := by
  intro j hj e
  obtain ⟨b, hb, hb2⟩ := hn
  have := Kd.R_lt h j hj
  rw [hb] at e
  injection e with e
  omega
theorem app_len1 (out l : List Int) (i m : Nat) (h1 : out.length ≤ i) (h2 : i ≤ l.length) (h3 : l.length ≤ 8796093022208) : ([(i : Int)].length + (out.drop m).length) * 8 ≤ 140737488355328 := by
  rw [List.length_drop]; simp; omega
theorem app_len2 (out l : List Int) (i m : Nat) (h1 : out.length ≤ i) (h2 : i ≤ l.length) (h3 : l.length ≤ 8796093022208) : ((out.take m).length + ([(i : Int)] ++ out.drop m).length) * 8 ≤ 140737488355328 := by
  rw [List.length_append, List.length_take, List.length_drop]; simp; omega
set_option maxHeartbeats 8000000 in
set_option maxRecDepth 100000 in
theorem order_calls (A0 : Option Addr) (c0 : Nat) (l : List Int) (w : World) (hr0 : Kd.C (Kd.int .i32) w A0 l.length l) (hc0 : l.length ≤ c0) (hl : l.length ≤ 8796093022208) :
    Calls Try.prog 51 #[.slice A0 l.length c0] w fun e w' => ∃ v0_ : Value, e = .returned v0_ ∧ Kd.R (Kd.int .i64) 3 w' w.heap.size (fun _ => True) v0_ (ordN l l.length) ∧ Below w.heap.size w w' := by
  have HR := Aside0.mk hr0
  have HL := Aside0.mk hl
  have H0 : Aside0 (OI w w (.slice none 0 0) []) := ⟨⟨Kd.R_nil _ _ _ _ _, Below.refl _ _⟩⟩
  clear hr0 hc0 hl
  go_enter Try.func51, Try.ntmps51
  go_wp2_with (fail)
  go_loopg [3, 9] l.length (fun kq v3 v9 W => ∃ i : Nat, v9 = .int .i64 (i : Int) ∧ Aside0 (i ≤ l.length ∧ l.length - i ≤ kq) ∧ Aside0 (OI w W v3 (ordN l i)))
  case atStart => exact ⟨0, rfl, ⟨by omega, by omega⟩, H0⟩
  case round =>
    obtain ⟨i, rfl, HI, HU⟩ := hrel
    obtain ⟨hi1, hi2⟩ := HI.out
    have hL := HL.out
    by_cases hlt : i < l.length
    · cases gk with
      | zero => omega
      | succ k9 =>
      have hl2 : decide ((i : Int) < (l.length : Int)) = true := decide_eq_true (by omega)
      obtain ⟨ad0, e0, hx0⟩ := Kd.at_int (Kd.C_below HR.out HU.out.bl) (i : Int) (by omega) (by omega)
      subst e0
      have hrd : rd l (i : Int) = l[i] := by unfold rd; simp [List.getD_eq_getElem?_getD, hlt]
      have hgd : l.getD i 0 = l[i] := by rw [List.getD_eq_getElem?_getD, List.getElem?_eq_getElem hlt]; rfl
      rw [hrd] at hx0
      simp only [Int.toNat_natCast] at hx0
      have HO1 : Aside0 (ordN l (i + 1) = if l[i] < 128 then ordN l i else insA (ordN l i) (posV l (ordN l i) l[i] (ordN l i).length) (i : Int)) := ⟨by rw [ordN, hgd]⟩
      have hin := ordN_in l i
      have hlen := ordN_len l i
      generalize l[i] = r at *
      generalize ordN l i = out at *
      obtain ⟨A3, c3, rfl⟩ := Kd.R_slice HU.out.ow
      have p1 := eq_true (show (0 : Int) ≤ (i : Int) by omega)
      have p2 := eq_true (show (i : Int) < (l.length : Int) by omega)
      have q2 : IntKind.i64.wrap ((i : Int) + 1) = ((i + 1 : Nat) : Int) := by rw [i64_w, wrap_id _ (by omega) (by omega)]; rfl
      by_cases hr : r < 128
      · have d1 : decide (r < 128) = true := decide_eq_true hr
        have HO2 : Aside0 (ordN l (i + 1) = out) := ⟨by rw [HO1.out, if_pos hr]⟩
        clear hi1 hi2 hin hlen
        go_wp2_with (fail)
        go_roundg k9
        case measure => have h_ := HI.out; clear q2; omega
        case rel => have h_ := HI.out; clear q2; exact ⟨i + 1, rfl, ⟨by omega, by omega⟩, by rw [HO2.out]; exact HU⟩
      · have d1 : decide (r < 128) = false := decide_eq_false hr
        have HO2 : Aside0 (ordN l (i + 1) = insA out (posV l out r out.length) (i : Int)) := ⟨by rw [HO1.out, if_neg hr]⟩
        have HIN := Aside0.mk hin
        have HLEN := Aside0.mk hlen
        clear hi1 hi2 hin hlen HO1
        go_wp2_with (fail)
        go_loopg [6] out.length (fun kq v6 W => ∃ (p : Int) (n : Nat), v6 = .int .i64 p ∧ Aside0 (p = (n : Int) ∧ n ≤ out.length ∧ n ≤ kq ∧ posV l out r n = posV l out r out.length) ∧ Aside0 (OI w W (.slice A3 out.length c3) out))
        case atStart => exact ⟨_, out.length, rfl, ⟨rfl, Nat.le_refl _, Nat.le_refl _, rfl⟩, HU⟩
        case round =>
          clear HU
          obtain ⟨p, n, rfl, HN, HU⟩ := hrel
          obtain ⟨hp, hn1, hn2, hn3⟩ := HN.out
          cases n with
          | zero =>
            have d2 : decide (p > 0) = false := decide_eq_false (by omega)
            have d3 : decide (0 < p) = false := decide_eq_false (by omega)
            have HP2 := Aside0.mk (show p = (0 : Nat) ∧ 0 ≤ out.length ∧ posV l out r out.length = 0 from ⟨hp, Nat.zero_le _, hn3.symm⟩)
            obtain ⟨m, hm⟩ : ∃ m, 0 = m := ⟨0, rfl⟩
            rw [hm] at HP2
            clear hp hn1 hn2 hn3 hm
            go_wp2_with (fail)
            clear d2 d3
            (obtain ⟨hp2, hm2, hpv⟩ := HP2.out; subst hp2; have hcc := (Kd.R_reads' HU.out.ow).2.1; have HM := Aside0.mk hm2; have HPV := Aside0.mk hpv; have t1 := eq_true (show (0 : Int) ≤ (m : Int) by omega); have t2 := eq_true (show (m : Int) ≤ (out.length : Int) by omega); have t3 := eq_true (show (m : Int) ≤ (c3 : Int) by omega); have t4 := eq_true (show m ≤ out.length from hm2); have t5 := eq_true (show m ≤ c3 by omega); have t6 := eq_true (show out.length ≤ c3 from hcc); have L5 := Aside0.mk (show ([(i : Int)].length + (out.length - m)) * 8 ≤ 140737488355328 by have h_ := app_len1 out l i m HLEN.out HI.out.1 HL.out; rw [List.length_drop] at h_; exact h_); have L6 := Aside0.mk (app_len2 out l i m HLEN.out HI.out.1 HL.out); have C5 := Aside0.mk (fun {W : World} (h : OwnI w W (.slice A3 out.length c3) out) => drop_reads h hm2 hcc); clear hm2 hpv hcc HP2; go_region_law (first | (refine Kd.R_append_rows_step (Kd.int .i64) (w0 := w) w.heap.size (by kernel_rfl) (.tmp 38) (.tmp 41) 66 3 (.int .i64 0) 8 rfl Try.underlying66 infoC3 rfl (by decide) (by omega) (.slice (some ⟨wr.heap.size, 0, none⟩) 1 1) [(i : Int)] (out.drop m) (if c3 = m then A3 else Option.map (fun x => x.add m) A3) (out.length - m) (c3 - m) (fun _ => True) (fun _ => False) (by kernel_rfl) (by kernel_rfl) ?aO ?aR (fun _ _ h => h) (fun _ h => h.elim) ?aF ?aB ?aS ?aL ?_; (case aR => exact C5.out (HU.out.lit _).ow); (case aB => exact (HU.out.lit _).bl); (case aF => exact (fun _ _ => trivial)); (case aO => exact Kd.R_lower (lit_own _ (i : Int)) (below_size HU.out.bl)); (case aS => exact (below_size (HU.out.lit _).bl)); (case aL => exact L5.out); intro v6 w6 ho6 hb6 hg6 hat6; have H6 := Aside0.mk (show OwnI w w6 v6 ([(i : Int)] ++ out.drop m) from ho6); have n0 := Aside0.mk (show OI w w6 (.slice A3 out.length c3) out from ⟨own_past (HU.out.lit _).ow hg6 (lit_far HU.out.ow), hb6⟩); clear HU ho6 hb6 hg6 hat6; have HU := n0; clear n0; obtain ⟨A6, c6, rfl⟩ := Kd.R_slice H6.out) | (refine Kd.R_append_rows_step (Kd.int .i64) (w0 := w) w.heap.size (by kernel_rfl) (.tmp 36) (.tmp 42) 66 3 (.int .i64 0) 8 rfl Try.underlying66 infoC3 rfl (by decide) (by omega) (.slice A3 m c3) (out.take m) ([(i : Int)] ++ out.drop m) A6 (out.length - m + 1) c6 (fun _ => True) (fun _ => False) (by kernel_rfl) (by kernel_rfl) ?aO ?aR (fun _ _ h => h) (fun _ h => h.elim) ?aF ?aB ?aS ?aL ?_; (case aR => exact (len6 out m (i : Int)) ▸ (Kd.R_reads' H6.out).2.2); (case aB => exact HU.out.bl); (case aF => exact (fun _ _ => trivial)); (case aO => exact Kd.R_take HU.out.ow HM.out); (case aS => exact (below_size HU.out.bl)); (case aL => exact (len6 out m (i : Int)) ▸ L6.out); intro v7 w7 ho7 hb7 hg7 hat7; have H7 := Aside0.mk (show OI w w7 v7 (insA out m (i : Int)) from ⟨ho7, hb7⟩); clear HU H6 ho7 hb7 hg7 hat7)); all_goals ((try simp only [Act.put, List.getElem_toArray, List.getElem_cons_succ, List.getElem_cons_zero, List.setIfInBounds_toArray, List.set_cons_succ, List.set_cons_zero]); clear t1 t2 t3 t4 t5 t6; go_wp2_with (fail); all_goals (go_roundg k9; (case measure => have h_ := HI.out; clear q2; omega); (case rel => have h_ := HI.out; clear q2; exact ⟨i + 1, rfl, ⟨by omega, by omega⟩, by rw [HO2.out, HPV.out]; exact H7⟩))))
          | succ n =>
            cases gk with
            | zero => omega
            | succ k8 =>
            have d2 : decide (p > 0) = true := decide_eq_true (by omega)
            have d3 : decide (0 < p) = true := decide_eq_true (by omega)
            have q3 : IntKind.i64.wrap (p - 1) = (n : Int) := by have h_ := HLEN.out; clear q2; rw [i64_w, wrap_id _ (by omega) (by omega)]; omega
            obtain ⟨ad3, e3, hx3⟩ := Kd.at_int (Kd.R_reads' HU.out.ow).2.2 (n : Int) (by omega) (by omega)
            subst e3
            have hlt3 : n < out.length := by omega
            have hrd3 : rd out (n : Int) = out[n] := by unfold rd; simp [List.getD_eq_getElem?_getD, hlt3]
            have hgd3 : out.getD n 0 = out[n] := by rw [List.getD_eq_getElem?_getD, List.getElem?_eq_getElem hlt3]; rfl
            have hin3 := HIN.out out[n] (List.getElem_mem hlt3)
            rw [hrd3] at hx3
            simp only [Int.toNat_natCast] at hx3
            rw [posV, hgd3] at hn3
            generalize out[n] = y at *
            obtain ⟨ad4, e4, hx4⟩ := Kd.at_int (Kd.C_below HR.out HU.out.bl) y (by omega) (by omega)
            cases e4
            have r1 := eq_true (show (0 : Int) ≤ (n : Int) by omega)
            have r2 := eq_true (show (n : Int) < (out.length : Int) by omega)
            have r3 := eq_true (show (0 : Int) ≤ y by omega)
            have r4 := eq_true (show y < (l.length : Int) by omega)
            generalize rd l y = z at *
            by_cases hz : z > r
            · have d4 : decide (z > r) = true := decide_eq_true hz
              have d5 : decide (r < z) = true := decide_eq_true hz
              rw [if_pos hz] at hn3
              have HN2 := Aside0.mk (show n ≤ out.length ∧ n ≤ k8 ∧ posV l out r n = posV l out r out.length from ⟨by omega, by omega, hn3⟩)
              clear hp hn1 hn2 hn3 hz
              go_wp2_with (fail)
              go_roundg k8
              case measure => omega
              case rel => exact ⟨_, n, rfl, ⟨rfl, HN2.out⟩, HU⟩
            · have d4 : decide (z > r) = false := decide_eq_false hz
              have d5 : decide (r < z) = false := decide_eq_false hz
              rw [if_neg hz] at hn3
              have HP2 := Aside0.mk (show p = ((n + 1 : Nat) : Int) ∧ n + 1 ≤ out.length ∧ posV l out r out.length = n + 1 from ⟨hp, hn1, hn3.symm⟩)
              obtain ⟨m, hm⟩ : ∃ m, n + 1 = m := ⟨_, rfl⟩
              rw [hm] at HP2
              clear hp hn1 hn2 hn3 hm hz
              go_wp2_with (fail)
              clear hx3 hx4 r1 r2 r3 r4 q3 d2 d3 d4 d5
              generalize some ad3 = A3 at *
              (obtain ⟨hp2, hm2, hpv⟩ := HP2.out; subst hp2; have hcc := (Kd.R_reads' HU.out.ow).2.1; have HM := Aside0.mk hm2; have HPV := Aside0.mk hpv; have t1 := eq_true (show (0 : Int) ≤ (m : Int) by omega); have t2 := eq_true (show (m : Int) ≤ (out.length : Int) by omega); have t3 := eq_true (show (m : Int) ≤ (c3 : Int) by omega); have t4 := eq_true (show m ≤ out.length from hm2); have t5 := eq_true (show m ≤ c3 by omega); have t6 := eq_true (show out.length ≤ c3 from hcc); have L5 := Aside0.mk (show ([(i : Int)].length + (out.length - m)) * 8 ≤ 140737488355328 by have h_ := app_len1 out l i m HLEN.out HI.out.1 HL.out; rw [List.length_drop] at h_; exact h_); have L6 := Aside0.mk (app_len2 out l i m HLEN.out HI.out.1 HL.out); have C5 := Aside0.mk (fun {W : World} (h : OwnI w W (.slice A3 out.length c3) out) => drop_reads h hm2 hcc); clear hm2 hpv hcc HP2; go_region_law (first | (refine Kd.R_append_rows_step (Kd.int .i64) (w0 := w) w.heap.size (by kernel_rfl) (.tmp 38) (.tmp 41) 66 3 (.int .i64 0) 8 rfl Try.underlying66 infoC3 rfl (by decide) (by omega) (.slice (some ⟨wr.heap.size, 0, none⟩) 1 1) [(i : Int)] (out.drop m) (if c3 = m then A3 else Option.map (fun x => x.add m) A3) (out.length - m) (c3 - m) (fun _ => True) (fun _ => False) (by kernel_rfl) (by kernel_rfl) ?aO ?aR (fun _ _ h => h) (fun _ h => h.elim) ?aF ?aB ?aS ?aL ?_; (case aR => exact C5.out (HU.out.lit _).ow); (case aB => exact (HU.out.lit _).bl); (case aF => exact (fun _ _ => trivial)); (case aO => exact Kd.R_lower (lit_own _ (i : Int)) (below_size HU.out.bl)); (case aS => exact (below_size (HU.out.lit _).bl)); (case aL => exact L5.out); intro v6 w6 ho6 hb6 hg6 hat6; have H6 := Aside0.mk (show OwnI w w6 v6 ([(i : Int)] ++ out.drop m) from ho6); have n0 := Aside0.mk (show OI w w6 (.slice A3 out.length c3) out from ⟨own_past (HU.out.lit _).ow hg6 (lit_far HU.out.ow), hb6⟩); clear HU ho6 hb6 hg6 hat6; have HU := n0; clear n0; obtain ⟨A6, c6, rfl⟩ := Kd.R_slice H6.out) | (refine Kd.R_append_rows_step (Kd.int .i64) (w0 := w) w.heap.size (by kernel_rfl) (.tmp 36) (.tmp 42) 66 3 (.int .i64 0) 8 rfl Try.underlying66 infoC3 rfl (by decide) (by omega) (.slice A3 m c3) (out.take m) ([(i : Int)] ++ out.drop m) A6 (out.length - m + 1) c6 (fun _ => True) (fun _ => False) (by kernel_rfl) (by kernel_rfl) ?aO ?aR (fun _ _ h => h) (fun _ h => h.elim) ?aF ?aB ?aS ?aL ?_; (case aR => exact (len6 out m (i : Int)) ▸ (Kd.R_reads' H6.out).2.2); (case aB => exact HU.out.bl); (case aF => exact (fun _ _ => trivial)); (case aO => exact Kd.R_take HU.out.ow HM.out); (case aS => exact (below_size HU.out.bl)); (case aL => exact (len6 out m (i : Int)) ▸ L6.out); intro v7 w7 ho7 hb7 hg7 hat7; have H7 := Aside0.mk (show OI w w7 v7 (insA out m (i : Int)) from ⟨ho7, hb7⟩); clear HU H6 ho7 hb7 hg7 hat7)); all_goals ((try simp only [Act.put, List.getElem_toArray, List.getElem_cons_succ, List.getElem_cons_zero, List.setIfInBounds_toArray, List.set_cons_succ, List.set_cons_zero]); clear t1 t2 t3 t4 t5 t6; go_wp2_with (fail); all_goals (go_roundg k9; (case measure => have h_ := HI.out; clear q2; omega); (case rel => have h_ := HI.out; clear q2; exact ⟨i + 1, rfl, ⟨by omega, by omega⟩, by rw [HO2.out, HPV.out]; exact H7⟩))))
    · have hl2 : decide ((i : Int) < (l.length : Int)) = false := decide_eq_false (by omega)
      obtain rfl : i = l.length := by omega
      clear hi1 hi2
      go_wp2_with (fail)
      go_ret
      exact ⟨_, rfl, HU.out.ow, HU.out.bl⟩
def posthornref05_order.f (l0 : List Int) : Option (List Int) := if l0.length ≤ 8796093022208 then some (ordN l0 l0.length) else none
theorem posthornref05_order.calls (A0 : Option Addr) (c0 : Nat) (l0 : List Int) (r : List Int) (w : World) (hr0 : Kd.C (Kd.int .i32) w A0 l0.length l0) (hc0 : l0.length ≤ c0) (h : posthornref05_order.f l0 = some r) :
    Calls Try.prog 51 #[.slice A0 l0.length c0] w fun e w' => ∃ v0_ : Value, e = .returned v0_ ∧ Kd.R (Kd.int .i64) 3 w' w.heap.size (fun _ => True) v0_ r ∧ Below w.heap.size w w' := by
  unfold posthornref05_order.f at h
  split at h
  · rename_i hl
    obtain rfl := Option.some.inj h
    exact order_calls A0 c0 l0 w hr0 hc0 hl
  · cases h
end Go.Proofs.Ytabjfpjmiiiecaa.OR
