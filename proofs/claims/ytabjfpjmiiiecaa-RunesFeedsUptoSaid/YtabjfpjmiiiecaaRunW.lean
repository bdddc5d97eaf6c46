/- What each statement of law.go asks last (walked by hand): a few answers that the document names. -/
import Derived.Test.YtabjfpjmiiiecaaUnpE
import Derived.Test.YtabjfpjmiiiecaaDecM
import Derived.Test.YtabjfpjmiiiecaaChkr
import Derived.Test.YtabjfpjmiiiecaaD4
import Derived.Test.YtabjfpjmiiiecaaD2
import Derived.Test.YtabjfpjmiiiecaaD3
namespace Go.Proofs.Ytabjfpjmiiiecaa.WK
set_option linter.unusedVariables false
set_option linter.unusedSimpArgs false
open Go.RowKit Go.Proofs.YtabjfpjmiiiecaaW.PrintWords Go.Proofs.YtabjfpjmiiiecaaW.PrintLast Go.Proofs.YtabjfpjmiiiecaaW.PrintMore Go.Proofs.Ytabjfpjmiiiecaa.B Go.Proofs.Ytabjfpjmiiiecaa.M Go.Proofs.Ytabjfpjmiiiecaa.D Go.Proofs.Ytabjfpjmiiiecaa.CK Go.Proofs.Ytabjfpjmiiiecaa.MN

def posthornlaw05_wakes.f : Option Bool := some true
abbrev tA : ByteArray := ⟨#[97, 195, 169]⟩
abbrev tN : ByteArray := ⟨#[110, 51, 104]⟩
abbrev tE : ByteArray := ⟨#[97, 226, 130, 172]⟩
abbrev tP : ByteArray := ⟨#[98, 99, 104, 101, 114, 45, 107, 118, 97]⟩
theorem C_lit {k : IntKind} {w : World} {g : Nat} {t : TypeId} {xs : List Int} {cs : Array Value} {fr : Nat × Nat} (h : w.heap[g]? = some (.cells cs t fr)) (hs : xs.length ≤ 9223372036854775807) (hcs : cs.toList = nums k xs) : (Kd.int k).C w (some ⟨g, 0, none⟩) xs.length xs := by
  refine Kd.C_of_reads (d := (0 : Int)) (h1 := fun _ => rfl) ⟨rfl, hs, fun _ => ⟨_, rfl, fun j hj => ?_⟩⟩
  have ha : (⟨g, 0, none⟩ : Addr).add j = ⟨g, j, none⟩ := by unfold Addr.add; split <;> simp_all
  rw [ha, cell_of_row w g j cs t fr h]
  rw [← Array.getElem?_toList, hcs]
  simp [nums, List.getD_eq_getElem?_getD, List.getElem?_eq_getElem hj]
theorem lit2 (W : World) (a b : Addr) (u v : Value) (c : Obj) : (((W.setCell a u).setCell b v).alloc c).heap[W.heap.size]? = some c := by
  have h := heap_alloc_new ((W.setCell a u).setCell b v) c
  have e : ((W.setCell a u).setCell b v).heap.size = W.heap.size := by simp
  rw [e] at h
  exact h
abbrev Bx (g : Nat) (W : World) : Prop := W.heap[g]? = some (.cells #[.int .i64 0, .int .i64 0] 33 (0, 0))
/-- What stands from New on: the checker, the two lists, the three spots. -/
structure WS (w W : World) (g gX gY gZ : Nat) (P1 P4 : Option Addr) (b : Bool) (n l h : Int) : Prop where
  bl : Below w.heap.size w W
  ic : IsC w W g true b n l h
  c1 : Kd.C (Kd.int .i32) W P1 2 [97, 233]
  c4 : Kd.C (Kd.int .i32) W P4 1 [9731]
  n1 : ∀ ad, P1 = some ad → 0 < 2 → ad.block ≠ g
  n4 : ∀ ad, P4 = some ad → 0 < 1 → ad.block ≠ g
  bx : Bx gX W
  bY : Bx gY W
  bz : Bx gZ W
  nx : gX ≠ g
  ny : gY ≠ g
  nz : gZ ≠ g
section
variable {w W W' : World} {g gX gY gZ : Nat} {P1 P4 : Option Addr} {b b' : Bool} {n l h n' l' h' : Int}
theorem WS.step (H : WS w W g gX gY gZ P1 P4 b n l h) (hb : Below W.heap.size W W') : WS w W' g gX gY gZ P1 P4 b n l h :=
  ⟨below_step H.bl hb, H.ic.below hb, Kd.C_below H.c1 hb, Kd.C_below H.c4 hb, H.n1, H.n4, blk_below H.bx hb, blk_below H.bY hb, blk_below H.bz hb, H.nx, H.ny, H.nz⟩
theorem WS.far (H : WS w W g gX gY gZ P1 P4 b n l h) : W.heap.size ≠ g := by
  have h0 := H.ic
  unfold IsC at h0
  exact Nat.ne_of_gt (blk_lt h0.1)
theorem WS.fed (H : WS w W g gX gY gZ P1 P4 b n l h) (k : CK w W g b' n' l' h' W') : WS w W' g gX gY gZ P1 P4 b' n' l' h' :=
  ⟨k.bl, k.st, Kd.C_keep (0 : Int) H.c1 k.kp H.n1, Kd.C_keep (0 : Int) H.c4 k.kp H.n4, H.n1, H.n4, k.kp.blk H.bx H.nx (by simp), k.kp.blk H.bY H.ny (by simp), k.kp.blk H.bz H.nz (by simp), H.nx, H.ny, H.nz⟩
theorem WS.lit (H : WS w W g gX gY gZ P1 P4 b n l h) (c : Obj) : WS w (W.alloc c) g gX gY gZ P1 P4 b n l h := H.step (below_alloc (Below.refl _ _) c)
theorem far_of_C {W : World} {A : Option Addr} {n g : Nat} {xs : List Int} (h : Kd.C (Kd.int .i32) W A n xs) (h0 : 0 < n) (hg : W.heap.size ≤ g) : ∀ ad, A = some ad → 0 < n → ad.block ≠ g := by
  intro ad ha _
  obtain ⟨ad', e, hx⟩ := Kd.at_int h 0 (by omega) (by omega)
  rw [ha] at e
  cases e
  have h1 := World.block_lt_of_cell? W _ hx
  rw [add_block] at h1
  omega
theorem WS.first (hb0 : Below w.heap.size w W) (o1 : Kd.C (Kd.int .i32) W P1 2 [97, 233]) (o4 : Kd.C (Kd.int .i32) W P4 1 [9731]) (bx : Bx gX W) (bY : Bx gY W) (bz : Bx gZ W) (hi : IsC W W' g true false 0 0 0) (hb : Below W.heap.size W W') : WS w W' g gX gY gZ P1 P4 false 0 0 0 :=
  ⟨below_step hb0 hb, ⟨hi.1, Nat.le_trans (below_size hb0) hi.2⟩, Kd.C_below o1 hb, Kd.C_below o4 hb, far_of_C o1 (by decide) hi.2, far_of_C o4 (by decide) hi.2, blk_below bx hb, blk_below bY hb, blk_below bz hb, Nat.ne_of_lt (Nat.lt_of_lt_of_le (blk_lt bx) hi.2), Nat.ne_of_lt (Nat.lt_of_lt_of_le (blk_lt bY) hi.2), Nat.ne_of_lt (Nat.lt_of_lt_of_le (blk_lt bz) hi.2)⟩
end
set_option maxHeartbeats 4000000 in
set_option maxRecDepth 100000 in
theorem wakes_calls (w : World) :
    Calls Try.prog 12 #[] w fun e w' => e = .returned (.bool true) ∧ Below w.heap.size w w' := by
  have A1 : Aside0 (runes_Decode.f tA = some ([97, 233], 0, 0)) := ⟨by decide +kernel⟩
  have A2 : Aside0 (runes_Encode.f 6 [97, 8364] = some (tE, 0, 0)) := ⟨by decide +kernel⟩
  have A3 : Aside0 (runes_Puny.f 60 [98, 252, 99, 104, 101, 114] = some (tP, 0)) := ⟨by decide +kernel⟩
  have A4 : Aside0 (runes_Unpuny.f tN = some ([9731], 0, 0)) := ⟨by decide +kernel⟩
  have A5 : Aside0 (feedV [226] (false, 0, 0, 0) = (false, 2, 128, 191)) := ⟨by decide +kernel⟩
  have A6 : Aside0 (feedV [130, 172] (false, 2, 128, 191) = (false, 0, 128, 191)) := ⟨by decide +kernel⟩
  have A7 : Aside0 (feedV [128] (false, 0, 128, 191) = (true, 0, 128, 191)) := ⟨by decide +kernel⟩
  have A8 : Aside0 (slices_Equal_rune_rune.f 4 [97, 233] [97, 233] = some true) := ⟨by decide +kernel⟩
  have A9 : Aside0 (slices_Equal_rune_rune.f 4 [9731] [9731] = some true) := ⟨by decide +kernel⟩
  have HB := Aside0.mk (Below.refl w.heap.size w)
  go_enter Try.func12, Try.ntmps12
  go_wp2_with (first
    | ((go_at_call 20); (with_reducible refine (runes_Decode.calls tA [97, 233] 0 0 _ A1.out).mono ?_); rintro e w1 ⟨v1, rfl, ho1, hb⟩; (try (have n_ := Aside0.mk (below_step HB.out hb); clear HB; have HB := n_; clear n_)); (try (have n_ := Aside0.mk (Kd.R_below O1.out hb); clear O1; have O1 := n_; clear n_)); (try (have n_ := Aside0.mk (Kd.R_below O4.out hb); clear O4; have O4 := n_; clear n_)); (try (have n_ := Aside0.mk (blk_below BX.out hb); clear BX; have BX := n_; clear n_)); (try (have n_ := Aside0.mk (blk_below BY.out hb); clear BY; have BY := n_; clear n_)); (try (have n_ := Aside0.mk (blk_below BZ.out hb); clear BZ; have BZ := n_; clear n_)); obtain ⟨P1, c1, rfl⟩ := Kd.R_slice ho1; have O1 := Aside0.mk ho1; clear hb ho1)
    | ((with_reducible refine gate_dst (N := 2) rfl ?_); (try (refine gate_guard (by rfl) ?_; dsimp only)); refine box_event ?hg (N := 2) ?hd (cs := #[.int .i64 0, .int .i64 0]) (t := 33) ?hr ?_; (case hd => rfl); (case hg => rfl); (case hr => first | (go_simp; done) | (go_simp; rfl)); intro gX hgX wX hbox hb0; have hb := (((below_step (by repeat (first | (with_reducible first | exact Below.refl _ _ | apply below_alloc | apply pw_below_drewN | apply below_drew1))) hb0).setCell (p := ⟨gX, 0, none⟩) (by rw [hgX]; exact below_size (by repeat (first | (with_reducible first | exact Below.refl _ _ | apply below_alloc | apply pw_below_drewN | apply below_drew1)))) (.int .i64 0)).setCell (p := ⟨gX, 1, none⟩) (by rw [hgX]; exact below_size (by repeat (first | (with_reducible first | exact Below.refl _ _ | apply below_alloc | apply pw_below_drewN | apply below_drew1)))) (.int .i64 0)); have hc0X : wX.cell? ⟨gX, 0, none⟩ = some (.int .i64 0) := blk_cell hbox 0; have hf0X := blk_frozen hbox 0; have hc1X : wX.cell? ⟨gX, 1, none⟩ = some (.int .i64 0) := blk_cell hbox 1; have hf1X := blk_frozen hbox 1; (try (have n_ := Aside0.mk (below_step HB.out hb); clear HB; have HB := n_; clear n_)); (try (have n_ := Aside0.mk (Kd.R_below O1.out hb); clear O1; have O1 := n_; clear n_)); (try (have n_ := Aside0.mk (Kd.R_below O4.out hb); clear O4; have O4 := n_; clear n_)); (try (have n_ := Aside0.mk (blk_below BX.out hb); clear BX; have BX := n_; clear n_)); (try (have n_ := Aside0.mk (blk_below BY.out hb); clear BY; have BY := n_; clear n_)); (try (have n_ := Aside0.mk (blk_below BZ.out hb); clear BZ; have BZ := n_; clear n_)); have BX := Aside0.mk (blk_put (blk_put hbox 0 (.int .i64 0) rfl) 1 (.int .i64 0) rfl); clear hbox hb hb0 hgX)
    | ((go_at_call 27); refine (calls_of_args (args' := #[.slice (some ⟨wX.heap.size, 0, none⟩) ([97, 8364] : List Int).length 2]) rfl ?_); (with_reducible refine (runes_Encode.calls 6 (some ⟨wX.heap.size, 0, none⟩) 2 [97, 8364] tE 0 0 _ (C_lit (lit2 wX ⟨gX, 0, none⟩ ⟨gX, 1, none⟩ (.int .i64 0) (.int .i64 0) (.cells #[.int .i32 97, .int .i32 8364] 21 _)) (by decide) rfl) (by decide) A2.out).mono ?_); rintro e w2 ⟨rfl, hb0⟩; have hb := below_step (below_alloc (Below.refl ((wX.setCell ⟨gX, 0, none⟩ (.int .i64 0)).setCell ⟨gX, 1, none⟩ (.int .i64 0)).heap.size ((wX.setCell ⟨gX, 0, none⟩ (.int .i64 0)).setCell ⟨gX, 1, none⟩ (.int .i64 0))) _) hb0; (try (have n_ := Aside0.mk (below_step HB.out hb); clear HB; have HB := n_; clear n_)); (try (have n_ := Aside0.mk (Kd.R_below O1.out hb); clear O1; have O1 := n_; clear n_)); (try (have n_ := Aside0.mk (Kd.R_below O4.out hb); clear O4; have O4 := n_; clear n_)); (try (have n_ := Aside0.mk (blk_below BX.out hb); clear BX; have BX := n_; clear n_)); (try (have n_ := Aside0.mk (blk_below BY.out hb); clear BY; have BY := n_; clear n_)); (try (have n_ := Aside0.mk (blk_below BZ.out hb); clear BZ; have BZ := n_; clear n_)); clear hb hb0)
    | ((with_reducible refine gate_dst (N := 4) rfl ?_); (try (refine gate_guard (by rfl) ?_; dsimp only)); refine box_event ?hg (N := 4) ?hd (cs := #[.int .i64 0, .int .i64 0]) (t := 33) ?hr ?_; (case hd => rfl); (case hg => rfl); (case hr => first | (go_simp; done) | (go_simp; rfl)); intro gY hgY wY hbox hb0; have hb := (((below_step (by repeat (first | (with_reducible first | exact Below.refl _ _ | apply below_alloc | apply pw_below_drewN | apply below_drew1))) hb0).setCell (p := ⟨gY, 0, none⟩) (by rw [hgY]; exact below_size (by repeat (first | (with_reducible first | exact Below.refl _ _ | apply below_alloc | apply pw_below_drewN | apply below_drew1)))) (.int .i64 0)).setCell (p := ⟨gY, 1, none⟩) (by rw [hgY]; exact below_size (by repeat (first | (with_reducible first | exact Below.refl _ _ | apply below_alloc | apply pw_below_drewN | apply below_drew1)))) (.int .i64 0)); have hc0Y : wY.cell? ⟨gY, 0, none⟩ = some (.int .i64 0) := blk_cell hbox 0; have hf0Y := blk_frozen hbox 0; have hc1Y : wY.cell? ⟨gY, 1, none⟩ = some (.int .i64 0) := blk_cell hbox 1; have hf1Y := blk_frozen hbox 1; (try (have n_ := Aside0.mk (below_step HB.out hb); clear HB; have HB := n_; clear n_)); (try (have n_ := Aside0.mk (Kd.R_below O1.out hb); clear O1; have O1 := n_; clear n_)); (try (have n_ := Aside0.mk (Kd.R_below O4.out hb); clear O4; have O4 := n_; clear n_)); (try (have n_ := Aside0.mk (blk_below BX.out hb); clear BX; have BX := n_; clear n_)); (try (have n_ := Aside0.mk (blk_below BY.out hb); clear BY; have BY := n_; clear n_)); (try (have n_ := Aside0.mk (blk_below BZ.out hb); clear BZ; have BZ := n_; clear n_)); have BY := Aside0.mk (blk_put (blk_put hbox 0 (.int .i64 0) rfl) 1 (.int .i64 0) rfl); clear hbox hb hb0 hgY)
    | ((go_at_call 16); refine (calls_of_args (args' := #[.slice (some ⟨wY.heap.size, 0, none⟩) ([98, 252, 99, 104, 101, 114] : List Int).length 6]) rfl ?_); (with_reducible refine (runes_Puny.calls 60 (some ⟨wY.heap.size, 0, none⟩) 6 [98, 252, 99, 104, 101, 114] tP 0 _ (C_lit (lit2 wY ⟨gY, 0, none⟩ ⟨gY, 1, none⟩ (.int .i64 0) (.int .i64 0) (.cells #[.int .i32 98, .int .i32 252, .int .i32 99, .int .i32 104, .int .i32 101, .int .i32 114] 21 _)) (by decide) rfl) (by decide) A3.out).mono ?_); rintro e w3 ⟨rfl, hb0⟩; have hb := below_step (below_alloc (Below.refl ((wY.setCell ⟨gY, 0, none⟩ (.int .i64 0)).setCell ⟨gY, 1, none⟩ (.int .i64 0)).heap.size ((wY.setCell ⟨gY, 0, none⟩ (.int .i64 0)).setCell ⟨gY, 1, none⟩ (.int .i64 0))) _) hb0; (try (have n_ := Aside0.mk (below_step HB.out hb); clear HB; have HB := n_; clear n_)); (try (have n_ := Aside0.mk (Kd.R_below O1.out hb); clear O1; have O1 := n_; clear n_)); (try (have n_ := Aside0.mk (Kd.R_below O4.out hb); clear O4; have O4 := n_; clear n_)); (try (have n_ := Aside0.mk (blk_below BX.out hb); clear BX; have BX := n_; clear n_)); (try (have n_ := Aside0.mk (blk_below BY.out hb); clear BY; have BY := n_; clear n_)); (try (have n_ := Aside0.mk (blk_below BZ.out hb); clear BZ; have BZ := n_; clear n_)); clear hb hb0)
    | ((go_at_call 15); (with_reducible refine (runes_Unpuny.calls tN [9731] 0 0 _ A4.out).mono ?_); rintro e w4 ⟨v4, rfl, ho4, hb⟩; (try (have n_ := Aside0.mk (below_step HB.out hb); clear HB; have HB := n_; clear n_)); (try (have n_ := Aside0.mk (Kd.R_below O1.out hb); clear O1; have O1 := n_; clear n_)); (try (have n_ := Aside0.mk (Kd.R_below O4.out hb); clear O4; have O4 := n_; clear n_)); (try (have n_ := Aside0.mk (blk_below BX.out hb); clear BX; have BX := n_; clear n_)); (try (have n_ := Aside0.mk (blk_below BY.out hb); clear BY; have BY := n_; clear n_)); (try (have n_ := Aside0.mk (blk_below BZ.out hb); clear BZ; have BZ := n_; clear n_)); obtain ⟨P4, c4, rfl⟩ := Kd.R_slice ho4; have O4 := Aside0.mk ho4; clear hb ho4)
    | ((with_reducible refine gate_dst (N := 8) rfl ?_); (try (refine gate_guard (by rfl) ?_; dsimp only)); refine box_event ?hg (N := 8) ?hd (cs := #[.int .i64 0, .int .i64 0]) (t := 33) ?hr ?_; (case hd => rfl); (case hg => rfl); (case hr => first | (go_simp; done) | (go_simp; rfl)); intro gZ hgZ wZ hbox hb0; have hb := (((below_step (by repeat (first | (with_reducible first | exact Below.refl _ _ | apply below_alloc | apply pw_below_drewN | apply below_drew1))) hb0).setCell (p := ⟨gZ, 0, none⟩) (by rw [hgZ]; exact below_size (by repeat (first | (with_reducible first | exact Below.refl _ _ | apply below_alloc | apply pw_below_drewN | apply below_drew1)))) (.int .i64 0)).setCell (p := ⟨gZ, 1, none⟩) (by rw [hgZ]; exact below_size (by repeat (first | (with_reducible first | exact Below.refl _ _ | apply below_alloc | apply pw_below_drewN | apply below_drew1)))) (.int .i64 0)); have hc0Z : wZ.cell? ⟨gZ, 0, none⟩ = some (.int .i64 0) := blk_cell hbox 0; have hf0Z := blk_frozen hbox 0; have hc1Z : wZ.cell? ⟨gZ, 1, none⟩ = some (.int .i64 0) := blk_cell hbox 1; have hf1Z := blk_frozen hbox 1; (try (have n_ := Aside0.mk (below_step HB.out hb); clear HB; have HB := n_; clear n_)); (try (have n_ := Aside0.mk (Kd.R_below O1.out hb); clear O1; have O1 := n_; clear n_)); (try (have n_ := Aside0.mk (Kd.R_below O4.out hb); clear O4; have O4 := n_; clear n_)); (try (have n_ := Aside0.mk (blk_below BX.out hb); clear BX; have BX := n_; clear n_)); (try (have n_ := Aside0.mk (blk_below BY.out hb); clear BY; have BY := n_; clear n_)); (try (have n_ := Aside0.mk (blk_below BZ.out hb); clear BZ; have BZ := n_; clear n_)); have BZ := Aside0.mk (blk_put (blk_put hbox 0 (.int .i64 0) rfl) 1 (.int .i64 0) rfl); clear hbox hb hb0 hgZ)
    | ((go_at_call 21); (with_reducible refine (new_calls _).mono ?_); rintro e wN ⟨g, rfl, hi, hb⟩; have S0 := Aside0.mk (WS.first HB.out (Kd.R_reads' O1.out).2.2 (Kd.R_reads' O4.out).2.2 BX.out BY.out BZ.out hi hb); have C1 : Aside0 (([97, 233] : List Int).length ≤ c1) := ⟨(Kd.R_reads' O1.out).2.1⟩; have C4 : Aside0 (([9731] : List Int).length ≤ c4) := ⟨(Kd.R_reads' O4.out).2.1⟩; clear HB O1 O4 BX BY BZ hi hb)
    | ((go_at_call 23); refine (calls_of_args (args' := #[.pointer (some ⟨g, 0, none⟩), .slice (some ⟨wN.heap.size, 0, none⟩) ([226] : List Int).length 1]) rfl ?_); (with_reducible refine (feed_calls2 w _ g false 0 0 0 [226] (some ⟨wN.heap.size, 0, none⟩) 1 (C_lit (heap_alloc_new wN (.cells #[.int .u8 226] 5 _)) (by decide) rfl) (fun ad ha _ => by injection ha with ha; subst ha; exact S0.out.far) (by decide) (by decide) (S0.out.lit _).ic (S0.out.lit _).bl false 2 128 191 A5.out).mono ?_); rintro e wF1 ⟨he, hk⟩; replace he : e = .returned (.bool true) := he; subst he; have S1 := Aside0.mk (WS.fed (S0.out.lit _) hk); clear S0 hk)
    | ((go_at_call 25); (with_reducible refine (whole_calls w _ g false 2 128 191 S1.out.ic).mono ?_); rintro e wF2 ⟨he, hd⟩; replace he : e = .returned (.bool false) := he; subst he; have S2 := Aside0.mk (S1.out.step hd.below); clear S1 hd)
    | ((go_at_call 23); refine (calls_of_args (args' := #[.pointer (some ⟨g, 0, none⟩), .slice (some ⟨wF2.heap.size, 0, none⟩) ([130, 172] : List Int).length 2]) rfl ?_); (with_reducible refine (feed_calls2 w _ g false 2 128 191 [130, 172] (some ⟨wF2.heap.size, 0, none⟩) 2 (C_lit (heap_alloc_new wF2 (.cells #[.int .u8 130, .int .u8 172] 5 _)) (by decide) rfl) (fun ad ha _ => by injection ha with ha; subst ha; exact S2.out.far) (by decide) (by decide) (S2.out.lit _).ic (S2.out.lit _).bl false 0 128 191 A6.out).mono ?_); rintro e wF3 ⟨he, hk⟩; replace he : e = .returned (.bool true) := he; subst he; have S3 := Aside0.mk (WS.fed (S2.out.lit _) hk); clear S2 hk)
    | ((go_at_call 25); (with_reducible refine (whole_calls w _ g false 0 128 191 S3.out.ic).mono ?_); rintro e wF4 ⟨he, hd⟩; replace he : e = .returned (.bool true) := he; subst he; have S4 := Aside0.mk (S3.out.step hd.below); clear S3 hd)
    | ((go_at_call 23); refine (calls_of_args (args' := #[.pointer (some ⟨g, 0, none⟩), .slice (some ⟨wF4.heap.size, 0, none⟩) ([128] : List Int).length 1]) rfl ?_); (with_reducible refine (feed_calls2 w _ g false 0 128 191 [128] (some ⟨wF4.heap.size, 0, none⟩) 1 (C_lit (heap_alloc_new wF4 (.cells #[.int .u8 128] 5 _)) (by decide) rfl) (fun ad ha _ => by injection ha with ha; subst ha; exact S4.out.far) (by decide) (by decide) (S4.out.lit _).ic (S4.out.lit _).bl true 0 128 191 A7.out).mono ?_); rintro e wF5 ⟨he, hk⟩; replace he : e = .returned (.bool false) := he; subst he; have S5 := Aside0.mk (WS.fed (S4.out.lit _) hk); clear S4 hk)
    | ((go_at_call 25); (with_reducible refine (whole_calls w _ g true 0 128 191 S5.out.ic).mono ?_); rintro e wF6 ⟨he, hd⟩; replace he : e = .returned (.bool false) := he; subst he; have S6 := Aside0.mk (S5.out.step hd.below); have x0 : wF6.cell? ⟨gX, 0, none⟩ = some (.int .i64 0) := blk_cell S6.out.bx 0; have x1 : wF6.cell? ⟨gX, 1, none⟩ = some (.int .i64 0) := blk_cell S6.out.bx 1; have y0 : wF6.cell? ⟨gY, 0, none⟩ = some (.int .i64 0) := blk_cell S6.out.bY 0; have y1 : wF6.cell? ⟨gY, 1, none⟩ = some (.int .i64 0) := blk_cell S6.out.bY 1; have z0 : wF6.cell? ⟨gZ, 0, none⟩ = some (.int .i64 0) := blk_cell S6.out.bz 0; have z1 : wF6.cell? ⟨gZ, 1, none⟩ = some (.int .i64 0) := blk_cell S6.out.bz 1; clear S5 hd)
    | ((go_at_call 17); refine (calls_of_args (args' := #[.slice P1 ([97, 233] : List Int).length c1, .slice (some ⟨wF6.heap.size, 0, none⟩) ([97, 233] : List Int).length 2]) rfl ?_); (with_reducible refine (slices_Equal_rune_rune.calls 4 P1 c1 [97, 233] (some ⟨wF6.heap.size, 0, none⟩) 2 [97, 233] true _ (S6.out.lit _).c1 C1.out (C_lit (heap_alloc_new wF6 (.cells #[.int .i32 97, .int .i32 233] 21 _)) (by decide) rfl) (by decide) A8.out).mono ?_); rintro e wE1 ⟨rfl, hd⟩; have S7 := Aside0.mk ((S6.out.lit _).step hd.below); clear S6 hd)
    | ((go_at_call 17); refine (calls_of_args (args' := #[.slice P4 ([9731] : List Int).length c4, .slice (some ⟨wE1.heap.size, 0, none⟩) ([9731] : List Int).length 1]) rfl ?_); (with_reducible refine (slices_Equal_rune_rune.calls 4 P4 c4 [9731] (some ⟨wE1.heap.size, 0, none⟩) 1 [9731] true _ (S7.out.lit _).c4 C4.out (C_lit (heap_alloc_new wE1 (.cells #[.int .i32 9731] 21 _)) (by decide) rfl) (by decide) A9.out).mono ?_); rintro e wE2 ⟨rfl, hd⟩; have S8 := Aside0.mk ((S7.out.lit _).step hd.below); clear S7 hd))
  go_ret
  exact ⟨rfl, S8.out.bl⟩
theorem posthornlaw05_wakes.calls (r : Bool) (w : World) (h : posthornlaw05_wakes.f = some r) :
    Calls Try.prog 12 #[] w fun e w' => e = .returned (.bool r) ∧ Below w.heap.size w w' := by
  obtain rfl := Option.some.inj h
  exact wakes_calls w
end Go.Proofs.Ytabjfpjmiiiecaa.WK
