/- runes.Decode: the runes of a text, as a range over it tells them. -/
import Derived.Test.YtabjfpjmiiiecaaD4
import Derived.Test.YtabjfpjmiiiecaaBase
import Derived.Lib.OthersKept
import Derived.Laws.RangeAny
import Derived.Laws.RangeString
namespace Go.Proofs.Ytabjfpjmiiiecaa.DE
set_option linter.unusedVariables false
set_option linter.unusedSimpArgs false
open Go.RowKit Go.Proofs.YtabjfpjmiiiecaaW.PrintWords Go.Proofs.YtabjfpjmiiiecaaW.PrintLast Go.Proofs.YtabjfpjmiiiecaaW.PrintMore Go.Proofs.Ytabjfpjmiiiecaa.B Go.Proofs.Ytabjfpjmiiiecaa.D Go.Lib
def decL (s : ByteArray) : Nat → Nat → List Int
  | 0, _ => []
  | f + 1, p => if p < s.size then (Utf8.decode s p).1 :: decL s f (p + (Utf8.decode s p).2) else []
theorem width_pos (s : ByteArray) (pos : Nat) (h : pos < s.size) : 1 ≤ (Utf8.decode s pos).2 := by
  by_cases ha : (s[pos]'h).toNat < 128
  · rw [decode_ascii s pos h ha]
    exact Nat.le_refl _
  · exact (decode_high s pos h (by omega)).2
theorem decL_end (s : ByteArray) (f p : Nat) (h : ¬ p < s.size) : decL s f p = [] := by
  cases f with
  | zero => rfl
  | succ f => unfold decL; rw [if_neg h]
theorem decL_step (s : ByteArray) (f p : Nat) (h : p < s.size) : decL s (f + 1) p = ((Utf8.decode s p).1 : Int) :: decL s f (p + (Utf8.decode s p).2) := if_pos h
abbrev OwnR (w W : World) (v : Value) (xs : List Int) : Prop := Kd.R (Kd.int .i32) 21 W w.heap.size (fun _ => True) v xs
theorem own_iter {w W : World} {v : Value} {xs : List Int} {k : Nat} {s : ByteArray} {p : Nat} (h : OwnR w W v xs) (hk : W.heap[k]? = some (.stringIter s p)) (p' : Nat) : OwnR w (W.iterAt k s p') v xs :=
  Kd.R_mono (Kd.R_kept (S := fun j => j = k) (Kd.R_tight rfl h) ⟨by rw [iterAt_size]; exact Nat.le_refl _, fun i _ hn => iterAt_other W k i s p' hn⟩ (fun j hj e => by
    obtain ⟨c, hc⟩ := Kd.R_typed h j hj.symm
    rw [e, hk] at hc
    cases hc)) (fun _ _ => trivial)
theorem iter_ne {w W : World} {v : Value} {xs : List Int} {k : Nat} {s : ByteArray} {p : Nat} (h : OwnR w W v xs) (hk : W.heap[k]? = some (.stringIter s p)) : some k ≠ v.ownBlock := fun e => by
  obtain ⟨c, hc⟩ := Kd.R_typed h k e.symm
  rw [hk] at hc
  cases hc
theorem blk_iter {W : World} {g k : Nat} {o : Obj} {s : ByteArray} {p : Nat} (h : W.heap[g]? = some o) (hk : W.heap[k]? = some (.stringIter s p)) (ho : ∀ q, o ≠ .stringIter s q) (p' : Nat) : (W.iterAt k s p').heap[g]? = some o := by
  rw [iterAt_other W k g s p' (fun e => by rw [e, hk] at h; exact ho _ (Option.some.inj h).symm), h]
def BK (g : Nat) (e a : Int) (W : World) : Prop := W.heap[g]? = some (.cells #[.int .i64 e, .int .i64 a] 33 (0, 0))
structure DI (w : World) (s : ByteArray) (g k p : Nat) (v : Value) (xs : List Int) (W : World) : Prop where
  ow : OwnR w W v xs
  it : W.heap[k]? = some (.stringIter s p)
  bk : BK g 0 0 W
  bl : Below w.heap.size w W
  ge : w.heap.size ≤ k
  gg : w.heap.size ≤ g
theorem DI.next {w W : World} {s : ByteArray} {g k p : Nat} {v : Value} {xs : List Int} (h : DI w s g k p v xs W) (p' : Nat) : DI w s g k p' v xs (W.iterAt k s p') :=
  ⟨own_iter h.ow h.it p', iterAt_heap W k s p p' h.it, blk_iter h.bk h.it (fun q e => by cases e) p', below_iterAt h.bl h.ge s p', h.ge, h.gg⟩
theorem own_put {w W : World} {v : Value} {xs : List Int} {g t : Nat} {cs : Array Value} (h : OwnR w W v xs) (hb : W.heap[g]? = some (.cells cs t (0, 0))) (ht : 21 ≠ t) (o : Nat) (x : Value) : OwnR w (W.setCell ⟨g, o, none⟩ x) v xs :=
  Kd.R_mono (Kd.R_kept (S := fun j => j = g) (Kd.R_tight rfl h) ⟨by simp [World.setCell], fun i _ hn => Below.heap_setCell W ⟨g, o, none⟩ x i hn⟩ (fun j hj e => Kd.R_ne h hb ht (by rw [← e]; exact hj))) (fun _ _ => trivial)
set_option maxHeartbeats 4000000 in
set_option maxRecDepth 100000 in
theorem decode_yes (s : ByteArray) (hs : s.size ≤ 35184372088831) (w : World) (hbad : ∀ W, Calls Try.prog 13 #[.string s] W fun e W' => e = .returned (.int .i64 (s.size : Int)) ∧ Below W.heap.size W W') :
    Calls Try.prog 20 #[.string s] w fun e w' => ∃ v, e = .returned (.tuple #[v, .agg #[.int .i64 0, .int .i64 0]]) ∧ OwnR w w' v (decL s s.size 0) ∧ Below w.heap.size w w' := by
  have HS := Aside0.mk hs
  have HB := Aside0.mk (Below.refl w.heap.size w)
  have l1 : decide ((s.size : Int) < (s.size : Int)) = false := decide_eq_false (by omega)
  clear hs
  go_enter Try.func20, Try.ntmps20
  go_wp2_with (first
    | ((with_reducible refine gate_dst (N := 3) rfl ?_); refine box_event ?hg (N := 3) ?hd (cs := #[.int .i64 0, .int .i64 0]) (t := 33) ?hr ?_; (case hd => rfl); (case hg => rfl); (case hr => first | (go_simp; done) | (go_simp; rfl)); intro g hg w5 hbox hb; have n0 := Aside0.mk (below_step HB.out hb); have GG := Aside0.mk (show w.heap.size ≤ g by rw [hg]; exact below_size HB.out); have HX := Aside0.mk (show BK g 0 0 w5 from hbox); clear HB hb hbox; have HB := n0; clear n0 hg)
    | (go_at_call 13; (with_reducible refine (hbad _).mono ?_); rintro e w6 ⟨rfl, hb⟩; have n0 := Aside0.mk (below_step HB.out hb); have n1 := Aside0.mk (show BK g 0 0 w6 from blk_below HX.out hb); clear HB hb HX; have HB := n0; have HX := n1; clear n0 n1))
  have D0 : Aside0 (DI w s g w6.heap.size 0 (.slice none 0 0) [] (w6.iter s 0)) := ⟨⟨Kd.R_nil _ _ _ _ _, World.iter_heap .., blk_alloc HX.out _, below_alloc HB.out _, below_size HB.out, GG.out⟩⟩
  obtain ⟨k, hk⟩ : ∃ k, w6.heap.size = k := ⟨_, rfl⟩
  rw [hk] at D0
  rw [hk]
  clear hk
  generalize w6.iter s 0 = W0 at D0
  clear HB HX GG
  go_loopg [5] s.size (fun kq v5 W => ∃ (p : Nat) (xs : List Int), Aside0 (s.size - p ≤ kq ∧ xs.length ≤ p ∧ xs ++ decL s kq p = decL s s.size 0) ∧ Aside0 (DI w s g k p v5 xs W))
  case atStart => exact ⟨0, [], ⟨by omega, Nat.le_refl _, rfl⟩, D0⟩
  case round =>
    obtain ⟨p, xs, HJ, HD⟩ := hrel
    obtain ⟨hj1, hj2, hj3⟩ := HJ.out
    have hS := HS.out
    by_cases hlt : p < s.size
    · have hw := width_pos s p hlt
      cases gk with
      | zero => omega
      | succ k9 =>
      rw [decL_step s k9 p hlt] at hj3
      have kn := fun ty => run_next_any_at (P := Try.prog) wr k s p ty HD.out.it hlt
      have HN := HD.out.next (p + (Utf8.decode s p).2)
      generalize (Utf8.decode s p).1 = c at *
      generalize (Utf8.decode s p).2 = d at *
      have HN := Aside0.mk HN
      have HL := Aside0.mk (show (xs.length + 1) * 4 ≤ 140737488355328 by omega)
      have HJ2 := Aside0.mk (show s.size - (p + d) ≤ k9 ∧ (xs ++ [(c : Int)]).length ≤ p + d ∧ (xs ++ [(c : Int)]) ++ decL s k9 (p + d) = decL s s.size 0 from ⟨by omega, by rw [List.length_append]; simp; omega, by rw [List.append_assoc]; exact hj3⟩)
      clear hj1 hj2 hj3 hw hS
      go_wp2_with ((with_reducible refine gate_builtin (b := .append) (xs := #[.tmp 21, .tmp 23]) rfl ?_); at_builtin; refine Kd.R_append (Kd.int .i32) (w0 := w) w.heap.size rfl (.tmp 21) (.tmp 23) 28 21 (.int .i32 0) 4 rfl Try.underlying28 info21 rfl (by decide) (by omega) _ xs (c : Int) [.int .i32 (c : Int)] (fun _ => True) (fun _ => False) rfl rfl rfl (fun _ hk => hk.elim) (fun _ _ => trivial) HN.out.ow HN.out.bl (below_size HN.out.bl) HL.out ?_; intro v9 w9 ho hb hg hat; have HD9 : Aside0 (DI w s g k (p + d) v9 (xs ++ [(c : Int)]) w9) := ⟨⟨ho, blk_grown HN.out.it hg (iter_ne HN.out.ow HN.out.it), blk_grown HN.out.bk hg (Kd.R_ne HN.out.ow HN.out.bk (by decide)), hb, HN.out.ge, HN.out.gg⟩⟩; clear ho hb hg hat)
      go_roundg k9
      case measure => omega
      case rel => exact ⟨p + d, xs ++ [(c : Int)], HJ2, HD9⟩
    · have kn := fun ty => run_next_end_at (P := Try.prog) wr k s p ty HD.out.it hlt
      rw [decL_end s gk p hlt, List.append_nil] at hj3
      have HR := Aside0.mk hj3
      have b0 : wr.cell? ⟨g, 0, none⟩ = some (.int .i64 0) := blk_cell HD.out.bk 0
      have b1 : wr.cell? ⟨g, 1, none⟩ = some (.int .i64 0) := blk_cell HD.out.bk 1
      have f0 := blk_frozen HD.out.bk 0
      have f1 := blk_frozen HD.out.bk 1
      clear hj1 hj2 hj3 hS
      go_wp2
      refine bodyPost_ret (results_tc rfl _ _ g 33 #[.int .i64 0, .int .i64 0] (0, 0) _ rfl (by refine blk_put (cs := #[.int .i64 0, .int .i64 0]) ?_ 1 _ rfl; refine blk_put (cs := #[.int .i64 0, .int .i64 0]) ?_ 0 _ rfl; exact HD.out.bk) Try.underlying33 rfl (by kernel_rfl)) rfl ?_
      exact ⟨_, rfl, by rw [← HR.out]; exact own_put (own_put HD.out.ow HD.out.bk (by decide) 0 _) (blk_put HD.out.bk 0 _ rfl) (by decide) 1 _, below_set (below_set HD.out.bl HD.out.gg) HD.out.gg⟩
set_option maxHeartbeats 4000000 in
set_option maxRecDepth 100000 in
theorem decode_no (s : ByteArray) (b : Int) (hlt : b < (s.size : Int)) (w : World) (hbad : ∀ W, Calls Try.prog 13 #[.string s] W fun e W' => e = .returned (.int .i64 b) ∧ Below W.heap.size W W') :
    Calls Try.prog 20 #[.string s] w fun e w' => e = .returned (.tuple #[.slice none 0 0, .agg #[.int .i64 50, .int .i64 b]]) ∧ Below w.heap.size w w' := by
  have HB := Aside0.mk (Below.refl w.heap.size w)
  have l1 : decide (b < (s.size : Int)) = true := decide_eq_true hlt
  clear hlt
  go_enter Try.func20, Try.ntmps20
  go_wp2_with (first
    | ((with_reducible refine gate_dst (N := 3) rfl ?_); refine box_event ?hg (N := 3) ?hd (cs := #[.int .i64 0, .int .i64 0]) (t := 33) ?hr ?_; (case hd => rfl); (case hg => rfl); (case hr => first | (go_simp; done) | (go_simp; rfl)); intro g hg w5 hbox hb; have n0 := Aside0.mk (below_step HB.out hb); have GG := Aside0.mk (show w.heap.size ≤ g by rw [hg]; exact below_size HB.out); have HX := Aside0.mk (show BK g 0 0 w5 from hbox); clear HB hb hbox; have HB := n0; clear n0 hg)
    | (go_at_call 13; (with_reducible refine (hbad _).mono ?_); rintro e w6 ⟨rfl, hb⟩; have n0 := Aside0.mk (below_step HB.out hb); have n1 := Aside0.mk (show BK g 0 0 w6 from blk_below HX.out hb); clear HB hb HX; have HB := n0; have HX := n1; clear n0 n1; have b0 : w6.cell? ⟨g, 0, none⟩ = some (.int .i64 0) := blk_cell HX.out 0; have b1 : w6.cell? ⟨g, 1, none⟩ = some (.int .i64 0) := blk_cell HX.out 1; have f0 := blk_frozen HX.out 0; have f1 := blk_frozen HX.out 1))
  refine bodyPost_ret (results_tc rfl _ _ g 33 #[.int .i64 50, .int .i64 b] (0, 0) _ rfl (by refine blk_put (cs := #[.int .i64 50, .int .i64 0]) ?_ 1 _ rfl; refine blk_put (cs := #[.int .i64 0, .int .i64 0]) ?_ 0 _ rfl; exact HX.out) Try.underlying33 rfl (by kernel_rfl)) rfl ?_
  exact ⟨rfl, below_set (below_set HB.out GG.out) GG.out⟩
end Go.Proofs.Ytabjfpjmiiiecaa.DE
