/- QueueHeaps: the calls, over the frame. -/
import Derived.Test.YtekjkookkjjbcaaHeapsP
namespace Go.Proofs.Ytekjkookkjjbcaa.HT
set_option linter.unusedVariables false
set_option linter.unusedSimpArgs false
set_option linter.unusedVariables false
set_option linter.unusedSimpArgs false
open Go.RowKit Go.Proofs.YtekjkookkjjbcaaW.PrintWords Go.Proofs.YtekjkookkjjbcaaW.PrintLast Go.Proofs.YtekjkookkjjbcaaW.PrintMore Go.Proofs.Ytekjkookkjjbcaa.B Go.Proofs.Ytekjkookkjjbcaa.M Go.Proofs.Ytekjkookkjjbcaa.HW Go.Proofs.Ytekjkookkjjbcaa.RH
/-- The frame with the reference's lists as the heaps tell them. -/
abbrev TE (w W : World) (G R : Nat → Nat) (B RB : Nat → Option Nat) (CM : Nat → Int) (PS : Nat → List T3) (PR : Nat → List T2) (la ma : Nat) : Prop := TH w W G R B RB CM PS PR la ma
theorem upd_map (PS : Nat → List T3) (q : Nat) (ps : List T3) : upd (fun j => (PS j).map th) q (ps.map th) = fun j => (upd PS q ps j).map th := by
  funext j
  unfold upd
  split <;> rfl
/-- A box of the law's own, that is no heap's. -/
structure Box (W : World) (a t : Nat) (cs : Array Value) (RB : Nat → Option Nat) : Prop where
  bk : W.heap[a]? = some (.cells cs t (0, 0))
  t1 : t ≠ 97
  t2 : t ≠ 101
  t3 : t ≠ 99
  nr : ∀ i, i < 2 → RB i ≠ some a
section
variable {w W W' : World} {G R : Nat → Nat} {B RB : Nat → Option Nat} {CM : Nat → Int} {PS : Nat → List T3} {PR : Nat → List T2} {la ma q a t : Nat} {cs : Array Value}
theorem Box.below (h : Box W a t cs RB) (hb : Below W.heap.size W W') : Box W' a t cs RB := ⟨blk_below h.bk hb, h.t1, h.t2, h.t3, h.nr⟩
theorem Box.heap (h : Box W a t cs RB) (hT : TH w W G R B RB CM PS PR la ma) (hq : q < 2) (hk : KeepBut W W' (G q) (B q)) : Box W' a t cs RB := by
  obtain ⟨⟨cg, hcg⟩, _⟩ := (hT.hq q hq).blk
  refine ⟨(hk.2 a (blk_lt h.bk) (type_ne h.bk hcg h.t1) (fun e => ?_)).trans h.bk, h.t1, h.t2, h.t3, h.nr⟩
  obtain ⟨⟨cr, hcr⟩, _⟩ := (hT.hq q hq).row a e.symm
  exact type_ne h.bk hcr h.t2 rfl
theorem Box.ref {b : Option Nat} (h : Box W a t cs RB) (hT : TH w W G R B RB CM PS PR la ma) (hq : q < 2) (hk : KeepBut W W' (R q) (RB q)) (hm : MovedR W (RB q) b) : Box W' a t cs (upd RB q b) := by
  obtain ⟨⟨cg, hcg⟩, _⟩ := (hT.rq q hq).blk
  refine ⟨(hk.2 a (blk_lt h.bk) (type_ne h.bk hcg h.t3) (fun e => h.nr q hq e.symm)).trans h.bk, h.t1, h.t2, h.t3, fun i hi => ?_⟩
  by_cases e : i = q
  · subst e
    rw [upd_same]
    rcases hm with hm | ⟨j, hm, hj⟩
    · rw [hm]; exact h.nr i hi
    · rw [hm]
      intro e2
      injection e2 with e2
      have := blk_lt h.bk
      omega
  · rw [upd_other _ _ _ _ e]
    exact h.nr i hi
theorem Box.new (hT : TH w W G R B RB CM PS PR la ma) (o : Array Value) (t : Nat) (t1 : t ≠ 97) (t2 : t ≠ 101) (t3 : t ≠ 99) : Box (W.alloc (.cells o t (0, 0))) W.heap.size t o RB :=
  ⟨heap_alloc_new W _, t1, t2, t3, fun i hi e => by
    obtain ⟨⟨cr, hcr⟩, _⟩ := (hT.rq i hi).row _ e
    exact absurd (blk_lt hcr) (Nat.lt_irrefl _)⟩
theorem Box.set {b : Nat} {v : Value} {cb : Array Value} {tb o : Nat} (h : Box W a t cs RB) (hb : W.heap[b]? = some (.cells cb tb (0, 0))) (ht : t ≠ tb) : Box (W.setCell ⟨b, o, none⟩ v) a t cs RB :=
  ⟨(Below.heap_setCell W ⟨b, o, none⟩ v a (type_ne h.bk hb ht)).trans h.bk, h.t1, h.t2, h.t3, h.nr⟩
theorem Box.rb {RB' : Nat → Option Nat} (h : Box W a t cs RB) (hr : ∀ i, i < 2 → RB' i ≠ some a) : Box W a t cs RB' := ⟨h.bk, h.t1, h.t2, h.t3, hr⟩
end
section
variable {w W : World} {G R : Nat → Nat} {B RB : Nat → Option Nat} {CM : Nat → Int} {PS : Nat → List T3} {PR : Nat → List T2} {la ma q ob vb : Nat} {co cv : Array Value}
theorem t_push (hT : TH w W G R B RB CM PS PR la ma) (hq : q < 2) (hcm : 0 ≤ CM q ∧ CM q < 4611686018427387904) (hl : (PS q).length < 1048576) (N i : Int) (ho : Box W ob 33 co RB) (hv : Box W vb 29 cv RB) :
    Calls Try.prog 15 #[.pointer (some ⟨G q, 0, none⟩), .agg #[.int .i64 N, .int .i64 i]] W fun e W' => e = .returned (.int .i64 0) ∧ ∃ b', TH w W' G R (upd B q b') RB (upd CM q (CM q + 1)) (upd PS q (PS q ++ [(N, i, CM q)])) PR la ma ∧ Box W' ob 33 co RB ∧ Box W' vb 29 cv RB :=
  (hpush_q key_ord (hT.hq q hq) hcm hl N i).mono fun e W' ⟨h1, b', h2, h3, h4⟩ => ⟨h1, b', hT.heap hq h2 h3 h4, ho.heap hT hq h3, hv.heap hT hq h3⟩
theorem t_rpush (hT : TH w W G R B RB CM PS PR la ma) (hq : q < 2) (hl : (PR q).length < 1048576) (N i : Int) (ho : Box W ob 33 co RB) (hv : Box W vb 29 cv RB) :
    Calls Try.prog 16 #[.pointer (some ⟨R q, 0, none⟩), .agg #[.int .i64 N, .int .i64 i]] W fun e W' => e = .returned (.int .i64 0) ∧ ∃ b', TH w W' G R B (upd RB q b') CM PS (upd PR q (PR q ++ [(N, i)])) la ma ∧ Box W' ob 33 co (upd RB q b') ∧ Box W' vb 29 cv (upd RB q b') := by
  obtain ⟨v, h1, h2⟩ := (hT.rq q hq).ex
  refine (rpush_calls h1 hl N i).mono ?_
  rintro e W' ⟨rfl, v', h3, h4, h5⟩
  rw [h2] at h4 h5
  exact ⟨rfl, _, hT.ref hq ⟨v', h3, rfl⟩ h4 h5, ho.ref hT hq h4 h5, hv.ref hT hq h4 h5⟩
theorem t_pop (hT : TH w W G R B RB CM PS PR la ma) (hq : q < 2) {x : T3} (hx : Least kcmp (PS q) x) (ho : Box W ob 33 co RB) :
    Calls Try.prog 17 #[.pointer (some ⟨G q, 0, none⟩)] W fun e W' => e = .returned (.tuple #[.agg #[.int .i64 x.1, .int .i64 x.2.1], .bool true]) ∧ ∃ b', TH w W' G R (upd B q b') RB (upd CM q (CM q)) (upd PS q ((PS q).erase x)) PR la ma ∧ Box W' ob 33 co RB :=
  (hpop_q key_ord (hT.hq q hq) hx).mono fun e W' ⟨h1, b', h2, h3, h4⟩ => ⟨h1, b', hT.heap hq h2 h3 h4, ho.heap hT hq h3⟩
theorem t_rpop (hT : TH w W G R B RB CM PS PR la ma) (hq : q < 2) (hl : (PR q).length ≤ 1048576) {ps : List T3} {x : T3} (hs : ps.Pairwise (fun y z => y.2.2 < z.2.2)) (hx : Least kcmp ps x) (hp : PR q = ps.map th) (ho : Box W ob 33 co RB) (hv : Box W vb 29 cv RB) :
    Calls Try.prog 18 #[.pointer (some ⟨R q, 0, none⟩)] W fun e W' => e = .returned (.tuple #[.agg #[.int .i64 x.1, .int .i64 x.2.1], .bool true]) ∧ ∃ b', TH w W' G R B (upd RB q b') CM PS (upd PR q ((ps.erase x).map th)) la ma ∧ Box W' ob 33 co (upd RB q b') ∧ Box W' vb 29 cv (upd RB q b') := by
  obtain ⟨v, h1, h2⟩ := (hT.rq q hq).ex
  have hpos : 0 < (PR q).length := by rw [hp, List.length_map]; exact List.length_pos_of_mem hx.1
  refine (rpop_calls h1 hl hpos).mono ?_
  rintro e W' ⟨m, rfl, hm, v', h3, h4, h5⟩
  rw [h2] at h4 h5
  rw [hp] at hm h3
  rw [least_cut hs hx hm] at h3
  refine ⟨?_, _, hT.ref hq ⟨v', h3, rfl⟩ h4 h5, ho.ref hT hq h4 h5, hv.ref hT hq h4 h5⟩
  rw [hp, least_get hs hx hm]
  rfl
theorem t_rpeek (hT : TH w W G R B RB CM PS PR la ma) (hq : q < 2) (hl : (PR q).length ≤ 1048576) {ps : List T3} {x : T3} (hs : ps.Pairwise (fun y z => y.2.2 < z.2.2)) (hx : Least kcmp ps x) (hp : PR q = ps.map th) :
    Calls Try.prog 20 #[.pointer (some ⟨R q, 0, none⟩)] W fun e W' => e = .returned (.tuple #[.agg #[.int .i64 x.1, .int .i64 x.2.1], .bool true]) ∧ Below W.heap.size W W' := by
  obtain ⟨v, h1, h2⟩ := (hT.rq q hq).ex
  have hpos : 0 < (PR q).length := by rw [hp, List.length_map]; exact List.length_pos_of_mem hx.1
  refine (rpeek_calls h1 hl hpos).mono ?_
  rintro e W' ⟨m, rfl, hm, h3⟩
  rw [hp] at hm
  refine ⟨?_, h3⟩
  rw [hp, least_get hs hx hm]
  rfl
theorem t_rnone (hT : TH w W G R B RB CM PS PR la ma) (hq : q < 2) (hp : PR q = []) :
    Calls Try.prog 18 #[.pointer (some ⟨R q, 0, none⟩)] W fun e W' => e = .returned (.tuple #[.agg #[.int .i64 0, .int .i64 0], .bool false]) ∧ Below W.heap.size W W' := by
  obtain ⟨v, h1, h2⟩ := (hT.rq q hq).ex
  rw [hp] at h1
  exact rpop_none h1
theorem t_rpnone (hT : TH w W G R B RB CM PS PR la ma) (hq : q < 2) (hp : PR q = []) :
    Calls Try.prog 20 #[.pointer (some ⟨R q, 0, none⟩)] W fun e W' => e = .returned (.tuple #[.agg #[.int .i64 0, .int .i64 0], .bool false]) ∧ Below W.heap.size W W' := by
  obtain ⟨v, h1, h2⟩ := (hT.rq q hq).ex
  rw [hp] at h1
  exact rpeek_none h1
theorem t_rfull (hT : TH w W G R B RB CM PS PR la ma) (hq : q < 2) (hl : 1048576 ≤ (PR q).length) (N i : Int) :
    Calls Try.prog 16 #[.pointer (some ⟨R q, 0, none⟩), .agg #[.int .i64 N, .int .i64 i]] W fun e W' => e = .returned (.int .i64 4) ∧ Below W.heap.size W W' := by
  obtain ⟨v, h1, h2⟩ := (hT.rq q hq).ex
  exact rpush_full h1 hl N i
theorem t_rlen (hT : TH w W G R B RB CM PS PR la ma) (hq : q < 2) :
    Calls Try.prog 22 #[.pointer (some ⟨R q, 0, none⟩)] W fun e W' => e = .returned (.int .i64 ((PR q).length : Int)) ∧ Drawn0 W W' := by
  obtain ⟨v, h1, h2⟩ := (hT.rq q hq).ex
  exact rlen_calls h1
end
end Go.Proofs.Ytekjkookkjjbcaa.HT
