/- A row of the call's own, and others that lie in its block: what an append or a store leaves of each. -/
import Derived.Test.YtokgckhhhhigiaaBase
import Derived.Test.YtokgckhhhhigiaaMk
namespace Go.Proofs.Ytokgckhhhhigiaa.Turn
set_option linter.unusedVariables false
set_option linter.unusedSimpArgs false
set_option linter.unusedVariables false
open Go.RowKit Go.Proofs.YtokgckhhhhigiaaW.PrintWords Go.Proofs.YtokgckhhhhigiaaW.PrintLast Go.Proofs.YtokgckhhhhigiaaW.PrintMore Go.Proofs.Ytokgckhhhhigiaa.B

/-- Every owned row of one-cell elements of type e is an owned row still. -/
def Rows1 (base e : Nat) (w w' : World) : Prop := ∀ l n ys, w.ownsRow base e 1 l n ys → ∃ ys', w'.ownsRow base e 1 l n ys'
theorem Rows1.refl (base e : Nat) (w : World) : Rows1 base e w w := fun _ _ ys h => ⟨ys, h⟩
theorem Rows1.trans {base e : Nat} {a b c : World} (h : Rows1 base e a b) (k : Rows1 base e b c) : Rows1 base e a c := fun l n ys hl => by
  obtain ⟨ys1, h1⟩ := h l n ys hl
  exact k l n ys1 h1
theorem Rows1.fresh {base e : Nat} {w w' : World} (h : w.grownBy w' none) : Rows1 base e w w' := fun l n ys hl => ⟨ys, hl.kept h (by cases hv : l.ownBlock <;> simp)⟩

theorem slice_inj {a b : Option Addr} {n m c d : Nat} (h : Value.slice a n c = Value.slice b m d) : a = b ∧ n = m ∧ c = d := by injection h with h1 h2 h3; exact ⟨h1, h2, h3⟩

/-- A block whose cells stay as many, and the others as they were. -/
theorem Rows1.one {base e : Nat} {w w' : World} {g : Nat} {cur cur' : Array Value} (hg : w.heap[g]? = some (.cells cur e (0, 0))) (hg' : w'.heap[g]? = some (.cells cur' e (0, 0))) (hs : cur'.size = cur.size)
    (hb : w.grownBy w' (some g)) : Rows1 base e w w' := by
  intro l n ys hl
  by_cases hne : l.ownBlock = some g
  · rcases hl.2 with ⟨rfl, _⟩ | ⟨g1, c1, cur1, rfl, hb1, hh1, hn1, hc1, hs1, ht1⟩
    · simp [Value.ownBlock] at hne
    · obtain rfl : g1 = g := by simpa [Value.ownBlock] using hne
      rw [hg] at hh1
      injection hh1 with hh1
      injection hh1 with hh1 _
      subst hh1
      exact ⟨cur'.toList.take (n * 1), by simp; omega, .inr ⟨g1, c1, cur', rfl, hb1, hg', hn1, hc1, by omega, rfl⟩⟩
  · exact ⟨ys, hl.kept hb (.inr hne)⟩

theorem Rows1.stored {base e : Nat} {w : World} {g n cap : Nat} {xs : List Value} (h : w.ownsRow base e 1 (.slice (some ⟨g, 0, none⟩) n cap) n xs) (j : Nat) (u : Value) : Rows1 base e w (w.setCell ⟨g, j, none⟩ u) := by
  have hst := h.stored j u
  rcases h.2 with ⟨h', _⟩ | ⟨g', cap', cur, h', hb, hg, hnc, hcm, hcs, htake⟩
  · cases h'
  · obtain ⟨h1, _, rfl⟩ := slice_inj h'
    obtain rfl : g = g' := by injection h1 with h1; injection h1
    rcases hst.1.2 with ⟨h2, _⟩ | ⟨g2, cap2, cur2, h2, hb2, hg2, hnc2, hcm2, hcs2, htake2⟩
    · cases h2
    · obtain ⟨h3, _, rfl⟩ := slice_inj h2
      obtain rfl : g = g2 := by injection h3 with h3; injection h3
      exact Rows1.one hg hg2 (by omega) hst.2

section
variable {P : Program} (w : World)
theorem run_append_turn (base : Nat) (t ty e : TypeId) (i : TypeInfo) (z : Value) (bytes : Nat) (ht : P.underlying t = some (.slice e)) (hi : P.info? e = some i) (hz : i.zero = some z)
    (hsize : i.size = 1) (hby : i.bytes = bytes) (hzs : z.cells.size = 1) (hb0 : 0 < bytes)
    (v : Value) (n : Nat) (xs : List Value) (hown : w.ownsRow base e 1 v n xs)
    (a : Addr) (m c : Nat) (news : List Value) (hl : news.length = m) (hnews : ∀ j u, news[j]? = some u → w.cell? (a.add j) = some u) (h1 : ∀ u ∈ news, u.oneCell' = true)
    (hbytes : (n + m) * bytes ≤ 140737488355328) (hbase : base ≤ w.heap.size) :
    ∃ v' w', (Builtin.append_ #[t, t] ty #[v, .slice (some a) m c]).run P w = .ok v' w' ∧ w'.ownsRow base e 1 v' (n + m) (xs ++ news) ∧ w.grownBy w' v.ownBlock ∧ Rows1 base e w w' ∧
      (v'.ownBlock = v.ownBlock ∨ ∀ k, v'.ownBlock = some k → w.heap.size ≤ k) := by
  have h47 : n + m ≤ 140737488355328 := Nat.le_trans (Nat.le_mul_of_pos_right _ hb0) hbytes
  have h63 : n + m ≤ maxLen := by simp only [maxLen]; omega
  rcases hown.2 with ⟨rfl, rfl⟩ | ⟨g, cap, cur, rfl, hbg, hg, hnc, hcm, hcs, htake⟩
  · have hx : xs = [] := List.eq_nil_of_length_eq_zero (by simpa using hown.1)
    subst hx
    obtain ⟨v', w', hr, ho, hgr, _⟩ := run_append_own (P := P) w w.heap.size t ty e i z 1 bytes ht hi hz hsize hby hzs (by omega) (.slice none 0 0) 0 [] (World.ownsRow_nil _ _ _ _) a m c news (by rw [hl, Nat.mul_one]) hnews h1 h63 hbytes (Nat.le_refl _)
    exact ⟨v', w', hr, own_weaken ho hbase, hgr, Rows1.fresh hgr, .inr fun k hk => (ho.lt k hk).1⟩
  · by_cases hroom : n + m ≤ cap
    · obtain ⟨w', hr, ho, hgr⟩ := run_append_fits (P := P) w base t ty e i 1 ht hi hsize g n cap xs hown a m c news (by rw [hl, Nat.mul_one]) hnews h1 hroom
      refine ⟨_, w', hr, ho, hgr, ?_, .inl rfl⟩
      rcases ho.2 with ⟨h2, _⟩ | ⟨g2, cap2, cur2, h2, hb2, hg2, hnc2, hcm2, hcs2, htake2⟩
      · cases h2
      · obtain ⟨h3, _, rfl⟩ := slice_inj h2
        obtain rfl : g = g2 := by injection h3 with h3; injection h3
        exact Rows1.one hg hg2 (by omega) hgr
    · have holds : ∀ j u, xs[j]? = some u → w.cell? ((⟨g, 0, none⟩ : Addr).add j) = some u := hown.cells (g := g) rfl
      have hr := run_append_grow (P := P) w t ty e i z ht hi hz ⟨g, 0, none⟩ n cap xs (by rw [hsize]; exact hown.1) holds a m c news (by rw [hsize, hl, Nat.mul_one]) hnews (by omega) (by omega) (growslice_fits (by omega) (by rw [hby]; exact hbytes))
      have hge := grownCap_ge w (n + m) cap e
      have hcm' : grownCap w (n + m) cap e ≤ maxLen := grownCap_le_maxLen w (n + m) cap e h63
      have hxl := hown.1
      have hgr : ∀ row, w.grownBy (w.drew.alloc (.cells (xs.toArray ++ news.toArray ++ Builtin.zeroCells z.cells (grownCap w (n + m) cap e - (n + m))) e)) row := fun row => ⟨rfl, rfl, rfl, by simp, fun k hk _ => Below.heap_alloc w.drew _ k hk⟩
      refine ⟨_, _, hr, ⟨by rw [List.length_append]; omega, .inr ⟨w.heap.size, _, _, rfl, hbase, heap_alloc_new w.drew _, hge, hcm', ?_, ?_⟩⟩, hgr _, Rows1.fresh (hgr _), .inr fun k hk => by simp [Value.ownBlock] at hk; omega⟩
      · simp only [Array.size_append, List.size_toArray, size_zeroCells, hzs]
        omega
      · simp only [Array.toList_append, List.append_assoc]
        rw [← List.append_assoc]
        exact List.take_left' (by rw [List.length_append]; omega)
variable {ops : Array Oper} {rest : List Oper} {o : Oper} {a : Act} {Q : Exit → Act → World → Prop}
/-- append(v, x) behind 'at_builtin', x the variadic's box. -/
theorem turn_append {W : World} (base : Nat) (hgd : o.guard = none) (s x : Operand) (t e : TypeId) (z : Value) (bytes : Nat)
    (ho : o.op = .call { callee := .builtin .append, args := #[s, x], argTypes := #[t, t] })
    (ht : P.underlying t = some (.slice e)) (hinfo : (P.info? e).map (fun i => (i.zero, i.size, i.bytes)) = some (some z, 1, bytes)) (hz : z.cells.size = 1) (hb0 : 0 < bytes)
    (v : Value) (n : Nat) (xs : List Value) (y : Value) (hs : a.eval s = v) (hx : a.eval x = .slice (some ⟨W.heap.size, 0, none⟩) 1 1) (h1 : y.oneCell' = true)
    (HO : W.ownsRow base e 1 v n xs) (hbase : base ≤ W.heap.size) (hl : (n + 1) * bytes ≤ 140737488355328)
    (h : ∀ v1 w1, w1.ownsRow base e 1 v1 (n + 1) (xs ++ [y]) → W.grownBy w1 v.ownBlock → Rows1 base e W w1 → (v1.ownBlock = v.ownBlock ∨ ∀ k, v1.ownBlock = some k → W.heap.size ≤ k) → wpList P ops Q rest (a.put o.dst v1) w1) :
    wpList P ops Q (o :: rest) a (W.alloc (.cells #[y] e)) := by
  obtain ⟨i0, hi, hzz⟩ := Option.map_eq_some_iff.1 hinfo
  simp only [Prod.mk.injEq] at hzz
  obtain ⟨hz0, hz1, hz2⟩ := hzz
  obtain ⟨v1, w1, hr, ho1, hgr, hrows, hat⟩ := run_append_turn (P := P) (W.alloc (.cells #[y] e)) base t o.type e i0 z bytes ht hi hz0 hz1 hz2 hz hb0 v n xs (HO.alloc _) ⟨W.heap.size, 0, none⟩ 1 1 [y] rfl
    (World.news_of_block (cs := #[y]) (t := e) (fr := (0, 0)) (heap_alloc_new W _)) (by simpa using h1) hl (by simp; omega)
  refine wpList_plain hgd fun _ hK => ?_
  unfold Oper.wp execOp
  simp only [ho, resolve, invoke, builtin, Sem.run_bind, Sem.run_pure, Result.andThen_ok, List.map_toArray, List.map_cons, List.map_nil, hs, hx, hr]
  refine hK _ _ (h v1 w1 ho1 (World.grownBy.trans (World.grownBy_alloc W _ _) hgr) ((Rows1.fresh (World.grownBy_alloc W _ _)).trans hrows) ?_)
  rcases hat with hat | hat
  · exact .inl hat
  · refine .inr fun k hk => ?_
    have := hat k hk
    simp at this
    omega
/-- append(v, ys...), ys a row that stands. -/
theorem turn_append_row {W : World} (base : Nat) (hgd : o.guard = none) (s x : Operand) (t e : TypeId) (z : Value) (bytes : Nat)
    (ho : o.op = .call { callee := .builtin .append, args := #[s, x], argTypes := #[t, t] })
    (ht : P.underlying t = some (.slice e)) (hinfo : (P.info? e).map (fun i => (i.zero, i.size, i.bytes)) = some (some z, 1, bytes)) (hz : z.cells.size = 1) (hb0 : 0 < bytes)
    (v : Value) (n : Nat) (xs : List Value) (ad : Addr) (m c : Nat) (news : List Value) (hs : a.eval s = v) (hx : a.eval x = .slice (some ad) m c) (hln : news.length = m) (hnews : ∀ j u, news[j]? = some u → W.cell? (ad.add j) = some u) (h1 : ∀ u ∈ news, u.oneCell' = true)
    (HO : W.ownsRow base e 1 v n xs) (hbase : base ≤ W.heap.size) (hl : (n + m) * bytes ≤ 140737488355328)
    (h : ∀ v1 w1, w1.ownsRow base e 1 v1 (n + m) (xs ++ news) → W.grownBy w1 v.ownBlock → Rows1 base e W w1 → (v1.ownBlock = v.ownBlock ∨ ∀ k, v1.ownBlock = some k → W.heap.size ≤ k) → wpList P ops Q rest (a.put o.dst v1) w1) :
    wpList P ops Q (o :: rest) a W := by
  obtain ⟨i0, hi, hzz⟩ := Option.map_eq_some_iff.1 hinfo
  simp only [Prod.mk.injEq] at hzz
  obtain ⟨hz0, hz1, hz2⟩ := hzz
  obtain ⟨v1, w1, hr, ho1, hgr, hrows, hat⟩ := run_append_turn (P := P) W base t o.type e i0 z bytes ht hi hz0 hz1 hz2 hz hb0 v n xs HO ad m c news hln hnews h1 hl hbase
  refine wpList_plain hgd fun _ hK => ?_
  unfold Oper.wp execOp
  simp only [ho, resolve, invoke, builtin, Sem.run_bind, Sem.run_pure, Result.andThen_ok, List.map_toArray, List.map_cons, List.map_nil, hs, hx, hr]
  exact hK _ _ (h v1 w1 ho1 hgr hrows hat)
end

/-- What spoil has done so far: of what was there only v's block has turned, and v is a row still. -/
structure Spoilt (e : Nat) (w0 : World) (v : Value) (n : Nat) (w : World) : Prop where
  grown : w0.grownBy w v.ownBlock
  row : ∃ ys, w.ownsRow 0 e 1 v n ys
/-- A row that grew out of it: it lies in the same block, or behind all that was there. -/
def Near (w0 : World) (v g : Value) : Prop := g.ownBlock = v.ownBlock ∨ ∀ k, g.ownBlock = some k → w0.heap.size ≤ k
theorem grownBy_near {w0 w w' : World} {v g : Value} (h : w0.grownBy w v.ownBlock) (hn : Near w0 v g) (hg : w.grownBy w' g.ownBlock) : w0.grownBy w' v.ownBlock := by
  refine ⟨hg.os.trans h.os, hg.tape.trans h.tape, hg.output.trans h.output, Nat.le_trans h.size hg.size, fun k hk hne => ?_⟩
  rw [hg.block k (Nat.lt_of_lt_of_le hk h.size) ?_, h.block k hk hne]
  rcases hn with hn | hn
  · rwa [hn]
  · intro e
    have := hn k e.symm
    omega
theorem Spoilt.step {e : Nat} {w0 w w' : World} {v g : Value} {n : Nat} (h : Spoilt e w0 v n w) (hn : Near w0 v g) (hg : w.grownBy w' g.ownBlock) (hr : Rows1 0 e w w') : Spoilt e w0 v n w' := by
  obtain ⟨ys, hy⟩ := h.row
  exact ⟨grownBy_near h.grown hn hg, hr v n ys hy⟩
theorem Spoilt.fresh {e : Nat} {w0 w w' : World} {v : Value} {n : Nat} (h : Spoilt e w0 v n w) (hg : w.grownBy w' none) : Spoilt e w0 v n w' := by
  obtain ⟨ys, hy⟩ := h.row
  exact ⟨grownBy_near (g := .slice none 0 0) h.grown (.inr fun k hk => by simp [Value.ownBlock] at hk) hg, Rows1.fresh hg v n ys hy⟩
theorem Near.next {w0 w : World} {v g g' : Value} (h : Near w0 v g) (hg : w0.heap.size ≤ w.heap.size) (hat : g'.ownBlock = g.ownBlock ∨ ∀ k, g'.ownBlock = some k → w.heap.size ≤ k) : Near w0 v g' := by
  rcases hat with hat | hat
  · rcases h with h | h
    · exact .inl (hat.trans h)
    · exact .inr fun k hk => h k (hat ▸ hk)
  · exact .inr fun k hk => Nat.le_trans hg (hat k hk)
end Go.Proofs.Ytokgckhhhhigiaa.Turn
