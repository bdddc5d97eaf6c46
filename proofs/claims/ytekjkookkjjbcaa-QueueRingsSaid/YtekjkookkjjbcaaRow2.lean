/- Rows of things (two whole numbers): cells, store, copy, clear. -/
import Derived.Test.YtekjkookkjjbcaaRefH
namespace Go.Proofs.Ytekjkookkjjbcaa.RH
set_option linter.unusedVariables false
set_option linter.unusedSimpArgs false
set_option linter.unusedVariables false
set_option linter.unusedSimpArgs false
open Go.RowKit Go.Proofs.YtekjkookkjjbcaaW.PrintWords Go.Proofs.YtekjkookkjjbcaaW.PrintLast Go.Proofs.YtekjkookkjjbcaaW.PrintMore Go.Proofs.Ytekjkookkjjbcaa.B Go.Proofs.Ytekjkookkjjbcaa.M Go.Proofs.Ytekjkookkjjbcaa.RI
abbrev tT : Nat := 29
def cells2 : List T2 → List Value
  | [] => []
  | x :: xs => .int .i64 x.1 :: .int .i64 x.2 :: cells2 xs
theorem cells2_len (xs : List T2) : (cells2 xs).length = xs.length * 2 := by
  induction xs with
  | nil => rfl
  | cons x xs ih => simp only [cells2, List.length_cons, ih]; omega
theorem cells2_app (xs ys : List T2) : cells2 (xs ++ ys) = cells2 xs ++ cells2 ys := by
  induction xs with
  | nil => rfl
  | cons x xs ih => simp only [List.cons_append, cells2, ih]
theorem cells2_take (xs : List T2) (n : Nat) : cells2 (xs.take n) = (cells2 xs).take (n * 2) := by
  induction xs generalizing n with
  | nil => simp [cells2]
  | cons x xs ih =>
    cases n with
    | zero => simp [cells2]
    | succ n =>
      rw [show (n + 1) * 2 = n * 2 + 1 + 1 by omega]
      simp only [List.take_succ_cons, cells2, ih]
theorem cells2_drop (xs : List T2) (n : Nat) : cells2 (xs.drop n) = (cells2 xs).drop (n * 2) := by
  induction xs generalizing n with
  | nil => simp [cells2]
  | cons x xs ih =>
    cases n with
    | zero => simp [cells2]
    | succ n =>
      rw [show (n + 1) * 2 = n * 2 + 1 + 1 by omega]
      simp only [List.drop_succ_cons, cells2, ih]
theorem cells2_set (xs : List T2) (i : Nat) (y : T2) (h : i < xs.length) : ((cells2 xs).set (i * 2) (.int .i64 y.1)).set (i * 2 + 1) (.int .i64 y.2) = cells2 (xs.set i y) := by
  induction xs generalizing i with
  | nil => exact absurd h (Nat.not_lt_zero _)
  | cons x xs ih =>
    cases i with
    | zero => rfl
    | succ i =>
      have := ih i (by simpa using h)
      rw [show (i + 1) * 2 = i * 2 + 1 + 1 by omega, show i * 2 + 1 + 1 + 1 = (i * 2 + 1) + 1 + 1 by omega]
      simp only [cells2, List.set_cons_succ]
      rw [this]
theorem cells2_one (xs : List T2) : ∀ u ∈ cells2 xs, u.oneCell' = true := by
  induction xs with
  | nil => intro u hu; cases hu
  | cons x xs ih =>
    intro u hu
    simp only [cells2, List.mem_cons] at hu
    rcases hu with rfl | rfl | hu
    · rfl
    · rfl
    · exact ih u hu
theorem cells2_rep (m : Nat) : cells2 (List.replicate m d2) = List.replicate (m * 2) (.int .i64 0) := by
  induction m with
  | zero => rfl
  | succ m ih =>
    rw [show (m + 1) * 2 = m * 2 + 1 + 1 by omega, List.replicate_succ, List.replicate_succ, List.replicate_succ]
    simp only [cells2, ih]
theorem cells2_cons (x : T2) (xs : List T2) : cells2 (x :: xs) = enc2 x ++ cells2 xs := rfl
theorem enc2_len (x : T2) : (enc2 x).length = 2 := rfl
theorem reps2 {R : T2 → List Value → Prop} (hR : ∀ x cs, R x cs → cs = enc2 x) (xs : List T2) : ∀ inner : List Value, Reps R 2 xs inner → inner = cells2 xs := by
  induction xs with
  | nil => intro inner h; exact List.eq_nil_of_length_eq_zero (by have := h.1; simpa using this)
  | cons x xs ih =>
    intro inner h
    have h0 := hR _ _ (h.2 0 x rfl)
    rw [Nat.zero_mul, List.drop_zero] at h0
    have ht : Reps R 2 xs (inner.drop 2) := ⟨by have := h.1; rw [List.length_drop, this, List.length_cons]; omega, fun j p hp => by
      have := h.2 (j + 1) p (by rw [List.getElem?_cons_succ]; exact hp)
      rw [List.drop_drop, show 2 + j * 2 = (j + 1) * 2 by omega]
      exact this⟩
    rw [cells2_cons, ← ih _ ht, ← h0, List.take_append_drop]
theorem reps2_mk {R : T2 → List Value → Prop} (hR : ∀ x, R x (enc2 x)) (xs : List T2) : Reps R 2 xs (cells2 xs) := by
  refine ⟨cells2_len xs, ?_⟩
  induction xs with
  | nil => intro j p h; simp at h
  | cons x xs ih =>
    intro j p h
    cases j with
    | zero =>
      obtain rfl : x = p := by simpa using h
      rw [Nat.zero_mul, List.drop_zero, cells2_cons, List.take_left' (enc2_len x)]
      exact hR x
    | succ j =>
      rw [cells2_cons, show (j + 1) * 2 = (enc2 x).length + j * 2 by rw [enc2_len]; omega, List.drop_append]
      simp only [Nat.add_sub_cancel_left]
      rw [List.drop_of_length_le (by rw [enc2_len]; omega), List.nil_append]
      exact ih j p (by rw [List.getElem?_cons_succ] at h; exact h)
theorem kT_openM {w : World} {base : Nat} {ok : Nat → Prop} {x : T2} {cs : List Value} (h : kT.M w base ok x cs) : cs = enc2 x := by
  obtain ⟨_, _, rfl, h1, h2⟩ := h
  have h1 : _ = [Value.int .i64 x.1] := h1
  have h2 : _ = [Value.int .i64 x.2] := h2
  rw [h1, h2]
  rfl
/-- The block of such a row. -/
theorem R2_blk {W : World} {base g9 c9 n : Nat} {ok : Nat → Prop} {xs : List T2} (h : Kd.R kT tT W base ok (.slice (some ⟨g9, 0, none⟩) n c9) xs) : ∃ cur, W.heap[g9]? = some (.cells cur tT (0, 0)) ∧ base ≤ g9 ∧ n = xs.length ∧ xs.length ≤ c9 ∧ c9 ≤ maxLen ∧ cur.size = c9 * 2 ∧ cur.toList.take (xs.length * 2) = cells2 xs := by
  obtain ⟨h0, inner, ho, hr⟩ := h
  have e : inner = cells2 xs := reps2 (fun x cs hM => kT_openM hM) xs inner hr
  subst e
  rcases ho.2 with ⟨hv, _⟩ | ⟨g, cap, cur, hv, hb, hh, hnc, hcm, hcs, htake⟩
  · cases hv
  · injection hv with hv1 hv2 hv3
    injection hv1 with hv1
    injection hv1 with hv1
    subst hv1
    subst hv3
    exact ⟨cur, hh, hb, hv2, hnc, hcm, hcs, htake⟩
theorem R2_of {W : World} {base g9 c9 : Nat} {ok : Nat → Prop} {xs : List T2} {cur : Array Value} (h : W.heap[g9]? = some (.cells cur tT (0, 0))) (hb : base ≤ g9) (hok : ok g9) (hl : xs.length ≤ c9) (hm : c9 ≤ maxLen) (hs : cur.size = c9 * 2) (ht : cur.toList.take (xs.length * 2) = cells2 xs) : Kd.R kT tT W base ok (.slice (some ⟨g9, 0, none⟩) xs.length c9) xs :=
  ⟨fun k hk => by simp [Value.ownBlock] at hk; rw [← hk]; exact hok, cells2 xs, ⟨cells2_len xs, .inr ⟨g9, c9, cur, rfl, hb, h, hl, hm, hs, ht⟩⟩, reps2_mk (fun x => ⟨[.int .i64 x.1], [.int .i64 x.2], rfl, rfl, rfl⟩) xs⟩
theorem R2_cell {W : World} {base g9 c9 n : Nat} {ok : Nat → Prop} {xs : List T2} (h : Kd.R kT tT W base ok (.slice (some ⟨g9, 0, none⟩) n c9) xs) (p : Nat) (hp : p < xs.length) :
    W.cell? ⟨g9, p * 2, none⟩ = some (.int .i64 (xs.getD p d2).1) ∧ W.cell? ⟨g9, p * 2 + 1, none⟩ = some (.int .i64 (xs.getD p d2).2) ∧ W.frozen? ⟨g9, p * 2, none⟩ = false ∧ W.frozen? ⟨g9, p * 2 + 1, none⟩ = false := by
  obtain ⟨cur, hh, _⟩ := R2_blk h
  have h1 := C_cells (Kd.R_reads' h).2.2 p hp
  exact ⟨h1.1, h1.2, blk_frozen hh _, blk_frozen hh _⟩
theorem R2_put {W : World} {base g9 c9 n : Nat} {ok : Nat → Prop} {xs : List T2} (h : Kd.R kT tT W base ok (.slice (some ⟨g9, 0, none⟩) n c9) xs) (p : Nat) (hp : p < xs.length) (y : T2) :
    Kd.R kT tT ((W.setCell ⟨g9, p * 2, none⟩ (.int .i64 y.1)).setCell ⟨g9, p * 2 + 1, none⟩ (.int .i64 y.2)) base ok (.slice (some ⟨g9, 0, none⟩) n c9) (xs.set p y) := by
  obtain ⟨cur, hh, hb, hn, hl, hm, hs, ht⟩ := R2_blk h
  have h1 := blk_set hh (p * 2) (.int .i64 y.1)
  have h2 := blk_set h1 (p * 2 + 1) (.int .i64 y.2)
  have hz : n = (xs.set p y).length := by rw [List.length_set]; exact hn
  rw [hz]
  refine R2_of h2 hb (h.1 g9 rfl) (by rw [List.length_set]; exact hl) hm (by simp [hs]) ?_
  rw [List.length_set, ← cells2_set xs p y hp, ← ht]
  simp only [Array.toList_setIfInBounds, List.take_set]
section
variable {P : Program} {ops : Array Oper} {rest : List Oper} {o : Oper} {a : Act} {Q : Exit → Act → World → Prop}
theorem C_list {W : World} {g9 n : Nat} {gs : List T2} (h : kT.C W (some ⟨g9, 0, none⟩) n gs) : ∀ j v, (cells2 gs)[j]? = some v → W.cell? ((⟨g9, 0, none⟩ : Addr).add j) = some v := by
  intro j v hj
  have hn : gs.length = n := h.1
  have hlt : j < (cells2 gs).length := (List.getElem?_eq_some_iff.1 hj).1
  rw [cells2_len] at hlt
  have ha : (Addr.add ⟨g9, 0, none⟩ j) = (⟨g9, j, none⟩ : Addr) := by unfold Addr.add; simp; intro h; exact h.symm
  rw [ha]
  have hc := C_cells h (j / 2) (by omega)
  have hd : (cells2 gs).drop (j / 2 * 2) = cells2 (gs.drop (j / 2)) := (cells2_drop gs (j / 2)).symm
  rw [List.drop_eq_getElem_cons (show j / 2 < gs.length by omega)] at hd
  have hg : gs.getD (j / 2) d2 = gs[j / 2]'(by omega) := by rw [List.getD_eq_getElem?_getD, List.getElem?_eq_getElem (by omega)]; rfl
  rw [hg] at hc
  rcases Nat.mod_two_eq_zero_or_one j with e | e
  · have ej : j = j / 2 * 2 := by omega
    have h1 : (cells2 gs)[j]? = some (.int .i64 (gs[j / 2]'(by omega)).1) := by
      have := congrArg (fun l => l[0]?) hd
      simp only [List.getElem?_drop, Nat.add_zero, cells2, List.getElem?_cons_zero] at this
      rw [← ej] at this
      exact this
    rw [h1] at hj
    rw [← Option.some.inj hj]
    have := hc.1
    rw [← ej] at this
    exact this
  · have ej : j = j / 2 * 2 + 1 := by omega
    have h1 : (cells2 gs)[j]? = some (.int .i64 (gs[j / 2]'(by omega)).2) := by
      have := congrArg (fun l => l[1]?) hd
      simp only [List.getElem?_drop, cells2, List.getElem?_cons_succ, List.getElem?_cons_zero] at this
      rw [← ej] at this
      exact this
    rw [h1] at hj
    rw [← Option.some.inj hj]
    have := hc.2
    rw [← ej] at this
    exact this
theorem run_copy2 (w : World) (dT ty : TypeId) (g dLen dCap s sLen sCap : Nat) (cur : Array Value) (t : TypeId) (cs : List Value) {elem : TypeId}
    (hu : P.underlying dT = some (.slice elem)) (hs : (P.info? elem).map (·.size) = some 2)
    (hg : w.heap[g]? = some (.cells cur t (0, 0))) (hn : cs.length = Nat.min sLen dLen * 2)
    (hsrc : ∀ j v, cs[j]? = some v → w.cell? ((⟨s, 0, none⟩ : Addr).add j) = some v) (hfit : cs.length ≤ cur.size) (h1 : ∀ v ∈ cs, v.oneCell' = true) :
    (Builtin.copy_ #[dT, dT] ty #[.slice (some ⟨g, 0, none⟩) dLen dCap, .slice (some ⟨s, 0, none⟩) sLen sCap]).run P w =
      .ok (goInt (Nat.min sLen dLen)) (w.setRow g (cs ++ cur.toList.drop cs.length).toArray) := by
  have hl := run_loadCells_list (P := P) w ⟨s, 0, none⟩ cs hsrc
  have hst := run_storeCells_at P g 0 t cs 0 cur w hg (by simpa using hfit) h1
  cases hq : P.info? elem with
  | none => simp [hq] at hs
  | some i =>
    have hi : i.size = 2 := by simpa [hq] using hs
    simp [Builtin.copy_, run_underlying hu, Builtin.lenOf, Builtin.firstCells, sizeOf, typeInfo, hq, hi, ← hn, hl, hst]
/-- copy into a row of things of one's own. -/
theorem R2_copy {w0 W : World} (base : Nat) (hgd : o.guard = none) (s x : Operand) (t : TypeId)
    (ho : o.op = .call { callee := .builtin .copy, args := #[s, x], argTypes := #[t, t] }) (ht : P.underlying t = some (.slice tT)) (hinfo : (P.info? tT).map (·.size) = some 2)
    {g9 c9 : Nat} (xs ys : List T2) (v : Value) (ok : Nat → Prop) (hs : a.eval s = .slice (some ⟨g9, 0, none⟩) xs.length c9) (hx : a.eval x = v) {base' : Nat} {ok' : Nat → Prop}
    (HO : Kd.R kT tT W base ok (.slice (some ⟨g9, 0, none⟩) xs.length c9) xs) (HR : Kd.R kT tT W base' ok' v ys) (HB : Below base w0 W) (hbase : base ≤ W.heap.size) (hle : ys.length ≤ xs.length)
    (h : ∀ w1, Kd.R kT tT w1 base ok (.slice (some ⟨g9, 0, none⟩) xs.length c9) (ys ++ xs.drop ys.length) → Below base w0 w1 → W.grownBy w1 (some g9) → wpList P ops Q rest (a.put o.dst (.int .i64 (ys.length : Int))) w1) :
    wpList P ops Q (o :: rest) a W := by
  obtain ⟨cur, hh, hb, _, hl, hm, hcs, htk⟩ := R2_blk HO
  have hmin : Nat.min ys.length xs.length = ys.length := Nat.min_eq_left hle
  have fin : ∀ w1, (Builtin.copy_ #[t, t] o.type #[.slice (some ⟨g9, 0, none⟩) xs.length c9, v]).run P W = .ok (goInt (ys.length : Nat)) w1 → Kd.R kT tT w1 base ok (.slice (some ⟨g9, 0, none⟩) xs.length c9) (ys ++ xs.drop ys.length) → W.grownBy w1 (some g9) → wpList P ops Q (o :: rest) a W := by
    intro w1 hr hrow hg
    refine Kd.event_run hgd (v := .int .i64 (ys.length : Int)) (w1 := w1) ?_ (h w1 hrow (pw_below_grown HB _ hbase hg (fun k hk => by cases hk; exact hb)) hg)
    simp [execOp, ho, resolve, invoke, builtin, hs, hx, hr, goInt]
  obtain ⟨A, c, hv⟩ := Kd.R_slice HR
  subst hv
  cases ys with
  | nil =>
    refine fin W ?_ (by simpa using HO) (World.grownBy.refl W _)
    cases hq : P.info? tT with
    | none => simp [hq] at hinfo
    | some i =>
      simp [Builtin.copy_, run_underlying ht, Builtin.lenOf, Builtin.firstCells, sizeOf, typeInfo, hq]
      cases A with
      | none => simp [storeCells]
      | some a => simp [storeCells, loadCells, loadCellsFrom]
  | cons y ys =>
    obtain ⟨s9, sc, hv, _⟩ := Kd.R_form HR (by simp)
    injection hv with hv1 hv2 hv3
    subst hv1
    have hr := run_copy2 (P := P) W t o.type g9 xs.length c9 s9 (y :: ys).length c cur tT (cells2 (y :: ys)) ht hinfo hh (by rw [hmin]; exact cells2_len _) (C_list (Kd.R_reads' HR).2.2) (by rw [cells2_len]; omega) (cells2_one _)
    rw [hmin] at hr
    have hx2 := setRow_heap W g9 cur (cells2 (y :: ys) ++ cur.toList.drop (cells2 (y :: ys)).length).toArray tT (0, 0) hh
    have hlen : ((y :: ys) ++ xs.drop (y :: ys).length).length = xs.length := by rw [List.length_append, List.length_drop]; omega
    refine fin _ hr ?_ (set_row_grown W g9 _)
    rw [← hlen]
    refine R2_of hx2 hb (HO.1 g9 rfl) (by rw [hlen]; exact hl) hm ?_ ?_
    · simp only [List.size_toArray, List.length_append, List.length_drop, Array.length_toList, cells2_len]
      omega
    · rw [hlen, cells2_app, cells2_drop, ← htk, cells2_len, List.drop_take, List.take_append, cells2_len, List.take_of_length_le (by rw [cells2_len]; omega), show xs.length * 2 - (y :: ys).length * 2 = xs.length * 2 - (y :: ys).length * 2 from rfl]
theorem zero_cells2 (m : Nat) : (Builtin.zeroCells #[.int .i64 0, .int .i64 0] m).toList = List.replicate (m * 2) (.int .i64 0) := by
  apply List.ext_getElem
  · simp [Builtin.zeroCells]
  · intro i h1 h2
    simp only [Builtin.zeroCells, Array.toList_map, List.getElem_map, List.getElem_replicate, Array.toList_range, List.getElem_range, List.size_toArray, List.length_cons, List.length_nil]
    rcases Nat.mod_two_eq_zero_or_one i with e | e <;> rw [e] <;> rfl
theorem run_clear2 {W : World} (t ty : TypeId) (ht : P.underlying t = some (.slice tT)) (bytes : Nat) (hinfo : (P.info? tT).map (fun i => (i.zero, i.size, i.bytes)) = some (some (.agg #[.int .i64 0, .int .i64 0]), 2, bytes))
    (g9 p m c' c9 : Nat) (xs : List T2) {base : Nat} {ok : Nat → Prop} (HO : Kd.R kT tT W base ok (.slice (some ⟨g9, 0, none⟩) xs.length c9) xs) (hl : p + m ≤ xs.length) :
    ∃ w1, (Builtin.clear_ #[t] ty #[.slice (some ⟨g9, p * 2, none⟩) m c']).run P W = .ok (.tuple #[]) w1 ∧ Kd.R kT tT w1 base ok (.slice (some ⟨g9, 0, none⟩) xs.length c9) (zeroed d2 xs p m) ∧ W.grownBy w1 (some g9) := by
  obtain ⟨i0, hi, hzz⟩ := Option.map_eq_some_iff.1 hinfo
  simp only [Prod.mk.injEq] at hzz
  obtain ⟨hz0, hz1, hz2⟩ := hzz
  cases m with
  | zero =>
    refine ⟨W, ?_, by rw [zeroed_zero]; exact HO, World.grownBy.refl W _⟩
    simp [Builtin.clear_, run_underlying ht]
  | succ m =>
    obtain ⟨cur, hh, hb, _, hnc, hcm, hcs, htake⟩ := R2_blk HO
    have hr := run_storeCells_at (P := P) g9 (p * 2) tT (List.replicate ((m + 1) * 2) (.int .i64 0)) 0 cur W hh (by rw [List.length_replicate]; omega) (by intro u hu; rw [List.mem_replicate] at hu; rw [hu.2]; rfl)
    have hg := set_row_grown W g9 (cur.toList.take (p * 2 + 0) ++ List.replicate ((m + 1) * 2) (Value.int .i64 0) ++ cur.toList.drop (p * 2 + 0 + (List.replicate ((m + 1) * 2) (Value.int .i64 0)).length)).toArray
    refine ⟨_, ?_, ?_, hg⟩
    · simp [Builtin.clear_, run_underlying ht, zeroValue, typeInfo, hi, hz0, Value.cells, zero_cells2]
      simp only [List.length_replicate, Nat.add_zero] at hr
      rw [hr]
      simp [Result.andThen]
    · have hx := setRow_heap W g9 cur (cur.toList.take (p * 2 + 0) ++ List.replicate ((m + 1) * 2) (Value.int .i64 0) ++ cur.toList.drop (p * 2 + 0 + (List.replicate ((m + 1) * 2) (Value.int .i64 0)).length)).toArray tT (0, 0) hh
      have hzl := zeroed_len d2 xs p (m + 1) hl
      have hcl : cur.toList.length = c9 * 2 := by rw [Array.length_toList]; omega
      rw [← hzl]
      refine R2_of hx hb (HO.1 g9 rfl) (by rw [hzl]; exact hnc) hcm ?_ ?_
      · simp only [List.size_toArray, List.length_append, List.length_take, List.length_replicate, List.length_drop, hcl]
        omega
      · rw [hzl]
        simp only [Nat.add_zero, List.length_replicate]
        unfold zeroed
        rw [cells2_app, cells2_app, cells2_rep]
        have e1 : cells2 (xs.take p) = cur.toList.take (p * 2) := by
          rw [cells2_take, ← htake, List.take_take, Nat.min_eq_left (by omega)]
        have e3 : cells2 (xs.drop (p + (m + 1))) = (cur.toList.drop (p * 2 + (m + 1) * 2)).take (xs.length * 2 - (p * 2 + (m + 1) * 2)) := by
          rw [cells2_drop, ← htake, List.drop_take, show (p + (m + 1)) * 2 = p * 2 + (m + 1) * 2 by omega]
        rw [e1, e3, List.take_append]
        have e4 : (cur.toList.take (p * 2) ++ List.replicate ((m + 1) * 2) (Value.int .i64 0)).length = p * 2 + (m + 1) * 2 := by
          rw [List.length_append, List.length_take, List.length_replicate, hcl]
          omega
        rw [e4, List.take_of_length_le (by rw [e4]; omega)]
end
section
variable {P : Program} {o : Oper} {ops : Array Oper} {a : Act} {Kc : Act → World → Prop} {Q : Exit → Act → World → Prop}
theorem clear_step2 {W : World} (hw : Region.wanted o (yielded ops a.tmps) = true) (x : Operand) (t : TypeId)
    (ho : o.op = .call { callee := .builtin .clear, args := #[x], argTypes := #[t] }) (hd : o.dst = none) (ht : P.underlying t = some (.slice tT)) (bytes : Nat) (hinfo : (P.info? tT).map (fun i => (i.zero, i.size, i.bytes)) = some (some (.agg #[.int .i64 0, .int .i64 0]), 2, bytes))
    (g9 p m c' c9 : Nat) (hx : a.eval x = .slice (some ⟨g9, p * 2, none⟩) m c') (xs : List T2) {base : Nat} {ok : Nat → Prop} (HO : Kd.R kT tT W base ok (.slice (some ⟨g9, 0, none⟩) xs.length c9) xs) (hl : p + m ≤ xs.length)
    (h : ∀ w1, Kd.R kT tT w1 base ok (.slice (some ⟨g9, 0, none⟩) xs.length c9) (zeroed d2 xs p m) → W.grownBy w1 (some g9) → Kc a w1) :
    if Region.wanted o (yielded ops a.tmps) = true then Oper.wp P o a W Kc Q else Kc (a.put o.dst undef) W := by
  obtain ⟨w1, hr, h2, h3⟩ := run_clear2 (P := P) (ty := o.type) t ht bytes hinfo g9 p m c' c9 xs HO hl
  refine event_step hw (w1 := w1) (v := .tuple #[]) ?_ (by rw [hd]; exact h w1 h2 h3)
  simp [execOp, ho, resolve, invoke, builtin, hx, hr]
end
end Go.Proofs.Ytekjkookkjjbcaa.RH
