/- SumKeeps: the walk of the statement (by hand), along the way on which all tests hold. -/
import Derived.Test.YtlaglidgjnpncaaSumS
import Derived.Test.YtlaglidgjnpncaaSumCutL
import Derived.Laws.CopyOwn
import Derived.Test.YtlaglidgjnpncaaH2
namespace Go.Proofs.Ytlaglidgjnpncaa.SumF
set_option linter.unusedVariables false
set_option linter.unusedSimpArgs false
set_option linter.unusedVariables false
set_option linter.unusedSimpArgs false
open Go.RowKit Go.Proofs.YtlaglidgjnpncaaW.PrintWords Go.Proofs.YtlaglidgjnpncaaW.PrintLast Go.Proofs.YtlaglidgjnpncaaW.PrintMore Go.Proofs.Ytlaglidgjnpncaa.B Go.Proofs.Ytlaglidgjnpncaa.M Go.Proofs.Ytlaglidgjnpncaa.H Go.Proofs.Ytlaglidgjnpncaa.SumP Go.Proofs.Ytlaglidgjnpncaa.Crc

/-- A block whose first cells are these bytes. -/
def Row (W : World) (g cap : Nat) (xs : List Int) : Prop := ∃ cur : List Value, W.heap[g]? = some (.cells cur.toArray 5 (0, 0)) ∧ cur.take xs.length = nums .u8 xs ∧ xs.length ≤ cap ∧ xs.length ≤ cur.length ∧ xs.length ≤ 9223372036854775807
theorem nums_len (xs : List Int) : (nums .u8 xs).length = xs.length := by simp [nums]
theorem nums_take (xs : List Int) (n : Nat) : (nums .u8 xs).take n = nums .u8 (xs.take n) := by simp [nums, List.map_take]
theorem nums_append (xs ys : List Int) : nums .u8 (xs ++ ys) = nums .u8 xs ++ nums .u8 ys := by simp [nums]
theorem Row.of_R {W : World} {base : Nat} {ok : Nat → Prop} {v : Value} {xs : List Int} (h : Kd.R (Kd.int .u8) 5 W base ok v xs) (hp : 0 < xs.length) : ∃ g c, v = .slice (some ⟨g, 0, none⟩) xs.length c ∧ Row W g c xs ∧ base ≤ g ∧ g < W.heap.size := by
  have ho := Kd.own_of_R h
  rcases ho.2 with ⟨_, h0⟩ | ⟨g, cap, cur, hv, hb, hg, hn, hm, hs, ht⟩
  · omega
  · refine ⟨g, cap, hv, ⟨cur.toList, by simpa using hg, by rw [Nat.mul_one] at ht; exact ht, hn, by have h1 : cur.toList.length = cur.size := Array.length_toList; omega, by unfold maxLen at hm; omega⟩, hb, blk_lt hg⟩
theorem Row.C {W : World} {g cap : Nat} {xs ys : List Int} (h : Row W g cap xs) (hy : xs.take ys.length = ys) : Kd.C (Kd.int .u8) W (some ⟨g, 0, none⟩) ys.length ys := by
  obtain ⟨cur, hg, ht, _, _, hm⟩ := h
  have hl : ys.length ≤ xs.length := by have h1 := congrArg List.length hy; rw [List.length_take] at h1; omega
  refine C_piece hg (by omega) ?_
  have : cur.take ys.length = (cur.take xs.length).take ys.length := by rw [List.take_take, Nat.min_eq_left hl]
  simp only [List.drop_zero]
  rw [this, ht, nums_take, hy]
theorem Row.step {W W2 : World} {g cap : Nat} {xs : List Int} (h : Row W g cap xs) (hs : W2.heap[g]? = W.heap[g]?) : Row W2 g cap xs := by
  obtain ⟨cur, hg, r⟩ := h
  exact ⟨cur, hs.trans hg, r⟩
theorem Row.lt {W : World} {g cap : Nat} {xs : List Int} (h : Row W g cap xs) : g < W.heap.size := by obtain ⟨_, hg, _⟩ := h; exact blk_lt hg
theorem Row.cell {W : World} {g cap : Nat} {xs : List Int} (h : Row W g cap xs) (j : Nat) (hj : j < xs.length) : W.cell? ⟨g, j, none⟩ = some (.int .u8 xs[j]) ∧ W.frozen? ⟨g, j, none⟩ = false := by
  obtain ⟨cur, hg, ht, _, hl, _⟩ := h
  refine ⟨?_, blk_frozen hg j⟩
  rw [blk_cell hg j]
  have h1 : (cur.take xs.length)[j]? = (nums .u8 xs)[j]? := by rw [ht]
  rw [List.getElem?_take, if_pos hj] at h1
  simpa [nums, hj] using h1
theorem Row.set {W : World} {g cap : Nat} {xs : List Int} (h : Row W g cap xs) (j : Nat) (v : Int) : Row (W.setCell ⟨g, j, none⟩ (.int .u8 v)) g cap (xs.set j v) := by
  obtain ⟨cur, hg, ht, hc, hl, hm⟩ := h
  refine ⟨cur.set j (.int .u8 v), ?_, ?_, by simpa using hc, by simpa using hl, by simpa using hm⟩
  · have := blk_set hg j (.int .u8 v)
    simpa using this
  · rw [List.length_set, List.take_set, ht]
    simp [nums, List.map_set]

/-- Where the statement's things stand: the bytes with their marks, and the stream. -/
structure KI (w : World) (gs ga ca : Nat) (sm n : Int) (xa : List Int) (W : World) : Prop where
  below : Below w.heap.size w W
  row : Row W ga ca xa
  blk : W.heap[gs]? = some (.cells (strm true sm n) 50 (0, 0))
  ne : ga ≠ gs
  hgs : w.heap.size ≤ gs
  hga : w.heap.size ≤ ga
section
variable {w : World} {gs ga ca : Nat} {sm n sm' n' : Int} {xa : List Int} {W W2 : World}
theorem KI.step (h : KI w gs ga ca sm n xa W) (hb : Below W.heap.size W W2) : KI w gs ga ca sm n xa W2 :=
  ⟨below_step h.below hb, h.row.step (hb.block ga h.row.lt), blk_below h.blk hb, h.ne, h.hgs, h.hga⟩
theorem KI.left (h : KI w gs ga ca sm n xa W) (hl : Left gs (strm true sm' n') W W2) : KI w gs ga ca sm' n' xa W2 :=
  ⟨hl.below w h.hgs h.below, h.row.step (hl.keep.2 ga h.row.lt h.ne (by simp)), hl.blk, h.ne, h.hgs, h.hga⟩
theorem KI.C (h : KI w gs ga ca sm n xa W) {ys : List Int} (hy : xa.take ys.length = ys) : Kd.C (Kd.int .u8) W (some ⟨ga, 0, none⟩) ys.length ys := h.row.C hy
theorem KI.grown (h : KI w gs ga ca sm n xa W) {row : Option Nat} {base : Nat} (hg : W.grownBy W2 row) (hr : ∀ k, row = some k → base ≤ k) (h1 : gs < base) (h2 : ga < base) : KI w gs ga ca sm n xa W2 :=
  ⟨pw_below_grown h.below row h.below.size hg (fun k hk => by have := hr k hk; have := h.hgs; omega), h.row.step (hg.block ga h.row.lt (fun e => by have := hr ga e.symm; omega)), blk_grown h.blk hg (fun e => by have := hr gs e.symm; omega), h.ne, h.hgs, h.hga⟩
theorem KI.low (h : KI w gs ga ca sm n xa W) : gs < W.heap.size ∧ ga < W.heap.size := ⟨blk_lt h.blk, h.row.lt⟩
end
def marked (xs : List Int) : List Int := xs ++ List.replicate 80 165
theorem marked_len (xs : List Int) : (marked xs).length = xs.length + 80 := by simp [marked]
theorem marked_front (xs : List Int) : (marked xs).take xs.length = xs := by simp [marked]
theorem marked_whole (xs : List Int) : (marked xs).take (marked xs).length = marked xs := List.take_length

section
variable {P : Program} {ops : Array Oper} {rest : List Oper} {o : Oper} {a : Act} {Q : Exit → Act → World → Prop} {W : World}
theorem copy_into (hgd : o.guard = none) (s x : Operand) (t t' : TypeId) (ho : o.op = .call { callee := .builtin .copy, args := #[s, x], argTypes := #[t, t'] }) (hu : P.underlying t = some (.slice 5)) (hsz : (P.info? 5).map (·.size) = some 1)
    (g cap n cap' c : Nat) (A : Option Addr) (xs ys : List Int) (hs : a.eval s = .slice (some ⟨g, 0, none⟩) n cap') (hx : a.eval x = .slice A ys.length c) (hrow : Row W g cap xs) (hn : n ≤ xs.length) (hC : Kd.C (Kd.int .u8) W A ys.length ys)
    (h : ∀ w', Row w' g cap (ys.take (min ys.length n) ++ xs.drop (min ys.length n)) → W.grownBy w' (some g) → wpList P ops Q rest (a.put o.dst (goInt (min ys.length n : Nat))) w') : wpList P ops Q (o :: rest) a W := by
  have hm : (nums .u8 (ys.take (min ys.length n))).length = Nat.min ys.length n := by rw [nums_len, List.length_take]; show min (min ys.length n) ys.length = min ys.length n; omega
  by_cases h0 : min ys.length n = 0
  · refine wpList_copy_nothing hgd s x t t' ho 5 hu hsz _ A n cap' ys.length c hs hx h0 ?_
    have h2 := h W (by rw [h0, List.take_zero, List.drop_zero, List.nil_append]; exact hrow) (World.grownBy.refl W _)
    rw [h0] at h2
    exact h2
  · obtain ⟨hl, hmx, hc⟩ := Kd.reads_of_C (d := (0 : Int)) (h1 := fun _ => rfl) hC
    obtain ⟨ad, rfl, hcell⟩ := hc (by omega)
    obtain ⟨cur, hg, ht, hcap, hlen, hmx2⟩ := hrow
    have hn2 : min ys.length n ≤ xs.length := by omega
    have e := wpList_copy_own (P := P) (w := W) (rest := rest) (Q := Q) (ops := ops) (a := a) hgd s x t t' ho 5 hu hsz g 0 n cap' ad ys.length c hs hx cur.toArray 5 hg (nums .u8 (ys.take (min ys.length n))) hm (fun j v hj => by
      have hj2 : j < min ys.length n := by
        have := (List.getElem?_eq_some_iff.1 hj).1
        rw [nums_len, List.length_take] at this; omega
      rw [hcell j (by omega), ← hj]
      simp [nums, List.getElem?_take, hj2, show j < ys.length by omega, List.getD_eq_getElem?_getD]) (by rw [hm]; show 0 + min ys.length n ≤ cur.toArray.size; simp; omega) (fun v hv => by
      obtain ⟨q, _, rfl⟩ := List.mem_map.1 hv; rfl)
    refine e ?_
    rw [hm]
    have e1 : (ys.take (min ys.length n) ++ xs.drop (min ys.length n)).length = xs.length := by simp; omega
    have hm2 : (nums .u8 (ys.take (min ys.length n))).length = min ys.length n := hm
    refine h _ ⟨_, setRow_heap W g _ _ _ _ hg, ?_, by omega, ?_, by omega⟩ ⟨rfl, rfl, rfl, by simp, fun k _ hk => setRow_other W g k _ (fun e => hk (by rw [e]))⟩
    · show List.take _ (List.take 0 cur ++ (nums .u8 (ys.take (min ys.length n)) ++ List.drop (0 + min ys.length n) cur)) = _
      rw [e1, List.take_zero, List.nil_append, Nat.zero_add, List.take_append, hm2, List.take_of_length_le (by omega), ← List.drop_take, ht, nums_append]
      simp [nums, List.map_drop]
    · show _ ≤ (List.take 0 cur ++ (nums .u8 (ys.take (min ys.length n)) ++ List.drop (0 + min ys.length n) cur)).length
      rw [e1, List.take_zero, List.nil_append, List.length_append, hm2, List.length_drop]
      omega
end
theorem Of_at (A : Option Addr) (c n : Nat) (xs : List Int) (r : Int) (hn : xs.length = n) (W : World) (hC : Kd.C (Kd.int .u8) W A xs.length xs) (hc : n ≤ c) (h : sum_Of.f xs = some r) : Calls Try.prog 12 #[.slice A n c] W fun e w' => e = .returned (.int .u32 r) ∧ Below W.heap.size W w' := by
  subst hn; exact sum_Of.calls A c xs r W hC hc h
theorem More_at (a : Int) (A : Option Addr) (c n : Nat) (xs : List Int) (r : Int) (hn : xs.length = n) (W : World) (hC : Kd.C (Kd.int .u8) W A xs.length xs) (hc : n ≤ c) (h : sum_More.f a xs = some r) : Calls Try.prog 14 #[.int .u32 a, .slice A n c] W fun e w' => e = .returned (.int .u32 r) ∧ Below W.heap.size W w' := by
  subst hn; exact sum_More.calls a A c xs r W hC hc h
theorem refOf_at (k : Nat) (A : Option Addr) (c n : Nat) (xs : List Int) (r : Int) (hn : xs.length = n) (W : World) (hC : Kd.C (Kd.int .u8) W A xs.length xs) (hc : n ≤ c) (h : posthornref02_Of.f k xs = some r) : Calls Try.prog 13 #[.slice A n c] W fun e w' => e = .returned (.int .u32 r) ∧ Drawn0 W w' := by
  subst hn; exact posthornref02_Of.calls k A c xs r W hC hc h
theorem refMore_at (k : Nat) (a : Int) (A : Option Addr) (c n : Nat) (xs : List Int) (r : Int) (hn : xs.length = n) (W : World) (hC : Kd.C (Kd.int .u8) W A xs.length xs) (hc : n ≤ c) (h : posthornref02_More.f k a xs = some r) : Calls Try.prog 15 #[.int .u32 a, .slice A n c] W fun e w' => e = .returned (.int .u32 r) ∧ Drawn0 W w' := by
  subst hn; exact posthornref02_More.calls k a A c xs r W hC hc h
theorem roomy_at (k : Nat) (A : Option Addr) (c n : Nat) (xs r : List Int) (hn : xs.length = n) (W : World) (hC : Kd.C (Kd.int .u8) W A xs.length xs) (hc : n ≤ c) (h : posthornlaw02_roomy.f k xs = some r) : Calls Try.prog 32 #[.slice A n c] W fun e w' => ∃ v0_ : Value, e = .returned v0_ ∧ Kd.R (Kd.int .u8) 5 w' W.heap.size (fun _ => True) v0_ r ∧ Below W.heap.size W w' := by
  subst hn; exact posthornlaw02_roomy.calls k A c xs r W hC hc h
theorem equal_at (k : Nat) (A B : Option Addr) (c d n m : Nat) (xs ys : List Int) (hn : xs.length = n) (hm : ys.length = m) (W : World) (hC : Kd.C (Kd.int .u8) W A xs.length xs) (hc : n ≤ c) (hD : Kd.C (Kd.int .u8) W B ys.length ys) (hd : m ≤ d) (h : slices_Equal_byte_byte.f k xs ys = some true) :
    Calls Try.prog 33 #[.slice A n c, .slice B m d] W fun e w' => e = .returned (.bool true) ∧ Drawn0 W w' := by
  subst hn hm; exact slices_Equal_byte_byte.calls k A c xs B d ys true W hC hc hD hd h
theorem write_at (g : Nat) (s n r n' : Int) (A : Option Addr) (c m : Nat) (xs : List Int) (hn : xs.length = m) (W : World) (hk : W.heap[g]? = some (.cells (strm true s n) 50 (0, 0))) (hC : Kd.C (Kd.int .u8) W A xs.length xs) (hc : m ≤ c) (h : sum_More.f s xs = some r) (h0 : 0 ≤ n) (h1 : n + xs.length ≤ 9223372036854775807) :
    Calls Try.prog 22 #[.pointer (some ⟨g, 0, none⟩), .slice A m c] W fun e w' => e = .returned (.int .i64 0) ∧ Left g (strm true r (n + xs.length)) W w' := by
  subst hn; exact write_calls g s n r A c xs W hk hC hc h h0 h1

/-- The second row of the call's own, that lies apart. -/
structure KN (base : Nat) (An : Option Addr) (cn n : Nat) (xn : List Int) (W : World) : Prop where
  row : Kd.R (Kd.int .u8) 5 W base (fun _ => True) (.slice An n cn) xn
  len : xn.length = n
section
variable {base : Nat} {An : Option Addr} {cn n : Nat} {xn : List Int} {W W2 : World}
theorem KN.step (h : KN base An cn n xn W) (hb : Below W.heap.size W W2) : KN base An cn n xn W2 := ⟨Kd.R_below h.row hb, h.len⟩
theorem KN.move (h : KN base An cn n xn W) (hm : ∀ k, base ≤ k → k < W.heap.size → W2.heap[k]? = W.heap[k]?) : KN base An cn n xn W2 :=
  ⟨Kd.R_of_own (h1 := fun _ => rfl) (own_move (Kd.own_of_R h.row) (fun k hk => hm k (own_base (Kd.own_of_R h.row) k hk) (World.ownsRow.lt (Kd.own_of_R h.row) k hk).2)) (fun _ _ => trivial), h.len⟩
theorem KN.left {g : Nat} {cs : Array Value} (h : KN base An cn n xn W) (hl : Left g cs W W2) (hg : g < base) : KN base An cn n xn W2 := h.move fun k hk hlt => hl.keep.2 k hlt (by omega) (by simp)
theorem KN.other {g : Nat} (h : KN base An cn n xn W) (hg : W.grownBy W2 (some g)) (hlt : g < base) : KN base An cn n xn W2 := h.move fun k hk hk2 => hg.block k hk2 (fun e => by injection e with e; omega)
theorem KN.C (h : KN base An cn n xn W) : Kd.C (Kd.int .u8) W An xn.length xn ∧ n ≤ cn := ⟨(Kd.R_reads' h.row).2.2, (Kd.R_reads' h.row).2.1⟩
theorem KI.into {w : World} {gs ga ca : Nat} {sm n' : Int} {xa xb : List Int} (h : KI w gs ga ca sm n' xa W) (hr : Row W2 ga ca xb) (hg : W.grownBy W2 (some ga)) : KI w gs ga ca sm n' xb W2 :=
  ⟨pw_below_grown h.below _ h.below.size hg (fun k hk => by injection hk with hk; have := h.hga; omega), hr, blk_grown h.blk hg (fun e => h.ne (by injection e with e; exact e.symm)), h.ne, h.hgs, h.hga⟩
theorem KI.flip {w : World} {gs ga ca : Nat} {sm n' : Int} {xa : List Int} (h : KI w gs ga ca sm n' xa W) (v : Int) : KI w gs ga ca sm n' (xa.set 0 v) (W.setCell ⟨ga, 0, none⟩ (.int .u8 v)) :=
  ⟨below_set h.below h.hga, h.row.set 0 v, blk_far h.blk (fun e => h.ne e.symm) _, h.ne, h.hgs, h.hga⟩
theorem KI.far {w : World} {gs ga ca g : Nat} {sm n' : Int} {xa : List Int} (h : KI w gs ga ca sm n' xa W) (v : Value) (hg : w.heap.size ≤ g) (h1 : ga ≠ g) (h2 : gs ≠ g) : KI w gs ga ca sm n' xa (W.setCell ⟨g, 0, none⟩ v) :=
  ⟨below_set h.below hg, h.row.step (Below.heap_setCell _ _ _ _ h1), blk_far h.blk h2 _, h.ne, h.hgs, h.hga⟩
end
theorem marked_copy (ys xs : List Int) (m : Nat) (h : m ≤ xs.length) (h2 : m ≤ ys.length) : ys.take m ++ (marked xs).drop m = marked (ys.take m ++ xs.drop m) := by
  unfold marked
  rw [List.drop_append_of_le_length h, List.append_assoc]
theorem marked_set (xs : List Int) (v : Int) (h : 0 < xs.length) : (marked xs).set 0 v = marked (xs.set 0 v) := by
  unfold marked
  rw [List.set_append_left _ _ h]

theorem marked_rd (nw : List Int) (h : 0 < nw.length) : (marked nw)[0]'(by rw [marked_len]; omega) = rdOf (0 : Int) nw 0 := by
  have h1 : (marked nw)[0]? = nw[0]? := by unfold marked; rw [List.getElem?_append_left h]
  rw [List.getElem?_eq_getElem (by rw [marked_len]; omega), List.getElem?_eq_getElem h] at h1
  injection h1 with h1
  rw [h1]
  simp [rdOf, List.getD_eq_getElem?_getD, h]

set_option maxHeartbeats 8000000 in
set_option maxRecDepth 100000 in
theorem SumKeeps_noA (k : Nat) (A0 A1 : Option Addr) (c0 c1 : Nat) (b ot : List Int) (fr x1 : Int) (w : World) (hr0 : Kd.C (Kd.int .u8) w A0 b.length b) (hc0 : b.length ≤ c0) (hr1 : Kd.C (Kd.int .u8) w A1 ot.length ot) (hc1 : ot.length ≤ c1)
    (hb : InB b) (hl : b.length ≤ 140737488351232) (E1 : Aside0 (posthornlaw02_roomy.f k b = some (marked b))) (E2 : Aside0 (posthornref02_Of.f k b = some (crc b))) (E3 : Aside0 (sum_More.f fr b = some x1)) (E4 : Aside0 (posthornref02_More.f k fr b = some x1))
    (E5 : Aside0 (slices_Equal_byte_byte.f k (marked b) (marked b) = some true))
    (nw n2 : List Int) (x2 : Int) (hnw : nw = ot.take (min ot.length b.length) ++ b.drop (min ot.length b.length)) (hn2 : n2 = nw) (hflip : b.length = 0) (i2 : InB n2) (D1 : Aside0 (posthornlaw02_roomy.f k n2 = some (marked n2))) (D2 : Aside0 (posthornref02_Of.f k n2 = some (crc n2))) (D3 : Aside0 (sum_More.f fr n2 = some x2)) (D4 : Aside0 (posthornref02_More.f k fr n2 = some x2))
    (D5 : Aside0 (slices_Equal_byte_byte.f k (marked n2) (marked n2) = some true)) (D6 : Aside0 (posthornref02_More.f k (crc b) n2 = some (crc (b ++ n2)))) :
    Calls Try.prog 10 #[.slice A0 b.length c0, .slice A1 ot.length c1, .int .u32 fr] w fun e w' => e = .returned (.bool true) ∧ Below w.heap.size w w' := by
  have HR0 := Aside0.mk hr0
  have HC0 := Aside0.mk hc0
  have HR1 := Aside0.mk hr1
  have HC1 := Aside0.mk hc1
  have HIn := Aside0.mk hb
  have HL := Aside0.mk hl
  have HB := Aside0.mk (Below.refl w.heap.size w)
  have EW : Aside0 (sum_More.f 0 b = some (crc b)) := ⟨crc_of b hb⟩
  have EC : Aside0 (slices_Clone_byte_byte.f b = some b) := ⟨if_pos (by omega)⟩
  obtain ⟨i05, hi05, _, hsz5, _⟩ := info_parts info5
  have HI5 := Aside0.mk hi05
  have hlen1 : nw.length = b.length := by rw [hnw]; simp; omega
  subst n2
  have hlen2 : nw.length = b.length := hlen1
  have HN1 := Aside0.mk hlen1
  have HN2 := Aside0.mk hlen2
  have HNW := Aside0.mk hnw
  have HI2 := Aside0.mk i2
  have HFC := Aside0.mk hflip
  clear hr0 hc0 hr1 hc1 hb hi05 hsz5 hlen1 hlen2 hnw i2 hflip
  go_enter Try.func10, Try.ntmps10
  go_wp2_with (first
    | (go_at_call 32; (with_reducible refine (posthornlaw02_roomy.calls k A0 c0 b (marked b) _ HR0.out HC0.out E1.out).mono ?_); rintro e w1 ⟨va, rfl, hR, hb⟩; obtain ⟨ga, ca, rfl, hrow, hg1, hg2⟩ := Row.of_R hR (by rw [marked_len]; omega); have HA := Aside0.mk hrow; have HG1 := Aside0.mk hg1; have HG2 := Aside0.mk hg2; have hca := (Kd.R_reads' hR).2.1; have HCA : Aside0 ((marked b).length ≤ ca) := ⟨hca⟩; have hcut := cut_to (P := Try.prog) 23 5 .i64 Try.underlying23 HI5.out (some ⟨ga, 0, none⟩) (marked b).length ca (b.length : Int) (by omega) (by rw [marked_len]; omega) hca; rw [Int.toNat_natCast] at hcut; have n_ := Aside0.mk (below_step HB.out hb); clear HB hb hR hrow hg1 hg2 hca; have HB := n_; clear n_)
    | (go_at_call 20; refine (new_calls _).mono ?_; rintro e w2 ⟨rfl, hw2⟩; have hbk : w2.heap[w1.heap.size]? = some (.cells (strm true 0 0) 50 (0, 0)) := (by rw [hw2]; exact blk_new _ _); have hb : Below w1.heap.size w1 w2 := (by rw [hw2]; exact below_alloc (Below.refl _ _) _); have HI : Aside0 (KI w w1.heap.size ga ca 0 0 (marked b) w2) := ⟨⟨below_step HB.out hb, HA.out.step (hb.block ga HG2.out), hbk, Nat.ne_of_lt HG2.out, HB.out.size, HG1.out⟩⟩; clear hw2 hbk hb HB HA HG1 HG2))
  clear hcut
  go_wp2_with (first
    | (go_at_call 12; (with_reducible refine (sum_Of.calls (some ⟨ga, 0, none⟩) ca b (crc b) _ (HI.out.C (marked_front b)) (by have h_ := HCA.out; rw [marked_len] at h_; omega) (crc_of b HIn.out)).mono ?_); rintro e w3 ⟨rfl, hb⟩; have n_ := Aside0.mk (HI.out.step hb); clear HI hb; have HI := n_; clear n_)
    | (go_at_call 13; (with_reducible refine (posthornref02_Of.calls k A0 c0 b (crc b) _ (Kd.C_below HR0.out HI.out.below) HC0.out E2.out).mono ?_); rintro e w4 ⟨rfl, hdr⟩; have hb := Drawn0.below hdr; clear hdr; have n_ := Aside0.mk (HI.out.step hb); clear HI hb; have HI := n_; clear n_)
    | (go_at_call 14; (with_reducible refine (sum_More.calls fr (some ⟨ga, 0, none⟩) ca b x1 _ (HI.out.C (marked_front b)) (by have h_ := HCA.out; rw [marked_len] at h_; omega) E3.out).mono ?_); rintro e w5 ⟨rfl, hb⟩; have n_ := Aside0.mk (HI.out.step hb); clear HI hb; have HI := n_; clear n_)
    | (go_at_call 15; (with_reducible refine (posthornref02_More.calls k fr A0 c0 b x1 _ (Kd.C_below HR0.out HI.out.below) HC0.out E4.out).mono ?_); rintro e w6 ⟨rfl, hdr⟩; have hb := Drawn0.below hdr; clear hdr; have n_ := Aside0.mk (HI.out.step hb); clear HI hb; have HI := n_; clear n_)
    | (go_at_call 22; (with_reducible refine (write_calls w1.heap.size 0 0 (crc b) (some ⟨ga, 0, none⟩) ca b _ HI.out.blk (HI.out.C (marked_front b)) (by have h_ := HCA.out; rw [marked_len] at h_; omega) EW.out (by omega) (by have h_ := HL.out; omega)).mono ?_); rintro e w7 ⟨rfl, hlf⟩; have n_ := Aside0.mk (HI.out.left hlf); clear HI hlf; have HI := n_; clear n_)
    | (go_at_call 32; (with_reducible refine (posthornlaw02_roomy.calls k A0 c0 b (marked b) _ (Kd.C_below HR0.out HI.out.below) HC0.out E1.out).mono ?_); rintro e w8 ⟨v8, rfl, hR, hb⟩; obtain ⟨A8, c8, rfl⟩ := Kd.R_slice hR; have HR8 := Aside0.mk (Kd.R_reads' hR); clear hR; have n_ := Aside0.mk (HI.out.step hb); clear HI hb; have HI := n_; clear n_)
    | (go_at_call 33; (with_reducible refine (slices_Equal_byte_byte.calls k (some ⟨ga, 0, none⟩) ca (marked b) A8 c8 (marked b) true _ (HI.out.C (marked_whole b)) HCA.out HR8.out.2.2 HR8.out.2.1 E5.out).mono ?_); rintro e w9 ⟨rfl, hdr⟩; have hb := Drawn0.below hdr; clear hdr; have n_ := Aside0.mk (HI.out.step hb); clear HI hb; have HI := n_; clear n_))
  have t1 : ¬ (0 < b.length) := by have h_ := HFC.out; omega
  go_wp2_with (first
    | (go_at_call 19; (with_reducible refine (slices_Clone_byte_byte.calls A0 c0 b b _ (Kd.C_below HR0.out HI.out.below) HC0.out EC.out).mono ?_); rintro e w10 ⟨vn, rfl, hR, hb⟩; obtain ⟨An, cn, rfl⟩ := Kd.R_slice hR; have HW10 : Aside0 (w9.heap.size ≤ w10.heap.size) := ⟨hb.size⟩; have HLO := Aside0.mk HI.out.low; have HN : Aside0 (KN w9.heap.size An cn b.length b w10) := ⟨⟨hR, rfl⟩⟩; have n_ := Aside0.mk (HI.out.step hb); clear HI hb hR; have HI := n_; clear n_)
    | ((with_reducible refine gate_builtin (b := .copy) (xs := #[.tmp 47, .tmp 48]) rfl ?_); refine Kd.R_copy (0 : Int) w9.heap.size rfl (.tmp 47) (.tmp 48) 23 23 5 rfl Try.underlying23 (by kernel_rfl) _ b ot A1 ot.length c1 (fun _ => True) rfl rfl HN.out.row (Kd.C_below HR1.out HI.out.below) (Below.refl _ _) HW10.out ?_; intro w11 hR _ hg; rw [← HNW.out] at hR; have m_ : Aside0 (KN w9.heap.size An cn b.length nw w11) := ⟨⟨hR, HN1.out⟩⟩; have n_ := Aside0.mk (HI.out.grown hg (own_base (Kd.own_of_R HN.out.row)) HLO.out.1 HLO.out.2); clear HI HN hR hg; have HI := n_; have HN := m_; clear n_ m_)
    | ((with_reducible refine gate_builtin (b := .copy) (xs := #[.tmp 50, .tmp 51]) rfl ?_); refine copy_into rfl (.tmp 50) (.tmp 51) 23 23 rfl Try.underlying23 (by kernel_rfl) ga ca b.length ca c1 A1 (marked b) ot rfl rfl HI.out.row (by rw [marked_len]; omega) (Kd.C_below HR1.out HI.out.below) ?_; intro w12 hrow hg; rw [marked_copy _ _ _ (by omega) (by omega), ← HNW.out] at hrow; have m_ := Aside0.mk (HN.out.other hg HLO.out.2); have n_ := Aside0.mk (HI.out.into hrow hg); clear HI HN hrow hg; have HI := n_; have HN := m_; clear n_ m_))
  clear t1
  go_wp2_with (first
    | (go_at_call 23; (with_reducible refine (sum_calls w1.heap.size (crc b) (0 + (b.length : Int)) _ HI.out.blk).mono ?_); rintro e w' ⟨rfl, rfl⟩)
    | (go_at_call 13; (with_reducible refine (refOf_at k A0 c0 b.length b (crc b) rfl _ (Kd.C_below HR0.out HI.out.below) HC0.out E2.out).mono ?_); rintro e w14 ⟨rfl, hdr⟩; have hb := Drawn0.below hdr; clear hdr; have n_ := Aside0.mk (HI.out.step hb); have m_ := Aside0.mk (HN.out.step hb); clear HI HN hb; have HI := n_; have HN := m_; clear n_ m_)
    | (go_at_call 12; (with_reducible refine (Of_at (some ⟨ga, 0, none⟩) ca b.length nw (crc nw) HN2.out _ (HI.out.C (marked_front nw)) (by have h_ := HCA.out; rw [marked_len] at h_; omega) (crc_of nw HI2.out)).mono ?_); rintro e w15 ⟨rfl, hb⟩; have n_ := Aside0.mk (HI.out.step hb); have m_ := Aside0.mk (HN.out.step hb); clear HI HN hb; have HI := n_; have HN := m_; clear n_ m_)
    | (go_at_call 13; (with_reducible refine (refOf_at k An cn b.length nw (crc nw) HN2.out _ HN.out.C.1 HN.out.C.2 D2.out).mono ?_); rintro e w16 ⟨rfl, hdr⟩; have hb := Drawn0.below hdr; clear hdr; have n_ := Aside0.mk (HI.out.step hb); have m_ := Aside0.mk (HN.out.step hb); clear HI HN hb; have HI := n_; have HN := m_; clear n_ m_)
    | (go_at_call 14; (with_reducible refine (More_at fr (some ⟨ga, 0, none⟩) ca b.length nw x2 HN2.out _ (HI.out.C (marked_front nw)) (by have h_ := HCA.out; rw [marked_len] at h_; omega) D3.out).mono ?_); rintro e w17 ⟨rfl, hb⟩; have n_ := Aside0.mk (HI.out.step hb); have m_ := Aside0.mk (HN.out.step hb); clear HI HN hb; have HI := n_; have HN := m_; clear n_ m_)
    | (go_at_call 15; (with_reducible refine (refMore_at k fr An cn b.length nw x2 HN2.out _ HN.out.C.1 HN.out.C.2 D4.out).mono ?_); rintro e w18 ⟨rfl, hdr⟩; have hb := Drawn0.below hdr; clear hdr; have n_ := Aside0.mk (HI.out.step hb); have m_ := Aside0.mk (HN.out.step hb); clear HI HN hb; have HI := n_; have HN := m_; clear n_ m_)
    | (go_at_call 22; (with_reducible refine (write_at w1.heap.size (crc b) (0 + (b.length : Int)) (crc (b ++ nw)) 0 (some ⟨ga, 0, none⟩) ca b.length nw HN2.out _ HI.out.blk (HI.out.C (marked_front nw)) (by have h_ := HCA.out; rw [marked_len] at h_; omega) (crc_more b nw HI2.out) (by omega) (by have h_ := HL.out; have h2_ := HN2.out; omega)).mono ?_); rintro e w19 ⟨rfl, hlf⟩; have m_ := Aside0.mk (HN.out.left hlf HLO.out.1); have n_ := Aside0.mk (HI.out.left hlf); clear HI HN hlf; have HI := n_; have HN := m_; clear n_ m_))
  go_wp2_with (first
    | (go_at_call 23; (with_reducible refine (sum_calls w1.heap.size (crc (b ++ nw)) (0 + (b.length : Int) + (nw.length : Int)) _ HI.out.blk).mono ?_); rintro e w' ⟨rfl, rfl⟩)
    | (go_at_call 13; (with_reducible refine (refOf_at k A0 c0 b.length b (crc b) rfl _ (Kd.C_below HR0.out HI.out.below) HC0.out E2.out).mono ?_); rintro e w21 ⟨rfl, hdr⟩; have hb := Drawn0.below hdr; clear hdr; have n_ := Aside0.mk (HI.out.step hb); have m_ := Aside0.mk (HN.out.step hb); clear HI HN hb; have HI := n_; have HN := m_; clear n_ m_)
    | (go_at_call 15; (with_reducible refine (refMore_at k (crc b) An cn b.length nw (crc (b ++ nw)) HN2.out _ HN.out.C.1 HN.out.C.2 D6.out).mono ?_); rintro e w22 ⟨rfl, hdr⟩; have hb := Drawn0.below hdr; clear hdr; have n_ := Aside0.mk (HI.out.step hb); have m_ := Aside0.mk (HN.out.step hb); clear HI HN hb; have HI := n_; have HN := m_; clear n_ m_)
    | (go_at_call 32; (with_reducible refine (roomy_at k An cn b.length nw (marked nw) HN2.out _ HN.out.C.1 HN.out.C.2 D1.out).mono ?_); rintro e w23 ⟨v23, rfl, hR, hb⟩; obtain ⟨A23, c23, rfl⟩ := Kd.R_slice hR; have HR23 := Aside0.mk (Kd.R_reads' hR); clear hR; have n_ := Aside0.mk (HI.out.step hb); have m_ := Aside0.mk (HN.out.step hb); clear HI HN hb; have HI := n_; have HN := m_; clear n_ m_)
    | (go_at_call 33; (with_reducible refine (equal_at k (some ⟨ga, 0, none⟩) A23 ca c23 (marked b).length (marked nw).length (marked nw) (marked nw) (by rw [marked_len, marked_len, HN2.out]) rfl _ (HI.out.C (marked_whole nw)) HCA.out HR23.out.2.2 HR23.out.2.1 D5.out).mono ?_); rintro e w24 ⟨rfl, hdr⟩; have hb := Drawn0.below hdr; clear hdr; have n_ := Aside0.mk (HI.out.step hb); have m_ := Aside0.mk (HN.out.step hb); clear HI HN hb; have HI := n_; have HN := m_; clear n_ m_)
    | (go_at_call 16; refine (posthornlaw02_wakes.calls true _ rfl).mono ?_; rintro e w25 ⟨rfl, hb⟩; have n_ := Aside0.mk (HI.out.step hb); have m_ := Aside0.mk (HN.out.step hb); clear HI HN hb; have HI := n_; have HN := m_; clear n_ m_))
  go_ret
  exact ⟨rfl, HI.out.below⟩


set_option maxHeartbeats 8000000 in
set_option maxRecDepth 100000 in
theorem SumKeeps_noB (k : Nat) (A0 A1 : Option Addr) (c0 c1 : Nat) (b ot : List Int) (fr x1 : Int) (w : World) (hr0 : Kd.C (Kd.int .u8) w A0 b.length b) (hc0 : b.length ≤ c0) (hr1 : Kd.C (Kd.int .u8) w A1 ot.length ot) (hc1 : ot.length ≤ c1)
    (hb : InB b) (hl : b.length ≤ 140737488351232) (E1 : Aside0 (posthornlaw02_roomy.f k b = some (marked b))) (E2 : Aside0 (posthornref02_Of.f k b = some (crc b))) (E3 : Aside0 (sum_More.f fr b = some x1)) (E4 : Aside0 (posthornref02_More.f k fr b = some x1))
    (E5 : Aside0 (slices_Equal_byte_byte.f k (marked b) (marked b) = some true))
    (nw n2 : List Int) (x2 : Int) (hnw : nw = ot.take (min ot.length b.length) ++ b.drop (min ot.length b.length)) (hn2 : n2 = nw) (hflip : 0 < b.length ∧ ot.length ≠ 0) (i2 : InB n2) (D1 : Aside0 (posthornlaw02_roomy.f k n2 = some (marked n2))) (D2 : Aside0 (posthornref02_Of.f k n2 = some (crc n2))) (D3 : Aside0 (sum_More.f fr n2 = some x2)) (D4 : Aside0 (posthornref02_More.f k fr n2 = some x2))
    (D5 : Aside0 (slices_Equal_byte_byte.f k (marked n2) (marked n2) = some true)) (D6 : Aside0 (posthornref02_More.f k (crc b) n2 = some (crc (b ++ n2)))) :
    Calls Try.prog 10 #[.slice A0 b.length c0, .slice A1 ot.length c1, .int .u32 fr] w fun e w' => e = .returned (.bool true) ∧ Below w.heap.size w w' := by
  have HR0 := Aside0.mk hr0
  have HC0 := Aside0.mk hc0
  have HR1 := Aside0.mk hr1
  have HC1 := Aside0.mk hc1
  have HIn := Aside0.mk hb
  have HL := Aside0.mk hl
  have HB := Aside0.mk (Below.refl w.heap.size w)
  have EW : Aside0 (sum_More.f 0 b = some (crc b)) := ⟨crc_of b hb⟩
  have EC : Aside0 (slices_Clone_byte_byte.f b = some b) := ⟨if_pos (by omega)⟩
  obtain ⟨i05, hi05, _, hsz5, _⟩ := info_parts info5
  have HI5 := Aside0.mk hi05
  have hlen1 : nw.length = b.length := by rw [hnw]; simp; omega
  subst n2
  have hlen2 : nw.length = b.length := hlen1
  have HN1 := Aside0.mk hlen1
  have HN2 := Aside0.mk hlen2
  have HNW := Aside0.mk hnw
  have HI2 := Aside0.mk i2
  have HFC := Aside0.mk hflip
  clear hr0 hc0 hr1 hc1 hb hi05 hsz5 hlen1 hlen2 hnw i2 hflip
  go_enter Try.func10, Try.ntmps10
  go_wp2_with (first
    | (go_at_call 32; (with_reducible refine (posthornlaw02_roomy.calls k A0 c0 b (marked b) _ HR0.out HC0.out E1.out).mono ?_); rintro e w1 ⟨va, rfl, hR, hb⟩; obtain ⟨ga, ca, rfl, hrow, hg1, hg2⟩ := Row.of_R hR (by rw [marked_len]; omega); have HA := Aside0.mk hrow; have HG1 := Aside0.mk hg1; have HG2 := Aside0.mk hg2; have hca := (Kd.R_reads' hR).2.1; have HCA : Aside0 ((marked b).length ≤ ca) := ⟨hca⟩; have hcut := cut_to (P := Try.prog) 23 5 .i64 Try.underlying23 HI5.out (some ⟨ga, 0, none⟩) (marked b).length ca (b.length : Int) (by omega) (by rw [marked_len]; omega) hca; rw [Int.toNat_natCast] at hcut; have n_ := Aside0.mk (below_step HB.out hb); clear HB hb hR hrow hg1 hg2 hca; have HB := n_; clear n_)
    | (go_at_call 20; refine (new_calls _).mono ?_; rintro e w2 ⟨rfl, hw2⟩; have hbk : w2.heap[w1.heap.size]? = some (.cells (strm true 0 0) 50 (0, 0)) := (by rw [hw2]; exact blk_new _ _); have hb : Below w1.heap.size w1 w2 := (by rw [hw2]; exact below_alloc (Below.refl _ _) _); have HI : Aside0 (KI w w1.heap.size ga ca 0 0 (marked b) w2) := ⟨⟨below_step HB.out hb, HA.out.step (hb.block ga HG2.out), hbk, Nat.ne_of_lt HG2.out, HB.out.size, HG1.out⟩⟩; clear hw2 hbk hb HB HA HG1 HG2))
  clear hcut
  go_wp2_with (first
    | (go_at_call 12; (with_reducible refine (sum_Of.calls (some ⟨ga, 0, none⟩) ca b (crc b) _ (HI.out.C (marked_front b)) (by have h_ := HCA.out; rw [marked_len] at h_; omega) (crc_of b HIn.out)).mono ?_); rintro e w3 ⟨rfl, hb⟩; have n_ := Aside0.mk (HI.out.step hb); clear HI hb; have HI := n_; clear n_)
    | (go_at_call 13; (with_reducible refine (posthornref02_Of.calls k A0 c0 b (crc b) _ (Kd.C_below HR0.out HI.out.below) HC0.out E2.out).mono ?_); rintro e w4 ⟨rfl, hdr⟩; have hb := Drawn0.below hdr; clear hdr; have n_ := Aside0.mk (HI.out.step hb); clear HI hb; have HI := n_; clear n_)
    | (go_at_call 14; (with_reducible refine (sum_More.calls fr (some ⟨ga, 0, none⟩) ca b x1 _ (HI.out.C (marked_front b)) (by have h_ := HCA.out; rw [marked_len] at h_; omega) E3.out).mono ?_); rintro e w5 ⟨rfl, hb⟩; have n_ := Aside0.mk (HI.out.step hb); clear HI hb; have HI := n_; clear n_)
    | (go_at_call 15; (with_reducible refine (posthornref02_More.calls k fr A0 c0 b x1 _ (Kd.C_below HR0.out HI.out.below) HC0.out E4.out).mono ?_); rintro e w6 ⟨rfl, hdr⟩; have hb := Drawn0.below hdr; clear hdr; have n_ := Aside0.mk (HI.out.step hb); clear HI hb; have HI := n_; clear n_)
    | (go_at_call 22; (with_reducible refine (write_calls w1.heap.size 0 0 (crc b) (some ⟨ga, 0, none⟩) ca b _ HI.out.blk (HI.out.C (marked_front b)) (by have h_ := HCA.out; rw [marked_len] at h_; omega) EW.out (by omega) (by have h_ := HL.out; omega)).mono ?_); rintro e w7 ⟨rfl, hlf⟩; have n_ := Aside0.mk (HI.out.left hlf); clear HI hlf; have HI := n_; clear n_)
    | (go_at_call 32; (with_reducible refine (posthornlaw02_roomy.calls k A0 c0 b (marked b) _ (Kd.C_below HR0.out HI.out.below) HC0.out E1.out).mono ?_); rintro e w8 ⟨v8, rfl, hR, hb⟩; obtain ⟨A8, c8, rfl⟩ := Kd.R_slice hR; have HR8 := Aside0.mk (Kd.R_reads' hR); clear hR; have n_ := Aside0.mk (HI.out.step hb); clear HI hb; have HI := n_; clear n_)
    | (go_at_call 33; (with_reducible refine (slices_Equal_byte_byte.calls k (some ⟨ga, 0, none⟩) ca (marked b) A8 c8 (marked b) true _ (HI.out.C (marked_whole b)) HCA.out HR8.out.2.2 HR8.out.2.1 E5.out).mono ?_); rintro e w9 ⟨rfl, hdr⟩; have hb := Drawn0.below hdr; clear hdr; have n_ := Aside0.mk (HI.out.step hb); clear HI hb; have HI := n_; clear n_))
  have t1 : 0 < b.length := HFC.out.1
  have t2 : ((ot.length : Int) == 0) = false := beq_eq_false_iff_ne.2 (by have h_ := HFC.out; omega)
  go_wp2_with (first
    | (go_at_call 19; (with_reducible refine (slices_Clone_byte_byte.calls A0 c0 b b _ (Kd.C_below HR0.out HI.out.below) HC0.out EC.out).mono ?_); rintro e w10 ⟨vn, rfl, hR, hb⟩; obtain ⟨An, cn, rfl⟩ := Kd.R_slice hR; have HW10 : Aside0 (w9.heap.size ≤ w10.heap.size) := ⟨hb.size⟩; have HLO := Aside0.mk HI.out.low; have HN : Aside0 (KN w9.heap.size An cn b.length b w10) := ⟨⟨hR, rfl⟩⟩; have n_ := Aside0.mk (HI.out.step hb); clear HI hb hR; have HI := n_; clear n_)
    | ((with_reducible refine gate_builtin (b := .copy) (xs := #[.tmp 47, .tmp 48]) rfl ?_); refine Kd.R_copy (0 : Int) w9.heap.size rfl (.tmp 47) (.tmp 48) 23 23 5 rfl Try.underlying23 (by kernel_rfl) _ b ot A1 ot.length c1 (fun _ => True) rfl rfl HN.out.row (Kd.C_below HR1.out HI.out.below) (Below.refl _ _) HW10.out ?_; intro w11 hR _ hg; rw [← HNW.out] at hR; have m_ : Aside0 (KN w9.heap.size An cn b.length nw w11) := ⟨⟨hR, HN1.out⟩⟩; have n_ := Aside0.mk (HI.out.grown hg (own_base (Kd.own_of_R HN.out.row)) HLO.out.1 HLO.out.2); clear HI HN hR hg; have HI := n_; have HN := m_; clear n_ m_)
    | ((with_reducible refine gate_builtin (b := .copy) (xs := #[.tmp 50, .tmp 51]) rfl ?_); refine copy_into rfl (.tmp 50) (.tmp 51) 23 23 rfl Try.underlying23 (by kernel_rfl) ga ca b.length ca c1 A1 (marked b) ot rfl rfl HI.out.row (by rw [marked_len]; omega) (Kd.C_below HR1.out HI.out.below) ?_; intro w12 hrow hg; rw [marked_copy _ _ _ (by omega) (by omega), ← HNW.out] at hrow; have m_ := Aside0.mk (HN.out.other hg HLO.out.2); have n_ := Aside0.mk (HI.out.into hrow hg); clear HI HN hrow hg; have HI := n_; have HN := m_; clear n_ m_))
  clear t1 t2
  go_wp2_with (first
    | (go_at_call 23; (with_reducible refine (sum_calls w1.heap.size (crc b) (0 + (b.length : Int)) _ HI.out.blk).mono ?_); rintro e w' ⟨rfl, rfl⟩)
    | (go_at_call 13; (with_reducible refine (refOf_at k A0 c0 b.length b (crc b) rfl _ (Kd.C_below HR0.out HI.out.below) HC0.out E2.out).mono ?_); rintro e w14 ⟨rfl, hdr⟩; have hb := Drawn0.below hdr; clear hdr; have n_ := Aside0.mk (HI.out.step hb); have m_ := Aside0.mk (HN.out.step hb); clear HI HN hb; have HI := n_; have HN := m_; clear n_ m_)
    | (go_at_call 12; (with_reducible refine (Of_at (some ⟨ga, 0, none⟩) ca b.length nw (crc nw) HN2.out _ (HI.out.C (marked_front nw)) (by have h_ := HCA.out; rw [marked_len] at h_; omega) (crc_of nw HI2.out)).mono ?_); rintro e w15 ⟨rfl, hb⟩; have n_ := Aside0.mk (HI.out.step hb); have m_ := Aside0.mk (HN.out.step hb); clear HI HN hb; have HI := n_; have HN := m_; clear n_ m_)
    | (go_at_call 13; (with_reducible refine (refOf_at k An cn b.length nw (crc nw) HN2.out _ HN.out.C.1 HN.out.C.2 D2.out).mono ?_); rintro e w16 ⟨rfl, hdr⟩; have hb := Drawn0.below hdr; clear hdr; have n_ := Aside0.mk (HI.out.step hb); have m_ := Aside0.mk (HN.out.step hb); clear HI HN hb; have HI := n_; have HN := m_; clear n_ m_)
    | (go_at_call 14; (with_reducible refine (More_at fr (some ⟨ga, 0, none⟩) ca b.length nw x2 HN2.out _ (HI.out.C (marked_front nw)) (by have h_ := HCA.out; rw [marked_len] at h_; omega) D3.out).mono ?_); rintro e w17 ⟨rfl, hb⟩; have n_ := Aside0.mk (HI.out.step hb); have m_ := Aside0.mk (HN.out.step hb); clear HI HN hb; have HI := n_; have HN := m_; clear n_ m_)
    | (go_at_call 15; (with_reducible refine (refMore_at k fr An cn b.length nw x2 HN2.out _ HN.out.C.1 HN.out.C.2 D4.out).mono ?_); rintro e w18 ⟨rfl, hdr⟩; have hb := Drawn0.below hdr; clear hdr; have n_ := Aside0.mk (HI.out.step hb); have m_ := Aside0.mk (HN.out.step hb); clear HI HN hb; have HI := n_; have HN := m_; clear n_ m_)
    | (go_at_call 22; (with_reducible refine (write_at w1.heap.size (crc b) (0 + (b.length : Int)) (crc (b ++ nw)) 0 (some ⟨ga, 0, none⟩) ca b.length nw HN2.out _ HI.out.blk (HI.out.C (marked_front nw)) (by have h_ := HCA.out; rw [marked_len] at h_; omega) (crc_more b nw HI2.out) (by omega) (by have h_ := HL.out; have h2_ := HN2.out; omega)).mono ?_); rintro e w19 ⟨rfl, hlf⟩; have m_ := Aside0.mk (HN.out.left hlf HLO.out.1); have n_ := Aside0.mk (HI.out.left hlf); clear HI HN hlf; have HI := n_; have HN := m_; clear n_ m_))
  go_wp2_with (first
    | (go_at_call 23; (with_reducible refine (sum_calls w1.heap.size (crc (b ++ nw)) (0 + (b.length : Int) + (nw.length : Int)) _ HI.out.blk).mono ?_); rintro e w' ⟨rfl, rfl⟩)
    | (go_at_call 13; (with_reducible refine (refOf_at k A0 c0 b.length b (crc b) rfl _ (Kd.C_below HR0.out HI.out.below) HC0.out E2.out).mono ?_); rintro e w21 ⟨rfl, hdr⟩; have hb := Drawn0.below hdr; clear hdr; have n_ := Aside0.mk (HI.out.step hb); have m_ := Aside0.mk (HN.out.step hb); clear HI HN hb; have HI := n_; have HN := m_; clear n_ m_)
    | (go_at_call 15; (with_reducible refine (refMore_at k (crc b) An cn b.length nw (crc (b ++ nw)) HN2.out _ HN.out.C.1 HN.out.C.2 D6.out).mono ?_); rintro e w22 ⟨rfl, hdr⟩; have hb := Drawn0.below hdr; clear hdr; have n_ := Aside0.mk (HI.out.step hb); have m_ := Aside0.mk (HN.out.step hb); clear HI HN hb; have HI := n_; have HN := m_; clear n_ m_)
    | (go_at_call 32; (with_reducible refine (roomy_at k An cn b.length nw (marked nw) HN2.out _ HN.out.C.1 HN.out.C.2 D1.out).mono ?_); rintro e w23 ⟨v23, rfl, hR, hb⟩; obtain ⟨A23, c23, rfl⟩ := Kd.R_slice hR; have HR23 := Aside0.mk (Kd.R_reads' hR); clear hR; have n_ := Aside0.mk (HI.out.step hb); have m_ := Aside0.mk (HN.out.step hb); clear HI HN hb; have HI := n_; have HN := m_; clear n_ m_)
    | (go_at_call 33; (with_reducible refine (equal_at k (some ⟨ga, 0, none⟩) A23 ca c23 (marked b).length (marked nw).length (marked nw) (marked nw) (by rw [marked_len, marked_len, HN2.out]) rfl _ (HI.out.C (marked_whole nw)) HCA.out HR23.out.2.2 HR23.out.2.1 D5.out).mono ?_); rintro e w24 ⟨rfl, hdr⟩; have hb := Drawn0.below hdr; clear hdr; have n_ := Aside0.mk (HI.out.step hb); have m_ := Aside0.mk (HN.out.step hb); clear HI HN hb; have HI := n_; have HN := m_; clear n_ m_)
    | (go_at_call 16; refine (posthornlaw02_wakes.calls true _ rfl).mono ?_; rintro e w25 ⟨rfl, hb⟩; have n_ := Aside0.mk (HI.out.step hb); have m_ := Aside0.mk (HN.out.step hb); clear HI HN hb; have HI := n_; have HN := m_; clear n_ m_))
  go_ret
  exact ⟨rfl, HI.out.below⟩


set_option maxHeartbeats 8000000 in
set_option maxRecDepth 100000 in
theorem SumKeeps_yes (k : Nat) (A0 A1 : Option Addr) (c0 c1 : Nat) (b ot : List Int) (fr x1 : Int) (w : World) (hr0 : Kd.C (Kd.int .u8) w A0 b.length b) (hc0 : b.length ≤ c0) (hr1 : Kd.C (Kd.int .u8) w A1 ot.length ot) (hc1 : ot.length ≤ c1)
    (hb : InB b) (hl : b.length ≤ 140737488351232) (E1 : Aside0 (posthornlaw02_roomy.f k b = some (marked b))) (E2 : Aside0 (posthornref02_Of.f k b = some (crc b))) (E3 : Aside0 (sum_More.f fr b = some x1)) (E4 : Aside0 (posthornref02_More.f k fr b = some x1))
    (E5 : Aside0 (slices_Equal_byte_byte.f k (marked b) (marked b) = some true))
    (nw n2 : List Int) (x2 : Int) (hnw : nw = ot.take (min ot.length b.length) ++ b.drop (min ot.length b.length)) (hn2 : n2 = nw.set 0 (Go.bits .xor .u8 (rdOf (0 : Int) nw 0) 1)) (hflip : 0 < b.length ∧ ot.length = 0) (i2 : InB n2) (D1 : Aside0 (posthornlaw02_roomy.f k n2 = some (marked n2))) (D2 : Aside0 (posthornref02_Of.f k n2 = some (crc n2))) (D3 : Aside0 (sum_More.f fr n2 = some x2)) (D4 : Aside0 (posthornref02_More.f k fr n2 = some x2))
    (D5 : Aside0 (slices_Equal_byte_byte.f k (marked n2) (marked n2) = some true)) (D6 : Aside0 (posthornref02_More.f k (crc b) n2 = some (crc (b ++ n2)))) :
    Calls Try.prog 10 #[.slice A0 b.length c0, .slice A1 ot.length c1, .int .u32 fr] w fun e w' => e = .returned (.bool true) ∧ Below w.heap.size w w' := by
  have HR0 := Aside0.mk hr0
  have HC0 := Aside0.mk hc0
  have HR1 := Aside0.mk hr1
  have HC1 := Aside0.mk hc1
  have HIn := Aside0.mk hb
  have HL := Aside0.mk hl
  have HB := Aside0.mk (Below.refl w.heap.size w)
  have EW : Aside0 (sum_More.f 0 b = some (crc b)) := ⟨crc_of b hb⟩
  have EC : Aside0 (slices_Clone_byte_byte.f b = some b) := ⟨if_pos (by omega)⟩
  obtain ⟨i05, hi05, _, hsz5, _⟩ := info_parts info5
  have HI5 := Aside0.mk hi05
  have hlen1 : nw.length = b.length := by rw [hnw]; simp; omega
  have hlen2 : n2.length = b.length := by rw [hn2, List.length_set]; exact hlen1
  have HN1 := Aside0.mk hlen1
  have HN2 := Aside0.mk hlen2
  have HNW := Aside0.mk hnw
  have HFN := Aside0.mk hn2
  have HI2 := Aside0.mk i2
  have HP := Aside0.mk hflip.1
  have HZ := Aside0.mk hflip.2
  clear hr0 hc0 hr1 hc1 hb hi05 hsz5 hlen1 hlen2 hnw hn2 i2 hflip
  go_enter Try.func10, Try.ntmps10
  go_wp2_with (first
    | (go_at_call 32; (with_reducible refine (posthornlaw02_roomy.calls k A0 c0 b (marked b) _ HR0.out HC0.out E1.out).mono ?_); rintro e w1 ⟨va, rfl, hR, hb⟩; obtain ⟨ga, ca, rfl, hrow, hg1, hg2⟩ := Row.of_R hR (by rw [marked_len]; omega); have HA := Aside0.mk hrow; have HG1 := Aside0.mk hg1; have HG2 := Aside0.mk hg2; have hca := (Kd.R_reads' hR).2.1; have HCA : Aside0 ((marked b).length ≤ ca) := ⟨hca⟩; have hcut := cut_to (P := Try.prog) 23 5 .i64 Try.underlying23 HI5.out (some ⟨ga, 0, none⟩) (marked b).length ca (b.length : Int) (by omega) (by rw [marked_len]; omega) hca; rw [Int.toNat_natCast] at hcut; have n_ := Aside0.mk (below_step HB.out hb); clear HB hb hR hrow hg1 hg2 hca; have HB := n_; clear n_)
    | (go_at_call 20; refine (new_calls _).mono ?_; rintro e w2 ⟨rfl, hw2⟩; have hbk : w2.heap[w1.heap.size]? = some (.cells (strm true 0 0) 50 (0, 0)) := (by rw [hw2]; exact blk_new _ _); have hb : Below w1.heap.size w1 w2 := (by rw [hw2]; exact below_alloc (Below.refl _ _) _); have HI : Aside0 (KI w w1.heap.size ga ca 0 0 (marked b) w2) := ⟨⟨below_step HB.out hb, HA.out.step (hb.block ga HG2.out), hbk, Nat.ne_of_lt HG2.out, HB.out.size, HG1.out⟩⟩; clear hw2 hbk hb HB HA HG1 HG2))
  clear hcut
  go_wp2_with (first
    | (go_at_call 12; (with_reducible refine (sum_Of.calls (some ⟨ga, 0, none⟩) ca b (crc b) _ (HI.out.C (marked_front b)) (by have h_ := HCA.out; rw [marked_len] at h_; omega) (crc_of b HIn.out)).mono ?_); rintro e w3 ⟨rfl, hb⟩; have n_ := Aside0.mk (HI.out.step hb); clear HI hb; have HI := n_; clear n_)
    | (go_at_call 13; (with_reducible refine (posthornref02_Of.calls k A0 c0 b (crc b) _ (Kd.C_below HR0.out HI.out.below) HC0.out E2.out).mono ?_); rintro e w4 ⟨rfl, hdr⟩; have hb := Drawn0.below hdr; clear hdr; have n_ := Aside0.mk (HI.out.step hb); clear HI hb; have HI := n_; clear n_)
    | (go_at_call 14; (with_reducible refine (sum_More.calls fr (some ⟨ga, 0, none⟩) ca b x1 _ (HI.out.C (marked_front b)) (by have h_ := HCA.out; rw [marked_len] at h_; omega) E3.out).mono ?_); rintro e w5 ⟨rfl, hb⟩; have n_ := Aside0.mk (HI.out.step hb); clear HI hb; have HI := n_; clear n_)
    | (go_at_call 15; (with_reducible refine (posthornref02_More.calls k fr A0 c0 b x1 _ (Kd.C_below HR0.out HI.out.below) HC0.out E4.out).mono ?_); rintro e w6 ⟨rfl, hdr⟩; have hb := Drawn0.below hdr; clear hdr; have n_ := Aside0.mk (HI.out.step hb); clear HI hb; have HI := n_; clear n_)
    | (go_at_call 22; (with_reducible refine (write_calls w1.heap.size 0 0 (crc b) (some ⟨ga, 0, none⟩) ca b _ HI.out.blk (HI.out.C (marked_front b)) (by have h_ := HCA.out; rw [marked_len] at h_; omega) EW.out (by omega) (by have h_ := HL.out; omega)).mono ?_); rintro e w7 ⟨rfl, hlf⟩; have n_ := Aside0.mk (HI.out.left hlf); clear HI hlf; have HI := n_; clear n_)
    | (go_at_call 32; (with_reducible refine (posthornlaw02_roomy.calls k A0 c0 b (marked b) _ (Kd.C_below HR0.out HI.out.below) HC0.out E1.out).mono ?_); rintro e w8 ⟨v8, rfl, hR, hb⟩; obtain ⟨A8, c8, rfl⟩ := Kd.R_slice hR; have HR8 := Aside0.mk (Kd.R_reads' hR); clear hR; have n_ := Aside0.mk (HI.out.step hb); clear HI hb; have HI := n_; clear n_)
    | (go_at_call 33; (with_reducible refine (slices_Equal_byte_byte.calls k (some ⟨ga, 0, none⟩) ca (marked b) A8 c8 (marked b) true _ (HI.out.C (marked_whole b)) HCA.out HR8.out.2.2 HR8.out.2.1 E5.out).mono ?_); rintro e w9 ⟨rfl, hdr⟩; have hb := Drawn0.below hdr; clear hdr; have n_ := Aside0.mk (HI.out.step hb); clear HI hb; have HI := n_; clear n_))
  have t1 : 0 < b.length := HP.out
  have t2 : ((ot.length : Int) == 0) = true := beq_iff_eq.2 (by have h_ := HZ.out; omega)
  go_wp2_with (first
    | (go_at_call 19; (with_reducible refine (slices_Clone_byte_byte.calls A0 c0 b b _ (Kd.C_below HR0.out HI.out.below) HC0.out EC.out).mono ?_); rintro e w10 ⟨vn, rfl, hR, hb⟩; obtain ⟨An, cn, rfl⟩ := Kd.R_slice hR; obtain ⟨gn, cn9, hv, hgn1, hgn2, _⟩ := Kd.R_form hR (by have h_ := HP.out; omega); have hA : An = some ⟨gn, 0, none⟩ := (by injection hv); subst hA; have HGN : Aside0 (w9.heap.size ≤ gn) := ⟨hgn1⟩; clear hv hgn1 hgn2; have HW10 : Aside0 (w9.heap.size ≤ w10.heap.size) := ⟨hb.size⟩; have HLO := Aside0.mk HI.out.low; have HN : Aside0 (KN w9.heap.size (some ⟨gn, 0, none⟩) cn b.length b w10) := ⟨⟨hR, rfl⟩⟩; have n_ := Aside0.mk (HI.out.step hb); clear HI hb hR; have HI := n_; clear n_)
    | ((with_reducible refine gate_builtin (b := .copy) (xs := #[.tmp 47, .tmp 48]) rfl ?_); refine Kd.R_copy (0 : Int) w9.heap.size rfl (.tmp 47) (.tmp 48) 23 23 5 rfl Try.underlying23 (by kernel_rfl) _ b ot A1 ot.length c1 (fun _ => True) rfl rfl HN.out.row (Kd.C_below HR1.out HI.out.below) (Below.refl _ _) HW10.out ?_; intro w11 hR _ hg; rw [← HNW.out] at hR; have m_ : Aside0 (KN w9.heap.size (some ⟨gn, 0, none⟩) cn b.length nw w11) := ⟨⟨hR, HN1.out⟩⟩; have n_ := Aside0.mk (HI.out.grown hg (own_base (Kd.own_of_R HN.out.row)) HLO.out.1 HLO.out.2); clear HI HN hR hg; have HI := n_; have HN := m_; clear n_ m_)
    | ((with_reducible refine gate_builtin (b := .copy) (xs := #[.tmp 50, .tmp 51]) rfl ?_); refine copy_into rfl (.tmp 50) (.tmp 51) 23 23 rfl Try.underlying23 (by kernel_rfl) ga ca b.length ca c1 A1 (marked b) ot rfl rfl HI.out.row (by rw [marked_len]; omega) (Kd.C_below HR1.out HI.out.below) ?_; intro w12 hrow hg; rw [marked_copy _ _ _ (by omega) (by omega), ← HNW.out] at hrow; have m_ := Aside0.mk (HN.out.other hg HLO.out.2); have n_ := Aside0.mk (HI.out.into hrow hg); clear HI HN hrow hg; have HI := n_; have HN := m_; clear n_ m_; obtain ⟨hn0, hn0f⟩ := Kd.R_celln (0 : Int) HN.out.row 0 (by omega) (by have h_ := HP.out; omega); obtain ⟨ha0, ha0f⟩ := HI.out.row.cell 0 (by rw [marked_len]; omega); have hgne : gn ≠ ga := (by have h_ := HLO.out.2; have h2_ := HGN.out; omega); have hz1 : ((0 : Int).toNat) = 0 := rfl; rw [hz1] at hn0 hn0f; have hv0 : (marked nw)[0]'(by rw [marked_len]; omega) = rdOf (0 : Int) nw 0 := (by have h_ := HP.out; have h2_ := HN1.out; exact marked_rd nw (by omega)); rw [hv0] at ha0; clear hv0 hz1))
  clear t1 t2
  have hgw : w.heap.size ≤ gn := by have h_ := HLO.out.2; have h2_ := HGN.out; have h3_ := HI.out.hga; omega
  have hga : ga ≠ gn := by have h_ := HLO.out.2; have h2_ := HGN.out; omega
  have hgs : w1.heap.size ≠ gn := by have h_ := HLO.out.1; have h2_ := HGN.out; omega
  have hK := (HI.out.far (.int .u8 (Go.bits .xor .u8 (rdOf (0 : Int) nw 0) 1)) hgw hga hgs).flip (Go.bits .xor .u8 (rdOf (0 : Int) nw 0) 1)
  rw [marked_set _ _ (by have h_ := HP.out; have h2_ := HN1.out; omega), ← HFN.out] at hK
  have hR := (Kd.R_putg HN.out.row 0 (Go.bits .xor .u8 (rdOf (0 : Int) nw 0) 1)).1
  have hK2 : KN w9.heap.size (some ⟨gn, 0, none⟩) cn b.length n2 ((w12.setCell ⟨gn, 0, none⟩ (.int .u8 (Go.bits .xor .u8 (rdOf (0 : Int) nw 0) 1))).setCell ⟨ga, 0, none⟩ (.int .u8 (Go.bits .xor .u8 (rdOf (0 : Int) nw 0) 1))) := by
    refine KN.move (W := w12.setCell ⟨gn, 0, none⟩ (.int .u8 (Go.bits .xor .u8 (rdOf (0 : Int) nw 0) 1))) ⟨?_, HN2.out⟩ (fun k hk _ => Below.heap_setCell _ _ _ _ (show k ≠ ga by have h_ := HLO.out.2; omega))
    rw [HFN.out]
    exact hR
  generalize (w12.setCell ⟨gn, 0, none⟩ (.int .u8 (Go.bits .xor .u8 (rdOf (0 : Int) nw 0) 1))).setCell ⟨ga, 0, none⟩ (.int .u8 (Go.bits .xor .u8 (rdOf (0 : Int) nw 0) 1)) = w13 at hK hK2 ⊢
  clear HI HN hR hn0 hn0f ha0 ha0f hgne hgw hga hgs
  have HI := Aside0.mk hK
  have HN := Aside0.mk hK2
  clear hK hK2
  go_wp2_with (first
    | (go_at_call 23; (with_reducible refine (sum_calls w1.heap.size (crc b) (0 + (b.length : Int)) _ HI.out.blk).mono ?_); rintro e w' ⟨rfl, rfl⟩)
    | (go_at_call 13; (with_reducible refine (refOf_at k A0 c0 b.length b (crc b) rfl _ (Kd.C_below HR0.out HI.out.below) HC0.out E2.out).mono ?_); rintro e w14 ⟨rfl, hdr⟩; have hb := Drawn0.below hdr; clear hdr; have n_ := Aside0.mk (HI.out.step hb); have m_ := Aside0.mk (HN.out.step hb); clear HI HN hb; have HI := n_; have HN := m_; clear n_ m_)
    | (go_at_call 12; (with_reducible refine (Of_at (some ⟨ga, 0, none⟩) ca b.length n2 (crc n2) HN2.out _ (HI.out.C (marked_front n2)) (by have h_ := HCA.out; rw [marked_len] at h_; omega) (crc_of n2 HI2.out)).mono ?_); rintro e w15 ⟨rfl, hb⟩; have n_ := Aside0.mk (HI.out.step hb); have m_ := Aside0.mk (HN.out.step hb); clear HI HN hb; have HI := n_; have HN := m_; clear n_ m_)
    | (go_at_call 13; (with_reducible refine (refOf_at k (some ⟨gn, 0, none⟩) cn b.length n2 (crc n2) HN2.out _ HN.out.C.1 HN.out.C.2 D2.out).mono ?_); rintro e w16 ⟨rfl, hdr⟩; have hb := Drawn0.below hdr; clear hdr; have n_ := Aside0.mk (HI.out.step hb); have m_ := Aside0.mk (HN.out.step hb); clear HI HN hb; have HI := n_; have HN := m_; clear n_ m_)
    | (go_at_call 14; (with_reducible refine (More_at fr (some ⟨ga, 0, none⟩) ca b.length n2 x2 HN2.out _ (HI.out.C (marked_front n2)) (by have h_ := HCA.out; rw [marked_len] at h_; omega) D3.out).mono ?_); rintro e w17 ⟨rfl, hb⟩; have n_ := Aside0.mk (HI.out.step hb); have m_ := Aside0.mk (HN.out.step hb); clear HI HN hb; have HI := n_; have HN := m_; clear n_ m_)
    | (go_at_call 15; (with_reducible refine (refMore_at k fr (some ⟨gn, 0, none⟩) cn b.length n2 x2 HN2.out _ HN.out.C.1 HN.out.C.2 D4.out).mono ?_); rintro e w18 ⟨rfl, hdr⟩; have hb := Drawn0.below hdr; clear hdr; have n_ := Aside0.mk (HI.out.step hb); have m_ := Aside0.mk (HN.out.step hb); clear HI HN hb; have HI := n_; have HN := m_; clear n_ m_)
    | (go_at_call 22; (with_reducible refine (write_at w1.heap.size (crc b) (0 + (b.length : Int)) (crc (b ++ n2)) 0 (some ⟨ga, 0, none⟩) ca b.length n2 HN2.out _ HI.out.blk (HI.out.C (marked_front n2)) (by have h_ := HCA.out; rw [marked_len] at h_; omega) (crc_more b n2 HI2.out) (by omega) (by have h_ := HL.out; have h2_ := HN2.out; omega)).mono ?_); rintro e w19 ⟨rfl, hlf⟩; have m_ := Aside0.mk (HN.out.left hlf HLO.out.1); have n_ := Aside0.mk (HI.out.left hlf); clear HI HN hlf; have HI := n_; have HN := m_; clear n_ m_))
  go_wp2_with (first
    | (go_at_call 23; (with_reducible refine (sum_calls w1.heap.size (crc (b ++ n2)) (0 + (b.length : Int) + (n2.length : Int)) _ HI.out.blk).mono ?_); rintro e w' ⟨rfl, rfl⟩)
    | (go_at_call 13; (with_reducible refine (refOf_at k A0 c0 b.length b (crc b) rfl _ (Kd.C_below HR0.out HI.out.below) HC0.out E2.out).mono ?_); rintro e w21 ⟨rfl, hdr⟩; have hb := Drawn0.below hdr; clear hdr; have n_ := Aside0.mk (HI.out.step hb); have m_ := Aside0.mk (HN.out.step hb); clear HI HN hb; have HI := n_; have HN := m_; clear n_ m_)
    | (go_at_call 15; (with_reducible refine (refMore_at k (crc b) (some ⟨gn, 0, none⟩) cn b.length n2 (crc (b ++ n2)) HN2.out _ HN.out.C.1 HN.out.C.2 D6.out).mono ?_); rintro e w22 ⟨rfl, hdr⟩; have hb := Drawn0.below hdr; clear hdr; have n_ := Aside0.mk (HI.out.step hb); have m_ := Aside0.mk (HN.out.step hb); clear HI HN hb; have HI := n_; have HN := m_; clear n_ m_)
    | (go_at_call 32; (with_reducible refine (roomy_at k (some ⟨gn, 0, none⟩) cn b.length n2 (marked n2) HN2.out _ HN.out.C.1 HN.out.C.2 D1.out).mono ?_); rintro e w23 ⟨v23, rfl, hR, hb⟩; obtain ⟨A23, c23, rfl⟩ := Kd.R_slice hR; have HR23 := Aside0.mk (Kd.R_reads' hR); clear hR; have n_ := Aside0.mk (HI.out.step hb); have m_ := Aside0.mk (HN.out.step hb); clear HI HN hb; have HI := n_; have HN := m_; clear n_ m_)
    | (go_at_call 33; (with_reducible refine (equal_at k (some ⟨ga, 0, none⟩) A23 ca c23 (marked b).length (marked n2).length (marked n2) (marked n2) (by rw [marked_len, marked_len, HN2.out]) rfl _ (HI.out.C (marked_whole n2)) HCA.out HR23.out.2.2 HR23.out.2.1 D5.out).mono ?_); rintro e w24 ⟨rfl, hdr⟩; have hb := Drawn0.below hdr; clear hdr; have n_ := Aside0.mk (HI.out.step hb); have m_ := Aside0.mk (HN.out.step hb); clear HI HN hb; have HI := n_; have HN := m_; clear n_ m_)
    | (go_at_call 16; refine (posthornlaw02_wakes.calls true _ rfl).mono ?_; rintro e w25 ⟨rfl, hb⟩; have n_ := Aside0.mk (HI.out.step hb); have m_ := Aside0.mk (HN.out.step hb); clear HI HN hb; have HI := n_; have HN := m_; clear n_ m_))
  go_ret
  exact ⟨rfl, HI.out.below⟩
end Go.Proofs.Ytlaglidgjnpncaa.SumF
