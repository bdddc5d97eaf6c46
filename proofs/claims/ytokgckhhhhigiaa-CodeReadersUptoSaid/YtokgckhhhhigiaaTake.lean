/- code.Reader (walked by hand): take. -/
import Derived.Test.YtokgckhhhhigiaaReader
import Derived.Test.YtokgckhhhhigiaaG8
namespace Go.Proofs.Ytokgckhhhhigiaa.Rd
set_option linter.unusedVariables false
set_option linter.unusedSimpArgs false
open Go.RowKit Go.Proofs.YtokgckhhhhigiaaW.PrintWords Go.Proofs.YtokgckhhhhigiaaW.PrintLast Go.Proofs.YtokgckhhhhigiaaW.PrintMore Go.Proofs.Ytokgckhhhhigiaa.B Go.Proofs.Ytokgckhhhhigiaa.M Go.Proofs.Ytokgckhhhhigiaa.G Go.Proofs.Ytokgckhhhhigiaa.Turn

def b1 (a b : Int) : Int := Go.bits .or .u8 (a * 4 % 256) (b / 16)
def b2 (b c : Int) : Int := Go.bits .or .u8 (b * 16 % 256) (c / 4)
def b3 (c d : Int) : Int := Go.bits .or .u8 (c * 64 % 256) d
/-- The bytes of a whole group. -/
def fourB (a b c d : Int) : List Int := if c = 64 then [b1 a b] else if d = 64 then [b1 a b, b2 b c] else [b1 a b, b2 b c, b3 c d]
/-- What take leaves: the Reader's cells, the row that it tells, and all else as it was. -/
structure Took (g : Nat) (cs : Array Value) (v0 v1 : Value) (ys : List Int) (base : Nat) (w w' : World) : Prop where
  cells : w'.heap[g]? = some (.cells cs 47 (0, 0))
  row : w'.ownsRow base 5 1 v1 ys.length (nums .u8 ys)
  below : Below base w w'
  keep : KeepBut w w' g v0.ownBlock
  near : v1.ownBlock = v0.ownBlock ∨ ∀ q, v1.ownBlock = some q → w.heap.size ≤ q
theorem row_ne {w : World} {base g n : Nat} {v0 : Value} {xs : List Value} {cs : Array Value} (ho : w.ownsRow base 5 1 v0 n xs) (hk : w.heap[g]? = some (.cells cs 47 (0, 0))) : some g ≠ v0.ownBlock := by
  intro hq
  obtain ⟨cs', hcs⟩ := own_typed ho g hq.symm
  rw [hcs] at hk
  injection hk with hk
  injection hk with _ h3
  exact absurd h3 (by decide)
theorem Below.more {base : Nat} {w w' : World} (h : Below base w w') : w.heap.size ≤ w'.heap.size := h.size
theorem own_none {w : World} {base : Nat} {e : TypeId} {n : Nat} {v : Value} {xs : List Value} (h : w.ownsRow base e 1 v n xs) : ∀ k, v.ownBlock = some k → base ≤ k ∧ k < w.heap.size := World.ownsRow.lt h
theorem news_top {n : Nat} {xs : List Int} (W : World) (cs : Array Value) (t : TypeId) (q : Nat) (hq : q = W.heap.size) (hn : (nums .u8 xs).length = n) (hcs : cs.toList.take n = nums .u8 xs) : ∀ j u, (nums .u8 xs)[j]? = some u → (W.alloc (.cells cs t)).cell? ((⟨q, 0, none⟩ : Addr).add j) = some u := by
  subst hq
  intro j u hu
  have ha : (⟨W.heap.size, 0, none⟩ : Addr).add j = ⟨W.heap.size, j, none⟩ := by unfold Addr.add; split <;> simp_all
  rw [ha, blk_cell (blk_new W _) j, ← Array.getElem?_toList]
  rw [← hcs, List.getElem?_take] at hu
  split at hu
  · exact hu
  · cases hu
/-- The stores and the two blocks of a whole group, then the append. -/
theorem Took.four {g : Nat} {m o' : Bool} {a b c d : Int} {o : Bool} {er : Int} {v0 v1 : Value} {xs news : List Int} {base : Nat} {w w1 w' : World} {o1 o2 : Obj}
    (hk : w1.heap[g]? = some (.cells (cellsR m a b c d 3 o er) 47 (0, 0))) (ho : w1.ownsRow base 5 1 v0 xs.length (nums .u8 xs)) (hg : base ≤ g) (hb : Below base w w1) (hkeep : KeepBut w w1 g v0.ownBlock) (hbase : base ≤ w.heap.size)
    (hgr : (((((w1.setCell ⟨g, 5, none⟩ (.int .i64 4)).setCell ⟨g, 5, none⟩ (.int .i64 0)).setCell ⟨g, 6, none⟩ (.bool o')).alloc o1).alloc o2).grownBy w' v0.ownBlock)
    (hr : w'.ownsRow base 5 1 v1 (xs.length + (nums .u8 news).length) (nums .u8 xs ++ nums .u8 news))
    (hat : v1.ownBlock = v0.ownBlock ∨ ∀ k, v1.ownBlock = some k → (((((w1.setCell ⟨g, 5, none⟩ (.int .i64 4)).setCell ⟨g, 5, none⟩ (.int .i64 0)).setCell ⟨g, 6, none⟩ (.bool o')).alloc o1).alloc o2).heap.size ≤ k) :
    Took g (cellsR m a b c d 0 o' er) v0 v1 (xs ++ news) base w w' := by
  have hne := row_ne ho hk
  have k1 := blk_put (cs' := cellsR m a b c d 4 o er) hk 5 (.int .i64 4) rfl
  have k2 := blk_put (cs' := cellsR m a b c d 0 o er) k1 5 (.int .i64 0) rfl
  have k3 := blk_put (cs' := cellsR m a b c d 0 o' er) k2 6 (.bool o') rfl
  have k4 := blk_alloc (blk_alloc k3 o1) o2
  have hsz : (((((w1.setCell ⟨g, 5, none⟩ (.int .i64 4)).setCell ⟨g, 5, none⟩ (.int .i64 0)).setCell ⟨g, 6, none⟩ (.bool o')).alloc o1).alloc o2).heap.size = w1.heap.size + 2 := by simp [World.setCell]
  have hbs : base ≤ w1.heap.size := Nat.le_trans hbase hb.size
  have hB3 := ((hb.setCell (p := ⟨g, 5, none⟩) hg (.int .i64 4)).setCell (p := ⟨g, 5, none⟩) hg (.int .i64 0)).setCell (p := ⟨g, 6, none⟩) hg (.bool o')
  have hB4 := hB3.alloc (by simp [World.setCell]; exact hbs) o1
  have hB5 := hB4.alloc (by simp [World.setCell]; omega) o2
  refine ⟨blk_grown k4 hgr hne, ?_, hB5.grown hgr (by rw [hsz]; omega) (fun k hk' => (own_none ho k hk').1), ?_, ?_⟩
  · have hn : nums .u8 xs ++ nums .u8 news = nums .u8 (xs ++ news) := by simp [nums]
    rw [hn] at hr
    have hl : xs.length + (nums .u8 news).length = (xs ++ news).length := by simp [nums]
    rwa [hl] at hr
  · refine ⟨Nat.le_trans hb.size (Nat.le_trans (by rw [hsz]; omega) hgr.size), fun i hi h1 h2 => ?_⟩
    have hi1 : i < w1.heap.size := Nat.lt_of_lt_of_le hi hb.size
    rw [hgr.block i (by rw [hsz]; omega) h2, Below.heap_alloc _ _ _ (by simp [World.setCell]; omega), Below.heap_alloc _ _ _ (by simp [World.setCell]; omega), Below.heap_setCell _ _ _ _ h1, Below.heap_setCell _ _ _ _ h1, Below.heap_setCell _ _ _ _ h1]
    exact hkeep.2 i hi h1 h2
  · rcases hat with hat | hat
    · exact .inl hat
    · refine .inr fun q hq => ?_
      have := hat q hq
      rw [hsz] at this
      have := hb.size
      omega

set_option maxHeartbeats 8000000 in
set_option maxRecDepth 100000 in
theorem take_one (k : Nat) (g : Nat) (m : Bool) (a b c d : Int) (o : Bool) (er ch v : Int) (hv : code_value.f k ch = some v) (hnx : nextV a b c 3 o v = 0) (hc : c = 64) (hd : v = 64) (v0 : Value) (xs : List Int) (base : Nat) (w : World) (hg : base ≤ g) (hbase : base ≤ w.heap.size)
    (hk : w.heap[g]? = some (.cells (cellsR m a b c d 3 o er) 47 (0, 0))) (ho : w.ownsRow base 5 1 v0 xs.length (nums .u8 xs)) (hl : xs.length + 3 < 140737488355328) :
    Calls Try.prog 24 #[.pointer (some ⟨g, 0, none⟩), v0, .int .u8 ch] w fun e w' => ∃ v1, e = .returned (.tuple #[v1, .int .i64 0]) ∧ Took g (cellsR m a b c v 0 true er) v0 v1 (xs ++ [b1 a b]) base w w' := by
  have A1 := Aside0.mk hv
  have HO := Aside0.mk ho
  have HK := Aside0.mk hk
  have hgl := blk_lt hk
  have HCC := Aside0.mk hc
  have HDD := Aside0.mk hd
  clear hv ho hk hc hd
  go_enter Try.func24, Try.ntmps24
  go_wp2_with (first
    | ((with_reducible refine gate_callee (f := 27) rfl ?_); refine goesL_ (some 14) rfl rfl Try.func27 (by kernel_rfl) rfl #[.int .u8 ch] rfl (by (try simp only [List.map_toArray, List.map_cons, List.map_nil]); first | done | rfl | (simp only [List.length_drop, List.length_take]; rfl)) ?_; (with_reducible refine (code_value.calls k ch v _ A1.out).mono ?_); rintro e1 w1 ⟨rfl, ⟨nd, rfl⟩⟩; refine ⟨_, rfl, ?_⟩; skip)
    | ((with_reducible refine gate_callee (f := 28) rfl ?_); refine goesL_ (some 17) rfl rfl Try.func28 (by kernel_rfl) rfl #[.pointer (some ⟨g, 0, none⟩), .int .u8 v] rfl (by (try simp only [List.map_toArray, List.map_cons, List.map_nil]); first | done | rfl | (simp only [List.length_drop, List.length_take]; rfl)) ?_; (with_reducible refine (next_calls g m a b c d 3 (by omega) o er v _ HK.out).mono ?_); rintro e2 w2 ⟨rfl, ⟨nd2, rfl⟩⟩; refine ⟨_, rfl, ?_⟩; rw [hnx]))
  have h4 : w.cell? ⟨g, 4, none⟩ = some (.int .u8 d) := blk_cell HK.out 4
  have h5 : w.cell? ⟨g, 5, none⟩ = some (.int .i64 3) := blk_cell HK.out 5
  have hf4 := blk_frozen HK.out 4
  go_region_held3 (fun w' => w'.cell? ⟨g, 5, none⟩ = some (.int .i64 3)) (first | go_keep | (exact (World.cell?_setCell_other _ _ _ _ (by simp)).trans h5)) (fail)
  have hb0 : Below base w (w.drewN (nd + nd2 + 1)) := ⟨rfl, rfl, rfl, Nat.le_refl _, fun _ _ => rfl⟩
  have hb1 := hb0.setCell (p := ⟨g, 4, none⟩) hg (.int .u8 v)
  have hkb : KeepBut w ((w.drewN (nd + nd2 + 1)).setCell ⟨g, 4, none⟩ (.int .u8 v)) g v0.ownBlock := ⟨hb1.size, fun i hi h1 _ => Below.heap_setCell _ _ _ _ h1⟩
  have HK1 : ((w.drewN (nd + nd2 + 1)).setCell ⟨g, 4, none⟩ (.int .u8 v)).heap[g]? = some (.cells (cellsR m a b c v 3 o er) 47 (0, 0)) := blk_put (cs := cellsR m a b c d 3 o er) HK.out 4 _ rfl
  have HO1 : ((w.drewN (nd + nd2 + 1)).setCell ⟨g, 4, none⟩ (.int .u8 v)).ownsRow base 5 1 v0 xs.length (nums .u8 xs) := own_move HO.out (fun q hq => Below.heap_setCell _ _ _ _ (by rintro rfl; exact row_ne HO.out HK.out hq.symm))
  generalize hw1 : ((w.drewN (nd + nd2 + 1)).setCell ⟨g, 4, none⟩ (.int .u8 v)) = w1 at hb1 HK1 HO1 hkb ⊢
  clear hw1 hb0 h4 h5 hf4
  have hgl1 := blk_lt HK1
  have hc1 : w1.cell? ⟨g, 1, none⟩ = some (.int .u8 a) := blk_cell HK1 1
  have hc2 : w1.cell? ⟨g, 2, none⟩ = some (.int .u8 b) := blk_cell HK1 2
  have hc3 : w1.cell? ⟨g, 3, none⟩ = some (.int .u8 c) := blk_cell HK1 3
  have hc4 : w1.cell? ⟨g, 4, none⟩ = some (.int .u8 v) := blk_cell HK1 4
  have hc5 : w1.cell? ⟨g, 5, none⟩ = some (.int .i64 3) := blk_cell HK1 5
  have hc6 : w1.cell? ⟨g, 6, none⟩ = some (.bool o) := blk_cell HK1 6
  have hf5 := blk_frozen HK1 5
  have hf6 := blk_frozen HK1 6
  have hne : g ≠ w1.heap.size := by omega
  have hne' : g ≠ w1.heap.size + 1 := by omega
  have HKK := Aside0.mk HK1
  have HOO := Aside0.mk HO1
  have HBB := Aside0.mk hb1
  have HKB := Aside0.mk hkb
  clear HK1 HO1 hb1 hkb HO HK
  have hc := HCC.out
  have hd := HDD.out
  go_wp2_with ((with_reducible refine gate_builtin (b := .append) (xs := #[.tmp 90, .tmp 92]) rfl ?_); at_builtin; refine turn_append_row base rfl (.tmp 90) (.tmp 92) 22 5 (.int .u8 0) 1 rfl Try.underlying22 info5 rfl (by decide) v0 xs.length (nums .u8 xs) ⟨w1.heap.size + 1, 0, none⟩ 1 3 (nums .u8 [b1 a b]) rfl rfl rfl ?news ?one ?own ?bas ?len ?_; (case news => exact news_top (n := 1) (xs := [b1 a b]) _ _ _ _ (by simp [World.setCell]) rfl rfl); (case one => intro u hu; obtain ⟨x, _, rfl⟩ := List.mem_map.1 hu; rfl); (case own => exact own_alloc (own_alloc (own_move HOO.out (fun q hq => by have hx := row_ne HOO.out HKK.out; rw [Below.heap_setCell _ _ _ _ (by rintro rfl; exact hx hq.symm), Below.heap_setCell _ _ _ _ (by rintro rfl; exact hx hq.symm), Below.heap_setCell _ _ _ _ (by rintro rfl; exact hx hq.symm)])) _) _); (case bas => have := HBB.out.size; simp [World.setCell]; omega); (case len => omega); intro v1 w' ho1 hgr hrows hat; have HT := Aside0.mk (Took.four HKK.out HOO.out hg HBB.out HKB.out hbase hgr ho1 hat); clear ho1 hgr hrows hat)
  go_ret2
  exact ⟨v1, rfl, HT.out⟩

set_option maxHeartbeats 8000000 in
set_option maxRecDepth 100000 in
theorem take_two (k : Nat) (g : Nat) (m : Bool) (a b c d : Int) (o : Bool) (er ch v : Int) (hv : code_value.f k ch = some v) (hnx : nextV a b c 3 o v = 0) (hc : c ≠ 64) (hd : v = 64) (v0 : Value) (xs : List Int) (base : Nat) (w : World) (hg : base ≤ g) (hbase : base ≤ w.heap.size)
    (hk : w.heap[g]? = some (.cells (cellsR m a b c d 3 o er) 47 (0, 0))) (ho : w.ownsRow base 5 1 v0 xs.length (nums .u8 xs)) (hl : xs.length + 3 < 140737488355328) :
    Calls Try.prog 24 #[.pointer (some ⟨g, 0, none⟩), v0, .int .u8 ch] w fun e w' => ∃ v1, e = .returned (.tuple #[v1, .int .i64 0]) ∧ Took g (cellsR m a b c v 0 true er) v0 v1 (xs ++ [b1 a b, b2 b c]) base w w' := by
  have A1 := Aside0.mk hv
  have HO := Aside0.mk ho
  have HK := Aside0.mk hk
  have hgl := blk_lt hk
  have HCC := Aside0.mk hc
  have HDD := Aside0.mk hd
  clear hv ho hk hc hd
  go_enter Try.func24, Try.ntmps24
  go_wp2_with (first
    | ((with_reducible refine gate_callee (f := 27) rfl ?_); refine goesL_ (some 14) rfl rfl Try.func27 (by kernel_rfl) rfl #[.int .u8 ch] rfl (by (try simp only [List.map_toArray, List.map_cons, List.map_nil]); first | done | rfl | (simp only [List.length_drop, List.length_take]; rfl)) ?_; (with_reducible refine (code_value.calls k ch v _ A1.out).mono ?_); rintro e1 w1 ⟨rfl, ⟨nd, rfl⟩⟩; refine ⟨_, rfl, ?_⟩; skip)
    | ((with_reducible refine gate_callee (f := 28) rfl ?_); refine goesL_ (some 17) rfl rfl Try.func28 (by kernel_rfl) rfl #[.pointer (some ⟨g, 0, none⟩), .int .u8 v] rfl (by (try simp only [List.map_toArray, List.map_cons, List.map_nil]); first | done | rfl | (simp only [List.length_drop, List.length_take]; rfl)) ?_; (with_reducible refine (next_calls g m a b c d 3 (by omega) o er v _ HK.out).mono ?_); rintro e2 w2 ⟨rfl, ⟨nd2, rfl⟩⟩; refine ⟨_, rfl, ?_⟩; rw [hnx]))
  have h4 : w.cell? ⟨g, 4, none⟩ = some (.int .u8 d) := blk_cell HK.out 4
  have h5 : w.cell? ⟨g, 5, none⟩ = some (.int .i64 3) := blk_cell HK.out 5
  have hf4 := blk_frozen HK.out 4
  go_region_held3 (fun w' => w'.cell? ⟨g, 5, none⟩ = some (.int .i64 3)) (first | go_keep | (exact (World.cell?_setCell_other _ _ _ _ (by simp)).trans h5)) (fail)
  have hb0 : Below base w (w.drewN (nd + nd2 + 1)) := ⟨rfl, rfl, rfl, Nat.le_refl _, fun _ _ => rfl⟩
  have hb1 := hb0.setCell (p := ⟨g, 4, none⟩) hg (.int .u8 v)
  have hkb : KeepBut w ((w.drewN (nd + nd2 + 1)).setCell ⟨g, 4, none⟩ (.int .u8 v)) g v0.ownBlock := ⟨hb1.size, fun i hi h1 _ => Below.heap_setCell _ _ _ _ h1⟩
  have HK1 : ((w.drewN (nd + nd2 + 1)).setCell ⟨g, 4, none⟩ (.int .u8 v)).heap[g]? = some (.cells (cellsR m a b c v 3 o er) 47 (0, 0)) := blk_put (cs := cellsR m a b c d 3 o er) HK.out 4 _ rfl
  have HO1 : ((w.drewN (nd + nd2 + 1)).setCell ⟨g, 4, none⟩ (.int .u8 v)).ownsRow base 5 1 v0 xs.length (nums .u8 xs) := own_move HO.out (fun q hq => Below.heap_setCell _ _ _ _ (by rintro rfl; exact row_ne HO.out HK.out hq.symm))
  generalize hw1 : ((w.drewN (nd + nd2 + 1)).setCell ⟨g, 4, none⟩ (.int .u8 v)) = w1 at hb1 HK1 HO1 hkb ⊢
  clear hw1 hb0 h4 h5 hf4
  have hgl1 := blk_lt HK1
  have hc1 : w1.cell? ⟨g, 1, none⟩ = some (.int .u8 a) := blk_cell HK1 1
  have hc2 : w1.cell? ⟨g, 2, none⟩ = some (.int .u8 b) := blk_cell HK1 2
  have hc3 : w1.cell? ⟨g, 3, none⟩ = some (.int .u8 c) := blk_cell HK1 3
  have hc4 : w1.cell? ⟨g, 4, none⟩ = some (.int .u8 v) := blk_cell HK1 4
  have hc5 : w1.cell? ⟨g, 5, none⟩ = some (.int .i64 3) := blk_cell HK1 5
  have hc6 : w1.cell? ⟨g, 6, none⟩ = some (.bool o) := blk_cell HK1 6
  have hf5 := blk_frozen HK1 5
  have hf6 := blk_frozen HK1 6
  have hne : g ≠ w1.heap.size := by omega
  have hne' : g ≠ w1.heap.size + 1 := by omega
  have HKK := Aside0.mk HK1
  have HOO := Aside0.mk HO1
  have HBB := Aside0.mk hb1
  have HKB := Aside0.mk hkb
  clear HK1 HO1 hb1 hkb HO HK
  have hc := HCC.out
  have hd := HDD.out
  go_wp2_with ((with_reducible refine gate_builtin (b := .append) (xs := #[.tmp 90, .tmp 92]) rfl ?_); at_builtin; refine turn_append_row base rfl (.tmp 90) (.tmp 92) 22 5 (.int .u8 0) 1 rfl Try.underlying22 info5 rfl (by decide) v0 xs.length (nums .u8 xs) ⟨w1.heap.size + 1, 0, none⟩ 2 3 (nums .u8 [b1 a b, b2 b c]) rfl rfl rfl ?news ?one ?own ?bas ?len ?_; (case news => exact news_top (n := 2) (xs := [b1 a b, b2 b c]) _ _ _ _ (by simp [World.setCell]) rfl rfl); (case one => intro u hu; obtain ⟨x, _, rfl⟩ := List.mem_map.1 hu; rfl); (case own => exact own_alloc (own_alloc (own_move HOO.out (fun q hq => by have hx := row_ne HOO.out HKK.out; rw [Below.heap_setCell _ _ _ _ (by rintro rfl; exact hx hq.symm), Below.heap_setCell _ _ _ _ (by rintro rfl; exact hx hq.symm), Below.heap_setCell _ _ _ _ (by rintro rfl; exact hx hq.symm)])) _) _); (case bas => have := HBB.out.size; simp [World.setCell]; omega); (case len => omega); intro v1 w' ho1 hgr hrows hat; have HT := Aside0.mk (Took.four HKK.out HOO.out hg HBB.out HKB.out hbase hgr ho1 hat); clear ho1 hgr hrows hat)
  go_ret2
  exact ⟨v1, rfl, HT.out⟩

set_option maxHeartbeats 8000000 in
set_option maxRecDepth 100000 in
theorem take_three (k : Nat) (g : Nat) (m : Bool) (a b c d : Int) (o : Bool) (er ch v : Int) (hv : code_value.f k ch = some v) (hnx : nextV a b c 3 o v = 0) (hc : c ≠ 64) (hd : v ≠ 64) (v0 : Value) (xs : List Int) (base : Nat) (w : World) (hg : base ≤ g) (hbase : base ≤ w.heap.size)
    (hk : w.heap[g]? = some (.cells (cellsR m a b c d 3 o er) 47 (0, 0))) (ho : w.ownsRow base 5 1 v0 xs.length (nums .u8 xs)) (hl : xs.length + 3 < 140737488355328) :
    Calls Try.prog 24 #[.pointer (some ⟨g, 0, none⟩), v0, .int .u8 ch] w fun e w' => ∃ v1, e = .returned (.tuple #[v1, .int .i64 0]) ∧ Took g (cellsR m a b c v 0 false er) v0 v1 (xs ++ [b1 a b, b2 b c, b3 c v]) base w w' := by
  have A1 := Aside0.mk hv
  have HO := Aside0.mk ho
  have HK := Aside0.mk hk
  have hgl := blk_lt hk
  have HCC := Aside0.mk hc
  have HDD := Aside0.mk hd
  clear hv ho hk hc hd
  go_enter Try.func24, Try.ntmps24
  go_wp2_with (first
    | ((with_reducible refine gate_callee (f := 27) rfl ?_); refine goesL_ (some 14) rfl rfl Try.func27 (by kernel_rfl) rfl #[.int .u8 ch] rfl (by (try simp only [List.map_toArray, List.map_cons, List.map_nil]); first | done | rfl | (simp only [List.length_drop, List.length_take]; rfl)) ?_; (with_reducible refine (code_value.calls k ch v _ A1.out).mono ?_); rintro e1 w1 ⟨rfl, ⟨nd, rfl⟩⟩; refine ⟨_, rfl, ?_⟩; skip)
    | ((with_reducible refine gate_callee (f := 28) rfl ?_); refine goesL_ (some 17) rfl rfl Try.func28 (by kernel_rfl) rfl #[.pointer (some ⟨g, 0, none⟩), .int .u8 v] rfl (by (try simp only [List.map_toArray, List.map_cons, List.map_nil]); first | done | rfl | (simp only [List.length_drop, List.length_take]; rfl)) ?_; (with_reducible refine (next_calls g m a b c d 3 (by omega) o er v _ HK.out).mono ?_); rintro e2 w2 ⟨rfl, ⟨nd2, rfl⟩⟩; refine ⟨_, rfl, ?_⟩; rw [hnx]))
  have h4 : w.cell? ⟨g, 4, none⟩ = some (.int .u8 d) := blk_cell HK.out 4
  have h5 : w.cell? ⟨g, 5, none⟩ = some (.int .i64 3) := blk_cell HK.out 5
  have hf4 := blk_frozen HK.out 4
  go_region_held3 (fun w' => w'.cell? ⟨g, 5, none⟩ = some (.int .i64 3)) (first | go_keep | (exact (World.cell?_setCell_other _ _ _ _ (by simp)).trans h5)) (fail)
  have hb0 : Below base w (w.drewN (nd + nd2 + 1)) := ⟨rfl, rfl, rfl, Nat.le_refl _, fun _ _ => rfl⟩
  have hb1 := hb0.setCell (p := ⟨g, 4, none⟩) hg (.int .u8 v)
  have hkb : KeepBut w ((w.drewN (nd + nd2 + 1)).setCell ⟨g, 4, none⟩ (.int .u8 v)) g v0.ownBlock := ⟨hb1.size, fun i hi h1 _ => Below.heap_setCell _ _ _ _ h1⟩
  have HK1 : ((w.drewN (nd + nd2 + 1)).setCell ⟨g, 4, none⟩ (.int .u8 v)).heap[g]? = some (.cells (cellsR m a b c v 3 o er) 47 (0, 0)) := blk_put (cs := cellsR m a b c d 3 o er) HK.out 4 _ rfl
  have HO1 : ((w.drewN (nd + nd2 + 1)).setCell ⟨g, 4, none⟩ (.int .u8 v)).ownsRow base 5 1 v0 xs.length (nums .u8 xs) := own_move HO.out (fun q hq => Below.heap_setCell _ _ _ _ (by rintro rfl; exact row_ne HO.out HK.out hq.symm))
  generalize hw1 : ((w.drewN (nd + nd2 + 1)).setCell ⟨g, 4, none⟩ (.int .u8 v)) = w1 at hb1 HK1 HO1 hkb ⊢
  clear hw1 hb0 h4 h5 hf4
  have hgl1 := blk_lt HK1
  have hc1 : w1.cell? ⟨g, 1, none⟩ = some (.int .u8 a) := blk_cell HK1 1
  have hc2 : w1.cell? ⟨g, 2, none⟩ = some (.int .u8 b) := blk_cell HK1 2
  have hc3 : w1.cell? ⟨g, 3, none⟩ = some (.int .u8 c) := blk_cell HK1 3
  have hc4 : w1.cell? ⟨g, 4, none⟩ = some (.int .u8 v) := blk_cell HK1 4
  have hc5 : w1.cell? ⟨g, 5, none⟩ = some (.int .i64 3) := blk_cell HK1 5
  have hc6 : w1.cell? ⟨g, 6, none⟩ = some (.bool o) := blk_cell HK1 6
  have hf5 := blk_frozen HK1 5
  have hf6 := blk_frozen HK1 6
  have hne : g ≠ w1.heap.size := by omega
  have hne' : g ≠ w1.heap.size + 1 := by omega
  have HKK := Aside0.mk HK1
  have HOO := Aside0.mk HO1
  have HBB := Aside0.mk hb1
  have HKB := Aside0.mk hkb
  clear HK1 HO1 hb1 hkb HO HK
  have hc := HCC.out
  have hd := HDD.out
  go_wp2_with ((with_reducible refine gate_builtin (b := .append) (xs := #[.tmp 90, .tmp 92]) rfl ?_); at_builtin; refine turn_append_row base rfl (.tmp 90) (.tmp 92) 22 5 (.int .u8 0) 1 rfl Try.underlying22 info5 rfl (by decide) v0 xs.length (nums .u8 xs) ⟨w1.heap.size + 1, 0, none⟩ 3 3 (nums .u8 [b1 a b, b2 b c, b3 c v]) rfl rfl rfl ?news ?one ?own ?bas ?len ?_; (case news => exact news_top (n := 3) (xs := [b1 a b, b2 b c, b3 c v]) _ _ _ _ (by simp [World.setCell]) rfl rfl); (case one => intro u hu; obtain ⟨x, _, rfl⟩ := List.mem_map.1 hu; rfl); (case own => exact own_alloc (own_alloc (own_move HOO.out (fun q hq => by have hx := row_ne HOO.out HKK.out; rw [Below.heap_setCell _ _ _ _ (by rintro rfl; exact hx hq.symm), Below.heap_setCell _ _ _ _ (by rintro rfl; exact hx hq.symm), Below.heap_setCell _ _ _ _ (by rintro rfl; exact hx hq.symm)])) _) _); (case bas => have := HBB.out.size; simp [World.setCell]; omega); (case len => omega); intro v1 w' ho1 hgr hrows hat; have HT := Aside0.mk (Took.four HKK.out HOO.out hg HBB.out HKB.out hbase hgr ho1 hat); clear ho1 hgr hrows hat)
  go_ret2
  exact ⟨v1, rfl, HT.out⟩

theorem Took.more {g : Nat} {cs cs1 cs2 : Array Value} {j1 j2 : Nat} {u1 u2 : Value} {v0 : Value} {xs : List Int} {base : Nat} {w w1 : World} (hk : w1.heap[g]? = some (.cells cs1 47 (0, 0))) (ho : w1.ownsRow base 5 1 v0 xs.length (nums .u8 xs)) (hg : base ≤ g) (hb : Below base w w1) (hkeep : KeepBut w w1 g v0.ownBlock)
    (e2 : cs1.setIfInBounds j2 u2 = cs2) : Took g cs2 v0 v0 xs base w (w1.setCell ⟨g, j2, none⟩ u2) :=
  ⟨blk_put hk j2 u2 e2, own_move ho (fun q hq => Below.heap_setCell _ _ _ _ (by rintro rfl; exact row_ne ho hk hq.symm)), hb.setCell (p := ⟨g, j2, none⟩) hg u2,
   ⟨by have := hkeep.1; simpa [World.setCell] using this, fun i hi h1 h2 => (Below.heap_setCell _ _ _ _ h1).trans (hkeep.2 i hi h1 h2)⟩, .inl rfl⟩
set_option maxHeartbeats 8000000 in
set_option maxRecDepth 100000 in
theorem take_bad (k : Nat) (g : Nat) (m : Bool) (a b c d : Int) (n : Nat) (hn : n ≤ 3) (o : Bool) (er ch v : Int) (hv : code_value.f k ch = some v) (hnx : nextV a b c n o v ≠ 0) (v0 : Value) (w : World)
    (hk : w.heap[g]? = some (.cells (cellsR m a b c d n o er) 47 (0, 0))) :
    Calls Try.prog 24 #[.pointer (some ⟨g, 0, none⟩), v0, .int .u8 ch] w fun e w' => e = .returned (.tuple #[v0, .int .i64 (nextV a b c n o v)]) ∧ Drawn0 w w' := by
  have A1 := Aside0.mk hv
  have HK := Aside0.mk hk
  obtain ⟨er', her⟩ : ∃ e, e = nextV a b c n o v := ⟨_, rfl⟩
  rw [← her] at hnx ⊢
  have HE := Aside0.mk her
  have hnb : (er' != 0) = true := bne_iff_ne.2 hnx
  clear hv hk her
  go_enter Try.func24, Try.ntmps24
  go_wp2_with (first
    | ((with_reducible refine gate_callee (f := 27) rfl ?_); refine goesL_ (some 14) rfl rfl Try.func27 (by kernel_rfl) rfl #[.int .u8 ch] rfl (by (try simp only [List.map_toArray, List.map_cons, List.map_nil]); first | done | rfl | (simp only [List.length_drop, List.length_take]; rfl)) ?_; (with_reducible refine (code_value.calls k ch v _ A1.out).mono ?_); rintro e1 w1 ⟨rfl, ⟨nd, rfl⟩⟩; refine ⟨_, rfl, ?_⟩; skip)
    | ((with_reducible refine gate_callee (f := 28) rfl ?_); refine goesL_ (some 17) rfl rfl Try.func28 (by kernel_rfl) rfl #[.pointer (some ⟨g, 0, none⟩), .int .u8 v] rfl (by (try simp only [List.map_toArray, List.map_cons, List.map_nil]); first | done | rfl | (simp only [List.length_drop, List.length_take]; rfl)) ?_; (with_reducible refine (next_calls g m a b c d n hn o er v _ (blk_drewN HK.out nd)).mono ?_); rintro e2 w2 ⟨rfl, ⟨nd2, rfl⟩⟩; refine ⟨_, rfl, ?_⟩; rw [← HE.out]))
  go_ret2
  exact ⟨rfl, by repeat (first | exact Drawn0.refl _ | apply Drawn0.step)⟩
set_option maxHeartbeats 8000000 in
set_option maxRecDepth 100000 in
theorem take_zero (k : Nat) (g : Nat) (m : Bool) (a b c d : Int) (o : Bool) (er ch v : Int) (hv : code_value.f k ch = some v) (hnx : nextV a b c 0 o v = 0)  (v0 : Value) (xs : List Int) (base : Nat) (w : World) (hg : base ≤ g) (hbase : base ≤ w.heap.size)
    (hk : w.heap[g]? = some (.cells (cellsR m a b c d 0 o er) 47 (0, 0))) (ho : w.ownsRow base 5 1 v0 xs.length (nums .u8 xs)) :
    Calls Try.prog 24 #[.pointer (some ⟨g, 0, none⟩), v0, .int .u8 ch] w fun e w' => ∃ v1, e = .returned (.tuple #[v1, .int .i64 0]) ∧ Took g (cellsR m v b c d 1 o er) v0 v1 xs base w w' := by
  have A1 := Aside0.mk hv
  have HO := Aside0.mk ho
  have HK := Aside0.mk hk
  have hgl := blk_lt hk
  clear hv ho hk
  go_enter Try.func24, Try.ntmps24
  go_wp2_with (first
    | ((with_reducible refine gate_callee (f := 27) rfl ?_); refine goesL_ (some 14) rfl rfl Try.func27 (by kernel_rfl) rfl #[.int .u8 ch] rfl (by (try simp only [List.map_toArray, List.map_cons, List.map_nil]); first | done | rfl | (simp only [List.length_drop, List.length_take]; rfl)) ?_; (with_reducible refine (code_value.calls k ch v _ A1.out).mono ?_); rintro e1 w1 ⟨rfl, ⟨nd, rfl⟩⟩; refine ⟨_, rfl, ?_⟩; skip)
    | ((with_reducible refine gate_callee (f := 28) rfl ?_); refine goesL_ (some 17) rfl rfl Try.func28 (by kernel_rfl) rfl #[.pointer (some ⟨g, 0, none⟩), .int .u8 v] rfl (by (try simp only [List.map_toArray, List.map_cons, List.map_nil]); first | done | rfl | (simp only [List.length_drop, List.length_take]; rfl)) ?_; (with_reducible refine (next_calls g m a b c d 0 (by omega) o er v _ HK.out).mono ?_); rintro e2 w2 ⟨rfl, ⟨nd2, rfl⟩⟩; refine ⟨_, rfl, ?_⟩; rw [hnx]))
  have h4 : w.cell? ⟨g, 1, none⟩ = some (.int .u8 a) := blk_cell HK.out 1
  have h5 : w.cell? ⟨g, 5, none⟩ = some (.int .i64 0) := blk_cell HK.out 5
  have hf4 := blk_frozen HK.out 1
  go_region_held3 (fun w' => w'.cell? ⟨g, 5, none⟩ = some (.int .i64 0)) (first | go_keep | (exact (World.cell?_setCell_other _ _ _ _ (by simp)).trans h5)) (fail)
  have hb0 : Below base w (w.drewN (nd + nd2 + 1)) := ⟨rfl, rfl, rfl, Nat.le_refl _, fun _ _ => rfl⟩
  have hb1 := hb0.setCell (p := ⟨g, 1, none⟩) hg (.int .u8 v)
  have hkb : KeepBut w ((w.drewN (nd + nd2 + 1)).setCell ⟨g, 1, none⟩ (.int .u8 v)) g v0.ownBlock := ⟨hb1.size, fun i hi h1 _ => Below.heap_setCell _ _ _ _ h1⟩
  have HK1 : ((w.drewN (nd + nd2 + 1)).setCell ⟨g, 1, none⟩ (.int .u8 v)).heap[g]? = some (.cells (cellsR m v b c d 0 o er) 47 (0, 0)) := blk_put (cs := cellsR m a b c d 0 o er) HK.out 1 _ rfl
  have HO1 : ((w.drewN (nd + nd2 + 1)).setCell ⟨g, 1, none⟩ (.int .u8 v)).ownsRow base 5 1 v0 xs.length (nums .u8 xs) := own_move HO.out (fun q hq => Below.heap_setCell _ _ _ _ (by rintro rfl; exact row_ne HO.out HK.out hq.symm))
  generalize hw1 : ((w.drewN (nd + nd2 + 1)).setCell ⟨g, 1, none⟩ (.int .u8 v)) = w1 at hb1 HK1 HO1 hkb ⊢
  clear hw1 hb0 h4 h5 hf4
  have hc5 : w1.cell? ⟨g, 5, none⟩ = some (.int .i64 0) := blk_cell HK1 5
  have hf5 := blk_frozen HK1 5
  have HT := Aside0.mk (Took.more (cs := cellsR m v b c d 0 o er) (j1 := 0) (u1 := .bool m) (cs2 := cellsR m v b c d 1 o er) HK1 HO1 hg hb1 hkb (j2 := 5) (u2 := .int .i64 1) rfl)
  clear HK1 HO1 hb1 hkb HO HK
  go_wp2
  go_ret2
  exact ⟨v0, rfl, HT.out⟩

set_option maxHeartbeats 8000000 in
set_option maxRecDepth 100000 in
theorem take_uno (k : Nat) (g : Nat) (m : Bool) (a b c d : Int) (o : Bool) (er ch v : Int) (hv : code_value.f k ch = some v) (hnx : nextV a b c 1 o v = 0)  (v0 : Value) (xs : List Int) (base : Nat) (w : World) (hg : base ≤ g) (hbase : base ≤ w.heap.size)
    (hk : w.heap[g]? = some (.cells (cellsR m a b c d 1 o er) 47 (0, 0))) (ho : w.ownsRow base 5 1 v0 xs.length (nums .u8 xs)) :
    Calls Try.prog 24 #[.pointer (some ⟨g, 0, none⟩), v0, .int .u8 ch] w fun e w' => ∃ v1, e = .returned (.tuple #[v1, .int .i64 0]) ∧ Took g (cellsR m a v c d 2 o er) v0 v1 xs base w w' := by
  have A1 := Aside0.mk hv
  have HO := Aside0.mk ho
  have HK := Aside0.mk hk
  have hgl := blk_lt hk
  clear hv ho hk
  go_enter Try.func24, Try.ntmps24
  go_wp2_with (first
    | ((with_reducible refine gate_callee (f := 27) rfl ?_); refine goesL_ (some 14) rfl rfl Try.func27 (by kernel_rfl) rfl #[.int .u8 ch] rfl (by (try simp only [List.map_toArray, List.map_cons, List.map_nil]); first | done | rfl | (simp only [List.length_drop, List.length_take]; rfl)) ?_; (with_reducible refine (code_value.calls k ch v _ A1.out).mono ?_); rintro e1 w1 ⟨rfl, ⟨nd, rfl⟩⟩; refine ⟨_, rfl, ?_⟩; skip)
    | ((with_reducible refine gate_callee (f := 28) rfl ?_); refine goesL_ (some 17) rfl rfl Try.func28 (by kernel_rfl) rfl #[.pointer (some ⟨g, 0, none⟩), .int .u8 v] rfl (by (try simp only [List.map_toArray, List.map_cons, List.map_nil]); first | done | rfl | (simp only [List.length_drop, List.length_take]; rfl)) ?_; (with_reducible refine (next_calls g m a b c d 1 (by omega) o er v _ HK.out).mono ?_); rintro e2 w2 ⟨rfl, ⟨nd2, rfl⟩⟩; refine ⟨_, rfl, ?_⟩; rw [hnx]))
  have h4 : w.cell? ⟨g, 2, none⟩ = some (.int .u8 b) := blk_cell HK.out 2
  have h5 : w.cell? ⟨g, 5, none⟩ = some (.int .i64 1) := blk_cell HK.out 5
  have hf4 := blk_frozen HK.out 2
  go_region_held3 (fun w' => w'.cell? ⟨g, 5, none⟩ = some (.int .i64 1)) (first | go_keep | (exact (World.cell?_setCell_other _ _ _ _ (by simp)).trans h5)) (fail)
  have hb0 : Below base w (w.drewN (nd + nd2 + 1)) := ⟨rfl, rfl, rfl, Nat.le_refl _, fun _ _ => rfl⟩
  have hb1 := hb0.setCell (p := ⟨g, 2, none⟩) hg (.int .u8 v)
  have hkb : KeepBut w ((w.drewN (nd + nd2 + 1)).setCell ⟨g, 2, none⟩ (.int .u8 v)) g v0.ownBlock := ⟨hb1.size, fun i hi h1 _ => Below.heap_setCell _ _ _ _ h1⟩
  have HK1 : ((w.drewN (nd + nd2 + 1)).setCell ⟨g, 2, none⟩ (.int .u8 v)).heap[g]? = some (.cells (cellsR m a v c d 1 o er) 47 (0, 0)) := blk_put (cs := cellsR m a b c d 1 o er) HK.out 2 _ rfl
  have HO1 : ((w.drewN (nd + nd2 + 1)).setCell ⟨g, 2, none⟩ (.int .u8 v)).ownsRow base 5 1 v0 xs.length (nums .u8 xs) := own_move HO.out (fun q hq => Below.heap_setCell _ _ _ _ (by rintro rfl; exact row_ne HO.out HK.out hq.symm))
  generalize hw1 : ((w.drewN (nd + nd2 + 1)).setCell ⟨g, 2, none⟩ (.int .u8 v)) = w1 at hb1 HK1 HO1 hkb ⊢
  clear hw1 hb0 h4 h5 hf4
  have hc5 : w1.cell? ⟨g, 5, none⟩ = some (.int .i64 1) := blk_cell HK1 5
  have hf5 := blk_frozen HK1 5
  have HT := Aside0.mk (Took.more (cs := cellsR m a v c d 1 o er) (j1 := 0) (u1 := .bool m) (cs2 := cellsR m a v c d 2 o er) HK1 HO1 hg hb1 hkb (j2 := 5) (u2 := .int .i64 2) rfl)
  clear HK1 HO1 hb1 hkb HO HK
  go_wp2
  go_ret2
  exact ⟨v0, rfl, HT.out⟩

set_option maxHeartbeats 8000000 in
set_option maxRecDepth 100000 in
theorem take_due (k : Nat) (g : Nat) (m : Bool) (a b c d : Int) (o : Bool) (er ch v : Int) (hv : code_value.f k ch = some v) (hnx : nextV a b c 2 o v = 0)  (v0 : Value) (xs : List Int) (base : Nat) (w : World) (hg : base ≤ g) (hbase : base ≤ w.heap.size)
    (hk : w.heap[g]? = some (.cells (cellsR m a b c d 2 o er) 47 (0, 0))) (ho : w.ownsRow base 5 1 v0 xs.length (nums .u8 xs)) :
    Calls Try.prog 24 #[.pointer (some ⟨g, 0, none⟩), v0, .int .u8 ch] w fun e w' => ∃ v1, e = .returned (.tuple #[v1, .int .i64 0]) ∧ Took g (cellsR m a b v d 3 o er) v0 v1 xs base w w' := by
  have A1 := Aside0.mk hv
  have HO := Aside0.mk ho
  have HK := Aside0.mk hk
  have hgl := blk_lt hk
  clear hv ho hk
  go_enter Try.func24, Try.ntmps24
  go_wp2_with (first
    | ((with_reducible refine gate_callee (f := 27) rfl ?_); refine goesL_ (some 14) rfl rfl Try.func27 (by kernel_rfl) rfl #[.int .u8 ch] rfl (by (try simp only [List.map_toArray, List.map_cons, List.map_nil]); first | done | rfl | (simp only [List.length_drop, List.length_take]; rfl)) ?_; (with_reducible refine (code_value.calls k ch v _ A1.out).mono ?_); rintro e1 w1 ⟨rfl, ⟨nd, rfl⟩⟩; refine ⟨_, rfl, ?_⟩; skip)
    | ((with_reducible refine gate_callee (f := 28) rfl ?_); refine goesL_ (some 17) rfl rfl Try.func28 (by kernel_rfl) rfl #[.pointer (some ⟨g, 0, none⟩), .int .u8 v] rfl (by (try simp only [List.map_toArray, List.map_cons, List.map_nil]); first | done | rfl | (simp only [List.length_drop, List.length_take]; rfl)) ?_; (with_reducible refine (next_calls g m a b c d 2 (by omega) o er v _ HK.out).mono ?_); rintro e2 w2 ⟨rfl, ⟨nd2, rfl⟩⟩; refine ⟨_, rfl, ?_⟩; rw [hnx]))
  have h4 : w.cell? ⟨g, 3, none⟩ = some (.int .u8 c) := blk_cell HK.out 3
  have h5 : w.cell? ⟨g, 5, none⟩ = some (.int .i64 2) := blk_cell HK.out 5
  have hf4 := blk_frozen HK.out 3
  go_region_held3 (fun w' => w'.cell? ⟨g, 5, none⟩ = some (.int .i64 2)) (first | go_keep | (exact (World.cell?_setCell_other _ _ _ _ (by simp)).trans h5)) (fail)
  have hb0 : Below base w (w.drewN (nd + nd2 + 1)) := ⟨rfl, rfl, rfl, Nat.le_refl _, fun _ _ => rfl⟩
  have hb1 := hb0.setCell (p := ⟨g, 3, none⟩) hg (.int .u8 v)
  have hkb : KeepBut w ((w.drewN (nd + nd2 + 1)).setCell ⟨g, 3, none⟩ (.int .u8 v)) g v0.ownBlock := ⟨hb1.size, fun i hi h1 _ => Below.heap_setCell _ _ _ _ h1⟩
  have HK1 : ((w.drewN (nd + nd2 + 1)).setCell ⟨g, 3, none⟩ (.int .u8 v)).heap[g]? = some (.cells (cellsR m a b v d 2 o er) 47 (0, 0)) := blk_put (cs := cellsR m a b c d 2 o er) HK.out 3 _ rfl
  have HO1 : ((w.drewN (nd + nd2 + 1)).setCell ⟨g, 3, none⟩ (.int .u8 v)).ownsRow base 5 1 v0 xs.length (nums .u8 xs) := own_move HO.out (fun q hq => Below.heap_setCell _ _ _ _ (by rintro rfl; exact row_ne HO.out HK.out hq.symm))
  generalize hw1 : ((w.drewN (nd + nd2 + 1)).setCell ⟨g, 3, none⟩ (.int .u8 v)) = w1 at hb1 HK1 HO1 hkb ⊢
  clear hw1 hb0 h4 h5 hf4
  have hc5 : w1.cell? ⟨g, 5, none⟩ = some (.int .i64 2) := blk_cell HK1 5
  have hf5 := blk_frozen HK1 5
  have HT := Aside0.mk (Took.more (cs := cellsR m a b v d 2 o er) (j1 := 0) (u1 := .bool m) (cs2 := cellsR m a b v d 3 o er) HK1 HO1 hg hb1 hkb (j2 := 5) (u2 := .int .i64 3) rfl)
  clear HK1 HO1 hb1 hkb HO HK
  go_wp2
  go_ret2
  exact ⟨v0, rfl, HT.out⟩

end Go.Proofs.Ytokgckhhhhigiaa.Rd
