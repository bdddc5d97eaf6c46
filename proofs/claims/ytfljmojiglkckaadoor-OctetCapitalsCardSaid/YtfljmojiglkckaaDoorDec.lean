/- octet.Decimal tells a number's digits (walked by hand: its room is an array in memory). -/
import Derived.Test.YtfljmojiglkckaaDoorProg
import Derived.Test.YtfljmojiglkckaaDoorWWords
import Derived.Below
import Derived.WalkKit
import Derived.KernelRfl
import Derived.WalkSmall
import Derived.Outline
import Derived.Laws.Rows
import Derived.Laws.BytesArg
namespace Go.Proofs.YtfljmojiglkckaaDoor.Dec
set_option linter.unusedVariables false
set_option linter.unusedSimpArgs false
open Go.RowKit Go.Proofs.YtfljmojiglkckaaDoorW.PrintWords

/-- The digits of a number, the last one last. -/
def decN (n : Nat) : List Int := if n < 10 then [48 + (n : Int)] else decN (n / 10) ++ [48 + ((n % 10 : Nat) : Int)]
termination_by n

theorem decN_small {n : Nat} (h : n < 10) : decN n = [48 + (n : Int)] := by rw [decN, if_pos h]
theorem decN_big {n : Nat} (h : ¬ n < 10) : decN n = decN (n / 10) ++ [48 + ((n % 10 : Nat) : Int)] := by rw [decN, if_neg h]
theorem decN_in (n : Nat) : ∀ x ∈ decN n, 48 ≤ x ∧ x ≤ 57 := by
  induction n using Nat.strongRecOn with
  | _ n ih =>
    intro x hx
    by_cases h : n < 10
    · rw [decN_small h] at hx
      simp only [List.mem_singleton] at hx
      omega
    · rw [decN_big h, List.mem_append] at hx
      rcases hx with hx | hx
      · exact ih (n / 10) (by omega) x hx
      · simp only [List.mem_singleton] at hx
        omega
theorem decN_len (k : Nat) : ∀ n, n < 10 ^ (k + 1) → (decN n).length ≤ k + 1 := by
  induction k with
  | zero => intro n h; rw [decN_small (by simpa using h)]; simp
  | succ k ih =>
    intro n h
    by_cases hs : n < 10
    · rw [decN_small hs]; simp
    · rw [decN_big hs, List.length_append, List.length_singleton]
      have := ih (n / 10) (by rw [Nat.pow_succ] at h; omega)
      omega
theorem decN_pos (n : Nat) : 0 < (decN n).length := by
  by_cases h : n < 10
  · rw [decN_small h]; simp
  · rw [decN_big h]; simp

def decS (n : Nat) : ByteArray := strOfNums (decN n)

/-- What octet.Decimal tells. -/
def octet_Decimal.f (n : Int) : Option ByteArray := if 0 ≤ n ∧ n ≤ 18446744073709551615 then some (decS n.toNat) else none

theorem ret_str {a b : ByteArray} (h : a = b) : Ending.returned (.string a) = .returned (.string b) := by rw [h]

def room (xs : List Int) : Obj := .cells (xs.map (Value.int .u8)).toArray 62 (0, 0)

set_option maxHeartbeats 4000000 in
set_option maxRecDepth 100000 in
theorem Decimal_nat (n : Nat) (hn : n < 18446744073709551616) (w : World) :
    Calls Tryd.prog 29 #[.int .u64 (n : Int)] w fun e w' => e = .returned (.string (decS n)) ∧ Below w.heap.size w w' := by
  go_enter Tryd.func29, Tryd.ntmps29
  go_wp2
  go_loopw [0, 4] (fun v0 v4 wr => ∃ (a m : Nat) (xs : List Int), v4 = .int .i64 ((a : Int) + 1) ∧ v0 = .int .u64 m ∧ a < 20 ∧ m < 18446744073709551616 ∧ Aside0 (xs.length = 20) ∧ Aside0 ((decN m).length ≤ a + 1) ∧
      Aside0 (decN n = decN m ++ xs.drop (a + 1)) ∧ Aside0 (wr.heap[w.heap.size]? = some (room xs)) ∧ Below w.heap.size w wr) (fun _ v4 _ => (intOf v4).toNat)
  case atStart =>
    exact ⟨19, n, List.replicate 20 0, rfl, rfl, by omega, hn, ⟨rfl⟩, ⟨decN_len 19 n (by omega)⟩, ⟨by simp⟩, ⟨heap_alloc_new w _⟩, below_alloc (Below.refl _ _) _⟩
  case round =>
    obtain ⟨a, m, xs, rfl, rfl, ha, hm, hx, hl, he, hg, hB⟩ := hrel
    have hc : wr.cell? ⟨w.heap.size, a, none⟩ = some (.int .u8 (xs.getD a 0)) := by
      unfold room at hg
      rw [cell_of_row wr _ a _ _ _ hg.out]
      have := hx.out
      simp [List.getD_eq_getElem?_getD, List.getElem?_eq_getElem (show a < xs.length by omega)]
    have hf : wr.frozen? ⟨w.heap.size, a, none⟩ = false := by
      unfold room at hg
      exact frozen_of_row wr _ a _ _ hg.out
    have hg2 : (wr.setCell ⟨w.heap.size, a, none⟩ (.int .u8 (48 + (m : Int) % 10))).heap[w.heap.size]? = some (room (xs.set a (48 + (m : Int) % 10))) := by
      unfold room at hg ⊢
      rw [heap_setCell_same wr _ a _ _ _ hg.out]
      congr 2
      simp [List.map_set]
    have hB2 : Below w.heap.size w (wr.setCell ⟨w.heap.size, a, none⟩ (.int .u8 (48 + (m : Int) % 10))) := hB.setCell (Nat.le_refl _) _
    have hxl : a < xs.length := by rw [hx.out]; exact ha
    have hdr : (xs.set a (48 + (m : Int) % 10)).drop a = (48 + (m : Int) % 10) :: xs.drop (a + 1) := by
      rw [List.drop_eq_getElem_cons (by rw [List.length_set]; exact hxl), List.getElem_set_self, List.drop_set_of_lt (by omega)]
    have Hxl := Aside0.mk hxl
    have HB2 := Aside0.mk hB2
    have Hg2 := Aside0.mk hg2
    have Hdr := Aside0.mk hdr
    clear hB2 hg2 hdr hxl
    by_cases hs : m < 10
    · have e0 : ((m : Int) / 10 == 0) = true := beq_iff_eq.2 (by omega)
      have hsl : ∀ W : World, (Instr.sliceAt 62 (.pointer (some ⟨w.heap.size, 0, none⟩)) (some (.int .i64 (a : Int))) none none).run Tryd.prog W = .ok (.slice (some ⟨w.heap.size, a, none⟩) (20 - a) (20 - a)) W := by
        intro W
        have hu : Tryd.prog.underlying 62 = some (.array (Tryd.prog.arrayLen 62) (Tryd.prog.elem 62)) := by kernel_rfl
        have hlen : Tryd.prog.arrayLen 62 = 20 := by kernel_rfl
        have helem : Tryd.prog.elem 62 = 5 := by kernel_rfl
        rw [run_sliceAt_array_l W 62 ⟨w.heap.size, 0, none⟩ hu .i64 (a : Int) (by omega) (by rw [hlen]; omega), hlen, helem]
        have hsz : (sizeOf 5).run Tryd.prog W = .ok 1 W := by kernel_rfl
        rw [hsz]
        simp only [Result.andThen, slicedAt, Int.toNat_natCast]
        rw [if_neg (by omega)]
        simp [Addr.add]
        intro h
        omega
      have hcv := run_convert_bytes_arg (P := Tryd.prog) (wr.setCell ⟨w.heap.size, a, none⟩ (.int .u8 (48 + (m : Int) % 10))) 25 5 Tryd.underlying25 Tryd.underlying5 w.heap.size a (20 - a) (20 - a) ((xs.set a (48 + (m : Int) % 10)).drop a)
        (by rw [List.length_drop, List.length_set, hx.out]) (fun j hj => by
          have h2 := Hg2.out
          unfold room at h2
          rw [cell_of_row _ _ _ _ _ _ h2]
          have hl2 : a + j < (xs.set a (48 + (m : Int) % 10)).length := by rw [List.length_set, hx.out]; omega
          rw [List.getElem?_toArray, List.getElem?_map, List.getElem?_eq_getElem hl2, List.getD_eq_getElem?_getD, List.getElem?_drop, List.getElem?_eq_getElem hl2]
          rfl) 9 Tryd.underlying9
      have Hres : Aside0 (strOfNums ((xs.set a (48 + (m : Int) % 10)).drop a) = decS n) := ⟨by
        unfold decS
        rw [Hdr.out, he.out, decN_small hs, List.singleton_append, Int.emod_eq_of_lt (by omega) (by omega)]⟩
      go_wp2
      go_ret
      exact ⟨ret_str Hres.out, HB2.out⟩
    · have e0 : ((m : Int) / 10 == 0) = false := beq_eq_false_iff_ne.2 (by omega)
      go_wp2
      go_roundw
      case rel =>
        have hl1 := hl.out
        rw [decN_big hs, List.length_append, List.length_singleton] at hl1
        have hp := decN_pos (m / 10)
        obtain ⟨a', rfl⟩ : ∃ a', a = a' + 1 := ⟨a - 1, by omega⟩
        refine ⟨a', m / 10, xs.set (a' + 1) (48 + (m : Int) % 10), by go_num, by go_num, by omega, by omega, ⟨by rw [List.length_set]; exact hx.out⟩, ⟨by omega⟩, ⟨?_⟩, ⟨Hg2.out⟩, HB2.out⟩
        rw [Hdr.out, he.out, decN_big hs, List.append_assoc, List.singleton_append]
        rfl
      case measure => simp [intOf]

theorem octet_Decimal.calls (n : Int) (r : ByteArray) (w : World) (h : octet_Decimal.f n = some r) :
    Calls Tryd.prog 29 #[.int .u64 n] w fun e w' => e = .returned (.string r) ∧ Below w.heap.size w w' := by
  unfold octet_Decimal.f at h
  by_cases hn : 0 ≤ n ∧ n ≤ 18446744073709551615
  · rw [if_pos hn] at h
    obtain rfl := Option.some.inj h
    obtain ⟨m, rfl⟩ := Int.eq_ofNat_of_zero_le hn.1
    rw [Int.toNat_natCast]
    exact Decimal_nat m (by omega) w
  · rw [if_neg hn] at h
    cases h
end Go.Proofs.YtfljmojiglkckaaDoor.Dec
