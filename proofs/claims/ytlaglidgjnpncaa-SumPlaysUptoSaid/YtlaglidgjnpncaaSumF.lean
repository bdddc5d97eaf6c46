/- sum.More and sum.Join (walked by hand), in the form that the printed callers want. -/
import Derived.Test.YtlaglidgjnpncaaMtx
namespace Go.Proofs.Ytlaglidgjnpncaa.SumF
set_option linter.unusedVariables false
set_option linter.unusedSimpArgs false
set_option linter.unusedVariables false
set_option linter.unusedSimpArgs false
open Go.RowKit Go.Proofs.YtlaglidgjnpncaaW.PrintWords Go.Proofs.YtlaglidgjnpncaaW.PrintLast Go.Proofs.YtlaglidgjnpncaaW.PrintMore Go.Proofs.Ytlaglidgjnpncaa.B Go.Proofs.Ytlaglidgjnpncaa.M Go.Proofs.Ytlaglidgjnpncaa.Mtx

def nib (x : Int) : Int := Go.bits .xor .u32 (x / 16) (tabF (Go.bits .and .u32 x 15).toNat)
def mstep (s b : Int) : Int := nib (nib (Go.bits .xor .u32 s (b % 4294967296)))
def sum_More.f (a0 : Int) (l1 : List Int) : Option Int := some (Go.bits .xor .u32 (l1.foldl mstep (Go.bits .xor .u32 a0 4294967295)) 4294967295)
theorem bits_and_lt (x : Int) : 0 ≤ Go.bits .and .u32 x 15 ∧ Go.bits .and .u32 x 15 < 16 := by
  have h : ∀ y : BitVec 32, (y &&& 15#32).toNat < 16 := fun y => by
    rw [BitVec.toNat_and]
    have : y.toNat &&& 15 ≤ 15 := Nat.and_le_right
    show y.toNat &&& 15 < 16
    omega
  have h2 := h (BitVec.ofInt 32 x)
  show 0 ≤ IntKind.u32.wrap (((BitVec.ofInt 32 x &&& 15#32).toNat : Nat) : Int) ∧ IntKind.u32.wrap (((BitVec.ofInt 32 x &&& 15#32).toNat : Nat) : Int) < 16
  rw [IntKind.wrap_u32]
  omega

set_option maxHeartbeats 4000000 in
set_option maxRecDepth 100000 in
theorem sum_More.calls (a0 : Int) (A1 : Option Addr) (c1 : Nat) (l1 : List Int) (r : Int) (w : World) (hr1 : Kd.C (Kd.int .u8) w A1 l1.length l1) (hc1 : l1.length ≤ c1) (h : sum_More.f a0 l1 = some r) :
    Calls Try.prog 14 #[.int .u32 a0, .slice A1 l1.length c1] w fun e w' => e = .returned (.int .u32 r) ∧ Below w.heap.size w w' := by
  have hmax := hr1
  have HR1 := Aside0.mk hr1
  have HB := Aside0.mk (Below.refl w.heap.size w)
  obtain rfl := Option.some.inj h
  clear hr1 h hc1
  have hml : l1.length ≤ 9223372036854775807 := (Kd.reads_of_C (d := (0 : Int)) (h1 := fun _ => rfl) hmax).2.1
  clear hmax
  have HE := Aside0.mk (cells_size 16 tabF)
  obtain ⟨T, hT⟩ : ∃ T, T = cells 16 tabF := ⟨_, rfl⟩
  have HT := Aside0.mk hT
  have HO := Aside0.mk (one_cell 16 tabF)
  have HG := Aside0.mk (fun j h => cells_get 16 tabF j h)
  have hcall := Aside0.mk (fun w => table_calls w)
  rw [← hT] at HE HO HG hcall
  clear hT
  go_enter Try.func14, Try.ntmps14
  go_wp2_with (first
    | (go_at_call 35; refine (hcall.out _).mono ?_; rintro e w1 ⟨rfl, hb⟩; have hb2 := below_step HB.out hb; clear HB hb; have HB := Aside0.mk hb2; clear hb2)
    | ((with_reducible refine gate_store (t := 64) (p := 5) rfl ?_); refine wpList_store_row rfl 64 (.tmp 5) (.tmp 8) rfl w1.heap.size T rfl rfl 64 (cells 16 (fun _ => 0)) (heap_alloc_new _ _) (by rw [HE.out]; kernel_rfl) (by rw [HE.out, cells_size]) HO.out ?_))
  have hgw := HB.out.size
  go_loopw [0, 7, 13] (fun v0 _ v13 wr => ∃ i : Nat, v13 = .int .i64 i ∧ i ≤ l1.length ∧ v0 = .int .u32 ((l1.take i).foldl mstep (Go.bits .xor .u32 a0 4294967295)) ∧ Aside0 (wr.heap[w1.heap.size]? = some (.cells T 64 (0, 0))) ∧ Aside0 (Below w.heap.size w wr)) (fun _ _ v13 _ => l1.length - (intOf v13).toNat)
  case atStart => exact ⟨0, rfl, by omega, rfl, ⟨setRow_heap _ _ _ _ _ _ (heap_alloc_new _ _)⟩, ⟨row_below (below_alloc HB.out _) hgw⟩⟩
  case round =>
    clear HB
    obtain ⟨i, rfl, hi, rfl, HK, HB⟩ := hrel
    by_cases hlt : i < l1.length
    · have hR := Kd.C_below HR1.out HB.out
      have p1 : (0 : Int) ≤ (i : Int) := by omega
      have q1 : (i : Int) < (l1.length : Int) := by omega
      obtain ⟨ad, e1, hx⟩ := Kd.at_int hR (i : Int) p1 q1
      cases e1
      rw [Int.toNat_natCast] at hx
      clear hR
      have htk := take_snoc l1 i hlt
      have hrd : rd l1 (i : Int) = l1[i] := by unfold rd; simp [List.getD_eq_getElem?_getD, hlt]
      have HN : Aside0 ((l1.take (i + 1)).foldl mstep (Go.bits .xor .u32 a0 4294967295) = mstep ((l1.take i).foldl mstep (Go.bits .xor .u32 a0 4294967295)) (rd l1 (i : Int))) := ⟨by rw [htk, List.foldl_append, hrd]; rfl⟩
      clear htk hrd
      obtain ⟨s, hs⟩ : ∃ s, s = (l1.take i).foldl mstep (Go.bits .xor .u32 a0 4294967295) := ⟨_, rfl⟩
      rw [← hs] at HN ⊢
      clear hs
      have hrb : rd l1 (i : Int) % 4294967296 = rd l1 (i : Int) % 4294967296 := rfl
      obtain ⟨b0, b1⟩ := bits_and_lt (Go.bits .xor .u32 s (rd l1 (i : Int) % 4294967296))
      obtain ⟨d0, d1⟩ := bits_and_lt (nib (Go.bits .xor .u32 s (rd l1 (i : Int) % 4294967296)))
      have hc1 : wr.cell? ⟨w1.heap.size, (Go.bits .and .u32 (Go.bits .xor .u32 s (rd l1 (i : Int) % 4294967296)) 15).toNat, none⟩ = some (.int .u32 (tabF (Go.bits .and .u32 (Go.bits .xor .u32 s (rd l1 (i : Int) % 4294967296)) 15).toNat)) := by
        rw [blk_cell HK.out]; exact HG.out _ (by omega)
      have hc2 : wr.cell? ⟨w1.heap.size, (Go.bits .and .u32 (nib (Go.bits .xor .u32 s (rd l1 (i : Int) % 4294967296))) 15).toNat, none⟩ = some (.int .u32 (tabF (Go.bits .and .u32 (nib (Go.bits .xor .u32 s (rd l1 (i : Int) % 4294967296))) 15).toNat)) := by
        rw [blk_cell HK.out]; exact HG.out _ (by omega)
      simp only [nib] at hc2 d0 d1
      clear hrb
      replace p1 := eq_true p1
      replace q1 := eq_true q1
      go_wp2
      go_roundw
      case rel => exact ⟨i + 1, by go_num, by omega, by rw [HN.out]; rfl, HK, HB⟩
      case measure => simp [intOf]; omega
    · obtain rfl : i = l1.length := by omega
      rw [List.take_length]
      clear hlt hi
      go_wp2
      go_ret
      exact ⟨rfl, HB.out⟩

theorem heap_alloc_row (w : World) (g : Nat) (C : Array Value) (o : Obj) : ((w.setRow g C).alloc o).heap[w.heap.size]? = some o := by
  have h := heap_alloc_new (w.setRow g C) o
  rwa [setRow_size] at h
def U (x : Int) : Prop := 0 ≤ x ∧ x < 4294967296
theorem bits_u (op : BinOp) (x y : Int) : U (Go.bits op .u32 x y) := by
  unfold Go.bits U
  rw [IntKind.wrap_u32]
  omega
theorem appN_u (f : Nat → Int) (v : Int) (i : Nat) : U (appN f v i) := by
  induction i with
  | zero => exact ⟨Int.le_refl 0, by show (0 : Int) < 4294967296; decide⟩
  | succ i ih =>
    rw [appN]
    split
    · exact bits_u _ _ _
    · exact ih
theorem dn_u (r : Int) (h : U r) : U (dn r) := by
  unfold dn
  split
  · exact bits_u _ _ _
  · unfold U at *; omega
theorem itd_u (n : Nat) (r : Int) (h : U r) : U (itd n r) := by
  induction n with
  | zero => exact h
  | succ n ih => exact dn_u _ ih
theorem stp_u (i : Nat) : U (stp i) := itd_u _ _ (by unfold U; omega)
theorem twF_u (f : Nat → Int) (i : Nat) : U (twF f i) := appN_u _ _ _
def joinG : Nat → (Nat → Int) → Int → Int → Int
  | 0, _, a, _ => a
  | k + 1, f, a, n => if n > 0 then joinG k (twF f) (if (Go.bits .and .i64 n 1 == 1) = true then appN f a 32 else a) (n / 2) else a
def sum_Join.f (a0 a1 a2 : Int) : Option (Int × Int) :=
  if a2 < 0 then some (0, 2) else if 0 ≤ a0 ∧ a0 < 4294967296 ∧ a2 < 9223372036854775808 then some (Go.bits .xor .u32 (joinG 64 stp a0 a2) a1, 0) else none

set_option maxHeartbeats 4000000 in
set_option maxRecDepth 100000 in
theorem Join_low (a0 a1 a2 : Int) (w : World) (h : a2 < 0) :
    Calls Try.prog 18 #[.int .u32 a0, .int .u32 a1, .int .i64 a2] w fun e w' => e = .returned (.tuple #[.int .u32 0, .int .i64 2]) ∧ Below w.heap.size w w' := by
  have hd : decide (a2 < 0) = true := decide_eq_true h
  clear h
  go_enter Try.func18, Try.ntmps18
  go_wp2
  go_ret2
  exact ⟨rfl, Below.refl _ _⟩
set_option maxHeartbeats 4000000 in
set_option maxRecDepth 100000 in
theorem Join_high (a0 a1 a2 : Int) (w : World) (h0 : 0 ≤ a2) (h1 : a2 < 9223372036854775808) (hu : U a0) :
    Calls Try.prog 18 #[.int .u32 a0, .int .u32 a1, .int .i64 a2] w fun e w' => e = .returned (.tuple #[.int .u32 (Go.bits .xor .u32 (joinG 64 stp a0 a2) a1), .int .i64 0]) ∧ Below w.heap.size w w' := by
  have HB := Aside0.mk (Below.refl w.heap.size w)
  have HU := Aside0.mk hu
  have HS := Aside0.mk (cells_size 32 stp)
  obtain ⟨T, hT⟩ : ∃ T, T = cells 32 stp := ⟨_, rfl⟩
  have HT := Aside0.mk hT
  have HO := Aside0.mk (one_cell 32 stp)
  have hcall := Aside0.mk (fun w => step_calls w)
  rw [← hT] at HS HO hcall
  clear hT hu
  have hd : decide (a2 < 0) = false := decide_eq_false (by omega)
  have H0 := Aside0.mk h0
  have H1 := Aside0.mk h1
  clear h0 h1
  go_enter Try.func18, Try.ntmps18
  go_wp2_with (first
    | (go_at_call 39; refine (hcall.out _).mono ?_; rintro e w1 ⟨rfl, hb⟩; have hb2 := below_step HB.out hb; clear HB hb; have HB := Aside0.mk hb2; clear hb2)
    | ((with_reducible refine gate_store (t := 70) (p := 8) rfl ?_); refine wpList_store_row rfl 70 (.tmp 8) (.tmp 11) rfl w1.heap.size T rfl rfl 70 (cells 32 (fun _ => 0)) (heap_alloc_new _ _) (by rw [HS.out]; kernel_rfl) (by rw [HS.out, cells_size]) HO.out ?_))
  simp only [Act.put, List.setIfInBounds_toArray, List.set_cons_succ, List.set_cons_zero]
  have hgw := HB.out.size
  clear hd
  go_loopw [0, 2, 8] (fun v0 v2 v8 wr => ∃ (k : Nat) (f : Nat → Int) (a n : Int) (g : Nat), v0 = .int .u32 a ∧ v2 = .int .i64 n ∧ v8 = .pointer (some ⟨g, 0, none⟩) ∧ Aside0 (0 ≤ n ∧ n < 2 ^ k ∧ k ≤ 64) ∧ Aside0 (joinG k f a n = joinG 64 stp a0 a2) ∧ Aside0 (U a) ∧ Aside0 (∀ j, j < 32 → U (f j)) ∧ Aside0 (w.heap.size ≤ g) ∧ Aside0 (wr.heap[g]? = some (.cells (cells 32 f) 70 (0, 0))) ∧ Aside0 (Below w.heap.size w wr)) (fun _ v2 _ _ => (intOf v2).toNat)
  case atStart => exact ⟨64, stp, a0, a2, w1.heap.size, rfl, rfl, rfl, ⟨H0.out, by have := H1.out; omega, by omega⟩, ⟨rfl⟩, HU, ⟨fun j _ => stp_u j⟩, ⟨hgw⟩, ⟨by rw [← HT.out]; exact setRow_heap _ _ _ _ _ _ (heap_alloc_new _ _)⟩, ⟨row_below (below_alloc HB.out _) hgw⟩⟩
  case round =>
    clear HB hgw HT HO HS
    obtain ⟨k, f, a, n, g, rfl, rfl, rfl, HN, HJ, HUa, HF, HGw, HK, HB⟩ := hrel
    obtain ⟨C, hC⟩ : ∃ C, C = cells 32 f := ⟨_, rfl⟩
    have hA := fun v (hv : U v) W => apply_calls f v hv W
    have hW := fun W => twice_calls f HF.out W
    have hO := one_cell 32 f
    have hS := cells_size 32 f
    rw [← hC] at hA hW hO hS HK
    have HA := Aside0.mk hA
    have HW := Aside0.mk hW
    have HO := Aside0.mk hO
    have HS := Aside0.mk hS
    have HC := Aside0.mk hC
    clear hA hW hO hS hC
    obtain ⟨C2, hC2⟩ : ∃ C, C = cells 32 (twF f) := ⟨_, rfl⟩
    have HS2 := Aside0.mk (cells_size 32 (twF f))
    have HO2 := Aside0.mk (one_cell 32 (twF f))
    rw [← hC2] at HS2 HO2
    have hW := HW.out
    rw [← hC2] at hW
    clear HW
    have HW := Aside0.mk hW
    have HC2 := Aside0.mk hC2
    clear hW hC2
    by_cases hp : 0 < n
    · have hd : decide (n > 0) = true := decide_eq_true hp
      have hh : 0 ≤ n / 2 ∧ n / 2 < n := by omega
      have HH := Aside0.mk hh
      have hk : ∃ k', k = k' + 1 := by
        cases k with
        | zero => have := HN.out; omega
        | succ k' => exact ⟨k', rfl⟩
      obtain ⟨k, rfl⟩ := hk
      have hJ := HJ.out
      rw [joinG, if_pos hp] at hJ
      have hpk : n / 2 < 2 ^ k := by have := HN.out; have e : (2 : Int) ^ (k + 1) = 2 * 2 ^ k := by rw [Int.pow_succ]; omega
                                     omega
      have HPK := Aside0.mk hpk
      clear hpk hh hp HJ
      cases hodd : (Go.bits .and .i64 n 1 == 1)
      · rw [hodd, if_neg (by decide)] at hJ
        have HJ := Aside0.mk hJ
        clear hJ
        go_wp2_with (first
          | ((with_reducible refine gate_dst (N := 22) rfl ?_); refine wpList_load_row rfl 70 (.tmp 8) rfl g rfl 70 C (0, 0) _ HK.out Try.underlying70 rfl (by rw [HS.out]; kernel_rfl) ?_)
          | (go_at_call 41; refine (HW.out _).mono ?_; rintro e w2 ⟨rfl, hb⟩; have hk := blk_below HK.out hb; have hb2 := below_step HB.out hb; clear HK HB hb; have HK := Aside0.mk hk; have HB := Aside0.mk hb2; clear hk hb2)
          | ((with_reducible refine gate_store (t := 70) (p := 8) rfl ?_); refine wpList_store_row rfl 70 (.tmp 8) (.tmp 23) rfl g C2 rfl rfl 70 C HK.out (by rw [HS2.out]; kernel_rfl) (by rw [HS.out, HS2.out]) HO2.out ?_; have hk := setRow_heap _ _ _ C2 _ _ HK.out; have hb2 := row_below (cs := C2) HB.out HGw.out; clear HK HB; have HK := Aside0.mk hk; have HB := Aside0.mk hb2; clear hk hb2)
          | ((with_reducible refine gate_dst (N := 24) rfl ?_); refine wpList_load_row rfl 70 (.tmp 8) rfl g rfl 70 C2 (0, 0) _ HK.out Try.underlying70 rfl (by rw [HS2.out]; kernel_rfl) ?_)
          | ((with_reducible refine gate_store (t := 70) (p := 8) rfl ?_); refine wpList_store_row rfl 70 (.tmp 8) (.tmp 24) rfl w2.heap.size C2 rfl rfl 70 (cells 32 (fun _ => 0)) (heap_alloc_row _ _ _ _) (by rw [HS2.out]; kernel_rfl) (by rw [HS2.out, cells_size]) HO2.out ?_))
        go_roundw
        case rel =>
          refine ⟨k, twF f, a, n / 2, w2.heap.size, rfl, by go_num, rfl, ⟨HH.out.1, HPK.out, by have := HN.out; omega⟩, HJ, HUa, ⟨fun j _ => twF_u f j⟩, ⟨?_⟩, ⟨?_⟩, ⟨?_⟩⟩
          · have hq := HB.out.size; rw [setRow_size] at hq; exact hq
          · rw [← HC2.out]; exact setRow_heap _ _ _ _ _ _ (heap_alloc_row _ _ _ _)
          · exact row_below (below_alloc HB.out _) (by have hq := HB.out.size; rw [setRow_size] at hq; exact hq)
        case measure => simp only [intOf]; have := HH.out; omega
      · rw [hodd, if_pos rfl] at hJ
        have HJ := Aside0.mk hJ
        clear hJ
        go_wp2_with (first
          | ((with_reducible refine gate_dst (N := 19) rfl ?_); refine wpList_load_row rfl 70 (.tmp 8) rfl g rfl 70 C (0, 0) _ HK.out Try.underlying70 rfl (by rw [HS.out]; kernel_rfl) ?_)
          | (go_at_call 40; refine (HA.out a HUa.out _).mono ?_; rintro e w3 ⟨rfl, hb⟩; have hk := blk_below HK.out hb; have hb2 := below_step HB.out hb; clear HK HB hb; have HK := Aside0.mk hk; have HB := Aside0.mk hb2; clear hk hb2)
          | ((with_reducible refine gate_dst (N := 22) rfl ?_); refine wpList_load_row rfl 70 (.tmp 8) rfl g rfl 70 C (0, 0) _ HK.out Try.underlying70 rfl (by rw [HS.out]; kernel_rfl) ?_)
          | (go_at_call 41; refine (HW.out _).mono ?_; rintro e w2 ⟨rfl, hb⟩; have hk := blk_below HK.out hb; have hb2 := below_step HB.out hb; clear HK HB hb; have HK := Aside0.mk hk; have HB := Aside0.mk hb2; clear hk hb2)
          | ((with_reducible refine gate_store (t := 70) (p := 8) rfl ?_); refine wpList_store_row rfl 70 (.tmp 8) (.tmp 23) rfl g C2 rfl rfl 70 C HK.out (by rw [HS2.out]; kernel_rfl) (by rw [HS.out, HS2.out]) HO2.out ?_; have hk := setRow_heap _ _ _ C2 _ _ HK.out; have hb2 := row_below (cs := C2) HB.out HGw.out; clear HK HB; have HK := Aside0.mk hk; have HB := Aside0.mk hb2; clear hk hb2)
          | ((with_reducible refine gate_dst (N := 24) rfl ?_); refine wpList_load_row rfl 70 (.tmp 8) rfl g rfl 70 C2 (0, 0) _ HK.out Try.underlying70 rfl (by rw [HS2.out]; kernel_rfl) ?_)
          | ((with_reducible refine gate_store (t := 70) (p := 8) rfl ?_); refine wpList_store_row rfl 70 (.tmp 8) (.tmp 24) rfl w2.heap.size C2 rfl rfl 70 (cells 32 (fun _ => 0)) (heap_alloc_row _ _ _ _) (by rw [HS2.out]; kernel_rfl) (by rw [HS2.out, cells_size]) HO2.out ?_))
        go_roundw
        case rel =>
          refine ⟨k, twF f, appN f a 32, n / 2, w2.heap.size, rfl, by go_num, rfl, ⟨HH.out.1, HPK.out, by have := HN.out; omega⟩, HJ, ⟨appN_u _ _ _⟩, ⟨fun j _ => twF_u f j⟩, ⟨?_⟩, ⟨?_⟩, ⟨?_⟩⟩
          · have hq := HB.out.size; rw [setRow_size] at hq; exact hq
          · rw [← HC2.out]; exact setRow_heap _ _ _ _ _ _ (heap_alloc_row _ _ _ _)
          · exact row_below (below_alloc HB.out _) (by have hq := HB.out.size; rw [setRow_size] at hq; exact hq)
        case measure => simp only [intOf]; have := HH.out; omega
    · have hn0 : n = 0 := by have := HN.out; omega
      subst hn0
      have hJ := HJ.out
      have ha : a = joinG 64 stp a0 a2 := by
        rw [← hJ]
        cases k with
        | zero => rfl
        | succ k => rw [joinG, if_neg (by omega)]
      clear hJ hp
      have HEnd := Aside0.mk ha
      clear ha
      go_wp2
      go_ret2
      exact ⟨by first | rfl | (rw [HEnd.out]; rfl), HB.out⟩

theorem sum_Join.calls (a0 a1 a2 r1 r2 : Int) (w : World) (h : sum_Join.f a0 a1 a2 = some (r1, r2)) :
    Calls Try.prog 18 #[.int .u32 a0, .int .u32 a1, .int .i64 a2] w fun e w' => e = .returned (.tuple #[.int .u32 r1, .int .i64 r2]) ∧ Below w.heap.size w w' := by
  unfold sum_Join.f at h
  by_cases c : a2 < 0
  · rw [if_pos c] at h
    simp only [Option.some.injEq, Prod.mk.injEq] at h
    obtain ⟨rfl, rfl⟩ := h
    exact Join_low a0 a1 a2 w c
  · rw [if_neg c] at h
    by_cases d : 0 ≤ a0 ∧ a0 < 4294967296 ∧ a2 < 9223372036854775808
    · rw [if_pos d] at h
      simp only [Option.some.injEq, Prod.mk.injEq] at h
      obtain ⟨rfl, rfl⟩ := h
      exact Join_high a0 a1 a2 w (by omega) d.2.2 ⟨d.1, d.2.1⟩
    · rw [if_neg d] at h
      cases h

def sum_Of.f (l0 : List Int) : Option Int := sum_More.f 0 l0
set_option maxHeartbeats 4000000 in
set_option maxRecDepth 100000 in
theorem sum_Of.calls (A0 : Option Addr) (c0 : Nat) (l0 : List Int) (r : Int) (w : World) (hr0 : Kd.C (Kd.int .u8) w A0 l0.length l0) (hc0 : l0.length ≤ c0) (h : sum_Of.f l0 = some r) :
    Calls Try.prog 12 #[.slice A0 l0.length c0] w fun e w' => e = .returned (.int .u32 r) ∧ Below w.heap.size w w' := by
  have HR := Aside0.mk hr0
  have HC := Aside0.mk hc0
  have HF := Aside0.mk (show sum_More.f 0 l0 = some r from h)
  clear hr0 hc0 h
  go_enter Try.func12, Try.ntmps12
  go_wp2_with (go_at_call 14; (with_reducible refine (sum_More.calls 0 A0 c0 l0 r _ HR.out HC.out HF.out).mono ?_); rintro e w1 ⟨rfl, hb⟩)
  go_ret
  exact ⟨rfl, hb⟩
end Go.Proofs.Ytlaglidgjnpncaa.SumF
