/- The statement's small (walked by hand): a text whose letters behind the last bar are small. -/
import Derived.Test.YtabjfpjmiiiecaaD4
import Derived.Test.YtabjfpjmiiiecaaUnpE
namespace Go.Proofs.Ytabjfpjmiiiecaa.SM
set_option linter.unusedVariables false
set_option linter.unusedSimpArgs false
set_option linter.unusedVariables false
set_option linter.unusedSimpArgs false
open Go.RowKit Go.Proofs.YtabjfpjmiiiecaaW.PrintWords Go.Proofs.YtabjfpjmiiiecaaW.PrintLast Go.Proofs.YtabjfpjmiiiecaaW.PrintMore Go.Proofs.Ytabjfpjmiiiecaa.B Go.Proofs.Ytabjfpjmiiiecaa.M Go.Proofs.Ytabjfpjmiiiecaa.D Go.Proofs.Ytabjfpjmiiiecaa.UN
def lowC (b : Int) : Int := if 65 ≤ b ∧ b ≤ 90 then b + 32 else b
def barV (s : ByteArray) (n : Nat) : Nat := (lastV s 45 n).toNat
/-- The text, small from the last bar on. -/
def smallL (L : List Int) (p : Nat) : List Int := L.take p ++ (L.drop p).map lowC
theorem smallL_len (L : List Int) (p : Nat) : (smallL L p).length = L.length := by
  unfold smallL
  rw [List.length_append, List.length_map, List.length_take, List.length_drop]
  omega
theorem smallL_at (L : List Int) (p i : Nat) (hp : p ≤ i) (hi : i < L.length) : (smallL L p).getD i 0 = lowC (L.getD i 0) := by
  unfold smallL
  rw [List.getD_eq_getElem?_getD, List.getElem?_append_right (by rw [List.length_take]; omega), List.length_take, Nat.min_eq_left (by omega), List.getElem?_map, List.getElem?_drop, show p + (i - p) = i from by omega, List.getD_eq_getElem?_getD, List.getElem?_eq_getElem hi]
  rfl
def smallV (s : ByteArray) : ByteArray := strOfNums (smallL (bytesOf s) (barV s s.size))
/-- The row that the conversion made, and what it holds. -/
structure SI (w : World) (g : Nat) (xs : List Int) (W : World) : Prop where
  bl : Below w.heap.size w W
  gg : w.heap.size ≤ g
  rw_ : ∃ cs, W.heap[g]? = some (.cells cs 5 (cs.size, cs.size + 1)) ∧ xs.length ≤ cs.size ∧ ∀ j, j < xs.length → cs[j]? = some (.int .u8 (xs.getD j 0))
theorem SI.cell {w W : World} {g : Nat} {xs : List Int} (h : SI w g xs W) (j : Nat) (hj : j < xs.length) : W.cell? ⟨g, j, none⟩ = some (.int .u8 (xs.getD j 0)) ∧ W.frozen? ⟨g, j, none⟩ = false := by
  obtain ⟨cs, hb, hl, hc⟩ := h.rw_
  refine ⟨(cell_of_row W g j cs _ _ hb).trans (hc j hj), ?_⟩
  simp [World.frozen?, hb]
  omega
theorem SI.put {w W : World} {g : Nat} {xs : List Int} (h : SI w g xs W) (j : Nat) (hj : j < xs.length) (x : Int) : SI w g (xs.set j x) (W.setCell ⟨g, j, none⟩ (.int .u8 x)) := by
  obtain ⟨cs, hb, hl, hc⟩ := h.rw_
  refine ⟨below_set h.bl h.gg, h.gg, cs.setIfInBounds j (.int .u8 x), ?_, by rw [List.length_set, Array.size_setIfInBounds]; exact hl, fun i hi => ?_⟩
  · rw [Array.size_setIfInBounds]
    simp [World.setCell, Array.getElem?_modify, hb]
  · rw [List.length_set] at hi
    rw [Array.getElem?_setIfInBounds]
    by_cases e : j = i
    · subst e
      rw [if_pos rfl, if_pos (by omega), getD_set_self xs j x 0 hi]
    · rw [if_neg e, hc i hi, List.getD_eq_getElem?_getD, List.getD_eq_getElem?_getD, List.getElem?_set_ne e]
theorem SI.reads {w W : World} {g : Nat} {xs : List Int} (h : SI w g xs W) (hl : xs.length ≤ 9223372036854775807) : ReadsInt W .u8 (some ⟨g, 0, none⟩) xs.length xs := by
  refine ⟨rfl, hl, fun _ => ⟨_, rfl, fun j hj => ?_⟩⟩
  rw [add_plain]
  exact (h.cell j hj).1
theorem si_start (w W : World) (s : ByteArray) (hs : s.size ≤ 9223372036854775807) (hb : Below w.heap.size w W) : SI w W.heap.size (bytesOf s) (Lib.bytesWorld W 5 s) := by
  refine ⟨bytes_below hb (below_size hb) _ s, below_size hb, _, Lib.bytesWorld_at_new W 5 s, ?_, fun j hj => ?_⟩
  · rw [bytesOf_len]
    simp [Lib.bytesCells]
  · rw [bytesOf_len] at hj
    have h1 := Lib.bytesWorld_cell W 5 s j hj
    rw [cell_of_row _ _ _ _ _ _ (Lib.bytesWorld_at_new W 5 s)] at h1
    rw [h1]
    have h' : j < s.data.toList.length := by rw [data_length]; exact hj
    simp [bytesOf, List.getD_eq_getElem?_getD, List.getElem?_eq_getElem h']
def rowS (L : List Int) (b i : Nat) : List Int := (smallL L b).take i ++ L.drop i
theorem rowS_len (L : List Int) (b i : Nat) (hi : i ≤ L.length) : (rowS L b i).length = L.length := by
  unfold rowS
  rw [List.length_append, List.length_take, List.length_drop, smallL_len]
  omega
theorem rowS_first (L : List Int) (b : Nat) (hb : b ≤ L.length) : rowS L b b = L := by
  unfold rowS smallL
  rw [List.take_append_of_le_length (by rw [List.length_take]; omega), List.take_take, Nat.min_self, List.take_append_drop]
theorem rowS_last (L : List Int) (b : Nat) : rowS L b L.length = smallL L b := by
  unfold rowS
  rw [List.drop_length, List.append_nil, List.take_of_length_le (by rw [smallL_len]; exact Nat.le_refl _)]
theorem rowS_at (L : List Int) (b i : Nat) (hi : i < L.length) : (rowS L b i).getD i 0 = L.getD i 0 := by
  unfold rowS
  have hl : ((smallL L b).take i).length = i := by rw [List.length_take, smallL_len]; omega
  rw [List.getD_eq_getElem?_getD, List.getElem?_append_right (by omega), hl, Nat.sub_self, List.getElem?_drop, Nat.add_zero, List.getD_eq_getElem?_getD]
theorem rowS_next (L : List Int) (b i : Nat) (hb : b ≤ i) (hi : i < L.length) : (rowS L b i).set i (lowC (L.getD i 0)) = rowS L b (i + 1) := by
  have hl : ((smallL L b).take i).length = i := by rw [List.length_take, smallL_len]; omega
  have hs := smallL_at L b i hb hi
  have hi2 : i < (smallL L b).length := by rw [smallL_len]; exact hi
  rw [List.getD_eq_getElem?_getD, List.getElem?_eq_getElem hi2, Option.getD_some] at hs
  unfold rowS
  rw [List.set_append_right _ _ (by omega), hl, Nat.sub_self, List.drop_eq_getElem_cons hi, List.set_cons_zero, take_snoc (smallL L b) i hi2, hs, List.append_assoc]
  rfl
def curW (s : ByteArray) (n : Nat) : Int := if 0 < lastV s 45 n then lastV s 45 n else 0
set_option maxHeartbeats 8000000 in
set_option maxRecDepth 100000 in
theorem small_calls (s : ByteArray) (hs : s.size ≤ 35184372088831) (w : World) :
    Calls Try.prog 30 #[.string s] w fun e w' => e = .returned (.string (smallV s)) ∧ Below w.heap.size w w' := by
  have HB := Aside0.mk (Below.refl w.heap.size w)
  have HS := Aside0.mk hs
  have hcv := fun (W : World) => print_bytes (P := Try.prog) 9 27 5 Try.underlying9 Try.underlying27 Try.underlying5 s W
  clear hs
  go_enter Try.func30, Try.ntmps30
  have c0 : curW s (min 1 s.size) = 0 := by
    unfold curW
    have := last_lt s 45 (min 1 s.size)
    rw [if_neg (by omega)]
  have C0 := Aside0.mk c0
  clear c0
  go_upto_region 7 with (fail)
  go_loopg [3, 4] s.size (fun kq v3 v4 W => ∃ p : Nat, v4 = .int .i64 (p : Int) ∧ v3 = .int .i64 (curW s (min p s.size)) ∧ Aside0 (1 ≤ p ∧ (s.size = 0 → p = 1) ∧ (0 < s.size → p ≤ s.size) ∧ s.size - p ≤ kq) ∧ Aside0 (Below w.heap.size w W))
  case atStart => exact ⟨1, rfl, by rw [C0.out], ⟨Nat.le_refl _, fun _ => rfl, fun h => h, by omega⟩, HB⟩
  case round =>
    clear HB
    obtain ⟨p, rfl, rfl, HP, HB⟩ := hrel
    obtain ⟨h1, h2, h3, h4⟩ := HP.out
    have hS := HS.out
    by_cases hlt : p < s.size
    · cases gk with
      | zero => omega
      | succ k9 =>
      have hl2 : decide ((p : Int) < (s.size : Int)) = true := decide_eq_true (by omega)
      have hl4 : decide (p < s.size) = true := decide_eq_true hlt
      obtain ⟨c, hc⟩ : ∃ c, bt s (p : Int) = c := ⟨_, rfl⟩
      have hx8 : ∀ h : p < s.size, ((s[p]'h).toNat : Int) = c := fun h => (bt_at s (p : Int) h).trans hc
      have hx9 := hx8 hlt
      have p1 := eq_true (show (0 : Int) ≤ (p : Int) by omega)
      have p2 := eq_true (show (p : Int) < (s.size : Int) by omega)
      have q2 : IntKind.i64.wrap ((p : Int) + 1) = ((p + 1 : Nat) : Int) := by rw [i64_w, wrap_id _ (by omega) (by omega)]; rfl
      have hm : min p s.size = p := by omega
      have hm2 : min (p + 1) s.size = p + 1 := by omega
      have HP2 := Aside0.mk (show 1 ≤ p + 1 ∧ (s.size = 0 → p + 1 = 1) ∧ (0 < s.size → p + 1 ≤ s.size) ∧ s.size - (p + 1) ≤ k9 from ⟨by omega, by omega, by omega, by omega⟩)
      by_cases e45 : c = 45
      · have k1 : (c == 45) = true := beq_iff_eq.2 e45
        have k2 : decide (c = 45) = true := decide_eq_true e45
        have HC : Aside0 (curW s (min (p + 1) s.size) = (p : Int)) := ⟨by rw [hm2]; unfold curW; rw [lastV, hc, if_pos e45, if_pos (by omega)]⟩
        rw [hm]
        obtain ⟨v, hv⟩ : ∃ v, curW s p = v := ⟨_, rfl⟩
        rw [hv]
        clear h1 h2 h3 h4 hm hm2 hc hx8 e45 hv
        go_wp2_with (fail)
        go_roundg k9
        case measure => have h_ := HP2.out; clear q2; omega
        case rel => exact ⟨p + 1, rfl, by rw [HC.out], HP2, HB⟩
      · have k1 : (c == 45) = false := beq_eq_false_iff_ne.2 e45
        have k2 : decide (c = 45) = false := decide_eq_false e45
        have HC : Aside0 (curW s (min (p + 1) s.size) = curW s p) := ⟨by rw [hm2]; unfold curW; rw [lastV, hc, if_neg e45]⟩
        rw [hm]
        obtain ⟨v, hv⟩ : ∃ v, curW s p = v := ⟨_, rfl⟩
        rw [hv] at HC ⊢
        clear h1 h2 h3 h4 hm hm2 hc hx8 e45 hv
        go_wp2_with (fail)
        go_roundg k9
        case measure => have h_ := HP2.out; clear q2; omega
        case rel => exact ⟨p + 1, rfl, by rw [HC.out], HP2, HB⟩
    · have hl2 : decide ((p : Int) < (s.size : Int)) = false := decide_eq_false (by omega)
      have hl4 : decide (p < s.size) = false := decide_eq_false hlt
      have hm : min p s.size = s.size := by omega
      have hcw : curW s (min p s.size) = ((barV s s.size : Nat) : Int) := by
        rw [hm]
        unfold curW barV
        have := last_lt s 45 s.size
        split <;> omega
      have hbl : barV s s.size ≤ s.size := by
        unfold barV
        have := last_lt s 45 s.size
        omega
      rw [hcw]
      have HS0 := Aside0.mk (si_start w wr s (by omega) HB.out)
      have HSV := Aside0.mk (show smallV s = strOfNums (smallL (bytesOf s) (barV s s.size)) from rfl)
      have HBL := Aside0.mk hbl
      generalize barV s s.size = b at *
      clear h1 h2 h3 h4 hm hcw hlt hbl
      go_wp2_with (fail)
      obtain ⟨g, hg⟩ : ∃ g, wr.heap.size = g := ⟨_, rfl⟩
      obtain ⟨cap, hcap⟩ : ∃ c, grownCap wr s.size 0 5 = c := ⟨_, rfl⟩
      rw [hg] at HS0
      try rw [hg]
      try rw [hcap]
      generalize Lib.bytesWorld wr 5 s = W0 at *
      clear hg hcap HB hcv
      go_loopg [6] s.size (fun kq v6 W => ∃ i : Nat, v6 = .int .i64 (i : Int) ∧ Aside0 (b ≤ i ∧ i ≤ s.size ∧ s.size - i ≤ kq) ∧ Aside0 (SI w g (rowS (bytesOf s) b i) W))
      case atStart => exact ⟨b, rfl, ⟨Nat.le_refl _, HBL.out, by omega⟩, ⟨by rw [rowS_first (bytesOf s) b (by rw [bytesOf_len]; exact HBL.out)]; exact HS0.out⟩⟩
      case round =>
        clear HS0
        obtain ⟨i, rfl, HI, HU⟩ := hrel
        obtain ⟨h1, h2, h3⟩ := HI.out
        have hbs := bytesOf_len s
        by_cases hlt : i < s.size
        · cases gk with
          | zero => omega
          | succ k9 =>
          have hl2 : decide ((i : Int) < (s.size : Int)) = true := decide_eq_true (by omega)
          have hl4 : decide (i < s.size) = true := decide_eq_true hlt
          have hrl := rowS_len (bytesOf s) b i (by omega)
          have hra := rowS_at (bytesOf s) b i (by omega)
          have hrn := rowS_next (bytesOf s) b i h1 (by omega)
          obtain ⟨hx, hf⟩ := HU.out.cell i (by omega)
          rw [hra] at hx
          have hcr : 0 ≤ (bytesOf s).getD i 0 ∧ (bytesOf s).getD i 0 ≤ 255 := by
            rw [List.getD_eq_getElem?_getD, List.getElem?_eq_getElem (show i < (bytesOf s).length by omega)]
            exact bytesOf_in s _ (List.getElem_mem _)
          generalize (bytesOf s).getD i 0 = c at *
          have p1 := eq_true (show (0 : Int) ≤ (i : Int) by omega)
          have p2 := eq_true (show (i : Int) < (s.size : Int) by omega)
          have q2 : IntKind.i64.wrap ((i : Int) + 1) = ((i + 1 : Nat) : Int) := by rw [i64_w, wrap_id _ (by omega) (by omega)]; rfl
          have HI2 := Aside0.mk (show b ≤ i + 1 ∧ i + 1 ≤ s.size ∧ s.size - (i + 1) ≤ k9 from ⟨by omega, by omega, by omega⟩)
          have HILT := Aside0.mk (show i < (rowS (bytesOf s) b i).length by omega)
          by_cases hc : 65 ≤ c ∧ c ≤ 90
          · have k1 : decide (65 ≤ c) = true := decide_eq_true hc.1
            have k2 : decide (c ≤ 90) = true := decide_eq_true hc.2
            have k3 : decide (c ≥ 65) = true := decide_eq_true hc.1
            have q3 : IntKind.u8.wrap (c + 32) = c + 32 := by rw [IntKind.wrap_u8]; omega
            have HN : Aside0 ((rowS (bytesOf s) b i).set i (c + 32) = rowS (bytesOf s) b (i + 1)) := ⟨by rw [← hrn]; unfold lowC; rw [if_pos hc]⟩
            have HU2 := Aside0.mk (HU.out.put i HILT.out (c + 32))
            rw [HN.out] at HU2
            clear h1 h2 h3 hrl hra hrn hcr hc
            go_wp2_with (fail)
            go_roundg k9
            case measure => have h_ := HI2.out; clear q2; omega
            case rel => exact ⟨i + 1, rfl, HI2, HU2⟩
          · have HN : Aside0 ((rowS (bytesOf s) b i) = rowS (bytesOf s) b (i + 1)) := ⟨by
              rw [← hrn]
              unfold lowC
              rw [if_neg hc, ← hra]
              refine List.ext_getElem? fun j => ?_
              rw [List.getElem?_set]
              by_cases e : i = j
              · subst e
                rw [if_pos rfl, if_pos HILT.out, List.getD_eq_getElem?_getD, List.getElem?_eq_getElem HILT.out]
                rfl
              · rw [if_neg e]⟩
            have HU2 := HU
            rw [HN.out] at HU2
            by_cases hc1 : 65 ≤ c
            · have k1 : decide (65 ≤ c) = true := decide_eq_true hc1
              have k2 : decide (c ≤ 90) = false := decide_eq_false (fun h => hc ⟨hc1, h⟩)
              have k3 : decide (c ≥ 65) = true := decide_eq_true hc1
              clear h1 h2 h3 hrl hra hrn hcr hc hc1
              go_wp2_with (fail)
              go_roundg k9
              case measure => have h_ := HI2.out; clear q2; omega
              case rel => exact ⟨i + 1, rfl, HI2, HU2⟩
            · have k1 : decide (65 ≤ c) = false := decide_eq_false hc1
              have k3 : decide (c ≥ 65) = false := decide_eq_false hc1
              clear h1 h2 h3 hrl hra hrn hcr hc hc1
              go_wp2_with (fail)
              go_roundg k9
              case measure => have h_ := HI2.out; clear q2; omega
              case rel => exact ⟨i + 1, rfl, HI2, HU2⟩
        · have hl2 : decide ((i : Int) < (s.size : Int)) = false := decide_eq_false (by omega)
          have hl4 : decide (i < s.size) = false := decide_eq_false hlt
          obtain rfl : i = (bytesOf s).length := by omega
          rw [rowS_last] at HU
          have hsl := smallL_len (bytesOf s) b
          have hcs := string_of_reads (P := Try.prog) Try.underlying27 Try.underlying5 Try.underlying9 (c := cap) (HU.out.reads (by omega))
          rw [hsl, hbs] at hcs
          clear h1 h2 h3 hlt hsl
          go_wp2_with (fail)
          go_ret
          exact ⟨by rw [HSV.out]; rfl, HU.out.bl⟩
def posthornlaw05_small.f (a0 : ByteArray) : Option ByteArray := if a0.size ≤ 35184372088831 then some (smallV a0) else none
theorem posthornlaw05_small.calls (a0 r : ByteArray) (w : World) (h : posthornlaw05_small.f a0 = some r) :
    Calls Try.prog 30 #[.string a0] w fun e w' => e = .returned (.string r) ∧ Below w.heap.size w w' := by
  unfold posthornlaw05_small.f at h
  split at h
  · rename_i hs
    obtain rfl := Option.some.inj h
    exact small_calls a0 hs w
  · cases h
end Go.Proofs.Ytabjfpjmiiiecaa.SM
