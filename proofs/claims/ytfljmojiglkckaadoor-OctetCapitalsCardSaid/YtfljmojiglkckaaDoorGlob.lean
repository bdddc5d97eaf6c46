/- The table 'stretches' of octet as the program lays it; octet.Is tells what the table says (walked by hand). -/
import Derived.Test.YtfljmojiglkckaaDoorProg
import Derived.Test.YtfljmojiglkckaaDoorWWords
import Derived.Below
import Derived.WalkKit
import Derived.KernelRfl
import Derived.WalkSmall
import Derived.Outline
namespace Go.Proofs.YtfljmojiglkckaaDoor.Glob
set_option linter.unusedVariables false
set_option linter.unusedSimpArgs false
open Go.RowKit Go.Proofs.YtfljmojiglkckaaDoorW.PrintWords

/-- class, first, last -/
def tab : List (Int × Int × Int) := [
  (1, 65, 90), (1, 97, 122), (2, 48, 57), (3, 65, 90), (3, 97, 122), (3, 48, 57), (4, 48, 57), (4, 65, 70), (4, 97, 102),
  (5, 33, 33), (5, 35, 39), (5, 42, 43), (5, 45, 45), (5, 47, 47), (5, 61, 61), (5, 63, 63), (5, 94, 96), (5, 123, 126),
  (6, 32, 33), (6, 35, 91), (6, 93, 126), (7, 33, 90), (7, 94, 126), (8, 33, 60), (8, 62, 126), (9, 33, 42), (9, 44, 60), (9, 62, 126),
  (10, 45, 45), (11, 33, 57), (11, 59, 126), (12, 9, 9), (12, 32, 126), (13, 0, 127), (14, 128, 255)]

def cellsOf (l : List (Int × Int × Int)) : List Value := l.flatMap fun s => [.int .i64 s.1, .int .u8 s.2.1, .int .u8 s.2.2]

def tb (i : Nat) : Int × Int × Int := tab.getD i (0, 0, 0)

/-- The table lies in block 0, as it was laid. -/
def GOk (w : World) : Prop := 0 < w.heap.size ∧ ∀ i, i < 35 → w.cell? ⟨0, i * 3, none⟩ = some (.int .i64 (tb i).1) ∧ w.cell? ⟨0, i * 3 + 1, none⟩ = some (.int .u8 (tb i).2.1) ∧ w.cell? ⟨0, i * 3 + 2, none⟩ = some (.int .u8 (tb i).2.2)

theorem GOk.of_below {w w' : World} (h : GOk w) (hB : Below w.heap.size w w') : GOk w' := by
  obtain ⟨h1, h2⟩ := h
  refine ⟨Nat.lt_of_lt_of_le h1 hB.size, fun i hi => ?_⟩
  obtain ⟨a, b, c⟩ := h2 i hi
  exact ⟨(hB.cell (p := ⟨0, i * 3, none⟩) h1).trans a, (hB.cell (p := ⟨0, i * 3 + 1, none⟩) h1).trans b, (hB.cell (p := ⟨0, i * 3 + 2, none⟩) h1).trans c⟩

/-- Does stretch i hold the byte b of class c? -/
def hit (c b : Int) (i : Nat) : Bool := ((tb i).1 == c && decide ((tb i).2.1 ≤ b)) && decide (b ≤ (tb i).2.2)
def hits (c b : Int) : Bool := (List.range 35).any (hit c b)
/-- What octet.Is tells. -/
def isB (c b : Int) : Bool := hits c b || ((c == 5 || c == 10) && hits 3 b)
theorem hits_of {c b : Int} {i : Nat} (hi : i < 35) (h : hit c b i = true) : hits c b = true := by
  unfold hits
  rw [List.any_eq_true]
  exact ⟨i, List.mem_range.2 hi, h⟩
theorem hits_none {c b : Int} (h : ∀ i, i < 35 → hit c b i = false) : hits c b = false := by
  unfold hits
  rw [List.any_eq_false]
  intro i hi
  rw [h i (List.mem_range.1 hi)]
  decide

theorem ret_bool {a b : Bool} (h : a = b) : Ending.returned (.bool a) = .returned (.bool b) := by rw [h]

set_option maxHeartbeats 4000000 in
set_option maxRecDepth 100000 in
theorem Is_plain (c b : Int) (w : World) (hc5 : (c == 5) = false) (hc10 : (c == 10) = false) (HG : GOk w) :
    Calls Tryd.prog 13 #[.int .i64 c, .int .u8 b] w fun e w' => e = .returned (.bool (hits c b)) ∧ Below w.heap.size w w' := by
  go_enter Tryd.func13, Tryd.ntmps13
  go_wp2
  go_loopw [7] (fun v7 wr => ∃ i : Nat, i ≤ 35 ∧ v7 = .int .i64 i ∧ Aside0 (∀ j, j < i → hit c b j = false) ∧ Below w.heap.size w wr) (fun v7 _ => 35 - (intOf v7).toNat)
  case atStart => exact ⟨0, by omega, rfl, ⟨fun j hj => by omega⟩, Below.refl _ _⟩
  case round =>
    obtain ⟨i, hi, rfl, hno, hB⟩ := hrel
    by_cases hlt : i < 35
    · have hg := (HG.of_below hB).2 i hlt
      generalize ht : tb i = t at hg
      obtain ⟨t1, t2, t3⟩ := t
      obtain ⟨g1, g2, g3⟩ := hg
      dsimp only at g1 g2 g3
      have Ht := Aside0.mk ht
      clear ht
      have hsz : w.heap.size ≤ wr.heap.size := hB.size
      have next : hit c b i = false → ∀ o, (∃ i_1 : Nat, i_1 ≤ 35 ∧ Value.int .i64 ((i : Int) + 1) = Value.int .i64 (i_1 : Int) ∧ Aside0 (∀ j, j < i_1 → hit c b j = false) ∧ Below w.heap.size w (wr.alloc o)) := by
        intro hn o
        refine ⟨i + 1, by omega, by go_num, ⟨fun j hj => ?_⟩, hB.alloc hsz o⟩
        by_cases e : j = i
        · rw [e]; exact hn
        · exact hno.out j (by omega)
      have Hnext := Aside0.mk next
      clear next
      by_cases h1 : t1 = c
      · have e1 : (t1 == c) = true := beq_iff_eq.2 h1
        by_cases h2 : t2 ≤ b
        · have e2 : decide (t2 ≤ b) = true := decide_eq_true h2
          by_cases h3 : b ≤ t3
          · have e3 : decide (b ≤ t3) = true := decide_eq_true h3
            have hh : hit c b i = true := by unfold hit; rw [Ht.out]; simp only [e1, e2, e3, Bool.and_self]
            have hb := hits_of hlt hh
            have Hb := Aside0.mk hb
            clear hb hh h1 h2 h3
            go_wp2
            go_ret
            exact ⟨ret_bool Hb.out.symm, hB.alloc hsz _⟩
          · have e3 : decide (b ≤ t3) = false := decide_eq_false h3
            have hh : hit c b i = false := by unfold hit; rw [Ht.out]; simp only [e3, Bool.and_false]
            have Hh := Aside0.mk hh
            clear hh h1 h2 h3
            go_wp2
            go_roundw
            case rel => exact Hnext.out Hh.out _
            case measure => simp [intOf]; omega
        · have e2 : decide (t2 ≤ b) = false := decide_eq_false h2
          have hh : hit c b i = false := by unfold hit; rw [Ht.out]; simp only [e2, Bool.and_false, Bool.false_and]
          have Hh := Aside0.mk hh
          clear hh h1 h2
          go_wp2
          go_roundw
          case rel => exact Hnext.out Hh.out _
          case measure => simp [intOf]; omega
      · have e1 : (t1 == c) = false := beq_eq_false_iff_ne.2 h1
        have hh : hit c b i = false := by unfold hit; rw [Ht.out]; simp only [e1, Bool.false_and]
        have Hh := Aside0.mk hh
        clear hh h1
        go_wp2
        go_roundw
        case rel => exact Hnext.out Hh.out _
        case measure => simp [intOf]; omega
    · obtain rfl : i = 35 := by omega
      have hn := Aside0.mk (hits_none hno.out)
      clear hlt
      go_wp2
      go_ret
      exact ⟨ret_bool hn.out.symm, hB⟩
set_option maxHeartbeats 4000000 in
set_option maxRecDepth 100000 in
theorem Is_five (c b : Int) (w : World) (hc5 : (c == 5) = true) (HG : GOk w) :
    Calls Tryd.prog 13 #[.int .i64 c, .int .u8 b] w fun e w' => e = .returned (.bool (hits c b || hits 3 b)) ∧ Below w.heap.size w w' := by
  go_enter Tryd.func13, Tryd.ntmps13
  go_wp2
  go_loopw [7] (fun v7 wr => ∃ i : Nat, i ≤ 35 ∧ v7 = .int .i64 i ∧ Aside0 (∀ j, j < i → hit c b j = false) ∧ Below w.heap.size w wr) (fun v7 _ => 35 - (intOf v7).toNat)
  case atStart => exact ⟨0, by omega, rfl, ⟨fun j hj => by omega⟩, Below.refl _ _⟩
  case round =>
    obtain ⟨i, hi, rfl, hno, hB⟩ := hrel
    by_cases hlt : i < 35
    · have hg := (HG.of_below hB).2 i hlt
      generalize ht : tb i = t at hg
      obtain ⟨t1, t2, t3⟩ := t
      obtain ⟨g1, g2, g3⟩ := hg
      dsimp only at g1 g2 g3
      have Ht := Aside0.mk ht
      clear ht
      have hsz : w.heap.size ≤ wr.heap.size := hB.size
      have next : hit c b i = false → ∀ o, (∃ i_1 : Nat, i_1 ≤ 35 ∧ Value.int .i64 ((i : Int) + 1) = Value.int .i64 (i_1 : Int) ∧ Aside0 (∀ j, j < i_1 → hit c b j = false) ∧ Below w.heap.size w (wr.alloc o)) := by
        intro hn o
        refine ⟨i + 1, by omega, by go_num, ⟨fun j hj => ?_⟩, hB.alloc hsz o⟩
        by_cases e : j = i
        · rw [e]; exact hn
        · exact hno.out j (by omega)
      have Hnext := Aside0.mk next
      clear next
      by_cases h1 : t1 = c
      · have e1 : (t1 == c) = true := beq_iff_eq.2 h1
        by_cases h2 : t2 ≤ b
        · have e2 : decide (t2 ≤ b) = true := decide_eq_true h2
          by_cases h3 : b ≤ t3
          · have e3 : decide (b ≤ t3) = true := decide_eq_true h3
            have hh : hit c b i = true := by unfold hit; rw [Ht.out]; simp only [e1, e2, e3, Bool.and_self]
            have hb := hits_of hlt hh
            have Hb := Aside0.mk hb
            clear hb hh h1 h2 h3
            go_wp2
            go_ret
            exact ⟨ret_bool (by rw [Hb.out, Bool.true_or]), hB.alloc hsz _⟩
          · have e3 : decide (b ≤ t3) = false := decide_eq_false h3
            have hh : hit c b i = false := by unfold hit; rw [Ht.out]; simp only [e3, Bool.and_false]
            have Hh := Aside0.mk hh
            clear hh h1 h2 h3
            go_wp2
            go_roundw
            case rel => exact Hnext.out Hh.out _
            case measure => simp [intOf]; omega
        · have e2 : decide (t2 ≤ b) = false := decide_eq_false h2
          have hh : hit c b i = false := by unfold hit; rw [Ht.out]; simp only [e2, Bool.and_false, Bool.false_and]
          have Hh := Aside0.mk hh
          clear hh h1 h2
          go_wp2
          go_roundw
          case rel => exact Hnext.out Hh.out _
          case measure => simp [intOf]; omega
      · have e1 : (t1 == c) = false := beq_eq_false_iff_ne.2 h1
        have hh : hit c b i = false := by unfold hit; rw [Ht.out]; simp only [e1, Bool.false_and]
        have Hh := Aside0.mk hh
        clear hh h1
        go_wp2
        go_roundw
        case rel => exact Hnext.out Hh.out _
        case measure => simp [intOf]; omega
    · obtain rfl : i = 35 := by omega
      have hn := Aside0.mk (hits_none hno.out)
      clear hlt
      have hG2 := HG.of_below hB
      go_wp2_with (go_at_call 13; (with_reducible refine (Is_plain 3 b _ rfl rfl hG2).mono ?_); rintro e w' ⟨rfl, hb2⟩)
      go_ret
      exact ⟨ret_bool (by rw [hn.out, Bool.false_or]), hB.trans (hb2.mono hB.size)⟩
set_option maxHeartbeats 4000000 in
set_option maxRecDepth 100000 in
theorem Is_ten (c b : Int) (w : World) (hc5 : (c == 5) = false) (hc10 : (c == 10) = true) (HG : GOk w) :
    Calls Tryd.prog 13 #[.int .i64 c, .int .u8 b] w fun e w' => e = .returned (.bool (hits c b || hits 3 b)) ∧ Below w.heap.size w w' := by
  go_enter Tryd.func13, Tryd.ntmps13
  go_wp2
  go_loopw [7] (fun v7 wr => ∃ i : Nat, i ≤ 35 ∧ v7 = .int .i64 i ∧ Aside0 (∀ j, j < i → hit c b j = false) ∧ Below w.heap.size w wr) (fun v7 _ => 35 - (intOf v7).toNat)
  case atStart => exact ⟨0, by omega, rfl, ⟨fun j hj => by omega⟩, Below.refl _ _⟩
  case round =>
    obtain ⟨i, hi, rfl, hno, hB⟩ := hrel
    by_cases hlt : i < 35
    · have hg := (HG.of_below hB).2 i hlt
      generalize ht : tb i = t at hg
      obtain ⟨t1, t2, t3⟩ := t
      obtain ⟨g1, g2, g3⟩ := hg
      dsimp only at g1 g2 g3
      have Ht := Aside0.mk ht
      clear ht
      have hsz : w.heap.size ≤ wr.heap.size := hB.size
      have next : hit c b i = false → ∀ o, (∃ i_1 : Nat, i_1 ≤ 35 ∧ Value.int .i64 ((i : Int) + 1) = Value.int .i64 (i_1 : Int) ∧ Aside0 (∀ j, j < i_1 → hit c b j = false) ∧ Below w.heap.size w (wr.alloc o)) := by
        intro hn o
        refine ⟨i + 1, by omega, by go_num, ⟨fun j hj => ?_⟩, hB.alloc hsz o⟩
        by_cases e : j = i
        · rw [e]; exact hn
        · exact hno.out j (by omega)
      have Hnext := Aside0.mk next
      clear next
      by_cases h1 : t1 = c
      · have e1 : (t1 == c) = true := beq_iff_eq.2 h1
        by_cases h2 : t2 ≤ b
        · have e2 : decide (t2 ≤ b) = true := decide_eq_true h2
          by_cases h3 : b ≤ t3
          · have e3 : decide (b ≤ t3) = true := decide_eq_true h3
            have hh : hit c b i = true := by unfold hit; rw [Ht.out]; simp only [e1, e2, e3, Bool.and_self]
            have hb := hits_of hlt hh
            have Hb := Aside0.mk hb
            clear hb hh h1 h2 h3
            go_wp2
            go_ret
            exact ⟨ret_bool (by rw [Hb.out, Bool.true_or]), hB.alloc hsz _⟩
          · have e3 : decide (b ≤ t3) = false := decide_eq_false h3
            have hh : hit c b i = false := by unfold hit; rw [Ht.out]; simp only [e3, Bool.and_false]
            have Hh := Aside0.mk hh
            clear hh h1 h2 h3
            go_wp2
            go_roundw
            case rel => exact Hnext.out Hh.out _
            case measure => simp [intOf]; omega
        · have e2 : decide (t2 ≤ b) = false := decide_eq_false h2
          have hh : hit c b i = false := by unfold hit; rw [Ht.out]; simp only [e2, Bool.and_false, Bool.false_and]
          have Hh := Aside0.mk hh
          clear hh h1 h2
          go_wp2
          go_roundw
          case rel => exact Hnext.out Hh.out _
          case measure => simp [intOf]; omega
      · have e1 : (t1 == c) = false := beq_eq_false_iff_ne.2 h1
        have hh : hit c b i = false := by unfold hit; rw [Ht.out]; simp only [e1, Bool.false_and]
        have Hh := Aside0.mk hh
        clear hh h1
        go_wp2
        go_roundw
        case rel => exact Hnext.out Hh.out _
        case measure => simp [intOf]; omega
    · obtain rfl : i = 35 := by omega
      have hn := Aside0.mk (hits_none hno.out)
      clear hlt
      have hG2 := HG.of_below hB
      go_wp2_with (go_at_call 13; (with_reducible refine (Is_plain 3 b _ rfl rfl hG2).mono ?_); rintro e w' ⟨rfl, hb2⟩)
      go_ret
      exact ⟨ret_bool (by rw [hn.out, Bool.false_or]), hB.trans (hb2.mono hB.size)⟩

def octet_Is.f (c b : Int) : Option Bool := some (isB c b)

theorem octet_Is.calls (c b : Int) (r : Bool) (w : World) (HG : GOk w) (h : octet_Is.f c b = some r) :
    Calls Tryd.prog 13 #[.int .i64 c, .int .u8 b] w fun e w' => e = .returned (.bool r) ∧ Below w.heap.size w w' := by
  obtain rfl := Option.some.inj h
  unfold isB
  by_cases h5 : (c == 5) = true
  · rw [h5]
    simp only [Bool.true_or, Bool.true_and]
    exact Is_five c b w h5 HG
  · have h5' : (c == 5) = false := by simpa using h5
    by_cases h10 : (c == 10) = true
    · rw [h5', h10]
      simp only [Bool.false_or, Bool.true_and]
      exact Is_ten c b w h5' h10 HG
    · have h10' : (c == 10) = false := by simpa using h10
      rw [h5', h10']
      simp only [Bool.or_self, Bool.false_and, Bool.or_false]
      exact Is_plain c b w h5' h10' HG
end Go.Proofs.YtfljmojiglkckaaDoor.Glob
