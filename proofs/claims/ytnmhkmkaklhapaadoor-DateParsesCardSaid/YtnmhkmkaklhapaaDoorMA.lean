/- date's text (what is left of it, and where that begins), as it lies on the heap; what its methods leave alone. What octet.Upper, octet.Same and the reference's Upper and Same come to, as plain functions on lists. octet's Span, Same and Upper, as date calls them. date's text: a row of digits. -/
import Derived.Test.YtnmhkmkaklhapaaDoorBase
import Derived.Test.YtnmhkmkaklhapaaDoorGlob
import Derived.Test.YtnmhkmkaklhapaaDoorMk
import Derived.Deep.LoopGhost
import Derived.Test.YtnmhkmkaklhapaaDoorD2
import Derived.Test.YtnmhkmkaklhapaaDoorD1
import Derived.Deep.DeepMust
namespace Go.Proofs.YtnmhkmkaklhapaaDoor.T
set_option linter.unusedVariables false
set_option linter.unusedSimpArgs false
open Go.RowKit Go.Proofs.YtnmhkmkaklhapaaDoorW.PrintWords Go.Proofs.YtnmhkmkaklhapaaDoorW.PrintLast Go.Proofs.YtnmhkmkaklhapaaDoorW.PrintMore Go.Proofs.YtnmhkmkaklhapaaDoor.B Go.Proofs.YtnmhkmkaklhapaaDoor.M

/-- The text's cells: what is left of a text of N bytes, and where that begins. -/
def TX (g N : Nat) (l : List Int) (w : World) : Prop := w.heap[g]? = some (.cells #[.string (strOfNums l), .int .i64 ((N : Int) - (l.length : Int))] 77 (0, 0))
structure OK (N : Nat) (l : List Int) : Prop where
  len : l.length ≤ N
  big : N ≤ 140737488351232
  inb : InB l
theorem OK.drop {N : Nat} {l : List Int} (h : OK N l) (n : Nat) : OK N (l.drop n) := ⟨by rw [List.length_drop]; have := h.len; omega, h.big, fun x hx => h.inb x (List.mem_of_mem_drop hx)⟩
/-- All blocks but g stand as they stood. -/
structure Apart (g : Nat) (w w' : World) : Prop where
  os : w'.os = w.os
  tape : w'.tape = w.tape
  output : w'.output = w.output
  size : w.heap.size ≤ w'.heap.size
  block : ∀ k, k < w.heap.size → k ≠ g → w'.heap[k]? = w.heap[k]?
theorem Apart.refl (g : Nat) (w : World) : Apart g w w := ⟨rfl, rfl, rfl, Nat.le_refl _, fun _ _ _ => rfl⟩
theorem Apart.trans {g : Nat} {a b c : World} (h : Apart g a b) (k : Apart g b c) : Apart g a c :=
  ⟨k.os.trans h.os, k.tape.trans h.tape, k.output.trans h.output, Nat.le_trans h.size k.size, fun i hi hn => (k.block i (Nat.lt_of_lt_of_le hi h.size) hn).trans (h.block i hi hn)⟩
theorem Apart.of_below {g : Nat} {w w' : World} (h : Below w.heap.size w w') : Apart g w w' := ⟨h.os, h.tape, h.output, h.size, fun k hk _ => h.block k hk⟩
theorem Apart.below {g B : Nat} {w w' : World} (h : Apart g w w') (hg : B ≤ g) (hB : B ≤ w.heap.size) : Below B w w' :=
  ⟨h.os, h.tape, h.output, h.size, fun k hk => h.block k (Nat.lt_of_lt_of_le hk hB) (Nat.ne_of_lt (Nat.lt_of_lt_of_le hk hg))⟩
theorem Apart.drew {g : Nat} {w w' : World} (h : Apart g w w') : Apart g w w'.drew := ⟨h.os, h.tape, h.output, h.size, h.block⟩
theorem Apart.drewN {g : Nat} {w w' : World} (h : Apart g w w') (n : Nat) : Apart g w (w'.drewN n) := by
  induction n generalizing w' with
  | zero => exact h
  | succ n ih => exact (ih h).drew
theorem Apart.heap {g k : Nat} {w w' : World} {o : Obj} (h : Apart g w w') (hn : k ≠ g) (hk : w.heap[k]? = some o) : w'.heap[k]? = some o := by
  have hlt : k < w.heap.size := by
    refine Nat.lt_of_not_le fun hc => ?_
    rw [Array.getElem?_eq_none hc] at hk
    cases hk
  exact (h.block k hlt hn).trans hk
theorem Apart.set {g : Nat} {w w' : World} (h : Apart g w w') (o : Nat) (v : Value) : Apart g w (w'.setCell ⟨g, o, none⟩ v) := by
  have hb := (Below.refl g w').setCell (p := ⟨g, o, none⟩) (Nat.le_refl g) v
  exact ⟨hb.os.trans h.os, hb.tape.trans h.tape, hb.output.trans h.output, Nat.le_trans h.size hb.size, fun k hk hn => (Below.heap_setCell w' ⟨g, o, none⟩ v k hn).trans (h.block k hk hn)⟩
theorem bytes_cut (s : ByteArray) (a b : Nat) : bytesOf (s.extract a b) = ((bytesOf s).drop a).take (b - a) := by
  unfold bytesOf
  rw [Lib.extract_data, List.map_take, List.map_drop]
theorem cut_is (l : List Int) (hl : InB l) (a b : Nat) (hb : b ≤ l.length) : (strOfNums l).extract a b = strOfNums ((l.drop a).take (b - a)) := by
  refine bytesOf_inj ?_
  rw [bytes_cut, bytesOf_strOfNums _ hl, bytesOf_strOfNums _ (fun x hx => hl x (List.mem_of_mem_drop (List.mem_of_mem_take hx)))]

set_option maxHeartbeats 4000000 in
set_option maxRecDepth 100000 in
theorem take_calls (g N : Nat) (l : List Int) (h : OK N l) (n : Nat) (hn : n ≤ l.length) (w : World) (hk : TX g N l w) :
    Calls Tryd.prog 59 #[.pointer (some ⟨g, 0, none⟩), .int .i64 (n : Int)] w fun e w' => e = .returned (.string (strOfNums (l.take n))) ∧ TX g N (l.drop n) w' ∧ Apart g w w' := by
  have hlen := h.len
  have hbig := h.big
  have hin := h.inb
  obtain ⟨a, ha⟩ : ∃ a : Int, a = (N : Int) - (l.length : Int) := ⟨_, rfl⟩
  unfold TX at hk
  rw [← ha] at hk
  have h0 : w.cell? ⟨g, 0, none⟩ = some (.string (strOfNums l)) := blk_cell hk 0
  have h1 : w.cell? ⟨g, 1, none⟩ = some (.int .i64 a) := blk_cell hk 1
  have f0 : w.frozen? ⟨g, 0, none⟩ = false := blk_frozen hk 0
  have f1 : w.frozen? ⟨g, 1, none⟩ = false := blk_frozen hk 1
  have hz : (strOfNums l).size = l.length := strOfNums_len _
  go_enter Tryd.func59, Tryd.ntmps59
  go_wp2_with (fail)
  have hu : (0 : Int) ≤ (n : Int) := by omega
  have hv : (n : Int) ≤ ((strOfNums l).size : Int) := by rw [hz]; omega
  have hv2 : n ≤ (strOfNums l).size := by rw [hz]; omega
  have hw : IntKind.i64.wrap (a + (n : Int)) = a + n := by rw [i64_w]; exact wrap_id _ (by omega) (by omega)
  go_region
  go_wp2
  go_ret
  have e1 := cut_is l hin 0 n hn
  have e2 := cut_is l hin n l.length (Nat.le_refl _)
  rw [List.drop_zero, Nat.sub_zero] at e1
  rw [List.take_of_length_le (by rw [List.length_drop]; omega)] at e2
  refine ⟨by rw [e1]; rfl, ?_, (((Apart.refl g w).set 0 _).set 1 _).drew⟩
  rw [e2]
  have e3 : (N : Int) - (l.length : Int) + n = (N : Int) - ((l.drop n).length : Int) := by rw [List.length_drop]; omega
  rw [e3]
  exact blk_put (blk_put hk 0 _ rfl) 1 _ rfl

theorem str_full {s : ByteArray} (h : 0 < s.size) : s.toList.isEmpty = false := by
  have : s.toList.length = s.size := by rw [toList_data, Array.length_toList]; rfl
  cases hl : s.toList with
  | nil => rw [hl] at this; simp at this; omega
  | cons _ _ => rfl
def begB (l : List Int) (b : Int) : Bool := match l with | [] => false | c :: _ => c == b
def begL (l : List Int) (b : Int) : List Int := if begB l b = true then l.drop 1 else l
set_option maxHeartbeats 4000000 in
set_option maxRecDepth 100000 in
theorem begins_calls (g N : Nat) (l : List Int) (h : OK N l) (b : Int) (w : World) (hk : TX g N l w) :
    Calls Tryd.prog 49 #[.pointer (some ⟨g, 0, none⟩), .int .u8 b] w fun e w' => e = .returned (.bool (begB l b)) ∧ TX g N (begL l b) w' ∧ Apart g w w' := by
  have h0 : w.cell? ⟨g, 0, none⟩ = some (.string (strOfNums l)) := blk_cell hk 0
  have HK := Aside0.mk hk
  clear hk
  cases l with
  | nil =>
    have e0 : strOfNums [] = (⟨#[]⟩ : ByteArray) := rfl
    rw [e0] at h0
    go_enter Tryd.func49, Tryd.ntmps49
    go_wp2_with (fail)
    all_goals go_ret
    all_goals exact ⟨rfl, HK.out, Apart.refl _ _⟩
  | cons c r =>
    have hz : (strOfNums (c :: r)).size = r.length + 1 := by rw [strOfNums_len]; rfl
    have hp : 0 < (strOfNums (c :: r)).size := by omega
    have hx : ((((strOfNums (c :: r))[0]'hp).toNat : Nat) : Int) = c := by
      have := bt_strOfNums (c :: r) h.inb 0 (by simp)
      rw [show ((0 : Nat) : Int) = 0 from rfl] at this
      unfold bt at this
      simpa [hp] using this
    have hE : (strOfNums (c :: r)).toList.isEmpty = false := str_full hp
    by_cases hcb : c = b
    · subst hcb
      have ht : (c != c) = false := by simp
      go_enter Tryd.func49, Tryd.ntmps49
      go_wp2_with ((go_at_call 59); refine (calls_of_args (args' := #[.pointer (some ⟨g, 0, none⟩), .int .i64 ((1 : Nat) : Int)]) rfl ?_); (with_reducible refine (take_calls g N (c :: r) h 1 (by simp) w HK.out).mono ?_); rintro e w1 ⟨rfl, hk1, hA⟩; have HK1 := Aside0.mk hk1; have HA := Aside0.mk hA; clear hk1 hA)
      all_goals go_ret
      have e1 : begB (c :: r) c = true := by simp [begB]
      refine ⟨by rw [e1]; rfl, ?_, HA.out⟩
      unfold begL
      rw [if_pos e1]
      exact HK1.out
    · have ht : (c != b) = true := by simp [hcb]
      go_enter Tryd.func49, Tryd.ntmps49
      go_wp2_with (fail)
      all_goals go_ret
      have e1 : begB (c :: r) b = false := by simp [begB, hcb]
      refine ⟨by rw [e1]; rfl, ?_, Apart.refl _ _⟩
      unfold begL
      rw [if_neg (by rw [e1]; decide)]
      exact HK.out

def isBl (c : Int) : Bool := c == 32 || c == 9
/-- How many blanks a text begins with. -/
def blN (l : List Int) : Nat := (l.takeWhile isBl).length
theorem blN_le (l : List Int) : blN l ≤ l.length := (List.takeWhile_sublist _).length_le
theorem blN_in : ∀ (l : List Int) (i : Nat) (h : i < l.length), i < blN l → isBl l[i] = true
  | [], i, h, _ => absurd h (by simp)
  | c :: r, i, h, hb => by
    unfold blN at hb
    rw [List.takeWhile_cons] at hb
    split at hb
    · cases i with
      | zero => assumption
      | succ i => exact blN_in r i (by simpa using h) (by unfold blN; simpa using hb)
    · simp at hb
theorem blN_out : ∀ (l : List Int) (h : blN l < l.length), isBl (l[blN l]'h) = false
  | [], h => absurd h (by simp)
  | c :: r, h => by
    cases hc : isBl c with
    | true =>
      have e : blN (c :: r) = blN r + 1 := by unfold blN; rw [List.takeWhile_cons, if_pos hc]; rfl
      have := blN_out r (by rw [e] at h; simpa using h)
      simp only [e, List.getElem_cons_succ]
      exact this
    | false =>
      have e : blN (c :: r) = 0 := by unfold blN; rw [List.takeWhile_cons, if_neg (by rw [hc]; decide)]; rfl
      simp only [e, List.getElem_cons_zero]
      exact hc
theorem at_byte {l : List Int} (hin : InB l) {j : Nat} {c : Int} (hj : j < l.length) (hc : l[j] = c) : ∀ hp : j < (strOfNums l).size, ((((strOfNums l)[j]'hp).toNat : Nat) : Int) = c := fun hp => by
  have := bt_strOfNums l hin j hj
  unfold bt at this
  rw [hc] at this
  simpa [hp] using this
set_option maxHeartbeats 4000000 in
set_option maxRecDepth 100000 in
theorem blanks_calls (g N : Nat) (l : List Int) (h : OK N l) (w : World) (hk : TX g N l w) :
    Calls Tryd.prog 46 #[.pointer (some ⟨g, 0, none⟩)] w fun e w' => e = .returned (.bool (decide (0 < blN l))) ∧ TX g N (l.drop (blN l)) w' ∧ Apart g w w' := by
  have h0 : w.cell? ⟨g, 0, none⟩ = some (.string (strOfNums l)) := blk_cell hk 0
  have HK := Aside0.mk hk
  clear hk
  go_enter Tryd.func46, Tryd.ntmps46
  go_wp2_with (fail)
  go_loopw [3] (fun v3 w' => ∃ j : Nat, v3 = .int .i64 (j : Int) ∧ Aside0 (j ≤ blN l) ∧ w' = w) (fun v3 _ => l.length - (intOf v3).toNat)
  case atStart => exact ⟨0, rfl, ⟨Nat.zero_le _⟩, rfl⟩
  case round =>
    obtain ⟨j, rfl, HJ, rfl⟩ := hrel
    have hle := blN_le l
    have hjb := HJ.out
    have hbig := h.big
    have hlen := h.len
    by_cases hj : j < blN l
    · have hjl : j < l.length := by omega
      obtain ⟨c, hc⟩ : ∃ c, l[j] = c := ⟨_, rfl⟩
      have hx := at_byte h.inb hjl hc
      have hlt : (j : Int) < ((strOfNums l).size : Int) := by rw [strOfNums_len]; omega
      have hlt2 : j < (strOfNums l).size := by rw [strOfNums_len]; omega
      have hb := blN_in l j hjl hj
      rw [hc] at hb
      have hw : IntKind.i64.wrap ((j : Int) + 1) = ((j + 1 : Nat) : Int) := by rw [i64_w, wrap_id _ (by omega) (by omega)]; omega
      have HJL := Aside0.mk hj
      have HLL := Aside0.mk hjl
      have hbb : (c == 32) = true ∨ (c == 32) = false ∧ (c == 9) = true := by
        unfold isBl at hb
        cases h32 : (c == 32) with
        | true => exact .inl rfl
        | false => rw [h32] at hb; exact .inr ⟨rfl, hb⟩
      clear hc hb hle hjb hbig hlen hj hjl HJ
      rcases hbb with h32 | ⟨h32, h9⟩
      · go_wp2_with (fail)
        go_roundw
        case measure => have := HLL.out; show l.length - (((j + 1 : Nat) : Int)).toNat < l.length - ((j : Nat) : Int).toNat; omega
        case rel => exact ⟨j + 1, rfl, ⟨HJL.out⟩, by first | rfl | trivial⟩
      · go_wp2_with (fail)
        go_roundw
        case measure => have := HLL.out; show l.length - (((j + 1 : Nat) : Int)).toNat < l.length - ((j : Nat) : Int).toNat; omega
        case rel => exact ⟨j + 1, rfl, ⟨HJL.out⟩, by first | rfl | trivial⟩
    · obtain rfl : j = blN l := by omega
      by_cases hjl : blN l < l.length
      · obtain ⟨c, hc⟩ : ∃ c, l[blN l] = c := ⟨_, rfl⟩
        have hx := at_byte h.inb hjl hc
        have hb := blN_out l hjl
        rw [hc] at hb
        unfold isBl at hb
        have h32 : (c == 32) = false := (Bool.or_eq_false_iff.1 hb).1
        have h9 : (c == 9) = false := (Bool.or_eq_false_iff.1 hb).2
        have hlt : ((blN l : Nat) : Int) < ((strOfNums l).size : Int) := by rw [strOfNums_len]; omega
        have hlt2 : blN l < (strOfNums l).size := by rw [strOfNums_len]; omega
        have HLE := Aside0.mk hle
        clear hc hb hle hjb hbig hlen hj hjl HJ
        go_wp2_with ((go_at_call 59); (with_reducible refine (take_calls g N l h (blN l) HLE.out _ HK.out).mono ?_); rintro e w1 ⟨rfl, hk1, hA⟩; have HK1 := Aside0.mk hk1; have HA := Aside0.mk hA; clear hk1 hA)
        all_goals go_ret
        exact ⟨rfl, HK1.out, HA.out⟩
      · have hlt : ¬ ((blN l : Nat) : Int) < ((strOfNums l).size : Int) := by rw [strOfNums_len]; omega
        have hlt2 : decide (((blN l : Nat) : Int) < ((strOfNums l).size : Int)) = false := decide_eq_false hlt
        have hlt3 : ¬ blN l < (strOfNums l).size := by rw [strOfNums_len]; omega
        have HLE := Aside0.mk hle
        clear hle hjb hbig hlen hj hjl HJ
        go_wp2_with ((go_at_call 59); (with_reducible refine (take_calls g N l h (blN l) HLE.out _ HK.out).mono ?_); rintro e w1 ⟨rfl, hk1, hA⟩; have HK1 := Aside0.mk hk1; have HA := Aside0.mk hA; clear hk1 hA)
        all_goals go_ret
        exact ⟨rfl, HK1.out, HA.out⟩
end Go.Proofs.YtnmhkmkaklhapaaDoor.T
namespace Go.Proofs.YtnmhkmkaklhapaaDoor.U
set_option linter.unusedVariables false
set_option linter.unusedSimpArgs false
open Go.RowKit Go.Proofs.YtnmhkmkaklhapaaDoorW.PrintWords Go.Proofs.YtnmhkmkaklhapaaDoor.B Go.Proofs.YtnmhkmkaklhapaaDoor.D

def up (c : Int) : Int := if 97 ≤ c ∧ c ≤ 122 then c - 32 else c
def upL (xs : List Int) : List Int := xs.map up

theorem up_range {c : Int} (h : 0 ≤ c ∧ c ≤ 255) : 0 ≤ up c ∧ up c ≤ 255 := by unfold up; split <;> omega
theorem upL_in {xs : List Int} (h : InB xs) : InB (upL xs) := by
  intro x hx
  obtain ⟨y, hy, rfl⟩ := List.mem_map.1 hx
  exact up_range (h y hy)
theorem upL_len (xs : List Int) : (upL xs).length = xs.length := List.length_map ..
theorem up_up (c : Int) : up (up c) = up c := by
  unfold up
  by_cases h : 97 ≤ c ∧ c ≤ 122
  · rw [if_pos h, if_neg (by omega)]
  · rw [if_neg h, if_neg h]
theorem upL_upL (xs : List Int) : upL (upL xs) = upL xs := by
  unfold upL
  rw [List.map_map]
  exact List.map_congr_left fun c _ => up_up c
theorem upL_append (xs ys : List Int) : upL (xs ++ ys) = upL xs ++ upL ys := List.map_append

theorem upper_f (c : Int) (h : 0 ≤ c ∧ c ≤ 255) : octet_upper.f c = some (up c) := by
  unfold octet_upper.f up
  by_cases h1 : 97 ≤ c
  · rw [if_pos h1]
    by_cases h2 : c ≤ 122
    · rw [if_pos h2, if_pos ⟨h1, h2⟩]
      congr 1
      omega
    · rw [if_neg h2, if_neg (by omega)]
  · rw [if_neg h1, if_neg (by omega)]

/-- The text that Upper tells. -/
def upS (s : ByteArray) : ByteArray := strOfNums (upL (bytesOf s))

theorem upS_bytes (s : ByteArray) : bytesOf (upS s) = upL (bytesOf s) := bytesOf_strOfNums _ (upL_in (bytesOf_in s))
theorem upS_size (s : ByteArray) : (upS s).size = s.size := by unfold upS; rw [strOfNums_len, upL_len, bytesOf_len]

theorem Upper_loop (s : ByteArray) (hs : s.size ≤ 140737488351232) (d : Nat) : ∀ (xs : List Int) (i : Nat), i ≤ s.size → s.size - i = d → xs.length = s.size →
    Ev (fun k => octet_Upper.l0 k s xs (s.size : Int) (i : Int)) (strOfNums (xs.take i ++ (upL (bytesOf s)).drop i)) := by
  induction d with
  | zero =>
    intro xs i h1 hd hl
    obtain rfl : i = s.size := by omega
    refine Ev.last fun k => ?_
    simp only [octet_Upper.l0]
    rw [if_neg (by omega), List.take_of_length_le (by omega), List.drop_eq_nil_of_le (by rw [upL_len, bytesOf_len]; exact Nat.le_refl _), List.append_nil]
  | succ d ih =>
    intro xs i h1 hd hl
    have hlt : i < s.size := by omega
    have hb : i < (bytesOf s).length := by rw [bytesOf_len]; exact hlt
    have hu : i < (upL (bytesOf s)).length := by rw [upL_len]; exact hb
    have key := ih (xs.set i (up (bt s (i : Int)))) (i + 1) (by omega) (by omega) (by rw [List.length_set]; exact hl)
    have e : (xs.set i (up (bt s (i : Int)))).take (i + 1) ++ (upL (bytesOf s)).drop (i + 1) = xs.take i ++ (upL (bytesOf s)).drop i := by
      rw [take_set _ _ _ (by omega), drop_cons _ i hu, List.append_assoc, List.singleton_append]
      congr 2
      rw [bt_bytes s i hb]
      simp [upL]
    rw [e] at key
    refine Ev.round (f := fun k => octet_Upper.l0 k s (xs.set i (up (bt s (i : Int)))) (s.size : Int) ((i + 1 : Nat) : Int)) (fun k => ?_) key
    simp only [octet_Upper.l0]
    rw [if_pos (by omega), if_pos (by omega), if_pos (by omega), upper_f _ (bt_range s i)]
    simp only [Option.bind_some]
    rw [if_pos (by omega), Int.toNat_natCast, wrap_id _ (by omega) (by omega)]
    rfl

theorem Upper_ev (s : ByteArray) (hs : s.size ≤ 140737488351232) : Ev (fun k => octet_Upper.f k s) (upS s) := by
  have key := Upper_loop s hs s.size (List.replicate s.size 0) 0 (by omega) (by omega) (by simp)
  simp only [List.take_zero, List.nil_append, List.drop_zero] at key
  refine Ev.congr (fun k => ?_) key
  unfold octet_Upper.f
  rw [if_pos (by omega), if_pos (by omega), Int.toNat_natCast]
  rfl

/-- Same, as it is told. -/
def sameB (s t : ByteArray) : Bool := decide (upL (bytesOf s) = upL (bytesOf t))

theorem Same_loop (s t : ByteArray) (hs : s.size ≤ 140737488351232) (hst : s.size = t.size) (d : Nat) : ∀ (i : Nat), i ≤ s.size → s.size - i = d →
    (upL (bytesOf s)).take i = (upL (bytesOf t)).take i →
    Ev (fun k => octet_Same.l0 k s t (s.size : Int) (i : Int)) (sameB s t) := by
  induction d with
  | zero =>
    intro i h1 hd ht
    obtain rfl : i = s.size := by omega
    refine Ev.last fun k => ?_
    simp only [octet_Same.l0]
    rw [if_neg (by omega)]
    rw [List.take_of_length_le (by rw [upL_len, bytesOf_len]; exact Nat.le_refl _), List.take_of_length_le (by rw [upL_len, bytesOf_len]; omega)] at ht
    unfold sameB
    rw [decide_eq_true ht]
  | succ d ih =>
    intro i h1 hd ht
    have hlt : i < s.size := by omega
    have hb : i < (bytesOf s).length := by rw [bytesOf_len]; exact hlt
    have hb' : i < (bytesOf t).length := by rw [bytesOf_len]; omega
    have hu : i < (upL (bytesOf s)).length := by rw [upL_len]; exact hb
    have hu' : i < (upL (bytesOf t)).length := by rw [upL_len]; exact hb'
    have e1 : (upL (bytesOf s))[i] = up (bt s (i : Int)) := by rw [bt_bytes s i hb]; simp [upL]
    have e2 : (upL (bytesOf t))[i] = up (bt t (i : Int)) := by rw [bt_bytes t i hb']; simp [upL]
    by_cases hc : up (bt s (i : Int)) = up (bt t (i : Int))
    · have key := ih (i + 1) (by omega) (by omega) (by rw [take_snoc _ i hu, take_snoc _ i hu', ht, e1, e2, hc])
      refine Ev.round (f := fun k => octet_Same.l0 k s t (s.size : Int) ((i + 1 : Nat) : Int)) (fun k => ?_) key
      simp only [octet_Same.l0]
      rw [if_pos (by omega), if_pos (by omega), if_pos (by omega), upper_f _ (bt_range s i)]
      simp only [Option.bind_some]
      rw [if_pos (by omega), upper_f _ (bt_range t i)]
      simp only [Option.bind_some]
      rw [if_pos hc, wrap_id _ (by omega) (by omega)]
      rfl
    · refine Ev.last fun k => ?_
      simp only [octet_Same.l0]
      rw [if_pos (by omega), if_pos (by omega), if_pos (by omega), upper_f _ (bt_range s i)]
      simp only [Option.bind_some]
      rw [if_pos (by omega), upper_f _ (bt_range t i)]
      simp only [Option.bind_some]
      rw [if_neg hc]
      unfold sameB
      rw [decide_eq_false]
      intro h
      apply hc
      rw [← e1, ← e2]
      simp only [h]

theorem sameB_sizes {s t : ByteArray} (h : s.size ≠ t.size) : sameB s t = false := by
  unfold sameB
  rw [decide_eq_false]
  intro e
  have := congrArg List.length e
  rw [upL_len, upL_len, bytesOf_len, bytesOf_len] at this
  exact h this

theorem Same_ev (s t : ByteArray) (hs : s.size ≤ 140737488351232) : Ev (fun k => octet_Same.f k s t) (sameB s t) := by
  unfold octet_Same.f
  by_cases h : s.size = t.size
  · refine Ev.congr (fun k => ?_) (Same_loop s t hs h s.size 0 (by omega) (by omega) (by simp))
    rw [if_pos (by omega)]
    rfl
  · refine Ev.val fun k => ?_
    rw [if_neg (by omega), sameB_sizes h]

end Go.Proofs.YtnmhkmkaklhapaaDoor.U
namespace Go.Proofs.YtnmhkmkaklhapaaDoor.T
set_option linter.unusedVariables false
set_option linter.unusedSimpArgs false
open Go.RowKit Go.Proofs.YtnmhkmkaklhapaaDoorW.PrintWords Go.Proofs.YtnmhkmkaklhapaaDoorW.PrintLast Go.Proofs.YtnmhkmkaklhapaaDoorW.PrintMore Go.Proofs.YtnmhkmkaklhapaaDoor.B Go.Proofs.YtnmhkmkaklhapaaDoor.M Go.Proofs.YtnmhkmkaklhapaaDoor.Glob Go.Proofs.YtnmhkmkaklhapaaDoor.D Go.Proofs.YtnmhkmkaklhapaaDoor.U

/-- How many bytes of the class stand ahead. -/
def run (c : Int) (xs : List Int) : Nat := (xs.takeWhile (isB c)).length
theorem run_le (c : Int) (xs : List Int) : run c xs ≤ xs.length := (List.takeWhile_sublist _).length_le
theorem run_nil (c : Int) : run c [] = 0 := rfl
theorem run_cons (c x : Int) (xs : List Int) : run c (x :: xs) = if isB c x = true then run c xs + 1 else 0 := by
  unfold run
  rw [List.takeWhile_cons]
  split <;> simp

def spanI (c : Int) (xs : List Int) (i : Int) : Int := if i < 0 then i else i + (run c (xs.drop i.toNat) : Int)

theorem Span_str_loop (c : Int) (s : ByteArray) (hs : s.size ≤ 4611686018427387903) (d : Nat) : ∀ i : Nat, s.size - i = d → i ≤ 9223372036854775807 →
    Ev (fun k => octet_Span_string.l0 k c s (i : Int)) ((i + run c ((bytesOf s).drop i) : Nat) : Int) := by
  induction d with
  | zero =>
    intro i hd h63
    refine Ev.last fun k => ?_
    simp only [octet_Span_string.l0]
    rw [if_neg (by omega), List.drop_eq_nil_of_le (by rw [bytesOf_len]; omega), run_nil]
    rfl
  | succ d ih =>
    intro i hd h63
    have hb : i < (bytesOf s).length := by rw [bytesOf_len]; omega
    rw [drop_cons _ i hb, run_cons, ← bt_bytes s i hb]
    by_cases hc : isB c (bt s (i : Int)) = true
    · rw [if_pos hc]
      have key := ih (i + 1) (by omega) (by omega)
      rw [show i + (run c ((bytesOf s).drop (i + 1)) + 1) = i + 1 + run c ((bytesOf s).drop (i + 1)) from by omega]
      refine Ev.round (f := fun k => octet_Span_string.l0 k c s ((i + 1 : Nat) : Int)) (fun k => ?_) key
      simp only [octet_Span_string.l0, octet_Is.f, Option.bind_some]
      rw [if_pos (by omega), if_pos (by omega), if_pos hc, wrap_id _ (by omega) (by omega)]
      rfl
    · rw [if_neg hc]
      refine Ev.last fun k => ?_
      simp only [octet_Span_string.l0, octet_Is.f, Option.bind_some]
      rw [if_pos (by omega), if_pos (by omega), if_neg hc]
      rfl

theorem Span_str_ev c (s : ByteArray) (i : Int) (hs : s.size ≤ 4611686018427387903) (hi : i ≤ 9223372036854775807) : Ev (fun k => octet_Span_string.f k c s i) (spanI c (bytesOf s) i) := by
  unfold octet_Span_string.f spanI
  by_cases h1 : i < 0
  · exact Ev.val fun k => by rw [if_pos h1, if_pos h1]
  · obtain ⟨n, rfl⟩ := Int.eq_ofNat_of_zero_le (show 0 ≤ i by omega)
    rw [if_neg h1, Int.toNat_natCast]
    refine Ev.congr (fun k => ?_) (Span_str_loop c s hs (s.size - n) n rfl (by omega))
    rw [if_neg h1]

theorem drop_cons' (xs : List Int) (j : Nat) (h : j < xs.length) : xs.drop j = xs[j] :: xs.drop (j + 1) := List.drop_eq_getElem_cons h

theorem Apart.gok {g : Nat} {w w' : World} (h : Apart g w w') (hg : 0 < g) (HG : GOk w) : GOk w' := by
  obtain ⟨h0, h1⟩ := HG
  have hb : w'.heap[0]? = w.heap[0]? := h.block 0 h0 (by omega)
  refine ⟨Nat.lt_of_lt_of_le h0 h.size, fun i hi => ?_⟩
  have e : ∀ o, w'.cell? ⟨0, o, none⟩ = w.cell? ⟨0, o, none⟩ := fun o => by simp only [World.cell?, hb]
  obtain ⟨a, b, c⟩ := h1 i hi
  exact ⟨(e _).trans a, (e _).trans b, (e _).trans c⟩
theorem span_calls (c : Int) (N : Nat) (l : List Int) (h : OK N l) (w : World) (HG : GOk w) :
    Calls Tryd.prog 47 #[.int .i64 c, .string (strOfNums l), .int .i64 0] w fun e w' => e = .returned (.int .i64 (run c l : Int)) ∧ Below w.heap.size w w' := by
  have hz : (strOfNums l).size = l.length := strOfNums_len _
  have hlen := h.len
  have hbig := h.big
  obtain ⟨k, hk⟩ := Span_str_ev c (strOfNums l) 0 (by omega) (by omega)
  have e : spanI c (bytesOf (strOfNums l)) 0 = (run c l : Int) := by
    rw [bytesOf_strOfNums _ h.inb]
    unfold spanI
    rw [if_neg (by omega), Int.toNat_zero, List.drop_zero, Int.zero_add]
  rw [e] at hk
  exact octet_Span_string.calls k _ _ _ _ w HG (hk k (Nat.le_refl _))
theorem same_calls (a b : ByteArray) (ha : a.size ≤ 140737488351232) (w : World) :
    Calls Tryd.prog 61 #[.string a, .string b] w fun e w' => e = .returned (.bool (sameB a b)) ∧ Drawn0 w w' := by
  obtain ⟨k, hk⟩ := Same_ev a b ha
  exact octet_Same.calls k _ _ _ w (hk k (Nat.le_refl _))
theorem upper_calls (a : ByteArray) (ha : a.size ≤ 140737488351232) (w : World) :
    Calls Tryd.prog 64 #[.string a] w fun e w' => e = .returned (.string (upS a)) ∧ Below w.heap.size w w' := by
  obtain ⟨k, hk⟩ := Upper_ev a ha
  exact octet_Upper.calls k _ _ w (hk k (Nat.le_refl _))
end Go.Proofs.YtnmhkmkaklhapaaDoor.T
namespace Go.Proofs.YtnmhkmkaklhapaaDoor.T
set_option linter.unusedVariables false
set_option linter.unusedSimpArgs false
open Go.RowKit Go.Proofs.YtnmhkmkaklhapaaDoorW.PrintWords Go.Proofs.YtnmhkmkaklhapaaDoorW.PrintLast Go.Proofs.YtnmhkmkaklhapaaDoorW.PrintMore Go.Proofs.YtnmhkmkaklhapaaDoor.B Go.Proofs.YtnmhkmkaklhapaaDoor.M Go.Proofs.YtnmhkmkaklhapaaDoor.Glob Go.Proofs.YtnmhkmkaklhapaaDoor.D Go.Proofs.YtnmhkmkaklhapaaDoor.U

def digN (l : List Int) : Nat := run 2 l
def num (l : List Int) : Int := l.foldl (fun x c => 10 * x + (c - 48)) 0
def digOk (l : List Int) (least most : Int) : Bool := decide (least ≤ (digN l : Int)) && decide ((digN l : Int) ≤ most)
theorem isB2 : ∀ c : Fin 256, isB 2 (c.val : Int) = true → 48 ≤ (c.val : Int) ∧ (c.val : Int) ≤ 57 := by decide +kernel
theorem isB2_of (c : Int) (h : 0 ≤ c ∧ c ≤ 255) (hb : isB 2 c = true) : 48 ≤ c ∧ c ≤ 57 := by
  obtain ⟨k, rfl⟩ := Int.eq_ofNat_of_zero_le h.1
  exact isB2 ⟨k, by omega⟩ hb
theorem run_in (c : Int) : ∀ (l : List Int) (i : Nat) (h : i < l.length), i < run c l → isB c l[i] = true
  | [], i, h, _ => absurd h (by simp)
  | x :: r, i, h, hb => by
    rw [run_cons] at hb
    split at hb
    · cases i with
      | zero => assumption
      | succ i => exact run_in c r i (by simpa using h) (by omega)
    · omega
theorem wrap16 (x : Int) (h1 : -32768 ≤ x) (h2 : x ≤ 32767) : IntKind.i16.wrap x = x := by
  unfold IntKind.wrap
  simp only [show IntKind.i16.bits = 16 from rfl, show IntKind.i16.signed = true from rfl, Bool.true_and, decide_eq_true_eq, show (2 : Int) ^ 16 = 65536 from by decide, show (2 : Int) ^ (16 - 1) = 32768 from by decide]
  split <;> omega
theorem wrap8 (x : Int) (h1 : 0 ≤ x) (h2 : x ≤ 255) : IntKind.u8.wrap x = x := by
  unfold IntKind.wrap
  simp only [show IntKind.u8.bits = 8 from rfl, show IntKind.u8.signed = false from rfl, Bool.false_and, show (2 : Int) ^ 8 = 256 from by decide]
  rw [if_neg (by decide)]
  omega
theorem wrapi8 (x : Int) (h1 : -128 ≤ x) (h2 : x ≤ 127) : IntKind.i8.wrap x = x := by
  unfold IntKind.wrap
  simp only [show IntKind.i8.bits = 8 from rfl, show IntKind.i8.signed = true from rfl, Bool.true_and, decide_eq_true_eq, show (2 : Int) ^ 8 = 256 from by decide, show (2 : Int) ^ (8 - 1) = 128 from by decide]
  split <;> omega
theorem num_snoc (xs : List Int) (c : Int) : num (xs ++ [c]) = 10 * num xs + (c - 48) := by unfold num; rw [List.foldl_append]; rfl
theorem TX.below {g N : Nat} {l : List Int} {w w' : World} (h : TX g N l w) (hb : Below w.heap.size w w') : TX g N l w' := blk_below h hb
set_option maxHeartbeats 4000000 in
set_option maxRecDepth 100000 in
theorem digits_no (g N : Nat) (l : List Int) (h : OK N l) (least most : Int) (hno : digOk l least most = false) (w : World) (HG : GOk w) (hk : TX g N l w) :
    Calls Tryd.prog 62 #[.pointer (some ⟨g, 0, none⟩), .int .i64 least, .int .i64 most] w fun e w' => e = .returned (.tuple #[.int .i16 0, .int .i64 0, .bool false]) ∧ TX g N l w' ∧ Apart g w w' := by
  have h0 : w.cell? ⟨g, 0, none⟩ = some (.string (strOfNums l)) := blk_cell hk 0
  have HK := Aside0.mk hk
  clear hk
  unfold digOk digN at hno
  obtain ⟨n, hn⟩ : ∃ n, run 2 l = n := ⟨_, rfl⟩
  rw [hn] at hno
  by_cases hle : least ≤ (n : Int)
  · have hmo : ¬ (n : Int) ≤ most := fun hc => by rw [decide_eq_true hle, decide_eq_true hc] at hno; cases hno
    have t1 : decide ((n : Int) < least) = false := decide_eq_false (by omega)
    have t2 : decide (most < (n : Int)) = true := decide_eq_true (by omega)
    have t3 : ¬ (n : Int) < least := by omega
    have t4 : most < (n : Int) := by omega
    clear hno hle hmo
    go_enter Tryd.func62, Tryd.ntmps62
    go_wp2_with ((go_at_call 47); (with_reducible refine (span_calls 2 N l h w HG).mono ?_); rintro e w1 ⟨rfl, hb⟩; rw [hn]; have HB := Aside0.mk hb; clear hb)
    all_goals go_ret3
    all_goals exact ⟨rfl, HK.out.below HB.out, Apart.of_below HB.out⟩
  · have t1 : decide ((n : Int) < least) = true := decide_eq_true (by omega)
    have t3 : (n : Int) < least := by omega
    clear hno hle
    go_enter Tryd.func62, Tryd.ntmps62
    go_wp2_with ((go_at_call 47); (with_reducible refine (span_calls 2 N l h w HG).mono ?_); rintro e w1 ⟨rfl, hb⟩; rw [hn]; have HB := Aside0.mk hb; clear hb)
    all_goals go_ret3
    all_goals exact ⟨rfl, HK.out.below HB.out, Apart.of_below HB.out⟩

set_option maxHeartbeats 4000000 in
set_option maxRecDepth 100000 in
theorem digits_yes (g N : Nat) (l : List Int) (h : OK N l) (least most : Int) (hm : most ≤ 4) (hok : digOk l least most = true) (w : World) (HG : GOk w) (hk : TX g N l w) (hg : 0 < g) :
    Calls Tryd.prog 62 #[.pointer (some ⟨g, 0, none⟩), .int .i64 least, .int .i64 most] w fun e w' => e = .returned (.tuple #[.int .i16 (num (l.take (digN l))), .int .i64 (digN l : Int), .bool true]) ∧ TX g N (l.drop (digN l)) w' ∧ Apart g w w' := by
  have h0 : w.cell? ⟨g, 0, none⟩ = some (.string (strOfNums l)) := blk_cell hk 0
  have HK := Aside0.mk hk
  clear hk
  unfold digOk at hok
  obtain ⟨n, hn⟩ : ∃ n, digN l = n := ⟨_, rfl⟩
  have hn2 : run 2 l = n := hn
  rw [hn] at hok ⊢
  have hq := Bool.and_eq_true_iff.1 hok
  have t3 : ¬ (n : Int) < least := by have := of_decide_eq_true hq.1; omega
  have t4 : ¬ most < (n : Int) := by have := of_decide_eq_true hq.2; omega
  have hn4 : n ≤ 4 := by have := of_decide_eq_true hq.2; omega
  have hnl : n ≤ l.length := by rw [← hn]; exact run_le 2 l
  have HN4 := Aside0.mk hn4
  have HNL := Aside0.mk hnl
  have t1 : decide ((n : Int) < least) = false := decide_eq_false t3
  have t2 : decide (most < (n : Int)) = false := decide_eq_false t4
  clear hok hq hn4 hnl hm
  go_enter Tryd.func62, Tryd.ntmps62
  go_wp2_with (first
    | ((go_at_call 47); (with_reducible refine (span_calls 2 N l h w HG).mono ?_); rintro e w1 ⟨rfl, hb⟩; rw [hn2]; have HB := Aside0.mk hb; clear hb)
    | ((go_at_call 59); go_must (refine (take_calls g N l h n HNL.out _ (HK.out.below HB.out)).mono ?_; rintro e w2 ⟨rfl, hk2, hA⟩; have HK2 := Aside0.mk hk2; have HA := Aside0.mk ((Apart.of_below HB.out).trans hA); have hcv := print_bytes (P := Tryd.prog) 9 88 5 Tryd.underlying9 Tryd.underlying88 Tryd.underlying5 (strOfNums (l.take n)) w2; clear hk2 hA)))
  have hin : InB (l.take n) := fun x hx => h.inb x (List.mem_of_mem_take hx)
  have hz : (strOfNums (l.take n)).size = n := by rw [strOfNums_len, List.length_take]; have := HNL.out; omega
  have hrd := bytes_reads w2 5 (strOfNums (l.take n)) (by rw [hz]; have := HN4.out; omega)
  rw [bytesOf_strOfNums _ hin, hz] at hrd
  have HRD := Aside0.mk hrd
  have HB3 := Aside0.mk (bytes_below (Below.refl w2.heap.size w2) (Nat.le_refl _) 5 (strOfNums (l.take n)))
  have HZ := Aside0.mk hz
  clear hrd hz hin
  obtain ⟨w3, hw3⟩ : ∃ w3, Lib.bytesWorld w2 5 (strOfNums (l.take n)) = w3 := ⟨_, rfl⟩
  rw [hw3] at HRD HB3 ⊢
  go_loopw [10, 12, 31] (fun v10 v12 v31 w' => ∃ j : Nat, v31 = .int .i64 (j : Int) ∧ Aside0 (j ≤ n) ∧ (∃ x : Int, v10 = .int .i16 x ∧ Aside0 (x = num (l.take j) ∧ 0 ≤ x ∧ x < 10 ^ j)) ∧ w' = w3) (fun _ _ v31 _ => n - (intOf v31).toNat)
  case atStart => exact ⟨0, rfl, ⟨Nat.zero_le _⟩, ⟨0, rfl, ⟨rfl, by omega, by decide⟩⟩, rfl⟩
  case round =>
    obtain ⟨j, rfl, HJ, ⟨x, rfl, HX⟩, rfl⟩ := hrel
    by_cases hj : j < n
    · have hjl : j < l.length := by have := HNL.out; omega
      obtain ⟨c, hc⟩ : ∃ c, l[j] = c := ⟨_, rfl⟩
      have hcb := isB2_of c (by rw [← hc]; exact h.inb _ (List.getElem_mem hjl)) (by rw [← hc]; exact run_in 2 l j hjl (by rw [hn2]; exact hj))
      have hx := HX.out
      have hx4 : (10 : Int) ^ j ≤ 1000 := by
        have := HN4.out
        have : j = 0 ∨ j = 1 ∨ j = 2 ∨ j = 3 := by omega
        rcases this with rfl | rfl | rfl | rfl <;> decide
      have hp : (10 : Int) ^ (j + 1) = 10 * 10 ^ j := by rw [Int.pow_succ, Int.mul_comm]
      have hcell : wr.cell? ⟨w2.heap.size, j, none⟩ = some (.int .u8 c) := by
        obtain ⟨ad, e, hcs⟩ := HRD.out.2.2 (by omega)
        obtain rfl := (Option.some.inj e).symm
        have := hcs j hj
        rw [add_plain] at this
        rw [this]
        simp [List.getD_eq_getElem?_getD, hj, List.getElem?_eq_getElem hjl, hc]
      have hsz : (j : Int) < ((strOfNums (l.take n)).size : Int) := by rw [HZ.out]; omega
      have hsz2 : j < (strOfNums (l.take n)).size := by rw [HZ.out]; omega
      have hw1 : IntKind.i16.wrap (10 * x) = 10 * x := wrap16 _ (by omega) (by omega)
      have hw2 : IntKind.u8.wrap (c - 48) = c - 48 := wrap8 _ (by omega) (by omega)
      have hw4 : IntKind.i16.wrap (c - 48) = c - 48 := wrap16 _ (by omega) (by omega)
      have hw5 : IntKind.i16.wrap (10 * x + (c - 48)) = 10 * x + (c - 48) := wrap16 _ (by omega) (by omega)
      have hwj : IntKind.i64.wrap ((j : Int) + 1) = ((j + 1 : Nat) : Int) := by rw [i64_w, wrap_id _ (by omega) (by have := HN4.out; omega)]; omega
      have HX2 : Aside0 (10 * x + (c - 48) = num (l.take (j + 1)) ∧ 0 ≤ 10 * x + (c - 48) ∧ 10 * x + (c - 48) < 10 ^ (j + 1)) := ⟨by rw [List.take_succ_eq_append_getElem hjl, num_snoc, hc, hx.1], by omega, by rw [hp]; omega⟩
      have HJN := Aside0.mk hj
      clear hx hx4 hp hcb hc hjl hj HX HJ
      go_wp2_with (fail)
      go_roundw
      case measure => have := HJN.out; show n - (((j + 1 : Nat) : Int)).toNat < n - ((j : Nat) : Int).toNat; omega
      case rel => exact ⟨j + 1, rfl, ⟨HJN.out⟩, ⟨_, rfl, HX2⟩, by first | rfl | trivial⟩
    · obtain rfl : j = n := by have := HJ.out; omega
      have hsz : ¬ (j : Int) < ((strOfNums (l.take j)).size : Int) := by rw [HZ.out]; omega
      have hsz2 : ¬ j < (strOfNums (l.take j)).size := by rw [HZ.out]; omega
      obtain ⟨rfl, _, _⟩ := HX.out
      clear hj HJ
      go_wp2_with (fail)
      go_ret3
      exact ⟨rfl, HK2.out.below HB3.out, HA.out.trans (Apart.of_below HB3.out)⟩
end Go.Proofs.YtnmhkmkaklhapaaDoor.T
