/- The reference's reader on lists: is, row, gap, mark. The reference's name on lists. The reference's zone on lists: a word. The reference's zone on lists: a sign and four digits. The reference's remark, walked. The reference's remark as a function proved by hand (in the printed form). What the reference's Parse makes of a text, part by part, is what date.Parse makes of it. The reference's reader, its methods in closed form (as functions proved by hand). -/
import Derived.Test.YtnmhkmkaklhapaaDoorBase
import Derived.Test.YtnmhkmkaklhapaaDoorMA
import Derived.Test.YtnmhkmkaklhapaaDoorQX
import Derived.Test.YtnmhkmkaklhapaaDoorCap
import Derived.Test.YtnmhkmkaklhapaaDoorMB
import Derived.Deep.RegionHeld3
import Derived.Test.YtnmhkmkaklhapaaDoorMD
import Derived.Test.YtnmhkmkaklhapaaDoorRefs
namespace Go.Proofs.YtnmhkmkaklhapaaDoor.RR
set_option linter.unusedVariables false
set_option linter.unusedSimpArgs false
open Go.RowKit Go.Proofs.YtnmhkmkaklhapaaDoorW.PrintWords Go.Proofs.YtnmhkmkaklhapaaDoor.B Go.Proofs.YtnmhkmkaklhapaaDoor.Q Go.Proofs.YtnmhkmkaklhapaaDoor.T
/-- Does one of these stand ahead? -/
def hd (all l : List Int) : Bool := match l with | [] => false | c :: _ => all.contains c
/-- How many of these stand ahead. -/
def rn (all : List Int) : List Int → Nat
  | [] => 0
  | c :: r => if all.contains c then rn all r + 1 else 0
theorem rn_le (all : List Int) : ∀ l, rn all l ≤ l.length
  | [] => Nat.le_refl _
  | c :: r => by
    unfold rn
    have := rn_le all r
    split <;> simp <;> omega
theorem bt_drop (s : ByteArray) (i : Nat) (h : i < s.size) : (bytesOf s).drop i = bt s (i : Int) :: (bytesOf s).drop (i + 1) := by
  have h2 : i < (bytesOf s).length := by rw [bytesOf_len]; exact h
  rw [List.drop_eq_getElem_cons h2, bt_bytes s i h2]
theorem is_l0 (s all : ByteArray) (hS : s.size ≤ 140737488351232) (hA : all.size ≤ 1000) (i : Nat) (hi : i < s.size) (e sp : Int) (d : Nat) : ∀ j : Nat, all.size - j = d → j ≤ all.size →
    Ev (fun k => posthornref06_reader_is.l0 k all (j : Int) s (i : Int) e sp) (((bytesOf all).drop j).contains (bt s (i : Int)), s, (i : Int), e, sp) := by
  induction d with
  | zero =>
    intro j hd hj
    refine Ev.last fun k => ?_
    rw [posthornref06_reader_is.l0, if_neg (by omega), List.drop_eq_nil_of_le (by rw [bytesOf_len]; omega)]
    rfl
  | succ d ih =>
    intro j hd hj
    have hlt : j < all.size := by omega
    rw [bt_drop all j hlt, List.contains_cons]
    by_cases hc : bt all (j : Int) = bt s (i : Int)
    · refine Ev.last fun k => ?_
      rw [posthornref06_reader_is.l0, if_pos (by omega), if_pos (by omega), if_pos (by omega), if_pos (by omega), if_pos hc, hc]
      simp
    · refine Ev.round (f := fun k => posthornref06_reader_is.l0 k all ((j + 1 : Nat) : Int) s (i : Int) e sp) (fun k => ?_) ?_
      · rw [posthornref06_reader_is.l0, if_pos (by omega), if_pos (by omega), if_pos (by omega), if_pos (by omega), if_neg hc, wrap_id _ (by omega) (by omega)]
        rfl
      · have h := ih (j + 1) (by omega) (by omega)
        rw [show (bt s (i : Int) == bt all (j : Int)) = false from beq_false_of_ne fun h => hc h.symm, Bool.false_or]
        exact h
theorem is_ev (s all : ByteArray) (hS : s.size ≤ 140737488351232) (hA : all.size ≤ 1000) (i : Nat) (hi : i ≤ s.size) (e sp : Int) :
    Ev (fun k => posthornref06_reader_is.f k s (i : Int) e sp all) (hd (bytesOf all) ((bytesOf s).drop i), s, (i : Int), e, sp) := by
  unfold posthornref06_reader_is.f
  by_cases h : i < s.size
  · rw [bt_drop s i h]
    simp only [if_neg (show ¬ (i : Int) ≥ (s.size : Int) by omega)]
    exact is_l0 s all hS hA i h e sp _ 0 rfl (Nat.zero_le _)
  · rw [List.drop_eq_nil_of_le (by rw [bytesOf_len]; omega)]
    simp only [if_pos (show (i : Int) ≥ (s.size : Int) by omega)]
    exact Ev.now _
theorem row_l0 (s all : ByteArray) (hS : s.size ≤ 140737488351232) (hA : all.size ≤ 1000) (a : Nat) (e sp : Int) (d : Nat) : ∀ i : Nat, s.size - i = d → a ≤ i → i ≤ s.size →
    Ev (fun k => posthornref06_reader_row.l0 k all (a : Int) s (i : Int) e sp) (s.extract a (i + rn (bytesOf all) ((bytesOf s).drop i)), s, ((i + rn (bytesOf all) ((bytesOf s).drop i) : Nat) : Int), e, sp) := by
  induction d with
  | zero =>
    intro i hdd ha hi
    have hz : (bytesOf s).drop i = [] := List.drop_eq_nil_of_le (by rw [bytesOf_len]; omega)
    rw [hz]
    have hv := is_ev s all hS hA i hi e sp
    rw [hz] at hv
    refine Ev.round (fun k => posthornref06_reader_row.l0.eq_2 _ _ _ _ _ _ k) ?_
    refine Ev.bind hv ?_
    refine Ev.val fun k => ?_
    dsimp only
    rw [if_neg (by simp [hd]), if_pos (by omega), if_pos (by omega), if_pos (by omega)]
    rfl
  | succ d ih =>
    intro i hdd ha hi
    have hlt : i < s.size := by omega
    have hv := is_ev s all hS hA i hi e sp
    rw [bt_drop s i hlt] at hv ⊢
    refine Ev.round (fun k => posthornref06_reader_row.l0.eq_2 _ _ _ _ _ _ k) ?_
    refine Ev.bind hv ?_
    by_cases hc : (bytesOf all).contains (bt s (i : Int)) = true
    · have h := ih (i + 1) (by omega) (by omega) (by omega)
      have e1 : i + rn (bytesOf all) (bt s (i : Int) :: (bytesOf s).drop (i + 1)) = i + 1 + rn (bytesOf all) ((bytesOf s).drop (i + 1)) := by rw [rn, if_pos hc]; omega
      rw [e1]
      obtain ⟨K, hK⟩ := h
      refine ⟨K, fun k hk => (Eq.trans ?_ (hK k hk))⟩
      dsimp only
      rw [if_pos (show hd (bytesOf all) (bt s (i : Int) :: (bytesOf s).drop (i + 1)) = true from hc), wrap_id _ (by omega) (by omega)]
      rfl
    · have e1 : i + rn (bytesOf all) (bt s (i : Int) :: (bytesOf s).drop (i + 1)) = i := by rw [rn, if_neg hc]; rfl
      rw [e1]
      refine Ev.val fun k => ?_
      dsimp only
      rw [if_neg (show ¬ hd (bytesOf all) (bt s (i : Int) :: (bytesOf s).drop (i + 1)) = true from hc), if_pos (by omega), if_pos (by omega), if_pos (by omega)]
      rfl
theorem take_in (s : ByteArray) (i n : Nat) : InB (((bytesOf s).drop i).take n) := fun x hx => bytesOf_in s x (List.mem_of_mem_drop (List.mem_of_mem_take hx))
theorem cut_text (s : ByteArray) (i n : Nat) : s.extract i (i + n) = strOfNums (((bytesOf s).drop i).take n) := by
  refine bytesOf_inj ?_
  rw [bytes_cut, bytesOf_strOfNums _ (take_in s i n), Nat.add_sub_cancel_left]
theorem row_ev (s all : ByteArray) (hS : s.size ≤ 140737488351232) (hA : all.size ≤ 1000) (i : Nat) (hi : i ≤ s.size) (e sp : Int) :
    Ev (fun k => posthornref06_reader_row.f k s (i : Int) e sp all) (strOfNums (((bytesOf s).drop i).take (rn (bytesOf all) ((bytesOf s).drop i))), s, ((i + rn (bytesOf all) ((bytesOf s).drop i) : Nat) : Int), e, sp) := by
  have h := row_l0 s all hS hA i e sp _ i rfl (Nat.le_refl _) hi
  rw [cut_text] at h
  exact h
/-- The first fault stands. -/
def fl (e sp err pos : Int) : Int × Int := if e = 0 then (err, pos) else (e, sp)
theorem fail_f (s : ByteArray) (i e sp err pos : Int) : posthornref06_reader_fail.f s i e sp err pos = some (s, i, (fl e sp err pos).1, (fl e sp err pos).2) := by
  unfold posthornref06_reader_fail.f fl
  split <;> rfl
def BL : List Int := [32, 9]
def DG : List Int := [48, 49, 50, 51, 52, 53, 54, 55, 56, 57]
theorem strOfNums_nil (xs : List Int) : (strOfNums xs).toList = ([] : List UInt8) ↔ xs.length = 0 := by
  rw [show ([] : List UInt8) = (⟨#[]⟩ : ByteArray).toList from by rw [toList_data], toList_inj]
  constructor
  · intro h
    have := congrArg ByteArray.size h
    rw [strOfNums_len] at this
    exact this
  · intro h
    obtain rfl := List.eq_nil_of_length_eq_zero h
    rfl
/-- A gap: the fault, if there is none and there must be one. -/
def gapF (l : List Int) (free : Bool) (i e sp : Int) : Int × Int := if rn BL l = 0 ∧ free = false then fl e sp 60 i else (e, sp)
theorem gap_ev (s : ByteArray) (hS : s.size ≤ 140737488351232) (i : Nat) (hi : i ≤ s.size) (e sp : Int) (free : Bool) :
    Ev (fun k => posthornref06_reader_gap.f k s (i : Int) e sp free) (s, ((i + rn BL ((bytesOf s).drop i) : Nat) : Int), (gapF ((bytesOf s).drop i) free i e sp).1, (gapF ((bytesOf s).drop i) free i e sp).2) := by
  have h := row_ev s (⟨#[32, 9]⟩ : ByteArray) hS (by decide) i hi e sp
  rw [show bytesOf (⟨#[32, 9]⟩ : ByteArray) = BL from by kernel_rfl] at h
  unfold posthornref06_reader_gap.f
  refine Ev.bind h (Ev.val fun k => ?_)
  dsimp only
  have hl := rn_le BL ((bytesOf s).drop i)
  unfold gapF
  by_cases h0 : rn BL ((bytesOf s).drop i) = 0
  · rw [if_pos ((strOfNums_nil _).2 (by rw [h0]; rfl))]
    cases free with
    | true => rw [if_pos rfl, if_neg (by simp)]
    | false => rw [if_neg (by simp), if_pos ⟨h0, rfl⟩, fail_f]; rfl
  · rw [if_neg (fun h => h0 (by have := (strOfNums_nil _).1 h; rw [List.length_take] at this; omega)), if_neg (fun h => h0 h.1)]
/-- One byte that must stand there. -/
theorem mark_ev (s : ByteArray) (hS : s.size ≤ 140737488351232) (i : Nat) (hi : i ≤ s.size) (e sp : Int) (all : ByteArray) (hA : all.size ≤ 1000) :
    Ev (fun k => posthornref06_reader_mark.f k s (i : Int) e sp all) (if hd (bytesOf all) ((bytesOf s).drop i) = true then (s, ((i + 1 : Nat) : Int), e, sp) else (s, (i : Int), (fl e sp 60 i).1, (fl e sp 60 i).2)) := by
  unfold posthornref06_reader_mark.f
  refine Ev.bind (is_ev s all hS hA i hi e sp) (Ev.val fun k => ?_)
  dsimp only
  split
  · rw [wrap_id _ (by omega) (by omega)]; rfl
  · rw [fail_f]; rfl
theorem number_l0 (w : List Int) (hw : ∀ x ∈ w, 48 ≤ x ∧ x ≤ 57) (hl : w.length ≤ 4) (s : ByteArray) (i e sp : Int) (d : Nat) : ∀ (j : Nat) (x : Int), w.length - j = d → j ≤ w.length → 0 ≤ x → x < 10 ^ j →
    Ev (fun k => posthornref06_reader_number.l0 k (strOfNums w) x (j : Int) s i e sp) ((w.drop j).foldl (fun x c => 10 * x + (c - 48)) x, (w.length : Int), s, i, e, sp) := by
  have hin : InB w := fun x hx => ⟨by have := hw x hx; omega, by have := hw x hx; omega⟩
  induction d with
  | zero =>
    intro j x hdd hj h0 h1
    refine Ev.last fun k => ?_
    rw [posthornref06_reader_number.l0, if_neg (by rw [strOfNums_len]; omega), List.drop_eq_nil_of_le (by omega), strOfNums_len]
    rfl
  | succ d ih =>
    intro j x hdd hj h0 h1
    have hlt : j < w.length := by omega
    have hx := hw w[j] (List.getElem_mem hlt)
    have hp : (10 : Int) ^ (j + 1) = 10 * 10 ^ j := by rw [Int.pow_succ]; omega
    have hp4 : (10 : Int) ^ j ≤ 1000 := by
      have : j = 0 ∨ j = 1 ∨ j = 2 ∨ j = 3 := by omega
      rcases this with rfl | rfl | rfl | rfl <;> decide
    rw [List.drop_eq_getElem_cons hlt, List.foldl_cons]
    refine Ev.round (f := fun k => posthornref06_reader_number.l0 k (strOfNums w) (10 * x + (w[j] - 48)) ((j + 1 : Nat) : Int) s i e sp) (fun k => ?_) (ih (j + 1) (10 * x + (w[j] - 48)) (by omega) (by omega) (by omega) (by omega))
    rw [posthornref06_reader_number.l0, if_pos (by rw [strOfNums_len]; omega), if_pos (by omega), bt_strOfNums w hin j hlt, wrap_id (10 * x) (by omega) (by omega), Int.emod_eq_of_lt (by omega) (by omega), wrap_id _ (by omega) (by omega), wrap_id _ (by omega) (by omega)]
    rfl
theorem dg_range : ∀ l : List Int, ∀ x ∈ l.take (rn DG l), 48 ≤ x ∧ x ≤ 57
  | [], x, h => by simp [rn] at h
  | c :: r, x, h => by
    unfold rn at h
    split at h
    · rename_i hc
      rw [List.take_succ_cons, List.mem_cons] at h
      rcases h with rfl | h
      · have := List.contains_iff_mem.1 hc
        unfold DG at this
        simp only [List.mem_cons, List.not_mem_nil, or_false] at this
        omega
      · exact dg_range r x h
    · simp at h
/-- A number of so many digits: its value, how many there were, the fault. -/
def numF (l : List Int) (least most : Int) (i e sp : Int) : Int × Int × Int × Int :=
  if (rn DG l : Int) < least ∨ (rn DG l : Int) > most then (0, 0, (fl e sp 60 i).1, (fl e sp 60 i).2) else ((l.take (rn DG l)).foldl (fun x c => 10 * x + (c - 48)) 0, (rn DG l : Int), e, sp)
theorem number_ev (s : ByteArray) (hS : s.size ≤ 140737488351232) (i : Nat) (hi : i ≤ s.size) (e sp least most : Int) (hm : most ≤ 4) :
    Ev (fun k => posthornref06_reader_number.f k s (i : Int) e sp least most) ((numF ((bytesOf s).drop i) least most i e sp).1, (numF ((bytesOf s).drop i) least most i e sp).2.1, s, ((i + rn DG ((bytesOf s).drop i) : Nat) : Int), (numF ((bytesOf s).drop i) least most i e sp).2.2.1, (numF ((bytesOf s).drop i) least most i e sp).2.2.2) := by
  have h := row_ev s (⟨#[48, 49, 50, 51, 52, 53, 54, 55, 56, 57]⟩ : ByteArray) hS (by decide) i hi e sp
  rw [show bytesOf (⟨#[48, 49, 50, 51, 52, 53, 54, 55, 56, 57]⟩ : ByteArray) = DG from by kernel_rfl] at h
  unfold posthornref06_reader_number.f
  refine Ev.bind h ?_
  dsimp only
  have hl := rn_le DG ((bytesOf s).drop i)
  have hr := dg_range ((bytesOf s).drop i)
  have hn : (((bytesOf s).drop i).take (rn DG ((bytesOf s).drop i))).length = rn DG ((bytesOf s).drop i) := by rw [List.length_take]; omega
  unfold numF
  generalize rn DG ((bytesOf s).drop i) = n at *
  generalize ((bytesOf s).drop i).take n = w at *
  rw [strOfNums_len, hn]
  by_cases h1 : (n : Int) < least
  · rw [if_pos (Or.inl h1)]
    simp only [if_pos h1]
    refine Ev.last fun k => ?_
    rw [posthornref06_reader_number.j0, if_pos rfl, fail_f]
    rfl
  · simp only [if_neg h1]
    by_cases h2 : (n : Int) > most
    · rw [if_pos (Or.inr h2)]
      refine Ev.last fun k => ?_
      rw [posthornref06_reader_number.j0, if_pos (decide_eq_true h2), fail_f]
      rfl
    · rw [if_neg (fun h => h.elim h1 h2)]
      have hv := number_l0 w hr (by omega) s ((i + n : Nat) : Int) e sp _ 0 0 rfl (Nat.zero_le _) (by omega) (by decide)
      refine Ev.round (f := fun k => posthornref06_reader_number.l0 k (strOfNums w) 0 0 s ((i + n : Nat) : Int) e sp) (fun k => ?_) ?_
      · rw [posthornref06_reader_number.j0, if_neg (by rw [decide_eq_false h2]; decide)]
      · rw [hn] at hv
        exact hv
end Go.Proofs.YtnmhkmkaklhapaaDoor.RR
namespace Go.Proofs.YtnmhkmkaklhapaaDoor.RR
set_option linter.unusedVariables false
set_option linter.unusedSimpArgs false
open Go.RowKit Go.Proofs.YtnmhkmkaklhapaaDoorW.PrintWords Go.Proofs.YtnmhkmkaklhapaaDoor.B Go.Proofs.YtnmhkmkaklhapaaDoor.Q Go.Proofs.YtnmhkmkaklhapaaDoor.T Go.Proofs.YtnmhkmkaklhapaaDoor.U Go.Proofs.YtnmhkmkaklhapaaDoor.MN
/-- Which three letters it is, from the k-th on. -/
def nmF (A t : List Int) : Nat → Nat → Option Nat
  | _, 0 => none
  | k, n + 1 => if (A.drop (3 * k)).take 3 = t then some k else nmF A t (k + 1) n
def nmV : Option Nat → Int
  | none => -1
  | some k => (k : Int)
def nmE (o : Option Nat) (e sp i : Int) : Int × Int := match o with | none => fl e sp 60 i | some _ => (e, sp)
theorem name_l0 (A t : List Int) (hA : InB A) (ht : InB t) (m : Nat) (hm : A.length = 3 * m) (hm2 : m ≤ 100) (s : ByteArray) (i0 i e sp : Int) (n : Nat) : ∀ k0 : Nat, k0 + n = m →
    Ev (fun k => posthornref06_reader_name.l0 k (strOfNums A) i0 (strOfNums t) (k0 : Int) s i e sp) (nmV (nmF A t k0 n), s, i, (nmE (nmF A t k0 n) e sp i0).1, (nmE (nmF A t k0 n) e sp i0).2) := by
  induction n with
  | zero =>
    intro k0 hk
    refine Ev.last fun k => ?_
    rw [posthornref06_reader_name.l0, wrap_id (3 * (k0 : Int)) (by omega) (by omega), if_neg (by rw [strOfNums_len]; omega), fail_f]
    rfl
  | succ n ih =>
    intro k0 hk
    have e3 : (3 * (k0 : Int)).toNat = 3 * k0 := by omega
    have e4 : (3 * (k0 : Int) + 3).toNat = 3 * k0 + 3 := by omega
    have hx : (strOfNums A).extract (3 * k0) (3 * k0 + 3) = strOfNums ((A.drop (3 * k0)).take 3) := by rw [cut_is A hA _ _ (by omega), Nat.add_sub_cancel_left]
    have hi3 : InB ((A.drop (3 * k0)).take 3) := fun x hx => hA x (List.mem_of_mem_drop (List.mem_of_mem_take hx))
    unfold nmF
    by_cases h : (A.drop (3 * k0)).take 3 = t
    · rw [if_pos h]
      refine Ev.last fun k => ?_
      rw [posthornref06_reader_name.l0, wrap_id (3 * (k0 : Int)) (by omega) (by omega), wrap_id (3 * (k0 : Int) + 3) (by omega) (by omega), if_pos (by rw [strOfNums_len]; omega), if_pos (by omega), if_pos (by omega), if_pos (by rw [strOfNums_len]; omega), e3, e4, hx, h, if_pos rfl]
      rfl
    · rw [if_neg h]
      have hv := ih (k0 + 1) (by omega)
      refine Ev.round (f := fun k => posthornref06_reader_name.l0 k (strOfNums A) i0 (strOfNums t) ((k0 + 1 : Nat) : Int) s i e sp) (fun k => ?_) hv
      rw [posthornref06_reader_name.l0, wrap_id (3 * (k0 : Int)) (by omega) (by omega), wrap_id (3 * (k0 : Int) + 3) (by omega) (by omega), if_pos (by rw [strOfNums_len]; omega), if_pos (by omega), if_pos (by omega), if_pos (by rw [strOfNums_len]; omega), e3, e4, hx, if_neg (fun hc => h (by have := congrArg bytesOf (toList_inj.1 hc); rw [bytesOf_strOfNums _ hi3, bytesOf_strOfNums _ ht] at this; exact this)), wrap_id ((k0 : Int) + 1) (by omega) (by omega)]
      rfl
def LT : List Int := [65, 66, 67, 68, 69, 70, 71, 72, 73, 74, 75, 76, 77, 78, 79, 80, 81, 82, 83, 84, 85, 86, 87, 88, 89, 90, 97, 98, 99, 100, 101, 102, 103, 104, 105, 106, 107, 108, 109, 110, 111, 112, 113, 114, 115, 116, 117, 118, 119, 120, 121, 122]
theorem caps_f (xs : List Int) (h : InB xs) (hl : xs.length ≤ 140737488351232) : posthornref06_capitals.f (strOfNums xs) = some (strOfNums (upL xs)) := by
  unfold posthornref06_capitals.f upS
  rw [if_pos (by rw [strOfNums_len]; exact hl), bytesOf_strOfNums _ h]
theorem name_ev (s : ByteArray) (hS : s.size ≤ 140737488351232) (i : Nat) (hi : i ≤ s.size) (e sp : Int) (A : List Int) (hA : InB A) (m : Nat) (hm : A.length = 3 * m) (hm2 : m ≤ 100) (o : Option Nat) (ho : nmF A (upL (((bytesOf s).drop i).take (rn LT ((bytesOf s).drop i)))) 0 m = o) :
    Ev (fun k => posthornref06_reader_name.f k s (i : Int) e sp (strOfNums A)) (nmV o, s, ((i + rn LT ((bytesOf s).drop i) : Nat) : Int), (nmE o e sp i).1, (nmE o e sp i).2) := by
  have h := row_ev s (⟨#[65, 66, 67, 68, 69, 70, 71, 72, 73, 74, 75, 76, 77, 78, 79, 80, 81, 82, 83, 84, 85, 86, 87, 88, 89, 90, 97, 98, 99, 100, 101, 102, 103, 104, 105, 106, 107, 108, 109, 110, 111, 112, 113, 114, 115, 116, 117, 118, 119, 120, 121, 122]⟩ : ByteArray) hS (by decide) i hi e sp
  rw [show bytesOf (⟨#[65, 66, 67, 68, 69, 70, 71, 72, 73, 74, 75, 76, 77, 78, 79, 80, 81, 82, 83, 84, 85, 86, 87, 88, 89, 90, 97, 98, 99, 100, 101, 102, 103, 104, 105, 106, 107, 108, 109, 110, 111, 112, 113, 114, 115, 116, 117, 118, 119, 120, 121, 122]⟩ : ByteArray) = LT from by kernel_rfl] at h
  unfold posthornref06_reader_name.f
  refine Ev.bind h ?_
  have hin := take_in s i (rn LT ((bytesOf s).drop i))
  have hl : (((bytesOf s).drop i).take (rn LT ((bytesOf s).drop i))).length ≤ 140737488351232 := by rw [List.length_take, List.length_drop, bytesOf_len]; omega
  refine Ev.bind (Ev.told (caps_f _ hin hl)) ?_
  have hv := name_l0 A _ hA (upL_in hin) m hm hm2 s (i : Int) ((i + rn LT ((bytesOf s).drop i) : Nat) : Int) e sp m 0 (by omega)
  rw [ho] at hv
  exact hv
end Go.Proofs.YtnmhkmkaklhapaaDoor.RR
namespace Go.Proofs.YtnmhkmkaklhapaaDoor.RR
set_option linter.unusedVariables false
set_option linter.unusedSimpArgs false
open Go.RowKit Go.Proofs.YtnmhkmkaklhapaaDoorW.PrintWords Go.Proofs.YtnmhkmkaklhapaaDoor.B Go.Proofs.YtnmhkmkaklhapaaDoor.Q Go.Proofs.YtnmhkmkaklhapaaDoor.T Go.Proofs.YtnmhkmkaklhapaaDoor.U Go.Proofs.YtnmhkmkaklhapaaDoor.MN
def znE (ok : Bool) (e sp i : Int) : Int × Int := if ok = true then (e, sp) else fl e sp 61 i
theorem str_eq (wl : List Int) (h : InB wl) (K : List UInt8) : ((strOfNums wl).toList = K) ↔ wl = K.map fun b => (b.toNat : Int) := by
  have := str_is wl h K
  constructor
  · intro hc
    rw [hc, beq_self_eq_true] at this
    exact of_decide_eq_true this.symm
  · intro hc
    rw [decide_eq_true hc] at this
    exact beq_iff_eq.1 this
theorem zone_word_ev (W : List Int) (h : InB W) (s : ByteArray) (i i0 e sp : Int) :
    Ev (fun k => if (strOfNums W).toList = ([85, 84] : List UInt8) then posthornref06_reader_zone.j1 k i0 (strOfNums W) (strOfNums W) ((strOfNums W).toList == ([85, 84] : List UInt8)) s i e sp else posthornref06_reader_zone.j1 k i0 (strOfNums W) (strOfNums W) ((strOfNums W).toList == ([71, 77, 84] : List UInt8)) s i e sp)
      ((zoneN W).1, s, i, (znE (zoneN W).2 e sp i0).1, (znE (zoneN W).2 e sp i0).2) := by
  refine ⟨10, fun k hk => ?_⟩
  obtain ⟨k, rfl⟩ : ∃ q, k = q + 10 := ⟨k - 10, by omega⟩
  simp only [posthornref06_reader_zone.j1, posthornref06_reader_zone.j2, posthornref06_reader_zone.j3, posthornref06_reader_zone.j4, str_eq W h, str_is W h, strOfNums_len, fail_f, List.map_cons, List.map_nil, Option.bind_some]
  unfold zoneN znE
  by_cases a1 : W = [85, 84]
  · subst a1; rfl
  by_cases a2 : W = [71, 77, 84]
  · subst a2; rfl
  by_cases a3 : W = [69, 68, 84]
  · subst a3; rfl
  by_cases a4 : W = [69, 83, 84]
  · subst a4; rfl
  by_cases a5 : W = [67, 68, 84]
  · subst a5; rfl
  by_cases a6 : W = [67, 83, 84]
  · subst a6; rfl
  by_cases a7 : W = [77, 68, 84]
  · subst a7; rfl
  by_cases a8 : W = [77, 83, 84]
  · subst a8; rfl
  by_cases a9 : W = [80, 68, 84]
  · subst a9; rfl
  by_cases a10 : W = [80, 83, 84]
  · subst a10; rfl
  by_cases b1 : W = [74]
  · subst b1; rfl
  by_cases b2 : W.length = 1
  · have b3 : (W.length : Int) = 1 := by omega
    simp [a1, a2, a3, a4, a5, a6, a7, a8, a9, a10, b1, b2, b3]
  · have b3 : ¬ (W.length : Int) = 1 := by omega
    simp [a1, a2, a3, a4, a5, a6, a7, a8, a9, a10, b1, b2, b3]
end Go.Proofs.YtnmhkmkaklhapaaDoor.RR
namespace Go.Proofs.YtnmhkmkaklhapaaDoor.RR
set_option linter.unusedVariables false
set_option linter.unusedSimpArgs false
open Go.RowKit Go.Proofs.YtnmhkmkaklhapaaDoorW.PrintWords Go.Proofs.YtnmhkmkaklhapaaDoor.B Go.Proofs.YtnmhkmkaklhapaaDoor.Q Go.Proofs.YtnmhkmkaklhapaaDoor.T Go.Proofs.YtnmhkmkaklhapaaDoor.U Go.Proofs.YtnmhkmkaklhapaaDoor.MN
/-- What four digits behind a sign come to. -/
def fourV (w : List Int) : Int := 60 * (10 * (w.getD 0 0 - 48) + (w.getD 1 0 - 48)) + 10 * (w.getD 2 0 - 48) + (w.getD 3 0 - 48)
def znS (c : Int) (w : List Int) : Int := if w.length = 4 ∧ w.getD 2 0 ≤ 53 then (if c = 45 then -fourV w else fourV w) else 0
def znB (w : List Int) : Bool := decide (w.length = 4 ∧ w.getD 2 0 ≤ 53)
theorem zone_j0 (w : List Int) (hw : ∀ x ∈ w, 48 ≤ x ∧ x ≤ 57) (h4 : w.length = 4) (neg : Bool) (s : ByteArray) (i i0 e sp : Int) :
    Ev (fun k => posthornref06_reader_zone.j0 k i0 neg (strOfNums w) (decide ((bt (strOfNums w) 2) > 53)) s i e sp) (if w.getD 2 0 ≤ 53 then (if neg = true then -fourV w else fourV w) else 0, s, i, (znE (decide (w.getD 2 0 ≤ 53)) e sp i0).1, (znE (decide (w.getD 2 0 ≤ 53)) e sp i0).2) := by
  obtain ⟨a, b, c, d, rfl⟩ : ∃ a b c d, w = [a, b, c, d] := by
    match w, h4 with
    | [a, b, c, d], _ => exact ⟨a, b, c, d, rfl⟩
  have ha := hw a (by simp)
  have hb := hw b (by simp)
  have hc := hw c (by simp)
  have hd := hw d (by simp)
  have hin : InB [a, b, c, d] := fun x hx => ⟨by have := hw x hx; omega, by have := hw x hx; omega⟩
  have b0 : bt (strOfNums [a, b, c, d]) 0 = a := bt_strOfNums _ hin 0 (by simp)
  have b1 : bt (strOfNums [a, b, c, d]) 1 = b := bt_strOfNums _ hin 1 (by simp)
  have b2 : bt (strOfNums [a, b, c, d]) 2 = c := bt_strOfNums _ hin 2 (by simp)
  have b3 : bt (strOfNums [a, b, c, d]) 3 = d := bt_strOfNums _ hin 3 (by simp)
  refine Ev.last fun k => ?_
  rw [posthornref06_reader_zone.j0, b0, b1, b2, b3, strOfNums_len, Int.emod_eq_of_lt (a := a - 48) (by omega) (by omega), Int.emod_eq_of_lt (a := b - 48) (by omega) (by omega), Int.emod_eq_of_lt (a := c - 48) (by omega) (by omega), Int.emod_eq_of_lt (a := d - 48) (by omega) (by omega)]
  by_cases h : c ≤ 53
  · have h2 : decide (c > 53) = false := decide_eq_false (by omega)
    rw [h2]
    cases neg <;> simp [fourV, znE, h]
  · have h2 : decide (c > 53) = true := decide_eq_true (by omega)
    rw [h2]
    simp [znE, h, fail_f]
theorem hd_lt (all : List Int) (s : ByteArray) (i : Nat) (h : hd all ((bytesOf s).drop i) = true) : i < s.size := by
  rcases Nat.lt_or_ge i s.size with k | k
  · exact k
  · rw [List.drop_eq_nil_of_le (by rw [bytesOf_len]; exact k)] at h
    cases h
theorem zone_sign_ev (s : ByteArray) (hS : s.size ≤ 140737488351232) (i : Nat) (e sp : Int) (h1 : hd [43, 45] ((bytesOf s).drop i) = true) (w : List Int) (n : Nat) (hn : rn DG ((bytesOf s).drop (i + 1)) = n) (hw : ((bytesOf s).drop (i + 1)).take n = w) :
    Ev (fun k => posthornref06_reader_zone.f k s (i : Int) e sp) (if w.length = 4 ∧ w.getD 2 0 ≤ 53 then (if hd [45] ((bytesOf s).drop i) = true then -fourV w else fourV w) else 0, s, ((i + 1 + n : Nat) : Int), (znE (znB w) e sp i).1, (znE (znB w) e sp i).2) := by
  have hlt := hd_lt _ s i h1
  have r1 := is_ev s (⟨#[43, 45]⟩ : ByteArray) hS (by decide) i (by omega) e sp
  have r2 := is_ev s (⟨#[45]⟩ : ByteArray) hS (by decide) i (by omega) e sp
  have r3 := row_ev s (⟨#[48, 49, 50, 51, 52, 53, 54, 55, 56, 57]⟩ : ByteArray) hS (by decide) (i + 1) (by omega) e sp
  rw [show bytesOf (⟨#[43, 45]⟩ : ByteArray) = [43, 45] from by kernel_rfl, h1] at r1
  rw [show bytesOf (⟨#[45]⟩ : ByteArray) = [45] from by kernel_rfl] at r2
  rw [show bytesOf (⟨#[48, 49, 50, 51, 52, 53, 54, 55, 56, 57]⟩ : ByteArray) = DG from by kernel_rfl, hn, hw] at r3
  have hr : ∀ x ∈ w, 48 ≤ x ∧ x ≤ 57 := by
    have := dg_range ((bytesOf s).drop (i + 1))
    rw [hn, hw] at this
    exact this
  unfold posthornref06_reader_zone.f
  refine Ev.bind r1 ?_
  simp only [if_true]
  refine Ev.bind r2 ?_
  simp only [wrap_id ((i : Int) + 1) (by omega) (by omega)]
  refine Ev.bind r3 ?_
  simp only [strOfNums_len]
  by_cases h4 : w.length = 4
  · simp only [if_pos (show (w.length : Int) = 4 by omega), if_pos (show (2 : Int) < (w.length : Int) by omega)]
    have hv := zone_j0 w hr h4 (hd [45] ((bytesOf s).drop i)) s ((i + 1 + n : Nat) : Int) (i : Int) e sp
    have hb : znB w = decide (w.getD 2 0 ≤ 53) := by unfold znB; simp [h4]
    rw [hb]
    by_cases h5 : w.getD 2 0 ≤ 53
    · rw [if_pos ⟨h4, h5⟩]; rw [if_pos h5] at hv; exact hv
    · rw [if_neg (fun h => h5 h.2)]; rw [if_neg h5] at hv; exact hv
  · simp only [if_neg (show ¬ (w.length : Int) = 4 by omega)]
    have hb : znB w = false := by unfold znB; simp [h4]
    rw [hb, if_neg (fun h => h4 h.1)]
    refine Ev.last fun k => ?_
    rw [posthornref06_reader_zone.j0, if_pos rfl, fail_f]
    rfl
theorem zone_plain_ev (s : ByteArray) (hS : s.size ≤ 140737488351232) (i : Nat) (hi : i ≤ s.size) (e sp : Int) (h1 : hd [43, 45] ((bytesOf s).drop i) = false) (W : List Int) (hW : upL (((bytesOf s).drop i).take (rn LT ((bytesOf s).drop i))) = W) :
    Ev (fun k => posthornref06_reader_zone.f k s (i : Int) e sp) ((zoneN W).1, s, ((i + rn LT ((bytesOf s).drop i) : Nat) : Int), (znE (zoneN W).2 e sp i).1, (znE (zoneN W).2 e sp i).2) := by
  have r1 := is_ev s (⟨#[43, 45]⟩ : ByteArray) hS (by decide) i hi e sp
  rw [show bytesOf (⟨#[43, 45]⟩ : ByteArray) = [43, 45] from by kernel_rfl, h1] at r1
  have h := row_ev s (⟨#[65, 66, 67, 68, 69, 70, 71, 72, 73, 74, 75, 76, 77, 78, 79, 80, 81, 82, 83, 84, 85, 86, 87, 88, 89, 90, 97, 98, 99, 100, 101, 102, 103, 104, 105, 106, 107, 108, 109, 110, 111, 112, 113, 114, 115, 116, 117, 118, 119, 120, 121, 122]⟩ : ByteArray) hS (by decide) i hi e sp
  rw [show bytesOf (⟨#[65, 66, 67, 68, 69, 70, 71, 72, 73, 74, 75, 76, 77, 78, 79, 80, 81, 82, 83, 84, 85, 86, 87, 88, 89, 90, 97, 98, 99, 100, 101, 102, 103, 104, 105, 106, 107, 108, 109, 110, 111, 112, 113, 114, 115, 116, 117, 118, 119, 120, 121, 122]⟩ : ByteArray) = LT from by kernel_rfl] at h
  have hin := take_in s i (rn LT ((bytesOf s).drop i))
  have hl : (((bytesOf s).drop i).take (rn LT ((bytesOf s).drop i))).length ≤ 140737488351232 := by rw [List.length_take, List.length_drop, bytesOf_len]; omega
  unfold posthornref06_reader_zone.f
  refine Ev.bind r1 ?_
  simp only [Bool.false_eq_true, if_false]
  refine Ev.bind h ?_
  refine Ev.bind (Ev.told (caps_f _ hin hl)) ?_
  have hv := zone_word_ev (upL (((bytesOf s).drop i).take (rn LT ((bytesOf s).drop i)))) (upL_in hin) s ((i + rn LT ((bytesOf s).drop i) : Nat) : Int) (i : Int) e sp
  rw [hW] at hv ⊢
  exact hv
end Go.Proofs.YtnmhkmkaklhapaaDoor.RR
namespace Go.Proofs.YtnmhkmkaklhapaaDoor.RR
set_option linter.unusedVariables false
set_option linter.unusedSimpArgs false
open Go.RowKit Go.Proofs.YtnmhkmkaklhapaaDoorW.PrintWords Go.Proofs.YtnmhkmkaklhapaaDoorW.PrintLast Go.Proofs.YtnmhkmkaklhapaaDoorW.PrintMore Go.Proofs.YtnmhkmkaklhapaaDoor.B Go.Proofs.YtnmhkmkaklhapaaDoor.Q Go.Proofs.YtnmhkmkaklhapaaDoor.T
/-- How many bytes of a remark's text stand ahead. -/
def tx : List Int → Nat
  | [] => 0
  | c :: r => if 32 ≤ c ∧ c ≤ 126 ∧ ([40, 41, 92] : List Int).contains c = false then tx r + 1 else 0
/-- Behind a remark: the place, the fault. -/
def remF (l : List Int) (i : Nat) (e sp : Int) : Nat × Int × Int :=
  if hd [40] l = false then (i, e, sp) else
  if hd [41] (l.drop (1 + tx (l.drop 1))) = true then (i + 1 + tx (l.drop 1) + 1, e, sp) else (i + 1 + tx (l.drop 1), (fl e sp 60 i).1, (fl e sp 60 i).2)
/-- The reader stands. -/
def RS (w0 w : World) (g : Nat) (s : ByteArray) (i : Nat) (e sp : Int) (W : World) : Prop := IsS67 w0 W g s (i : Int) e sp ∧ Below w0.heap.size w0 W ∧ KeepBut w W g none
theorem RS.drew {w0 w W : World} {g : Nat} {s : ByteArray} {i : Nat} {e sp : Int} (h : RS w0 w g s i e sp W) : RS w0 w g s i e sp W.drew := ⟨h.1.drew, below_drew1 h.2.1, keep_drew h.2.2⟩
theorem RS.drewN {w0 w W : World} {g : Nat} {s : ByteArray} {i : Nat} {e sp : Int} (h : RS w0 w g s i e sp W) (n : Nat) : RS w0 w g s i e sp (W.drewN n) := ⟨h.1.drewN n, pw_below_drewN h.2.1 n, keep_drewN h.2.2 n⟩
theorem RS.full {w0 w W : World} {g : Nat} {s : ByteArray} {i : Nat} {e sp : Int} (h : RS w0 w g s i e sp W) : RS w0 w g s i e sp W ∧ W.cell? ⟨g, 0, none⟩ = some (.string s) ∧ W.cell? ⟨g, 1, none⟩ = some (.int .i64 (i : Int)) ∧ W.frozen? ⟨g, 1, none⟩ = false := ⟨h, cellS67_0 h.1.1, cellS67_1 h.1.1, blk_frozen h.1.1 1⟩
theorem RS.of_full {w0 w W : World} {g : Nat} {s : ByteArray} {i : Nat} {e sp : Int} (h : RS w0 w g s i e sp W ∧ W.cell? ⟨g, 0, none⟩ = some (.string s) ∧ W.cell? ⟨g, 1, none⟩ = some (.int .i64 (i : Int)) ∧ W.frozen? ⟨g, 1, none⟩ = false) : RS w0 w g s i e sp W := h.1
theorem RS.next {w0 w W : World} {g : Nat} {s : ByteArray} {i : Nat} {e sp : Int} (h : RS w0 w g s i e sp W) (j : Nat) : RS w0 w g s j e sp (W.setCell ⟨g, 1, none⟩ (.int .i64 (j : Int))) := ⟨h.1.set_1 _, below_set h.2.1 (IsS67.ge h.1), KeepBut.set_ h.2.2 _ _⟩
theorem is_calls (w0 w : World) (g : Nat) (s all : ByteArray) (hS : s.size ≤ 140737488351232) (hA : all.size ≤ 1000) (i : Nat) (hi : i ≤ s.size) (e sp : Int) (W : World) (h : RS w0 w g s i e sp W) :
    Calls Tryd.prog 39 #[.pointer (some ⟨g, 0, none⟩), .string all] W fun x W' => x = .returned (.bool (hd (bytesOf all) ((bytesOf s).drop i))) ∧ RS w0 w g s i e sp W' := by
  obtain ⟨k, hk⟩ := is_ev s all hS hA i hi e sp
  refine (posthornref06_reader_is.calls k g s i e sp all _ _ _ _ _ w0 W h.1 h.2.1 (hk k (Nat.le_refl _))).mono fun x W' hx => ?_
  exact ⟨hx.1, hx.2.1, hx.2.2.1, KeepBut.trans h.2.2 hx.2.2.2 (Or.inl rfl)⟩
theorem is_callsq (w0 w : World) (g : Nat) (s all : ByteArray) (q : Bool) (hS : s.size ≤ 140737488351232) (hA : all.size ≤ 1000) (i : Nat) (hi : i ≤ s.size) (e sp : Int) (hq : hd (bytesOf all) ((bytesOf s).drop i) = q) (W : World) (h : RS w0 w g s i e sp W) :
    Calls Tryd.prog 39 #[.pointer (some ⟨g, 0, none⟩), .string all] W fun x W' => x = .returned (.bool q) ∧ RS w0 w g s i e sp W' := hq ▸ is_calls w0 w g s all hS hA i hi e sp W h
theorem fail_calls (w0 w : World) (g : Nat) (s : ByteArray) (i : Nat) (e sp err pos : Int) (W : World) (h : RS w0 w g s i e sp W) :
    Calls Tryd.prog 45 #[.pointer (some ⟨g, 0, none⟩), .int .i64 err, .int .i64 pos] W fun x W' => x = .returned (.tuple #[]) ∧ RS w0 w g s i (fl e sp err pos).1 (fl e sp err pos).2 W' := by
  refine (posthornref06_reader_fail.calls g s i e sp err pos _ _ _ _ w0 W h.1 h.2.1 (fail_f s i e sp err pos)).mono fun x W' hx => ?_
  exact ⟨hx.1, hx.2.1, hx.2.2.1, KeepBut.trans h.2.2 hx.2.2.2 (Or.inl rfl)⟩
set_option maxHeartbeats 1000000 in
set_option maxRecDepth 100000 in
theorem remark_no (w0 w : World) (g : Nat) (s : ByteArray) (hS : s.size ≤ 140737488351232) (i : Nat) (hi : i ≤ s.size) (e sp : Int) (h : RS w0 w g s i e sp w) (h0 : hd [40] ((bytesOf s).drop i) = false) :
    Calls Tryd.prog 44 #[.pointer (some ⟨g, 0, none⟩)] w fun x W => x = .returned (.tuple #[]) ∧ RS w0 w g s i e sp W := by
  have HS := Aside0.mk h
  have HB := Aside0.mk (And.intro hS hi)
  have e0 : bytesOf (⟨#[40]⟩ : ByteArray) = [40] := by kernel_rfl
  have H0 : Aside0 (hd (bytesOf (⟨#[40]⟩ : ByteArray)) ((bytesOf s).drop i) = false) := ⟨by rw [e0]; exact h0⟩
  clear h hS hi e0 h0
  go_enter Tryd.func44, Tryd.ntmps44
  go_wp2_with (first
    | ((go_at_call 39); (with_reducible refine (is_calls w0 w g s _ HB.out.1 (by decide) i HB.out.2 e sp _ HS.out).mono ?_); rintro x w1 ⟨rfl, hb⟩; rw [H0.out]; have H1 := Aside0.mk hb; clear hb))
  first | go_end0 | ((try simp only [Exit.inBlock, Exit.then]); refine bodyPost_ret (results_none rfl _ _ _) rfl ?_)
  exact ⟨rfl, H1.out⟩
set_option maxHeartbeats 2000000 in
set_option maxRecDepth 100000 in
theorem remark_yes (w0 w : World) (g : Nat) (s : ByteArray) (hS : s.size ≤ 140737488351232) (i : Nat) (hi : i < s.size) (e sp : Int) (h : RS w0 w g s i e sp w) (h0 : hd [40] ((bytesOf s).drop i) = true) (z : Nat) (hz : i + 1 + tx ((bytesOf s).drop (i + 1)) = z) (b : Bool) (hb : hd [41] ((bytesOf s).drop z) = b) :
    Calls Tryd.prog 44 #[.pointer (some ⟨g, 0, none⟩)] w fun x W => x = .returned (.tuple #[]) ∧ (if b = true then RS w0 w g s (z + 1) e sp W else RS w0 w g s z (fl e sp 60 i).1 (fl e sp 60 i).2 W) := by
  have HS := Aside0.mk h
  have HB := Aside0.mk (And.intro hS (Nat.le_of_lt hi))
  have e0 : bytesOf (⟨#[40]⟩ : ByteArray) = [40] := by kernel_rfl
  have H0 : Aside0 (hd (bytesOf (⟨#[40]⟩ : ByteArray)) ((bytesOf s).drop i) = true) := ⟨by rw [e0]; exact h0⟩
  have q1 : IntKind.i64.wrap ((i : Int) + 1) = ((i + 1 : Nat) : Int) := by rw [i64_w, wrap_id _ (by omega) (by omega)]; rfl
  have HZ := Aside0.mk hz
  have HI := Aside0.mk hi
  clear h hS hi e0 h0 hz
  go_enter Tryd.func44, Tryd.ntmps44
  go_wp2_with (first
    | ((go_at_call 39); (with_reducible refine (is_calls w0 w g s _ HB.out.1 (by decide) i HB.out.2 e sp _ HS.out).mono ?_); rintro x w1 ⟨rfl, hb⟩; rw [H0.out]; have H1 := Aside0.mk hb; obtain ⟨c0, c1, f1⟩ := (RS.full hb).2; clear hb))
  go_loopg [] s.size (fun kq W => ∃ j : Nat, Aside0 (i + 1 ≤ j ∧ j ≤ s.size ∧ s.size - j ≤ kq ∧ j + tx ((bytesOf s).drop j) = z) ∧ Aside0 (RS w0 w g s j e sp W))
  case atStart => exact ⟨i + 1, ⟨Nat.le_refl _, HI.out, by omega, HZ.out⟩, ⟨RS.next H1.out (i + 1)⟩⟩
  case round =>
    obtain ⟨j, HJ, HR⟩ := hrel
    obtain ⟨-, d0, d1, g1⟩ := RS.full HR.out
    obtain ⟨hj1, hj2, hj3, hj4⟩ := HJ.out
    have hS := HB.out.1
    have e41 : Aside0 (bytesOf (⟨#[41]⟩ : ByteArray) = [41]) := ⟨by kernel_rfl⟩
    by_cases hlt : j < s.size
    · rw [bt_drop s j hlt] at hj4
      unfold tx at hj4
      have hlt2 : decide ((j : Int) < (s.size : Int)) = true := decide_eq_true (by omega)
      obtain ⟨c, hc⟩ : ∃ c, bt s (j : Int) = c := ⟨_, rfl⟩
      have hx8 : ∀ h : j < s.size, ((s[j]'h).toNat : Int) = c := fun h => (bt_at s (j : Int) h).trans hc
      have hx9 := hx8 hlt
      rw [hc] at hj4
      have p1 := eq_true (show (0 : Int) ≤ (j : Int) by omega)
      have p2 := eq_true (show (j : Int) < (s.size : Int) by omega)
      have HC := Aside0.mk hc
      clear hc
      by_cases h1 : 32 ≤ c
      · have k1 : decide (32 ≤ c) = true := decide_eq_true h1
        by_cases h2 : c ≤ 126
        · have k2 : decide (c ≤ 126) = true := decide_eq_true h2
          have e3 : bytesOf (⟨#[40, 41, 92]⟩ : ByteArray) = [40, 41, 92] := by kernel_rfl
          obtain ⟨q, hq⟩ : ∃ q, ([40, 41, 92] : List Int).contains c = q := ⟨_, rfl⟩
          have Hd : Aside0 (hd (bytesOf (⟨#[40, 41, 92]⟩ : ByteArray)) ((bytesOf s).drop j) = q) := ⟨by rw [e3, bt_drop s j hlt, HC.out]; exact hq⟩
          clear e3
          cases q with
          | false =>
            rw [if_pos ⟨h1, h2, hq⟩] at hj4
            clear hq
            cases gk with
            | zero => omega
            | succ k9 =>
            have HJ2 := Aside0.mk (show i + 1 ≤ j + 1 ∧ j + 1 ≤ s.size ∧ s.size - (j + 1) ≤ k9 ∧ j + 1 + tx ((bytesOf s).drop (j + 1)) = z from ⟨by omega, by omega, by omega, by omega⟩)
            have q2 : IntKind.i64.wrap ((j : Int) + 1) = ((j + 1 : Nat) : Int) := by rw [i64_w, wrap_id _ (by omega) (by omega)]; rfl
            clear hj1 hj2 hj3 hj4 hb
            go_wp2_with (fail)
            go_region_held3 (fun W => RS w0 w g s j e sp W ∧ W.cell? ⟨g, 0, none⟩ = some (.string s) ∧ W.cell? ⟨g, 1, none⟩ = some (.int .i64 (j : Int)) ∧ W.frozen? ⟨g, 1, none⟩ = false) (first | assumption | exact RS.full HR.out | exact RS.full HR.out.drew | exact RS.full (by assumption) | exact RS.full (RS.drew (RS.of_full (by assumption)))) (((go_at_call 39; (with_reducible refine (is_callsq w0 w g s _ _ HB.out.1 (by decide) j HJ.out.2.1 e sp Hd.out _ (RS.of_full (by first | assumption | exact RS.full HR.out.drew | exact RS.full HR.out))).mono ?_); rintro x w9 ⟨rfl, hb9⟩; have hpp : RS w0 w g s j e sp w9 := hb9; clear hb9)))
            have H9 := Aside0.mk (show RS w0 w g s j e sp _ from RS.of_full (by assumption))
            go_wp2
            go_roundg k9
            case measure => omega
            case rel => exact ⟨j + 1, HJ2, ⟨RS.next H9.out (j + 1)⟩⟩
          | true =>
            rw [if_neg (fun h => by rw [hq] at h; cases h.2.2)] at hj4
            clear hq
            obtain rfl : j = z := by omega
            have Hb : Aside0 (hd (bytesOf (⟨#[41]⟩ : ByteArray)) ((bytesOf s).drop j) = b) := ⟨by rw [e41.out]; exact hb⟩
            have q2 : IntKind.i64.wrap ((j : Int) + 1) = ((j + 1 : Nat) : Int) := by rw [i64_w, wrap_id _ (by omega) (by omega)]; rfl
            clear hj1 hj2 hj3 hj4 hb
            go_wp2_with (fail)
            go_region_held3 (fun W => RS w0 w g s j e sp W ∧ W.cell? ⟨g, 0, none⟩ = some (.string s) ∧ W.cell? ⟨g, 1, none⟩ = some (.int .i64 (j : Int)) ∧ W.frozen? ⟨g, 1, none⟩ = false) (first | assumption | exact RS.full HR.out | exact RS.full HR.out.drew | exact RS.full (by assumption) | exact RS.full (RS.drew (RS.of_full (by assumption)))) (((go_at_call 39; (with_reducible refine (is_callsq w0 w g s _ _ HB.out.1 (by decide) j HJ.out.2.1 e sp Hd.out _ (RS.of_full (by first | assumption | exact RS.full HR.out.drew | exact RS.full HR.out))).mono ?_); rintro x w9 ⟨rfl, hb9⟩; have hpp : RS w0 w g s j e sp w9 := hb9; clear hb9)))
            have H9 := Aside0.mk (show RS w0 w g s j e sp _ from RS.of_full (by assumption))
            cases b with
            | true =>
              go_wp2_with (first
                | ((go_at_call 39); (with_reducible refine (is_calls w0 w g s _ HB.out.1 (by decide) j HJ.out.2.1 e sp _ (by first | exact H9.out | exact H9.out.drew | exact H9.out.drewN _)).mono ?_); rintro x w2 ⟨rfl, hb2⟩; rw [Hb.out]; have H2 := Aside0.mk hb2; obtain ⟨m0, m1, n1⟩ := (RS.full hb2).2; clear hb2))
              go_end0
              exact ⟨rfl, RS.next H2.out (j + 1)⟩
            | false =>
              go_wp2_with (first
                | ((go_at_call 39); (with_reducible refine (is_calls w0 w g s _ HB.out.1 (by decide) j HJ.out.2.1 e sp _ (by first | exact H9.out | exact H9.out.drew | exact H9.out.drewN _)).mono ?_); rintro x w2 ⟨rfl, hb2⟩; rw [Hb.out]; have H2 := Aside0.mk hb2; obtain ⟨m0, m1, n1⟩ := (RS.full hb2).2; clear hb2)
                | ((go_at_call 45); (with_reducible refine (fail_calls w0 w g s j e sp 60 (i : Int) _ H2.out).mono ?_); rintro x w3 ⟨rfl, hb3⟩; have H3 := Aside0.mk hb3; clear hb3))
              first | go_end0 | ((try simp only [Exit.inBlock, Exit.then]); refine bodyPost_ret (results_none rfl _ _ _) rfl ?_)
              exact ⟨rfl, H3.out⟩
        · have k2 : decide (c ≤ 126) = false := decide_eq_false h2
          rw [if_neg (fun h => h2 h.2.1)] at hj4
          obtain rfl : j = z := by omega
          have Hb : Aside0 (hd (bytesOf (⟨#[41]⟩ : ByteArray)) ((bytesOf s).drop j) = b) := ⟨by rw [e41.out]; exact hb⟩
          have q2 : IntKind.i64.wrap ((j : Int) + 1) = ((j + 1 : Nat) : Int) := by rw [i64_w, wrap_id _ (by omega) (by omega)]; rfl
          clear hj1 hj2 hj3 hj4 hb
          go_wp2_with (fail)
          (go_quiet (fail))
          cases b with
          | true =>
            go_wp2_with (first
              | ((go_at_call 39); (with_reducible refine (is_calls w0 w g s _ HB.out.1 (by decide) j HJ.out.2.1 e sp _ (by first | exact HR.out | exact HR.out.drew | exact HR.out.drewN _)).mono ?_); rintro x w2 ⟨rfl, hb2⟩; rw [Hb.out]; have H2 := Aside0.mk hb2; obtain ⟨m0, m1, n1⟩ := (RS.full hb2).2; clear hb2))
            go_end0
            exact ⟨rfl, RS.next H2.out (j + 1)⟩
          | false =>
            go_wp2_with (first
              | ((go_at_call 39); (with_reducible refine (is_calls w0 w g s _ HB.out.1 (by decide) j HJ.out.2.1 e sp _ (by first | exact HR.out | exact HR.out.drew | exact HR.out.drewN _)).mono ?_); rintro x w2 ⟨rfl, hb2⟩; rw [Hb.out]; have H2 := Aside0.mk hb2; obtain ⟨m0, m1, n1⟩ := (RS.full hb2).2; clear hb2)
              | ((go_at_call 45); (with_reducible refine (fail_calls w0 w g s j e sp 60 (i : Int) _ H2.out).mono ?_); rintro x w3 ⟨rfl, hb3⟩; have H3 := Aside0.mk hb3; clear hb3))
            first | go_end0 | ((try simp only [Exit.inBlock, Exit.then]); refine bodyPost_ret (results_none rfl _ _ _) rfl ?_)
            exact ⟨rfl, H3.out⟩
      · have k1 : decide (32 ≤ c) = false := decide_eq_false h1
        rw [if_neg (fun h => h1 h.1)] at hj4
        obtain rfl : j = z := by omega
        have Hb : Aside0 (hd (bytesOf (⟨#[41]⟩ : ByteArray)) ((bytesOf s).drop j) = b) := ⟨by rw [e41.out]; exact hb⟩
        have q2 : IntKind.i64.wrap ((j : Int) + 1) = ((j + 1 : Nat) : Int) := by rw [i64_w, wrap_id _ (by omega) (by omega)]; rfl
        clear hj1 hj2 hj3 hj4 hb
        go_wp2_with (fail)
        (go_quiet (fail))
        cases b with
        | true =>
          go_wp2_with (first
            | ((go_at_call 39); (with_reducible refine (is_calls w0 w g s _ HB.out.1 (by decide) j HJ.out.2.1 e sp _ (by first | exact HR.out | exact HR.out.drew | exact HR.out.drewN _)).mono ?_); rintro x w2 ⟨rfl, hb2⟩; rw [Hb.out]; have H2 := Aside0.mk hb2; obtain ⟨m0, m1, n1⟩ := (RS.full hb2).2; clear hb2))
          go_end0
          exact ⟨rfl, RS.next H2.out (j + 1)⟩
        | false =>
          go_wp2_with (first
            | ((go_at_call 39); (with_reducible refine (is_calls w0 w g s _ HB.out.1 (by decide) j HJ.out.2.1 e sp _ (by first | exact HR.out | exact HR.out.drew | exact HR.out.drewN _)).mono ?_); rintro x w2 ⟨rfl, hb2⟩; rw [Hb.out]; have H2 := Aside0.mk hb2; obtain ⟨m0, m1, n1⟩ := (RS.full hb2).2; clear hb2)
            | ((go_at_call 45); (with_reducible refine (fail_calls w0 w g s j e sp 60 (i : Int) _ H2.out).mono ?_); rintro x w3 ⟨rfl, hb3⟩; have H3 := Aside0.mk hb3; clear hb3))
          first | go_end0 | ((try simp only [Exit.inBlock, Exit.then]); refine bodyPost_ret (results_none rfl _ _ _) rfl ?_)
          exact ⟨rfl, H3.out⟩
    · have hlt2 : decide ((j : Int) < (s.size : Int)) = false := decide_eq_false (by omega)
      rw [List.drop_eq_nil_of_le (by rw [bytesOf_len]; omega)] at hj4
      unfold tx at hj4
      obtain rfl : j = z := by omega
      have Hb : Aside0 (hd (bytesOf (⟨#[41]⟩ : ByteArray)) ((bytesOf s).drop j) = b) := ⟨by rw [e41.out]; exact hb⟩
      have q2 : IntKind.i64.wrap ((j : Int) + 1) = ((j + 1 : Nat) : Int) := by rw [i64_w, wrap_id _ (by omega) (by omega)]; rfl
      clear hj1 hj2 hj3 hj4 hb
      go_wp2_with (fail)
      (go_quiet (fail))
      cases b with
      | true =>
        go_wp2_with (first
          | ((go_at_call 39); (with_reducible refine (is_calls w0 w g s _ HB.out.1 (by decide) j HJ.out.2.1 e sp _ (by first | exact HR.out | exact HR.out.drew | exact HR.out.drewN _)).mono ?_); rintro x w2 ⟨rfl, hb2⟩; rw [Hb.out]; have H2 := Aside0.mk hb2; obtain ⟨m0, m1, n1⟩ := (RS.full hb2).2; clear hb2))
        go_end0
        exact ⟨rfl, RS.next H2.out (j + 1)⟩
      | false =>
        go_wp2_with (first
          | ((go_at_call 39); (with_reducible refine (is_calls w0 w g s _ HB.out.1 (by decide) j HJ.out.2.1 e sp _ (by first | exact HR.out | exact HR.out.drew | exact HR.out.drewN _)).mono ?_); rintro x w2 ⟨rfl, hb2⟩; rw [Hb.out]; have H2 := Aside0.mk hb2; obtain ⟨m0, m1, n1⟩ := (RS.full hb2).2; clear hb2)
          | ((go_at_call 45); (with_reducible refine (fail_calls w0 w g s j e sp 60 (i : Int) _ H2.out).mono ?_); rintro x w3 ⟨rfl, hb3⟩; have H3 := Aside0.mk hb3; clear hb3))
        first | go_end0 | ((try simp only [Exit.inBlock, Exit.then]); refine bodyPost_ret (results_none rfl _ _ _) rfl ?_)
        exact ⟨rfl, H3.out⟩
end Go.Proofs.YtnmhkmkaklhapaaDoor.RR
namespace Go.Proofs.YtnmhkmkaklhapaaDoor.MN
set_option linter.unusedVariables false
set_option linter.unusedSimpArgs false
open Go.RowKit Go.Proofs.YtnmhkmkaklhapaaDoorW.PrintWords Go.Proofs.YtnmhkmkaklhapaaDoor.B Go.Proofs.YtnmhkmkaklhapaaDoor.Q Go.Proofs.YtnmhkmkaklhapaaDoor.RR
def posthornref06_reader_remark.f (s : ByteArray) (i e sp : Int) : Option (ByteArray × Int × Int × Int) :=
  if s.size ≤ 140737488351232 ∧ 0 ≤ i ∧ i ≤ (s.size : Int) then some (s, ((remF ((bytesOf s).drop i.toNat) i.toNat e sp).1 : Int), (remF ((bytesOf s).drop i.toNat) i.toNat e sp).2.1, (remF ((bytesOf s).drop i.toNat) i.toNat e sp).2.2) else none
theorem posthornref06_reader_remark.calls (g : Nat) (s : ByteArray) (i e sp : Int) (r1 : ByteArray) (r2 r3 r4 : Int) (w0 w : World) (hI : IsS67 w0 w g s i e sp) (hB : Below w0.heap.size w0 w) (h : posthornref06_reader_remark.f s i e sp = some (r1, r2, r3, r4)) :
    Calls Tryd.prog 44 #[.pointer (some ⟨g, 0, none⟩)] w fun x w' => x = .returned (.tuple #[]) ∧ IsS67 w0 w' g r1 r2 r3 r4 ∧ Below w0.heap.size w0 w' ∧ KeepBut w w' g none := by
  unfold posthornref06_reader_remark.f at h
  split at h
  · rename_i hb
    obtain ⟨hS, h0, h1⟩ := hb
    obtain ⟨n, rfl⟩ := Int.eq_ofNat_of_zero_le h0
    have hn : n ≤ s.size := by omega
    rw [Int.toNat_natCast] at h
    simp only [Option.some.injEq, Prod.mk.injEq] at h
    obtain ⟨rfl, rfl, rfl, rfl⟩ := h
    have hR : RS w0 w g s n e sp w := ⟨hI, hB, KeepBut.refl w g none⟩
    by_cases hh : hd [40] ((bytesOf s).drop n) = false
    · unfold remF
      rw [if_pos hh]
      exact (remark_no w0 w g s hS n hn e sp hR hh).mono fun x W hx => ⟨hx.1, hx.2.1, hx.2.2.1, hx.2.2.2⟩
    · have hh2 : hd [40] ((bytesOf s).drop n) = true := Bool.of_not_eq_false hh
      have hlt : n < s.size := by
        rcases Nat.lt_or_ge n s.size with k | k
        · exact k
        · rw [List.drop_eq_nil_of_le (by rw [bytesOf_len]; exact k)] at hh2; cases hh2
      have hd2 : ((bytesOf s).drop n).drop 1 = (bytesOf s).drop (n + 1) := by rw [List.drop_drop]
      have hd3 : ((bytesOf s).drop n).drop (1 + tx ((bytesOf s).drop (n + 1))) = (bytesOf s).drop (n + 1 + tx ((bytesOf s).drop (n + 1))) := by rw [List.drop_drop]; congr 1; omega
      have := remark_yes w0 w g s hS n hlt e sp hR hh2 _ rfl _ rfl
      unfold remF
      rw [if_neg hh, hd2, hd3]
      split
      · rename_i hq
        exact this.mono fun x W hx => by
          have h2 := hx.2
          rw [if_pos hq] at h2
          exact ⟨hx.1, h2.1, h2.2.1, h2.2.2⟩
      · rename_i hq
        exact this.mono fun x W hx => by
          have h2 := hx.2
          rw [if_neg hq] at h2
          exact ⟨hx.1, h2.1, h2.2.1, h2.2.2⟩
  · cases h
end Go.Proofs.YtnmhkmkaklhapaaDoor.MN
namespace Go.Proofs.YtnmhkmkaklhapaaDoor.RR
set_option linter.unusedVariables false
set_option linter.unusedSimpArgs false
open Go.RowKit Go.Proofs.YtnmhkmkaklhapaaDoorW.PrintWords Go.Proofs.YtnmhkmkaklhapaaDoor.B Go.Proofs.YtnmhkmkaklhapaaDoor.T Go.Proofs.YtnmhkmkaklhapaaDoor.U Go.Proofs.YtnmhkmkaklhapaaDoor.Chk
/-- Where the reader stands, and the first fault. -/
structure Q3 where
  i : Nat
  e : Int
  sp : Int
def gapR (L : List Int) (free : Bool) (q : Q3) : Q3 := ⟨q.i + rn BL (L.drop q.i), (gapF (L.drop q.i) free q.i q.e q.sp).1, (gapF (L.drop q.i) free q.i q.e q.sp).2⟩
def numR (L : List Int) (a b : Int) (q : Q3) : Int × Int × Q3 := ((numF (L.drop q.i) a b q.i q.e q.sp).1, (numF (L.drop q.i) a b q.i q.e q.sp).2.1, ⟨q.i + rn DG (L.drop q.i), (numF (L.drop q.i) a b q.i q.e q.sp).2.2.1, (numF (L.drop q.i) a b q.i q.e q.sp).2.2.2⟩)
def markR (L : List Int) (c : Int) (q : Q3) : Q3 := if hd [c] (L.drop q.i) = true then ⟨q.i + 1, q.e, q.sp⟩ else ⟨q.i, (fl q.e q.sp 60 q.i).1, (fl q.e q.sp 60 q.i).2⟩
def nameO (L A : List Int) (m : Nat) (q : Q3) : Option Nat := nmF A (upL ((L.drop q.i).take (rn LT (L.drop q.i)))) 0 m
def nameR (L A : List Int) (m : Nat) (q : Q3) : Int × Q3 := (nmV (nameO L A m q), ⟨q.i + rn LT (L.drop q.i), (nmE (nameO L A m q) q.e q.sp q.i).1, (nmE (nameO L A m q) q.e q.sp q.i).2⟩)
def signW (L : List Int) (q : Q3) : List Int := (L.drop (q.i + 1)).take (rn DG (L.drop (q.i + 1)))
def wordW (L : List Int) (q : Q3) : List Int := upL ((L.drop q.i).take (rn LT (L.drop q.i)))
def zoneR (L : List Int) (q : Q3) : Int × Q3 :=
  if hd [43, 45] (L.drop q.i) = true then
    (if (signW L q).length = 4 ∧ (signW L q).getD 2 0 ≤ 53 then (if hd [45] (L.drop q.i) = true then -fourV (signW L q) else fourV (signW L q)) else 0,
     ⟨q.i + 1 + rn DG (L.drop (q.i + 1)), (znE (znB (signW L q)) q.e q.sp q.i).1, (znE (znB (signW L q)) q.e q.sp q.i).2⟩)
  else ((zoneN (wordW L q)).1, ⟨q.i + rn LT (L.drop q.i), (znE (zoneN (wordW L q)).2 q.e q.sp q.i).1, (znE (zoneN (wordW L q)).2 q.e q.sp q.i).2⟩)
def remR (L : List Int) (q : Q3) : Q3 := ⟨(remF (L.drop q.i) q.i q.e q.sp).1, (remF (L.drop q.i) q.i q.e q.sp).2.1, (remF (L.drop q.i) q.i q.e q.sp).2.2⟩
def endR (L : List Int) (q : Q3) : Q3 := if q.i < L.length then ⟨q.i, (fl q.e q.sp 60 q.i).1, (fl q.e q.sp 60 q.i).2⟩ else q
def WKU : List Int := [83, 85, 78, 77, 79, 78, 84, 85, 69, 87, 69, 68, 84, 72, 85, 70, 82, 73, 83, 65, 84]
def MOU : List Int := [74, 65, 78, 70, 69, 66, 77, 65, 82, 65, 80, 82, 77, 65, 89, 74, 85, 78, 74, 85, 76, 65, 85, 71, 83, 69, 80, 79, 67, 84, 78, 79, 86, 68, 69, 67]
def headR (L : List Int) (q : Q3) : Int × Q3 := if hd LT (L.drop q.i) = true then ((nameR L WKU 7 q).1, gapR L true (markR L 44 (nameR L WKU 7 q).2)) else (-1, q)
def secR (L : List Int) (q : Q3) : Int × Q3 := if hd [58] (L.drop q.i) = true then ((numR L 2 2 ⟨q.i + 1, q.e, q.sp⟩).1, (numR L 2 2 ⟨q.i + 1, q.e, q.sp⟩).2.2) else (0, q)
def yearR (n y : Int) : Int := if n = 2 ∧ y < 50 then y + 2000 else if n < 4 then y + 1900 else y
def F9 (L : List Int) (nm a za : Int) (d : Dte) (z : Int) (q : Q3) : PR := if (endR L q).e ≠ 0 then fault (endR L q).e (endR L q).sp else finP nm a za d z
def F8 (L : List Int) (nm a za : Int) (d : Dte) (z : Int) (q : Q3) : PR := F9 L nm a za d z (gapR L true q)
def F7 (L : List Int) (nm a za : Int) (d : Dte) (z : Int) (q : Q3) : PR := F8 L nm a za d z (remR L q)
def F6 (L : List Int) (nm a za : Int) (d : Dte) (z : Int) (q : Q3) : PR := F7 L nm a za d z (gapR L true q)
def F5 (L : List Int) (nm a : Int) (d : Dte) (q : Q3) : PR := F6 L nm a q.i d (zoneR L q).1 (zoneR L q).2
def F4 (L : List Int) (nm a y mo d h m s : Int) (q : Q3) : PR := F5 L nm a ⟨y, mo, d, h, m, s⟩ (gapR L false q)
def F3 (L : List Int) (nm a y mo d h m : Int) (q : Q3) : PR := F4 L nm a y mo d h m (secR L q).1 (secR L q).2
def F2 (L : List Int) (nm a y mo d h : Int) (q : Q3) : PR := F3 L nm a y mo d h (numR L 2 2 q).1 (numR L 2 2 q).2.2
def F1 (L : List Int) (nm a y mo d h : Int) (q : Q3) : PR := F2 L nm a y mo d h (markR L 58 q)
def E6 (L : List Int) (nm a y mo d : Int) (q : Q3) : PR := F1 L nm a y mo d (numR L 2 2 q).1 (numR L 2 2 q).2.2
def E5 (L : List Int) (nm a y mo d : Int) (q : Q3) : PR := E6 L nm a y mo d (gapR L false q)
def E4 (L : List Int) (nm a mo d : Int) (q : Q3) : PR := E5 L nm a (yearR (numR L 2 4 q).2.1 (numR L 2 4 q).1) mo d (numR L 2 4 q).2.2
def E3 (L : List Int) (nm a mo d : Int) (q : Q3) : PR := E4 L nm a mo d (gapR L false q)
def E2 (L : List Int) (nm a d : Int) (q : Q3) : PR := E3 L nm a ((nameR L MOU 12 q).1 + 1) d (nameR L MOU 12 q).2
def E1 (L : List Int) (nm a d : Int) (q : Q3) : PR := E2 L nm a d (gapR L false q)
def E0 (L : List Int) (nm : Int) (q : Q3) : PR := E1 L nm q.i (numR L 1 2 q).1 (numR L 1 2 q).2.2
def refV (L : List Int) : PR := E0 L (headR L (gapR L true ⟨0, 0, 0⟩)).1 (headR L (gapR L true ⟨0, 0, 0⟩)).2
/-- A fault stays. -/
def Kp (q p : Q3) : Prop := q.e ≠ 0 → p.e = q.e ∧ p.sp = q.sp
theorem fl_kp {e sp err pos : Int} (h : e ≠ 0) : (fl e sp err pos).1 = e ∧ (fl e sp err pos).2 = sp := by unfold fl; rw [if_neg h]; exact ⟨rfl, rfl⟩
theorem gap_kp (L : List Int) (f : Bool) (q : Q3) : Kp q (gapR L f q) := by
  intro h
  unfold gapR gapF
  dsimp only
  split
  · exact fl_kp h
  · exact ⟨rfl, rfl⟩
theorem num_kp (L : List Int) (a b : Int) (q : Q3) : Kp q (numR L a b q).2.2 := by
  intro h
  unfold numR numF
  dsimp only
  split
  · exact fl_kp h
  · exact ⟨rfl, rfl⟩
theorem mark_kp (L : List Int) (c : Int) (q : Q3) : Kp q (markR L c q) := by
  intro h
  unfold markR
  split
  · exact ⟨rfl, rfl⟩
  · exact fl_kp h
theorem name_kp (L A : List Int) (m : Nat) (q : Q3) : Kp q (nameR L A m q).2 := by
  intro h
  unfold nameR
  dsimp only
  unfold nmE
  split
  · exact fl_kp h
  · exact ⟨rfl, rfl⟩
theorem znE_kp {b : Bool} {e sp : Int} {i : Int} (h : e ≠ 0) : (znE b e sp i).1 = e ∧ (znE b e sp i).2 = sp := by
  unfold znE
  split
  · exact ⟨rfl, rfl⟩
  · exact fl_kp h
theorem zone_kp (L : List Int) (q : Q3) : Kp q (zoneR L q).2 := by
  intro h
  unfold zoneR
  split
  · exact znE_kp h
  · exact znE_kp h
theorem rem_kp (L : List Int) (q : Q3) : Kp q (remR L q) := by
  intro h
  unfold remR remF
  dsimp only
  split
  · exact ⟨rfl, rfl⟩
  · split
    · exact ⟨rfl, rfl⟩
    · exact fl_kp h
theorem end_kp (L : List Int) (q : Q3) : Kp q (endR L q) := by
  intro h
  unfold endR
  split
  · exact fl_kp h
  · exact ⟨rfl, rfl⟩
theorem sec_kp (L : List Int) (q : Q3) : Kp q (secR L q).2 := by
  intro h
  unfold secR
  split
  · exact num_kp L 2 2 ⟨q.i + 1, q.e, q.sp⟩ h
  · exact ⟨rfl, rfl⟩
theorem Kp.go {q p : Q3} (k : Kp q p) (h : q.e ≠ 0) {X : PR} (hx : p.e ≠ 0 → X = fault p.e p.sp) : X = fault q.e q.sp := by
  obtain ⟨a, b⟩ := k h
  rw [hx (by rw [a]; exact h), a, b]
theorem F9_f {L : List Int} {nm a za : Int} {d : Dte} {z : Int} {q : Q3} (h : q.e ≠ 0) : F9 L nm a za d z q = fault q.e q.sp := (end_kp L q).go h fun h => if_pos h
theorem F8_f {L : List Int} {nm a za : Int} {d : Dte} {z : Int} {q : Q3} (h : q.e ≠ 0) : F8 L nm a za d z q = fault q.e q.sp := (gap_kp L true q).go h F9_f
theorem F7_f {L : List Int} {nm a za : Int} {d : Dte} {z : Int} {q : Q3} (h : q.e ≠ 0) : F7 L nm a za d z q = fault q.e q.sp := (rem_kp L q).go h F8_f
theorem F6_f {L : List Int} {nm a za : Int} {d : Dte} {z : Int} {q : Q3} (h : q.e ≠ 0) : F6 L nm a za d z q = fault q.e q.sp := (gap_kp L true q).go h F7_f
theorem F5_f {L : List Int} {nm a : Int} {d : Dte} {q : Q3} (h : q.e ≠ 0) : F5 L nm a d q = fault q.e q.sp := (zone_kp L q).go h F6_f
theorem F4_f {L : List Int} {nm a y mo d hh m s : Int} {q : Q3} (h : q.e ≠ 0) : F4 L nm a y mo d hh m s q = fault q.e q.sp := (gap_kp L false q).go h F5_f
theorem F3_f {L : List Int} {nm a y mo d hh m : Int} {q : Q3} (h : q.e ≠ 0) : F3 L nm a y mo d hh m q = fault q.e q.sp := (sec_kp L q).go h F4_f
theorem F2_f {L : List Int} {nm a y mo d hh : Int} {q : Q3} (h : q.e ≠ 0) : F2 L nm a y mo d hh q = fault q.e q.sp := (num_kp L 2 2 q).go h F3_f
theorem F1_f {L : List Int} {nm a y mo d hh : Int} {q : Q3} (h : q.e ≠ 0) : F1 L nm a y mo d hh q = fault q.e q.sp := (mark_kp L 58 q).go h F2_f
theorem E6_f {L : List Int} {nm a y mo d : Int} {q : Q3} (h : q.e ≠ 0) : E6 L nm a y mo d q = fault q.e q.sp := (num_kp L 2 2 q).go h F1_f
theorem E5_f {L : List Int} {nm a y mo d : Int} {q : Q3} (h : q.e ≠ 0) : E5 L nm a y mo d q = fault q.e q.sp := (gap_kp L false q).go h E6_f
theorem E4_f {L : List Int} {nm a mo d : Int} {q : Q3} (h : q.e ≠ 0) : E4 L nm a mo d q = fault q.e q.sp := (num_kp L 2 4 q).go h E5_f
theorem E3_f {L : List Int} {nm a mo d : Int} {q : Q3} (h : q.e ≠ 0) : E3 L nm a mo d q = fault q.e q.sp := (gap_kp L false q).go h E4_f
theorem E2_f {L : List Int} {nm a d : Int} {q : Q3} (h : q.e ≠ 0) : E2 L nm a d q = fault q.e q.sp := (name_kp L MOU 12 q).go h E3_f
theorem E1_f {L : List Int} {nm a d : Int} {q : Q3} (h : q.e ≠ 0) : E1 L nm a d q = fault q.e q.sp := (gap_kp L false q).go h E2_f
theorem E0_f {L : List Int} {nm : Int} {q : Q3} (h : q.e ≠ 0) : E0 L nm q = fault q.e q.sp := (num_kp L 1 2 q).go h E1_f
end Go.Proofs.YtnmhkmkaklhapaaDoor.RR
namespace Go.Proofs.YtnmhkmkaklhapaaDoor.MR
set_option linter.unusedVariables false
set_option linter.unusedSimpArgs false
open Go.RowKit Go.Proofs.YtnmhkmkaklhapaaDoorW.PrintWords Go.Proofs.YtnmhkmkaklhapaaDoor.B Go.Proofs.YtnmhkmkaklhapaaDoor.T Go.Proofs.YtnmhkmkaklhapaaDoor.U Go.Proofs.YtnmhkmkaklhapaaDoor.RR Go.Proofs.YtnmhkmkaklhapaaDoor.Cal Go.Proofs.YtnmhkmkaklhapaaDoor.Chk Go.Proofs.YtnmhkmkaklhapaaDoor.DP
open Go.Proofs.YtnmhkmkaklhapaaDoor.Q (IsS67)
def okI (s : ByteArray) (i : Int) : Prop := s.size ≤ 140737488351232 ∧ 0 ≤ i ∧ i ≤ (s.size : Int)
instance (s : ByteArray) (i : Int) : Decidable (okI s i) := by unfold okI; infer_instance
def tell (s : ByteArray) (q : Q3) : Option (ByteArray × Int × Int × Int) := some (s, (q.i : Int), q.e, q.sp)
def posthornref06_reader_fail.f (s : ByteArray) (i e sp err pos : Int) : Option (ByteArray × Int × Int × Int) := some (s, i, (fl e sp err pos).1, (fl e sp err pos).2)
theorem posthornref06_reader_fail.calls (g : Nat) (s : ByteArray) (i e sp err pos : Int) (r1 : ByteArray) (r2 r3 r4 : Int) (w0 w : World) (hI : IsS67 w0 w g s i e sp) (hB : Below w0.heap.size w0 w) (h : posthornref06_reader_fail.f s i e sp err pos = some (r1, r2, r3, r4)) :
    Calls Tryd.prog 45 #[.pointer (some ⟨g, 0, none⟩), .int .i64 err, .int .i64 pos] w fun x w' => x = .returned (.tuple #[]) ∧ IsS67 w0 w' g r1 r2 r3 r4 ∧ Below w0.heap.size w0 w' ∧ KeepBut w w' g none :=
  Go.Proofs.YtnmhkmkaklhapaaDoor.Q.posthornref06_reader_fail.calls g s i e sp err pos r1 r2 r3 r4 w0 w hI hB ((fail_f s i e sp err pos).trans h)
def posthornref06_reader_is.f (s : ByteArray) (i e sp : Int) (all : ByteArray) : Option (Bool × ByteArray × Int × Int × Int) :=
  if okI s i ∧ all.size ≤ 1000 then some (hd (bytesOf all) ((bytesOf s).drop i.toNat), s, i, e, sp) else none
theorem posthornref06_reader_is.calls (g : Nat) (s : ByteArray) (i e sp : Int) (all : ByteArray) (r1 : Bool) (r2 : ByteArray) (r3 r4 r5 : Int) (w0 w : World) (hI : IsS67 w0 w g s i e sp) (hB : Below w0.heap.size w0 w) (h : posthornref06_reader_is.f s i e sp all = some (r1, r2, r3, r4, r5)) :
    Calls Tryd.prog 39 #[.pointer (some ⟨g, 0, none⟩), .string all] w fun x w' => x = .returned (.bool r1) ∧ IsS67 w0 w' g r2 r3 r4 r5 ∧ Below w0.heap.size w0 w' ∧ KeepBut w w' g none := by
  unfold posthornref06_reader_is.f at h
  split at h
  · rename_i hb
    obtain ⟨⟨hS, h0, h1⟩, hA⟩ := hb
    obtain ⟨n, rfl⟩ := Int.eq_ofNat_of_zero_le h0
    rw [Int.toNat_natCast] at h
    obtain ⟨k, hk⟩ := is_ev s all hS hA n (by omega) e sp
    exact Go.Proofs.YtnmhkmkaklhapaaDoor.Q.posthornref06_reader_is.calls k g s n e sp all r1 r2 r3 r4 r5 w0 w hI hB ((hk k (Nat.le_refl _)).trans h)
  · cases h
def posthornref06_reader_gap.f (s : ByteArray) (i e sp : Int) (free : Bool) : Option (ByteArray × Int × Int × Int) :=
  if okI s i then tell s (gapR (bytesOf s) free ⟨i.toNat, e, sp⟩) else none
theorem posthornref06_reader_gap.calls (g : Nat) (s : ByteArray) (i e sp : Int) (free : Bool) (r1 : ByteArray) (r2 r3 r4 : Int) (w0 w : World) (hI : IsS67 w0 w g s i e sp) (hB : Below w0.heap.size w0 w) (h : posthornref06_reader_gap.f s i e sp free = some (r1, r2, r3, r4)) :
    Calls Tryd.prog 38 #[.pointer (some ⟨g, 0, none⟩), .bool free] w fun x w' => x = .returned (.tuple #[]) ∧ IsS67 w0 w' g r1 r2 r3 r4 ∧ Below w0.heap.size w0 w' ∧ KeepBut w w' g none := by
  unfold posthornref06_reader_gap.f at h
  split at h
  · rename_i hb
    obtain ⟨hS, h0, h1⟩ := hb
    obtain ⟨n, rfl⟩ := Int.eq_ofNat_of_zero_le h0
    rw [Int.toNat_natCast] at h
    obtain ⟨k, hk⟩ := gap_ev s hS n (by omega) e sp free
    exact Go.Proofs.YtnmhkmkaklhapaaDoor.Q.posthornref06_reader_gap.calls k g s n e sp free r1 r2 r3 r4 w0 w hI hB ((hk k (Nat.le_refl _)).trans h)
  · cases h
def posthornref06_reader_mark.f (s : ByteArray) (i e sp : Int) (all : ByteArray) : Option (ByteArray × Int × Int × Int) :=
  if okI s i ∧ bytesOf all = [(bytesOf all).getD 0 0] then tell s (markR (bytesOf s) ((bytesOf all).getD 0 0) ⟨i.toNat, e, sp⟩) else none
theorem posthornref06_reader_mark.calls (g : Nat) (s : ByteArray) (i e sp : Int) (all : ByteArray) (r1 : ByteArray) (r2 r3 r4 : Int) (w0 w : World) (hI : IsS67 w0 w g s i e sp) (hB : Below w0.heap.size w0 w) (h : posthornref06_reader_mark.f s i e sp all = some (r1, r2, r3, r4)) :
    Calls Tryd.prog 41 #[.pointer (some ⟨g, 0, none⟩), .string all] w fun x w' => x = .returned (.tuple #[]) ∧ IsS67 w0 w' g r1 r2 r3 r4 ∧ Below w0.heap.size w0 w' ∧ KeepBut w w' g none := by
  unfold posthornref06_reader_mark.f at h
  split at h
  · rename_i hb
    obtain ⟨⟨hS, h0, h1⟩, hA⟩ := hb
    obtain ⟨n, rfl⟩ := Int.eq_ofNat_of_zero_le h0
    rw [Int.toNat_natCast] at h
    have hz : all.size ≤ 1000 := by have := congrArg List.length hA; rw [bytesOf_len] at this; rw [this]; simp
    obtain ⟨k, hk⟩ := mark_ev s hS n (by omega) e sp all hz
    generalize (bytesOf all).getD 0 0 = c at *
    rw [hA] at hk
    refine Go.Proofs.YtnmhkmkaklhapaaDoor.Q.posthornref06_reader_mark.calls k g s n e sp all r1 r2 r3 r4 w0 w hI hB ((hk k (Nat.le_refl _)).trans ?_)
    rw [← h]
    unfold tell markR
    dsimp only
    split <;> rfl
  · cases h
def posthornref06_reader_number.f (s : ByteArray) (i e sp least most : Int) : Option (Int × Int × ByteArray × Int × Int × Int) :=
  if okI s i ∧ most ≤ 4 then some ((numR (bytesOf s) least most ⟨i.toNat, e, sp⟩).1, (numR (bytesOf s) least most ⟨i.toNat, e, sp⟩).2.1, s, ((numR (bytesOf s) least most ⟨i.toNat, e, sp⟩).2.2.i : Int), (numR (bytesOf s) least most ⟨i.toNat, e, sp⟩).2.2.e, (numR (bytesOf s) least most ⟨i.toNat, e, sp⟩).2.2.sp) else none
theorem posthornref06_reader_number.calls (g : Nat) (s : ByteArray) (i e sp least most : Int) (r1 r2 : Int) (r3 : ByteArray) (r4 r5 r6 : Int) (w0 w : World) (hI : IsS67 w0 w g s i e sp) (hB : Below w0.heap.size w0 w) (h : posthornref06_reader_number.f s i e sp least most = some (r1, r2, r3, r4, r5, r6)) :
    Calls Tryd.prog 42 #[.pointer (some ⟨g, 0, none⟩), .int .i64 least, .int .i64 most] w fun x w' => x = .returned (.tuple #[.int .i64 r1, .int .i64 r2]) ∧ IsS67 w0 w' g r3 r4 r5 r6 ∧ Below w0.heap.size w0 w' ∧ KeepBut w w' g none := by
  unfold posthornref06_reader_number.f at h
  split at h
  · rename_i hb
    obtain ⟨⟨hS, h0, h1⟩, hA⟩ := hb
    obtain ⟨n, rfl⟩ := Int.eq_ofNat_of_zero_le h0
    rw [Int.toNat_natCast] at h
    obtain ⟨k, hk⟩ := number_ev s hS n (by omega) e sp least most hA
    exact Go.Proofs.YtnmhkmkaklhapaaDoor.Q.posthornref06_reader_number.calls k g s n e sp least most r1 r2 r3 r4 r5 r6 w0 w hI hB ((hk k (Nat.le_refl _)).trans h)
  · cases h
def posthornref06_reader_name.f (s : ByteArray) (i e sp : Int) (all : ByteArray) : Option (Int × ByteArray × Int × Int × Int) :=
  if okI s i ∧ all.size = 3 * (all.size / 3) ∧ all.size ≤ 300 then some ((nameR (bytesOf s) (bytesOf all) (all.size / 3) ⟨i.toNat, e, sp⟩).1, s, ((nameR (bytesOf s) (bytesOf all) (all.size / 3) ⟨i.toNat, e, sp⟩).2.i : Int), (nameR (bytesOf s) (bytesOf all) (all.size / 3) ⟨i.toNat, e, sp⟩).2.e, (nameR (bytesOf s) (bytesOf all) (all.size / 3) ⟨i.toNat, e, sp⟩).2.sp) else none
theorem posthornref06_reader_name.calls (g : Nat) (s : ByteArray) (i e sp : Int) (all : ByteArray) (r1 : Int) (r2 : ByteArray) (r3 r4 r5 : Int) (w0 w : World) (hI : IsS67 w0 w g s i e sp) (hB : Below w0.heap.size w0 w) (h : posthornref06_reader_name.f s i e sp all = some (r1, r2, r3, r4, r5)) :
    Calls Tryd.prog 40 #[.pointer (some ⟨g, 0, none⟩), .string all] w fun x w' => x = .returned (.int .i64 r1) ∧ IsS67 w0 w' g r2 r3 r4 r5 ∧ Below w0.heap.size w0 w' ∧ KeepBut w w' g none := by
  unfold posthornref06_reader_name.f at h
  split at h
  · rename_i hb
    obtain ⟨⟨hS, h0, h1⟩, hA, hA2⟩ := hb
    obtain ⟨n, rfl⟩ := Int.eq_ofNat_of_zero_le h0
    rw [Int.toNat_natCast] at h
    obtain ⟨k, hk⟩ := name_ev s hS n (by omega) e sp (bytesOf all) (bytesOf_in all) (all.size / 3) (by rw [bytesOf_len]; exact hA) (by omega) _ rfl
    rw [strOfNums_bytesOf] at hk
    exact Go.Proofs.YtnmhkmkaklhapaaDoor.Q.posthornref06_reader_name.calls k g s n e sp all r1 r2 r3 r4 r5 w0 w hI hB ((hk k (Nat.le_refl _)).trans h)
  · cases h
def posthornref06_reader_zone.f (s : ByteArray) (i e sp : Int) : Option (Int × ByteArray × Int × Int × Int) :=
  if okI s i then some ((zoneR (bytesOf s) ⟨i.toNat, e, sp⟩).1, s, ((zoneR (bytesOf s) ⟨i.toNat, e, sp⟩).2.i : Int), (zoneR (bytesOf s) ⟨i.toNat, e, sp⟩).2.e, (zoneR (bytesOf s) ⟨i.toNat, e, sp⟩).2.sp) else none
theorem posthornref06_reader_zone.calls (g : Nat) (s : ByteArray) (i e sp : Int) (r1 : Int) (r2 : ByteArray) (r3 r4 r5 : Int) (w0 w : World) (hI : IsS67 w0 w g s i e sp) (hB : Below w0.heap.size w0 w) (h : posthornref06_reader_zone.f s i e sp = some (r1, r2, r3, r4, r5)) :
    Calls Tryd.prog 43 #[.pointer (some ⟨g, 0, none⟩)] w fun x w' => x = .returned (.int .i64 r1) ∧ IsS67 w0 w' g r2 r3 r4 r5 ∧ Below w0.heap.size w0 w' ∧ KeepBut w w' g none := by
  unfold posthornref06_reader_zone.f at h
  split at h
  · rename_i hb
    obtain ⟨hS, h0, h1⟩ := hb
    obtain ⟨n, rfl⟩ := Int.eq_ofNat_of_zero_le h0
    rw [Int.toNat_natCast] at h
    unfold zoneR at h
    dsimp only at h
    cases hs : hd [43, 45] ((bytesOf s).drop n) with
    | true =>
      rw [if_pos hs] at h
      obtain ⟨k, hk⟩ := zone_sign_ev s hS n e sp hs _ _ rfl rfl
      exact Go.Proofs.YtnmhkmkaklhapaaDoor.Q.posthornref06_reader_zone.calls k g s n e sp r1 r2 r3 r4 r5 w0 w hI hB ((hk k (Nat.le_refl _)).trans h)
    | false =>
      rw [if_neg (by rw [hs]; decide)] at h
      obtain ⟨k, hk⟩ := zone_plain_ev s hS n (by omega) e sp hs _ rfl
      exact Go.Proofs.YtnmhkmkaklhapaaDoor.Q.posthornref06_reader_zone.calls k g s n e sp r1 r2 r3 r4 r5 w0 w hI hB ((hk k (Nat.le_refl _)).trans h)
  · cases h
def posthornref06_Check.f (y mo d h m s z : Int) : Option Int := if MN.allI y mo d h m s z then some (chkV y mo d h m s z) else none
theorem posthornref06_Check.calls (y mo d h m s z r : Int) (w : World) (hf : posthornref06_Check.f y mo d h m s z = some r) :
    Calls Tryd.prog 30 #[.agg #[.int .i16 y, .int .i8 mo, .int .i8 d, .int .i8 h, .int .i8 m, .int .i8 s, .int .i16 z]] w fun e w' => e = .returned (.int .i64 r) ∧ Below w.heap.size w w' := by
  unfold posthornref06_Check.f at hf
  split at hf
  · rename_i hI
    cases hf
    exact refCheck_calls y mo d h m s z hI w
  · cases hf
def posthornref06_Days.f (y mo d : Int) : Option (Int × Int) := if MN.I16 y ∧ MN.I8 mo ∧ MN.I8 d then some (daysV y mo d) else none
theorem posthornref06_Days.calls (y mo d r1 r2 : Int) (w : World) (h : posthornref06_Days.f y mo d = some (r1, r2)) :
    Calls Tryd.prog 13 #[.int .i16 y, .int .i8 mo, .int .i8 d] w fun e w' => e = .returned (.tuple #[.int .i64 r1, .int .i64 r2]) ∧ Drawn0 w w' := by
  unfold posthornref06_Days.f at h
  split at h
  · rename_i hI
    have := refDays_calls y mo d hI.1 hI.2.1 hI.2.2 w
    rw [Option.some.inj h] at this
    exact this
  · cases h
def posthornref06_Weekday.f (n : Int) : Option Int := some (wkV n)
theorem posthornref06_Weekday.calls (n r : Int) (w : World) (h : posthornref06_Weekday.f n = some r) :
    Calls Tryd.prog 21 #[.int .i64 n] w fun e w' => e = .returned (.int .i8 r) ∧ Drawn0 w w' := by
  cases h
  exact refWeekday_calls n w
end Go.Proofs.YtnmhkmkaklhapaaDoor.MR
