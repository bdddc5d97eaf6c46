/- The reference's Quote, line by line, is Quote. -/
import Derived.Test.YtokgckhhhhigiaaDoorQ
import Derived.Test.YtokgckhhhhigiaaDoorE2
import Derived.Test.YtokgckhhhhigiaaDoorE1
namespace Go.Proofs.YtokgckhhhhigiaaDoor.RQ
set_option linter.unusedVariables false
set_option linter.unusedSimpArgs false
open Go.RowKit Go.Proofs.YtokgckhhhhigiaaDoorW.PrintWords Go.Proofs.YtokgckhhhhigiaaDoor.B Go.Proofs.YtokgckhhhhigiaaDoor.Glob Go.Proofs.YtokgckhhhhigiaaDoor.E Go.Proofs.YtokgckhhhhigiaaDoor.Q

theorem sign_t : ∀ c : Fin 256, posthornref04_sign.f 5 (c.val : Int) true = some (strOfNums (sgn (c.val : Int) true)) := by decide +kernel
theorem sign_n : ∀ c : Fin 256, posthornref04_sign.f 5 (c.val : Int) false = some (strOfNums (sgn (c.val : Int) false)) := by decide +kernel
theorem sign_ev (c : Int) (hc : 0 ≤ c ∧ c ≤ 255) (b : Bool) : Ev (fun k => posthornref04_sign.f k c b) (strOfNums (sgn c b)) := by
  cases b
  · exact Ev.of (posthornref04_sign.mono _ _) (k := 5) (Q.of_fin (n := 256) (p := fun c => posthornref04_sign.f 5 c false = some (strOfNums (sgn c false))) sign_n c (by omega))
  · exact Ev.of (posthornref04_sign.mono _ _) (k := 5) (Q.of_fin (n := 256) (p := fun c => posthornref04_sign.f 5 c true = some (strOfNums (sgn c true))) sign_t c (by omega))
theorem str_append (xs ys : List Int) : strOfNums (xs ++ ys) = strOfNums xs ++ strOfNums ys := by
  unfold strOfNums
  ext1
  simp
theorem str_soft : (⟨#[61, 13, 10]⟩ : ByteArray) = strOfNums [61, 13, 10] := by decide +kernel
theorem str_crlf : (⟨#[13, 10]⟩ : ByteArray) = strOfNums [13, 10] := by decide +kernel
theorem str_nil : (⟨#[]⟩ : ByteArray) = strOfNums [] := by decide +kernel
theorem bytes_cut (s : ByteArray) (a b : Nat) : bytesOf (s.extract a b) = ((bytesOf s).drop a).take (b - a) := by
  unfold bytesOf
  rw [Lib.extract_data, List.map_take, List.map_drop]

theorem bind_congr' {α β : Type} {o : Option α} {f g : α → Option β} (h : ∀ a, o = some a → f a = g a) : o.bind f = o.bind g := by
  cases o with
  | none => rfl
  | some a => exact h a rfl
theorem sign_up {c : Int} {b : Bool} {t : ByteArray} (k K : Nat) (hk : k ≤ K) (h : posthornref04_sign.f k c b = some t) : posthornref04_sign.f K c b = some t := by
  obtain ⟨d, rfl⟩ := Nat.exists_eq_add_of_le hk
  induction d with
  | zero => exact h
  | succ d ih => exact posthornref04_sign.mono c b (k + d) t (ih (by omega))
/-- A line in rows. -/
def lq : List Int → Nat → List Int
  | [], _ => []
  | c :: r, row => if row + (sgn c r.isEmpty).length > mostN r.isEmpty then 61 :: 13 :: 10 :: (sgn c r.isEmpty ++ lq r (sgn c r.isEmpty).length) else sgn c r.isEmpty ++ lq r (row + (sgn c r.isEmpty).length)
theorem lq_len : ∀ (l : List Int) (row : Nat), (lq l row).length ≤ 6 * l.length
  | [], _ => by simp [lq]
  | c :: r, row => by
    have hs := sgn_len c r.isEmpty
    rw [lq]
    split
    · have := lq_len r (sgn c r.isEmpty).length
      simp only [List.length_cons, List.length_append]
      omega
    · have := lq_len r (row + (sgn c r.isEmpty).length)
      simp only [List.length_cons, List.length_append]
      omega
def clean (l : List Int) : Prop := ∀ j, j + 1 < l.length → ¬ (l.getD j 0 = 13 ∧ l.getD (j + 1) 0 = 10)
theorem clean_tail {c : Int} {r : List Int} (h : clean (c :: r)) : clean r := fun j hj hh => h (j + 1) (by simp at hj ⊢; omega) (by simpa using hh)
theorem clean_ends {c : Int} {r t : List Int} (h : clean (c :: r)) (ht : t = [] ∨ ∃ t', t = 13 :: 10 :: t') : endsB (c :: (r ++ t)) = false := by
  refine Bool.eq_false_iff.2 fun he => ?_
  obtain ⟨r', hr'⟩ := (endsB_iff _).1 he
  injection hr' with h1 h2
  cases r with
  | nil =>
    rcases ht with rfl | ⟨t', rfl⟩
    · cases h2
    · rw [List.nil_append] at h2
      injection h2 with h2 _
      cases h2
  | cons d r =>
    rw [List.cons_append] at h2
    injection h2 with h2 _
    exact h 0 (by simp) ⟨by simp [h1], by simp [h2]⟩
theorem clean_last {r t : List Int} (h : clean r) (ht : t = [] ∨ ∃ t', t = 13 :: 10 :: t') : lastB (r ++ t) = r.isEmpty := by
  cases r with
  | nil =>
    rcases ht with rfl | ⟨t', rfl⟩
    · rfl
    · rfl
  | cons c r =>
    unfold lastB
    rw [List.cons_append, clean_ends h ht]
    rfl
/-- A clean line ahead of a line end, or of the end. -/
theorem qL_line : ∀ (l t : List Int) (n row : Nat), clean l → (t = [] ∨ ∃ t', t = 13 :: 10 :: t') → (l ++ t).length ≤ n → ∃ m row', t.length ≤ m ∧ qL n (l ++ t) row = lq l row ++ qL m t row'
  | [], t, n, row, _, _, hn => ⟨n, row, hn, rfl⟩
  | c :: r, t, 0, row, _, _, hn => by simp at hn
  | c :: r, t, n + 1, row, hc, ht, hn => by
    simp only [List.cons_append, List.length_cons] at hn
    rw [List.cons_append, qL, clean_ends hc ht, if_neg (by decide), clean_last (clean_tail hc) ht, lq]
    split
    · obtain ⟨m, row', hm, e⟩ := qL_line r t n (sgn c r.isEmpty).length (clean_tail hc) ht (by omega)
      exact ⟨m, row', hm, by rw [e]; simp⟩
    · obtain ⟨m, row', hm, e⟩ := qL_line r t n (row + (sgn c r.isEmpty).length) (clean_tail hc) ht (by omega)
      exact ⟨m, row', hm, by rw [e]; simp⟩

section
variable (l : List Int) (hl : InB l) (hs : l.length ≤ 10000000000000)
include hl hs
set_option maxHeartbeats 8000000 in
theorem line_loop (d : Nat) : ∀ (i : Nat) (out row : List Int), i + d = l.length → out.length + row.length ≤ 6 * i →
    Ev (fun k => posthornref04_line.l0 k (strOfNums l) (strOfNums out) (strOfNums row) (i : Int)) (strOfNums (out ++ row ++ lq (l.drop i) row.length)) := by
  have hz : (strOfNums l).size = l.length := strOfNums_len _
  induction d with
  | zero =>
    intro i out row h hb
    refine Ev.last fun k => ?_
    simp only [posthornref04_line.l0]
    rw [hz, if_neg (by omega), strOfNums_len, strOfNums_len, if_pos (by omega), ← str_append, List.drop_eq_nil_of_le (by omega), lq, List.append_nil]
  | succ d ih =>
    intro i out row h hb
    have hi : i < l.length := by omega
    have hc := hl _ (List.getElem_mem hi)
    have hd : l.drop i = l[i] :: l.drop (i + 1) := List.drop_eq_getElem_cons hi
    have hw1 : Aside0 (wrap64 ((i : Int) + 1) = ((i + 1 : Nat) : Int)) := ⟨by rw [wrap_id _ (by omega) (by omega)]; omega⟩
    have hwl : Aside0 (wrap64 ((l.length : Int) - 1) = (l.length : Int) - 1) := ⟨wrap_id _ (by omega) (by omega)⟩
    have hem : (l.drop (i + 1)).isEmpty = ((i : Int) == (l.length : Int) - 1) := by
      by_cases h1 : i + 1 = l.length
      · rw [List.drop_eq_nil_of_le (by omega), beq_iff_eq.2 (by omega)]
        rfl
      · rw [beq_eq_false_iff_ne.2 (by omega), List.drop_eq_getElem_cons (by omega)]
        rfl
    have hsl := sgn_len l[i] (l.drop (i + 1)).isEmpty
    have hbt : bt (strOfNums l) (i : Int) = l[i] := bt_strOfNums l hl i hi
    obtain ⟨sg, hsg⟩ : ∃ sg, sg = sgn l[i] (l.drop (i + 1)).isEmpty := ⟨_, rfl⟩
    have hwr : Aside0 (wrap64 ((row.length : Int) + (sg.length : Int)) = ((row.length + sg.length : Nat) : Int)) := ⟨by rw [wrap_id _ (by rw [← hsg] at hsl; omega) (by rw [← hsg] at hsl; omega)]; omega⟩
    rw [hd, lq]
    by_cases hg : row.length + (sgn l[i] (l.drop (i + 1)).isEmpty).length > mostN (l.drop (i + 1)).isEmpty
    · rw [if_pos hg]
      have ih' := ih (i + 1) (out ++ row ++ [61, 13, 10]) sg (by omega) (by simp only [List.length_append, List.length_cons, List.length_nil]; rw [← hsg] at hsl; omega)
      have e : out ++ row ++ [61, 13, 10] ++ sg ++ lq (l.drop (i + 1)) sg.length = out ++ row ++ 61 :: 13 :: 10 :: (sgn l[i] (l.drop (i + 1)).isEmpty ++ lq (l.drop (i + 1)) (sgn l[i] (l.drop (i + 1)).isEmpty).length) := by rw [← hsg]; simp
      rw [e] at ih'
      refine Ev.round (f := fun k => (posthornref04_sign.f k l[i] (l.drop (i + 1)).isEmpty).bind fun t => posthornref04_line.l0 k (strOfNums l) (strOfNums (out ++ row ++ [61, 13, 10])) t ((i + 1 : Nat) : Int)) (fun k => ?_) (Ev.bind (f := fun k t => posthornref04_line.l0 k (strOfNums l) (strOfNums (out ++ row ++ [61, 13, 10])) t ((i + 1 : Nat) : Int)) (sign_ev _ hc _) (by have h_ := ih'; rw [hsg] at h_; exact h_))
      simp only [posthornref04_line.l0]
      rw [hz, if_pos (by omega), if_pos (by omega), hbt, hwl.out, ← hem, hw1.out]
      refine bind_congr' (fun t ht => ?_)
      obtain rfl : t = strOfNums sg := by
        obtain ⟨K, hK⟩ := sign_ev l[i] hc (l.drop (i + 1)).isEmpty
        have h1 := sign_up k (K + k) (by omega) ht
        have h2 : posthornref04_sign.f (K + k) l[i] (l.drop (i + 1)).isEmpty = some (strOfNums (sgn l[i] (l.drop (i + 1)).isEmpty)) := hK (K + k) (by omega)
        rw [h2] at h1
        rw [hsg]
        exact (Option.some.inj h1).symm
      rw [strOfNums_len, strOfNums_len, strOfNums_len, hwr.out]
      have hmo : mostN (l.drop (i + 1)).isEmpty = if (l.drop (i + 1)).isEmpty = true then 76 else 75 := rfl
      rw [← hsg] at hg hsl
      have hcat : strOfNums out ++ strOfNums row ++ (⟨#[61, 13, 10]⟩ : ByteArray) = strOfNums (out ++ row ++ [61, 13, 10]) := by rw [str_soft, str_append, str_append]
      have hsz : (strOfNums out ++ strOfNums row).size + 3 ≤ 9223372036854775807 := by rw [ByteArray.size_append, strOfNums_len, strOfNums_len]; omega
      have hmr := mostN_range (l.drop (i + 1)).isEmpty
      rw [if_neg (by omega)]
      by_cases hlast : (i : Int) = (l.length : Int) - 1
      · have hb1 : (l.drop (i + 1)).isEmpty = true := by rw [hem]; exact beq_iff_eq.2 hlast
        rw [hb1] at hg
        simp only [mostN, if_true] at hg
        rw [if_pos hlast, if_neg (by omega), if_pos (by omega), if_pos hsz, hcat]
      · rw [if_neg hlast, if_pos (by omega), if_pos hsz, hcat]
    · rw [if_neg hg]
      have ih' := ih (i + 1) out (row ++ sg) (by omega) (by simp only [List.length_append]; rw [← hsg] at hsl; omega)
      have e : out ++ (row ++ sg) ++ lq (l.drop (i + 1)) (row ++ sg).length = out ++ row ++ (sgn l[i] (l.drop (i + 1)).isEmpty ++ lq (l.drop (i + 1)) (row.length + (sgn l[i] (l.drop (i + 1)).isEmpty).length)) := by rw [← hsg, List.length_append]; simp
      rw [e] at ih'
      refine Ev.round (f := fun k => (posthornref04_sign.f k l[i] (l.drop (i + 1)).isEmpty).bind fun t => posthornref04_line.l0 k (strOfNums l) (strOfNums out) (strOfNums (row ++ sg)) ((i + 1 : Nat) : Int)) (fun k => ?_) (Ev.bind (f := fun k _ => posthornref04_line.l0 k (strOfNums l) (strOfNums out) (strOfNums (row ++ sg)) ((i + 1 : Nat) : Int)) (sign_ev _ hc _) ih')
      simp only [posthornref04_line.l0]
      rw [hz, if_pos (by omega), if_pos (by omega), hbt, hwl.out, ← hem, hw1.out]
      refine bind_congr' (fun t ht => ?_)
      obtain rfl : t = strOfNums sg := by
        obtain ⟨K, hK⟩ := sign_ev l[i] hc (l.drop (i + 1)).isEmpty
        have h1 := sign_up k (K + k) (by omega) ht
        have h2 : posthornref04_sign.f (K + k) l[i] (l.drop (i + 1)).isEmpty = some (strOfNums (sgn l[i] (l.drop (i + 1)).isEmpty)) := hK (K + k) (by omega)
        rw [h2] at h1
        rw [hsg]
        exact (Option.some.inj h1).symm
      rw [strOfNums_len, strOfNums_len, hwr.out]
      rw [← hsg] at hg hsl
      have hmr := mostN_range (l.drop (i + 1)).isEmpty
      have hcat : strOfNums row ++ strOfNums sg = strOfNums (row ++ sg) := (str_append _ _).symm
      by_cases h75 : row.length + sg.length ≤ 75
      · rw [if_pos (by omega), if_pos (by omega), hcat]
      · have hb1 : (l.drop (i + 1)).isEmpty = true := by
          cases hb : (l.drop (i + 1)).isEmpty
          · rw [hb] at hg; simp [mostN] at hg; omega
          · rfl
        have hlast : (i : Int) = (l.length : Int) - 1 := by rw [hem] at hb1; exact beq_iff_eq.1 hb1
        rw [if_neg (by omega), if_pos hlast, if_pos (by omega), if_pos (by omega), hcat]
theorem line_ev : Ev (fun k => posthornref04_line.f k (strOfNums l)) (strOfNums (lq l 0)) := by
  have := line_loop l hl hs l.length 0 [] [] (by omega) (by simp)
  unfold posthornref04_line.f
  rw [str_nil]
  simpa using this
end
section
variable (l : List Int) (hl : InB l) (hs : l.length ≤ 1000000000000)
include hl hs
set_option maxHeartbeats 8000000 in
theorem quote_loop (d : Nat) : ∀ (i from_ : Nat) (out : List Int), (i + d = l.length ∨ (d = 0 ∧ l.length ≤ i)) → from_ ≤ l.length → (from_ ≤ i ∨ (from_ = i + 1 ∧ l.getD i 0 = 10)) → (∀ j, from_ ≤ j → j < i → ¬ (l.getD j 0 = 13 ∧ l.getD (j + 1) 0 = 10)) → out.length ≤ 6 * from_ → i ≤ l.length + 1 →
    Ev (fun k => posthornref04_Quote.l0 k (strOfNums l) (strOfNums out) (from_ : Int) (i : Int)) (strOfNums (out ++ qL l.length (l.drop from_) 0)) := by
  have hz : (strOfNums l).size = l.length := strOfNums_len _
  -- the last line
  have hend : ∀ (i from_ : Nat) (out : List Int), l.length ≤ i + 1 → from_ ≤ l.length → (from_ ≤ i ∨ (from_ = i + 1 ∧ l.getD i 0 = 10)) → (∀ j, from_ ≤ j → j < i → ¬ (l.getD j 0 = 13 ∧ l.getD (j + 1) 0 = 10)) → out.length ≤ 6 * from_ → i ≤ l.length + 1 →
      Ev (fun k => posthornref04_Quote.l0 k (strOfNums l) (strOfNums out) (from_ : Int) (i : Int)) (strOfNums (out ++ qL l.length (l.drop from_) 0)) := by
    intro i from_ out hi hf hfi hc ho hi2
    have hw : Aside0 (wrap64 ((i : Int) + 1) = ((i + 1 : Nat) : Int)) := ⟨by rw [wrap_id _ (by omega) (by omega)]; omega⟩
    have hcl : clean (l.drop from_) := by
      intro j hj hh
      rw [List.length_drop] at hj
      refine hc (from_ + j) (by omega) (by omega) ?_
      simpa [List.getD_eq_getElem?_getD, List.getElem?_drop, Nat.add_assoc] using hh
    obtain ⟨m, row', hm, e⟩ := qL_line (l.drop from_) [] l.length 0 hcl (.inl rfl) (by rw [List.append_nil, List.length_drop]; omega)
    rw [List.append_nil, qL_nil, List.append_nil] at e
    have hll := lq_len (l.drop from_) 0
    rw [List.length_drop] at hll
    have hb : (strOfNums l).extract from_ l.length = strOfNums (l.drop from_) := by
      refine bytesOf_inj ?_
      rw [bytes_cut, bytesOf_strOfNums _ hl, bytesOf_strOfNums _ (fun x hx => hl x (List.mem_of_mem_drop hx)), List.take_of_length_le (by rw [List.length_drop]; omega)]
    have hlev := line_ev (l.drop from_) (fun x hx => hl x (List.mem_of_mem_drop hx)) (by rw [List.length_drop]; omega)
    rw [e]
    refine Ev.round (f := fun k => (posthornref04_line.f k (strOfNums (l.drop from_))).bind fun t => if out.length + t.size ≤ 9223372036854775807 then some (strOfNums out ++ t) else none) (fun k => ?_) (Ev.bind hlev (Ev.val fun k => ?_))
    · simp only [posthornref04_Quote.l0]
      rw [hz, hw.out, if_neg (by omega), if_pos (by omega), if_pos (by omega), Int.toNat_natCast, hb, strOfNums_len]
    · rw [strOfNums_len, if_pos (by omega), str_append]
  induction d with
  | zero => intro i from_ out hd hf hfi hc ho hi2; exact hend i from_ out (by omega) hf hfi hc ho hi2
  | succ d ih =>
    intro i from_ out hd hf hfi hc ho hi2
    by_cases hi : l.length ≤ i + 1
    · exact hend i from_ out hi hf hfi hc ho hi2
    · have hi0 : i < l.length := by omega
      have hi1 : i + 1 < l.length := by omega
      have hw : Aside0 (wrap64 ((i : Int) + 1) = ((i + 1 : Nat) : Int)) := ⟨by rw [wrap_id _ (by omega) (by omega)]; omega⟩
      have hw2 : Aside0 (wrap64 ((i : Int) + 2) = ((i + 2 : Nat) : Int)) := ⟨by rw [wrap_id _ (by omega) (by omega)]; omega⟩
      have hb0 : bt (strOfNums l) (i : Int) = l[i] := bt_strOfNums l hl i hi0
      have hb1 : bt (strOfNums l) ((i + 1 : Nat) : Int) = l[i + 1] := bt_strOfNums l hl _ hi1
      have hg0 : l.getD i 0 = l[i] := by simp [List.getD_eq_getElem?_getD, hi0]
      have hg1 : l.getD (i + 1) 0 = l[i + 1] := by simp [List.getD_eq_getElem?_getD, hi1]
      by_cases hcr : l[i] = 13 ∧ l[i + 1] = 10
      · have hfi' : from_ ≤ i := by
          rcases hfi with h | ⟨_, h⟩
          · exact h
          · rw [hg0, hcr.1] at h; cases h
        have hcl : clean ((l.drop from_).take (i - from_)) := by
          intro j hj hh
          rw [List.length_take, List.length_drop] at hj
          refine hc (from_ + j) (by omega) (by omega) ?_
          have g : ∀ q, q < i - from_ → ((l.drop from_).take (i - from_)).getD q 0 = l.getD (from_ + q) 0 := fun q hq => by
            rw [List.getD_eq_getElem?_getD, List.getD_eq_getElem?_getD, List.getElem?_take_of_lt hq, List.getElem?_drop]
          rw [g j (by omega), g (j + 1) (by omega)] at hh
          exact hh
        have hsplit : l.drop from_ = (l.drop from_).take (i - from_) ++ 13 :: 10 :: l.drop (i + 2) := by
          conv => lhs; rw [← List.take_append_drop (i - from_) (l.drop from_)]
          rw [List.drop_drop, show from_ + (i - from_) = i by omega, List.drop_eq_getElem_cons hi0, List.drop_eq_getElem_cons hi1, hcr.1, hcr.2]
        have hsl : ((l.drop from_).take (i - from_)).length = i - from_ := by rw [List.length_take, List.length_drop]; omega
        have hsi : InB ((l.drop from_).take (i - from_)) := fun x hx => hl x (List.mem_of_mem_drop (List.mem_of_mem_take hx))
        obtain ⟨m, row', hm, e⟩ := qL_line _ (13 :: 10 :: l.drop (i + 2)) l.length 0 hcl (.inr ⟨_, rfl⟩) (by rw [← hsplit, List.length_drop]; omega)
        rw [← hsplit] at e
        have e2 : qL m (13 :: 10 :: l.drop (i + 2)) row' = 13 :: 10 :: qL l.length (l.drop (i + 2)) 0 := by
          simp only [List.length_cons, List.length_drop] at hm
          obtain ⟨m', rfl⟩ : ∃ m', m = m' + 1 := ⟨m - 1, by omega⟩
          rw [qL, if_pos (by rfl)]
          simp only [List.drop_succ_cons, List.drop_zero]
          rw [qL_more m' l.length _ _ (by rw [List.length_drop]; omega) (by rw [List.length_drop]; omega)]
        have hll := lq_len ((l.drop from_).take (i - from_)) 0
        rw [hsl] at hll
        have hb : (strOfNums l).extract from_ i = strOfNums ((l.drop from_).take (i - from_)) := by
          refine bytesOf_inj ?_
          rw [bytes_cut, bytesOf_strOfNums _ hl, bytesOf_strOfNums _ hsi]
        have hlev := line_ev _ hsi (by rw [hsl]; omega)
        have ih' := ih (i + 1) (i + 2) (out ++ lq ((l.drop from_).take (i - from_)) 0 ++ [13, 10]) (by omega) (by omega) (.inr ⟨rfl, by rw [hg1, hcr.2]⟩) (fun j h1 h2 => by omega) (by simp only [List.length_append, List.length_cons, List.length_nil]; omega) (by omega)
        have e3 : out ++ lq ((l.drop from_).take (i - from_)) 0 ++ [13, 10] ++ qL l.length (l.drop (i + 2)) 0 = out ++ qL l.length (l.drop from_) 0 := by rw [e, e2]; simp
        rw [e3] at ih'
        refine Ev.round (f := fun k => (posthornref04_line.f k (strOfNums ((l.drop from_).take (i - from_)))).bind fun t => if out.length + t.size ≤ 9223372036854775807 then (if (strOfNums out ++ t).size + 2 ≤ 9223372036854775807 then posthornref04_Quote.l0 k (strOfNums l) ((strOfNums out ++ t) ++ (⟨#[13, 10]⟩ : ByteArray)) ((i + 2 : Nat) : Int) ((i + 1 : Nat) : Int) else none) else none) (fun k => ?_) (Ev.bind hlev ?_)
        · simp only [posthornref04_Quote.l0]
          rw [hz, hw.out, hw2.out, if_pos (by omega), if_pos (by omega), if_pos (by omega), hb0, if_pos hcr.1, if_pos (by omega), hb1, if_pos hcr.2, if_pos (by omega), if_pos (by omega), if_pos (by omega), Int.toNat_natCast, Int.toNat_natCast, hb, strOfNums_len]
        · refine Ev.congr (fun k => ?_) ih'
          rw [strOfNums_len, if_pos (by omega), if_pos (by rw [ByteArray.size_append, strOfNums_len, strOfNums_len]; omega), str_crlf, str_append, str_append]
      · have ih' := ih (i + 1) from_ out (by omega) hf (by
          rcases hfi with h | ⟨h, _⟩
          · exact .inl (by omega)
          · exact .inl (by omega)) (fun j h1 h2 => by
          by_cases hj : j = i
          · subst hj
            rw [hg0, hg1]
            exact hcr
          · exact hc j h1 (by omega)) ho (by omega)
        refine Ev.round (fun k => ?_) ih'
        simp only [posthornref04_Quote.l0]
        rw [hz, hw.out, if_pos (by omega), if_pos (by omega), if_pos (by omega), hb0]
        by_cases h13 : l[i] = 13
        · rw [if_pos h13, if_pos (by omega), hb1, if_neg (fun h => hcr ⟨h13, h⟩)]
        · rw [if_neg h13]
theorem refQuote_ev : Ev (fun k => posthornref04_Quote.f k l) (strOfNums (quo l)) := by
  have := quote_loop l hl hs l.length 0 0 [] (.inl (by omega)) (by omega) (.inl (by omega)) (fun j _ h => by omega) (by simp) (by omega)
  unfold posthornref04_Quote.f
  rw [str_nil]
  simpa [quo] using this
end
end Go.Proofs.YtokgckhhhhigiaaDoor.RQ
