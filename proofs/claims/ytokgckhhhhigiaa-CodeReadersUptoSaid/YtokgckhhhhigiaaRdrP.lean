/- CodeReaders: the reference's reader keeps all letters; the program's says the same (plain). -/
import Derived.Test.YtokgckhhhhigiaaUnbP
import Derived.Test.YtokgckhhhhigiaaFeed
namespace Go.Proofs.Ytokgckhhhhigiaa.RdP
set_option linter.unusedVariables false
set_option linter.unusedSimpArgs false
set_option linter.unusedVariables false
open Go.RowKit Go.Proofs.YtokgckhhhhigiaaW.PrintWords Go.Proofs.YtokgckhhhhigiaaW.PrintLast Go.Proofs.YtokgckhhhhigiaaW.PrintMore Go.Proofs.Ytokgckhhhhigiaa.B Go.Proofs.Ytokgckhhhhigiaa.Rd Go.Proofs.Ytokgckhhhhigiaa.UnbP Go.Proofs.Ytokgckhhhhigiaa.Fd Go.Proofs.Ytokgckhhhhigiaa.G
theorem bt_pre (T U : List Int) (hT : InB (T ++ U)) (i : Nat) (h : i < T.length) : bt (strOfNums (T ++ U)) (i : Int) = bt (strOfNums T) (i : Int) := by
  rw [bt_strOfNums _ hT i (by rw [List.length_append]; omega), bt_strOfNums _ (fun x hx => hT x (List.mem_append_left _ hx)) i h, List.getElem_append_left h]
theorem size_str (T : List Int) : (strOfNums T).size = T.length := by
  unfold strOfNums
  show (List.map _ T).toArray.size = _
  simp
theorem inv_congr {s s' : ByteArray} {q n : Nat} {st : St} (h : Inv s q n st) (hb : ∀ i, i < 4 * q + n → bt s' (i : Int) = bt s (i : Int)) : Inv s' q n st := by
  have hG : ∀ j, j < n → G s' q j = G s q j := fun j hj => hb _ (by omega)
  have hA : UnbP.ahead s' q = UnbP.ahead s q := by
    unfold UnbP.ahead
    by_cases h0 : 0 < q
    · rw [hb (4 * q - 1) (by omega)]
    · rw [decide_eq_false h0]; rfl
  refine ⟨h.hn, h.lt, fun e => by rw [hA]; exact h.o0 e, fun e => by rw [hA]; exact h.o1 e, ?_, fun e => ?_, fun e => ?_, fun e => ?_⟩
  · rw [begB_congr _ _ n hG]; exact h.beg
  · rw [hG 0 (by omega)]; exact h.ha e
  · rw [hG 1 (by omega)]; exact h.hb e
  · rw [hG 2 (by omega)]; exact h.hc e
/-- The letters so far, and where the program's reader stands. -/
structure Rel (T : List Int) (st : St) : Prop where
  inb : InB T
  inv : Inv (strOfNums T) (T.length / 4) (T.length % 4) st
theorem Rel.new : Rel [] St.new := ⟨fun x h => (by cases h), by
  have : strOfNums [] = (⟨#[]⟩ : ByteArray) := rfl
  exact inv0 _⟩
theorem Rel.n {T : List Int} {st : St} (h : Rel T st) : st.n = T.length % 4 := h.inv.hn
theorem inb_snoc {T : List Int} {c : Int} (h : InB T) (hc : 0 ≤ c ∧ c ≤ 255) : InB (T ++ [c]) := fun x hx => by
  rcases List.mem_append.1 hx with hx | hx
  · exact h x hx
  · rw [List.mem_singleton.1 hx]; exact hc
section
variable {T : List Int} {st : St} {c : Int}
theorem Rel.snoc (h : Rel T st) (hc : 0 ≤ c ∧ c ≤ 255) : Inv (strOfNums (T ++ [c])) (T.length / 4) (T.length % 4) st ∧ G (strOfNums (T ++ [c])) (T.length / 4) (T.length % 4) = c := by
  have hb := inb_snoc h.inb hc
  refine ⟨inv_congr h.inv fun i hi => bt_pre T [c] hb i (by omega), ?_⟩
  unfold G
  rw [bt_strOfNums _ hb _ (by rw [List.length_append]; simp; omega)]
  rw [List.getElem_append_right (by omega)]
  simp
theorem whyV_ne (c : Int) : whyV c ≠ 0 := by unfold whyV; split <;> decide
/-- What the reference asks of a letter. -/
theorem Rel.on (h : Rel T st) (hc : 0 ≤ c ∧ c ≤ 255) : (onB (strOfNums (T ++ [c])) (T.length / 4) (T.length % 4) = true ↔ st.next (valV c) = 0) ∧ (st.next (valV c) ≠ 0 → st.next (valV c) = whyV c) := by
  obtain ⟨h1, h2⟩ := h.snoc hc
  have h3 := next_is _ _ _ _ h1
  rw [h2] at h3
  rw [h3]
  split
  · rename_i ho
    exact ⟨⟨fun _ => rfl, fun _ => ho⟩, fun hh => absurd rfl hh⟩
  · rename_i ho
    exact ⟨⟨fun hh => absurd hh ho, fun hh => absurd hh (whyV_ne c)⟩, fun _ => rfl⟩
theorem Rel.put (h : Rel T st) (hc : 0 ≤ c ∧ c ≤ 255) (h0 : st.next (valV c) = 0) : Rel (T ++ [c]) (st.put (valV c)) := by
  obtain ⟨h1, h2⟩ := h.snoc hc
  have ho := (h.on hc).1.2 h0
  have hb := inb_snoc h.inb hc
  have hl : (T ++ [c]).length = T.length + 1 := by simp
  by_cases h3 : T.length % 4 < 3
  · have := (put_is _ _ _ _ h1 ho h3).1
    rw [h2] at this
    refine ⟨hb, ?_⟩
    rw [hl, show (T.length + 1) / 4 = T.length / 4 by omega, show (T.length + 1) % 4 = T.length % 4 + 1 by omega]
    exact this
  · have h4 : T.length % 4 = 3 := by omega
    rw [h4] at h1 h2 ho
    have := (put_four _ _ _ h1 ho).1
    rw [h2] at this
    refine ⟨hb, ?_⟩
    rw [hl, show (T.length + 1) / 4 = T.length / 4 + 1 by omega, show (T.length + 1) % 4 = 0 by omega]
    exact this
theorem Rel.out_none (h : Rel T st) (h3 : T.length % 4 ≠ 3) : st.out (valV c) = [] := by
  unfold St.out
  rw [if_neg (by rw [h.n]; exact h3)]
/-- The last four letters. -/
def last4 (T : List Int) (c : Int) : ByteArray := strOfNums ((T ++ [c]).drop (T.length - 3))
theorem str_drop (T : List Int) (a : Nat) (h : a ≤ T.length) : strOfNums (T.drop a) = (strOfNums T).extract a T.length := by
  have hs := size_str T
  unfold strOfNums
  apply ByteArray.ext
  apply Array.ext
  · simp
  · intro i h1 h2
    simp
theorem Rel.out_four (h : Rel T st) (hc : 0 ≤ c ∧ c ≤ 255) (h0 : st.next (valV c) = 0) (h3 : T.length % 4 = 3) : Ev (fun k => posthornref04_group.f k (last4 T c)) (st.out (valV c)) := by
  obtain ⟨h1, h2⟩ := h.snoc hc
  have ho := (h.on hc).1.2 h0
  have hb := inb_snoc h.inb hc
  have hl : (T ++ [c]).length = T.length + 1 := by simp
  rw [h3] at h1 h2 ho
  obtain ⟨_, h4, h5⟩ := put_four _ _ _ h1 ho
  rw [h2] at h4
  have h6 := group_ev (strOfNums (T ++ [c])) (T.length / 4) (by rw [size_str, hl]; omega) h5
  rw [h2, ← h4] at h6
  have e : last4 T c = (strOfNums (T ++ [c])).extract (4 * (T.length / 4)) (4 * (T.length / 4) + 4) := by
    unfold last4
    rw [str_drop _ _ (by rw [hl]; omega), hl, show T.length - 3 = 4 * (T.length / 4) by omega, show T.length + 1 = 4 * (T.length / 4) + 4 by omega]
  rw [e]
  exact h6
/-- Of what letters the reference asks: the group ahead, and this one. -/
def fromK (n : Nat) : Nat := n / 4 * 4 - 4
theorem Rel.on_ev (h : Rel T st) (hc : 0 ≤ c ∧ c ≤ 255) (hl : T.length ≤ 30000000000000) : Ev (fun k => posthornref04_On.f k (strOfNums ((T ++ [c]).drop (fromK T.length))) ((T.length - fromK T.length : Nat) : Int)) (decide (st.next (valV c) = 0)) := by
  have hb := inb_snoc h.inb hc
  have hL : (T ++ [c]).length = T.length + 1 := by simp
  have hd : fromK T.length ≤ T.length := by unfold fromK; omega
  have ho := (h.on hc).1
  have hsz : (strOfNums ((T ++ [c]).drop (fromK T.length))).size = T.length + 1 - fromK T.length := by rw [size_str, List.length_drop, hL]
  have hbt : ∀ i, fromK T.length + i < T.length + 1 → bt (strOfNums ((T ++ [c]).drop (fromK T.length))) (i : Int) = bt (strOfNums (T ++ [c])) ((fromK T.length + i : Nat) : Int) := fun i hi => by
    rw [str_drop _ _ (by omega)]
    exact bt_extract _ _ _ (by rw [size_str]; exact Nat.le_refl _) i (by omega)
  have key : ∀ q r, T.length = fromK T.length + (4 * q + r) → r < 4 → onB (strOfNums ((T ++ [c]).drop (fromK T.length))) q r = onB (strOfNums (T ++ [c])) (T.length / 4) (T.length % 4) → Ev (fun k => posthornref04_On.f k (strOfNums ((T ++ [c]).drop (fromK T.length))) ((T.length - fromK T.length : Nat) : Int)) (decide (st.next (valV c) = 0)) := fun q r h1 h2 h3 => by
    have h4 := On_ev (strOfNums ((T ++ [c]).drop (fromK T.length))) (by omega) q r h2 (by omega)
    rw [show 4 * q + r = T.length - fromK T.length by omega, h3] at h4
    have e : onB (strOfNums (T ++ [c])) (T.length / 4) (T.length % 4) = decide (st.next (valV c) = 0) := by
      by_cases h0 : st.next (valV c) = 0
      · rw [decide_eq_true h0]; exact ho.2 h0
      · rw [decide_eq_false h0, Bool.eq_false_iff]; exact fun e => h0 (ho.1 e)
    rw [e] at h4
    exact h4
  by_cases h4 : T.length < 4
  · have hf : fromK T.length = 0 := by unfold fromK; omega
    refine key 0 T.length (by omega) h4 ?_
    rw [hf, List.drop_zero, show T.length / 4 = 0 by omega, show T.length % 4 = T.length by omega]
  · have hf : fromK T.length = 4 * (T.length / 4 - 1) := by unfold fromK; omega
    have hq : 1 ≤ T.length / 4 := by omega
    refine key 1 (T.length % 4) (by omega) (by omega) ?_
    unfold onB
    have hG : ∀ j, j < T.length % 4 + 1 → G (strOfNums ((T ++ [c]).drop (fromK T.length))) 1 j = G (strOfNums (T ++ [c])) (T.length / 4) j := fun j hj => by
      unfold G
      rw [hbt (4 * 1 + j) (by omega), show fromK T.length + (4 * 1 + j) = 4 * (T.length / 4) + j by omega]
    rw [begB_congr _ _ _ hG]
    congr 2
    unfold UnbP.ahead
    rw [show (4 * 1 - 1 : Nat) = 3 from rfl, hbt 3 (by omega), show fromK T.length + 3 = 4 * (T.length / 4) - 1 by omega, decide_eq_true (show 0 < 1 by decide), decide_eq_true (show 0 < T.length / 4 by omega)]
end
end Go.Proofs.Ytokgckhhhhigiaa.RdP
