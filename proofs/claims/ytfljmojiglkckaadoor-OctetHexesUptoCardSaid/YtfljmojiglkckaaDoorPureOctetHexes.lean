/- OctetHexes, where what it reads is of bulk at most 1048576: HexOf of any bytes, and they stay; Unhex of every text; new memory. -/
import Derived.Test.YtfljmojiglkckaaDoorHex
import Derived.Test.YtfljmojiglkckaaDoorHexLaw
namespace Go.Proofs.YtfljmojiglkckaaDoor.Pure
set_option linter.unusedVariables false
set_option linter.unusedSimpArgs false
open Go.RowKit Go.Proofs.YtfljmojiglkckaaDoor.G Go.Proofs.YtfljmojiglkckaaDoorW.PrintWords
open Go.Proofs.YtfljmojiglkckaaDoor.B Go.Proofs.YtfljmojiglkckaaDoor.I Go.Proofs.YtfljmojiglkckaaDoor.U Go.Proofs.YtfljmojiglkckaaDoor.H Go.Proofs.YtfljmojiglkckaaDoor.Glob Go.Proofs.YtfljmojiglkckaaDoor.Turn

theorem u8w (x : Int) (h : 0 ≤ x ∧ x ≤ 255) : IntKind.u8.wrap x = x := by
  have hs : IntKind.u8.signed = false := rfl
  have hb : (2 : Int) ^ IntKind.u8.bits = 256 := rfl
  simp only [IntKind.wrap, hs, hb, Bool.false_and, Bool.false_eq_true, if_false]
  omega
theorem refHexOf_loop (l : List Int) (hl : InB l) (hs : l.length ≤ 70368744177663) (d : Nat) : ∀ (i : Nat) (acc : List Int), i ≤ l.length → l.length - i = d → acc.length = 2 * i →
    Ev (fun k => posthornref01_HexOf.l0 k l acc (i : Int)) (strOfNums (acc ++ hexL (l.drop i))) := by
  induction d with
  | zero =>
    intro i acc h1 hd ha
    obtain rfl : i = l.length := by omega
    refine Ev.last fun k => ?_
    simp only [posthornref01_HexOf.l0]
    rw [if_neg (by omega), List.drop_eq_nil_of_le (Nat.le_refl _)]
    simp [hexL]
  | succ d ih =>
    intro i acc h1 hd ha
    have hb : i < l.length := by omega
    have hr := hl l[i] (List.getElem_mem hb)
    rw [drop_cons _ i hb, hexL_cons, show acc ++ H.hd (l[i] / 16) :: H.hd (l[i] % 16) :: hexL (l.drop (i + 1)) = (acc ++ [H.hd (l[i] / 16), H.hd (l[i] % 16)]) ++ hexL (l.drop (i + 1)) from by simp]
    have key := ih (i + 1) (acc ++ [H.hd (l[i] / 16), H.hd (l[i] % 16)]) (by omega) (by omega) (by rw [List.length_append, ha]; simp; omega)
    refine Ev.round (f := fun k => posthornref01_HexOf.l0 k l (acc ++ [H.hd (l[i] / 16), H.hd (l[i] % 16)]) ((i + 1 : Nat) : Int)) (fun k => ?_) key
    simp only [posthornref01_HexOf.l0, Option.bind_some]
    have e1 : IntKind.u8.wrap (Int.tdiv l[i] 16) = l[i] / 16 := by
      rw [Int.tdiv_eq_ediv_of_nonneg hr.1]
      have : 0 ≤ l[i] / 16 ∧ l[i] / 16 ≤ 15 := by omega
      exact u8w _ (by omega)
    have e2 : Int.tmod l[i] 16 = l[i] % 16 := Int.tmod_eq_emod_of_nonneg hr.1
    rw [rd_nat l i hb, e1, e2, six_bt _ (by omega), six_bt _ (by omega)]
    rw [if_pos (by omega), if_pos (by omega), if_pos (by omega), if_pos (by omega), if_pos (by omega), if_pos (by omega), if_pos (by simp; omega), wrap_id _ (by omega) (by omega)]
    rfl

theorem refHexOf_ev (l : List Int) (hl : InB l) (hs : l.length ≤ 70368744177663) : Ev (fun k => posthornref01_HexOf.f k l) (strOfNums (hexL l)) := by
  have key := refHexOf_loop l hl hs l.length 0 [] (by omega) (by omega) rfl
  rw [List.drop_zero, List.nil_append] at key
  exact Ev.congr (fun k => rfl) key

theorem unhexL_len : ∀ (n : Nat) (xs : List Int), xs.length ≤ n → (unhexL xs).length ≤ xs.length
  | 0, [], _ => by simp [unhexL]
  | n + 1, [], _ => by simp [unhexL]
  | n + 1, [a], _ => by simp [unhexL]
  | n + 1, a :: b :: r, h => by
    have := unhexL_len n r (by simp at h; omega)
    simp [unhexL]
    omega
theorem unhexR_len (s : ByteArray) : (unhexR s).1.length ≤ s.size := by
  unfold unhexR
  split
  · simp
  · have := unhexL_len _ (bytesOf s) (Nat.le_refl _)
    rw [bytesOf_len] at this
    exact this

theorem OctetHexes (s : ByteArray) (w : World) (hs : s.size ≤ 140737488351232) (b0 : s.size ≤ 1048576) (HG : GOk w) :
    Calls Tryd.prog 7 #[.string s] w fun e w' => e = .returned (.bool true) ∧ Below w.heap.size w w' := by
  obtain ⟨K1, h1⟩ := HexOf_ev (bytesOf s) (bytesOf_in s) (by rw [bytesOf_len]; omega)
  obtain ⟨K2, h2⟩ := refHexOf_ev (bytesOf s) (bytesOf_in s) (by rw [bytesOf_len]; omega)
  obtain ⟨K3, h3⟩ : Ev (fun k => octet_HexOf.f k [175]) (⟨#[65, 70]⟩ : ByteArray) := Ev.of (octet_HexOf.mono _) (k := 20) (by decide +kernel)
  obtain ⟨K4, h4⟩ := refUnhex_ev s hs
  obtain ⟨K5, h5⟩ := Unhex_ev s hs
  obtain ⟨K6, h6⟩ : Ev (fun k => octet_Unhex.f k (⟨#[97, 70]⟩ : ByteArray)) ([175], 0, 0) := Ev.of (octet_Unhex.mono _) (k := 30) (by decide +kernel)
  have hl := unhexR_len s
  exact OctetHexes_true (K1 + K2 + K3 + K4 + K5 + K6) s _ (unhexR s).1 (unhexR s).2.1 (unhexR s).2.2 w HG hs (by omega) ⟨h1 _ (by omega)⟩ ⟨h2 _ (by omega)⟩ ⟨h3 _ (by omega)⟩ ⟨h4 _ (by omega)⟩ ⟨h5 _ (by omega)⟩ ⟨h6 _ (by omega)⟩
end Go.Proofs.YtfljmojiglkckaaDoor.Pure
