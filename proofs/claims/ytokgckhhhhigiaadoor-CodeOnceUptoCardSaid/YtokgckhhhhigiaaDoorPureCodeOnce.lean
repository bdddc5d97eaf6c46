/- CodeOnce, where what it reads is of bulk at most 1048576: what Unbase64 takes Base64 writes again; what it does not take is refused at the same place, whatever stands behind, and with a text ahead that may be. -/
import Derived.Test.YtokgckhhhhigiaaDoorCod
import Derived.Test.YtokgckhhhhigiaaDoorGO2
namespace Go.Proofs.YtokgckhhhhigiaaDoor.Pure
set_option linter.unusedVariables false
set_option linter.unusedSimpArgs false
open Go.RowKit Go.Proofs.YtokgckhhhhigiaaDoor.GO Go.Proofs.YtokgckhhhhigiaaDoorW.PrintWords
open Go.Proofs.YtokgckhhhhigiaaDoor.B Go.Proofs.YtokgckhhhhigiaaDoor.B64 Go.Proofs.YtokgckhhhhigiaaDoor.UB Go.Proofs.YtokgckhhhhigiaaDoor.Rd Go.Proofs.YtokgckhhhhigiaaDoor.CM Go.Proofs.YtokgckhhhhigiaaDoor.Glob

theorem base64_f (xs : List Int) (hx : InB xs) (hl : xs.length ≤ 10000000000000) : code_Base64.f xs = some (strOfNums (b64 xs)) := if_pos ⟨allB_in.2 hx, hl⟩
theorem unb_f (s : ByteArray) (hs : s.size ≤ 40000000000000) : code_Unbase64.f s = some (unbL (bytesOf s) St.new [] 0) := if_pos hs
theorem refUnb_f (s : ByteArray) (hs : s.size ≤ 40000000000000) : posthornref04_Unbase64.f s = some (unbL (bytesOf s) St.new [] 0) := if_pos hs
theorem bytes_append (s t : ByteArray) : bytesOf (s ++ t) = bytesOf s ++ bytesOf t := by
  unfold bytesOf
  simp [ByteArray.toList_eq]
theorem once_j0 (s t : ByteArray) (l : List Int) (hl : InB l) (hs : s.size ≤ 1048576) (ht : t.size ≤ 1048576) (hll : l.length ≤ 1048576) (e : Int) (p : Nat) (he : e = 40 ∨ e = 41) (h : unbL (bytesOf s) St.new [] 0 = ([], e, (p : Int))) (hp : p ≤ s.size)
    (h41 : p = s.size → e = 41 ∧ s.size % 4 ≠ 0) : Ev (fun k => posthornlaw04_CodeOnce.j0 k s t l false e (p : Int)) true := by
  have he0 : e ≠ 0 := by omega
  refine Ev.last (fun k => ?_)
  simp only [posthornlaw04_CodeOnce.j0]
  have hn : wrap64 (wrap64 ((l.length : Int) / 3) * 3) = ((l.length / 3 * 3 : Nat) : Int) := by
    rw [wrap_id ((l.length : Int) / 3) (by omega) (by omega), wrap_id _ (by omega) (by omega)]
    omega
  rw [hn, if_neg (by decide), if_pos (by omega), if_pos (by omega), Int.toNat_natCast]
  have hyl : (l.take (l.length / 3 * 3)).length = 3 * (l.length / 3) := by rw [List.length_take]; omega
  have hyi : InB (l.take (l.length / 3 * 3)) := fun x hx => hl x (List.mem_of_mem_take hx)
  have hyz : (strOfNums (b64 (l.take (l.length / 3 * 3)))).size = 4 * (l.length / 3) := by rw [strOfNums_len, b64_len, hyl]; omega
  rw [base64_f _ hyi (by rw [hyl]; omega), Option.bind_some, hyz, if_pos (by omega)]
  have hu : code_Unbase64.f (strOfNums (b64 (l.take (l.length / 3 * 3))) ++ s) = some ([], e, ((4 * (l.length / 3) + p : Nat) : Int)) := by
    rw [unb_f _ (by rw [ByteArray.size_append, hyz]; omega), bytes_append, bytesOf_strOfNums _ (b64_in _ hyi), unb_later _ _ _ hyl hyi e p h he0]
  rw [hu, Option.bind_some]
  have hw : wrap64 (((4 * (l.length / 3) : Nat) : Int) + (p : Int)) = ((4 * (l.length / 3) + p : Nat) : Int) := by rw [wrap_id _ (by omega) (by omega)]; omega
  rw [hw, if_neg (by simp)]
  by_cases hps : p = s.size
  · obtain ⟨rfl, h4⟩ := h41 hps
    rw [if_pos (by omega), if_pos rfl]
    refine congrArg some (bne_iff_ne.2 ?_)
    omega
  · rw [if_neg (by omega), if_pos (by omega)]
    have hm : code_Unbase64.f (s ++ t) = some ([], e, (p : Int)) := by
      rw [unb_f _ (by rw [ByteArray.size_append]; omega), bytes_append, unb_more _ _ _ _ _ _ _ h he0 (by rw [bytesOf_len]; omega)]
    rw [hm, Option.bind_some]
    simp
theorem once (s t : ByteArray) (l : List Int) (hl : InB l) (hs : s.size ≤ 1048576) (ht : t.size ≤ 1048576) (hll : l.length ≤ 1048576) : ∃ k, posthornlaw04_CodeOnce.f k s t l = some true := by
  apply Ev.rounds
  have hbl := bytesOf_len s
  rcases unb_told (bytesOf s) St.new [] 0 (by decide) with ⟨h1, h2, _⟩ | ⟨p, h, _, hp⟩ | ⟨p, h, _, hp, h4⟩
  · obtain ⟨b, hb⟩ : ∃ b, unbL (bytesOf s) St.new [] 0 = (b, 0, 0) := ⟨(unbL (bytesOf s) St.new [] 0).1, Prod.ext rfl (Prod.ext h1 h2)⟩
    obtain ⟨ys, h3, h5, h6⟩ := b64_unb (bytesOf s).length (bytesOf s) (Nat.le_refl _) (bytesOf_in s) St.new rfl [] b 0 hb
    rw [List.nil_append] at h3
    subst h3
    have hlen := UnbP.unbL_len (bytesOf s) St.new [] 0
    rw [hb, hbl] at hlen
    simp only [List.length_nil, Nat.zero_add] at hlen
    refine Ev.val fun k => ?_
    unfold posthornlaw04_CodeOnce.f
    rw [show posthornlaw04_wakes.f = some true from rfl, Option.bind_some, if_pos rfl, unb_f s (by omega), refUnb_f s (by omega), hb, Option.bind_some, Option.bind_some]
    simp only
    rw [if_neg (by decide), if_pos trivial, base64_f b h6 (by omega), Option.bind_some, h5, strOfNums_bytesOf]
    simp
  · have := once_j0 s t l hl hs ht hll 40 p (.inl rfl) h (by omega) (fun hp' => by omega)
    refine Ev.congr (fun k => ?_) this
    unfold posthornlaw04_CodeOnce.f
    rw [show posthornlaw04_wakes.f = some true from rfl, Option.bind_some, if_pos rfl, unb_f s (by omega), refUnb_f s (by omega), h, Option.bind_some, Option.bind_some]
    simp only
    rw [if_neg (by simp), if_neg (by decide), if_neg (by simp), if_neg (by omega), if_neg (by omega), if_neg (by decide)]
    rfl
  · have := once_j0 s t l hl hs ht hll 41 p (.inr rfl) h (by omega) (fun hp' => ⟨rfl, by have := h4 (by omega); rw [hbl] at this; simpa [St.new] using this⟩)
    refine Ev.congr (fun k => ?_) this
    unfold posthornlaw04_CodeOnce.f
    rw [show posthornlaw04_wakes.f = some true from rfl, Option.bind_some, if_pos rfl, unb_f s (by omega), refUnb_f s (by omega), h, Option.bind_some, Option.bind_some]
    simp only
    rw [if_neg (by simp), if_neg (by decide), if_neg (by simp), if_neg (by omega), if_neg (by omega), if_pos trivial]

theorem CodeOnce (a0 : ByteArray) (a1 : ByteArray) (a2 : Option Addr) (len2 cap2 : Nat) (z2 : List Int) (w : World) (w0 : a0.size ≤ 140737488351232) (w1 : a1.size ≤ 140737488351232) (w2 : (a2 = none ∧ len2 = 0 ∧ cap2 = 0 ∧ z2 = []) ∨ ∃ x, a2 = some x ∧ len2 ≤ cap2 ∧ cap2 ≤ maxLen ∧ z2.length = cap2 ∧ (∀ i, i < z2.length → w.cell? (x.add i) = some (.int .u8 (z2.getD i 0))) ∧ ∀ n ∈ z2, (Lit.int .u8 n).wf = true) (_y2 : len2 * 1 ≤ 140737488351232) (b0 : a0.size ≤ 1048576) (b1 : a1.size ≤ 1048576) (b2 : len2 ≤ 1048576) (HG : GOk w) :
    Calls Tryd.prog 6 #[.string a0, .string a1, .slice a2 len2 cap2] w fun e w' => e = .returned (.bool true) ∧ Below w.heap.size w w' := by
  obtain ⟨l2, rfl, hr2, hm2, hw2, hc2⟩ := ReadsInt.ofRowC w2
  obtain ⟨k, h⟩ := once a0 a1 l2 (fun x hx => wf_u8 (hw2 x hx)) b0 b1 b2
  refine (posthornlaw04_CodeOnce.calls k a0 a1 _ _ l2 true w (Kd.C_of_reads (d := (0 : Int)) (h1 := fun _ => rfl) hr2) hc2 HG h).mono ?_
  rintro e w' ⟨rfl, hd⟩
  exact ⟨rfl, hd⟩
end Go.Proofs.YtokgckhhhhigiaaDoor.Pure
