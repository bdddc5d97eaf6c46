/- OctetRows: Bad and Span tell of one another, of two texts side by side too. -/
import Derived.Test.YtfljmojiglkckaaDoorSpanB
import Derived.Test.YtfljmojiglkckaaDoorWakes
import Derived.Test.YtfljmojiglkckaaDoorG10
namespace Go.Proofs.YtfljmojiglkckaaDoor.Pure
set_option linter.unusedVariables false
set_option linter.unusedSimpArgs false
open Go.RowKit Go.Proofs.YtfljmojiglkckaaDoor.G Go.Proofs.YtfljmojiglkckaaDoorW.PrintWords
open Go.Proofs.YtfljmojiglkckaaDoor.B Go.Proofs.YtfljmojiglkckaaDoor.I Go.Proofs.YtfljmojiglkckaaDoor.Glob

theorem run_drop {c : Int} : ∀ (xs : List Int) (i : Nat), i ≤ run c xs → run c (xs.drop i) = run c xs - i
  | xs, 0, _ => by simp
  | [], i + 1, h => by rw [run_nil] at h; omega
  | x :: r, i + 1, h => by
    rw [run_cons] at h ⊢
    by_cases hx : isB c x = true
    · rw [if_pos hx] at h ⊢
      rw [List.drop_succ_cons, run_drop r i (by omega)]
      omega
    · rw [if_neg hx] at h
      omega
theorem run_at {c : Int} : ∀ (xs : List Int) (i : Nat) (h : i < xs.length), i < run c xs → isB c xs[i] = true
  | [], i, h, _ => by simp at h
  | x :: r, 0, h, hr => by
    rw [run_cons] at hr
    by_cases hx : isB c x = true
    · exact hx
    · rw [if_neg hx] at hr; omega
  | x :: r, i + 1, h, hr => by
    rw [run_cons] at hr
    by_cases hx : isB c x = true
    · rw [if_pos hx] at hr
      exact run_at r i (by simpa using h) (by omega)
    · rw [if_neg hx] at hr; omega
theorem run_stop {c : Int} : ∀ (xs : List Int) (h : run c xs < xs.length), isB c (xs[run c xs]'h) = false
  | [], h => by simp at h
  | x :: r, h => by
    by_cases hx : isB c x = true
    · have e : run c (x :: r) = run c r + 1 := by rw [run_cons, if_pos hx]
      have h' : run c r < r.length := by rw [e] at h; simpa using h
      have := run_stop r h'
      simp only [e, List.getElem_cons_succ]
      exact this
    · have e : run c (x :: r) = 0 := by rw [run_cons, if_neg hx]
      simp only [e, List.getElem_cons_zero]
      simpa using hx
theorem run_append_stop {c : Int} : ∀ (xs ys : List Int), run c xs < xs.length → run c (xs ++ ys) = run c xs
  | [], ys, h => by simp at h
  | x :: r, ys, h => by
    rw [List.cons_append, run_cons, run_cons]
    by_cases hx : isB c x = true
    · rw [if_pos hx, if_pos hx, run_append_stop r ys]
      rw [run_cons, if_pos hx, List.length_cons] at h
      omega
    · rw [if_neg hx, if_neg hx]
theorem run_append_all {c : Int} : ∀ (xs ys : List Int), run c xs = xs.length → run c (xs ++ ys) = xs.length + run c ys
  | [], ys, h => by simp
  | x :: r, ys, h => by
    rw [run_cons] at h
    by_cases hx : isB c x = true
    · rw [if_pos hx, List.length_cons] at h
      rw [List.cons_append, run_cons, if_pos hx, run_append_all r ys (by omega), List.length_cons]
      omega
    · rw [if_neg hx, List.length_cons] at h
      omega
theorem bytesOf_append (s t : ByteArray) : bytesOf (s ++ t) = bytesOf s ++ bytesOf t := by
  unfold bytesOf
  rw [ByteArray.data_append, Array.toList_append, List.map_append]
theorem size_append (s t : ByteArray) : (s ++ t).size = s.size + t.size := by
  rw [← bytesOf_len, bytesOf_append, List.length_append, bytesOf_len, bytesOf_len]
theorem spanI_in {c : Int} {xs : List Int} {i : Nat} (h : i ≤ run c xs) : spanI c xs (i : Int) = (run c xs : Int) := by
  unfold spanI
  rw [if_neg (by omega), Int.toNat_natCast, run_drop xs i h]
  omega

theorem rows_end (c : Int) (s t : ByteArray) (hs : s.size ≤ 140737488351232) (ht : t.size ≤ 140737488351232) (i : Nat) (hi : ¬ i < run c (bytesOf s)) :
    Ev (fun k => posthornlaw01_OctetRows.l0 k c s t (run c (bytesOf s) : Int) (i : Int)) true := by
  have hr := run_le c (bytesOf s)
  have hl := bytesOf_len s
  by_cases h : run c (bytesOf s) < s.size
  · have hb : run c (bytesOf s) < (bytesOf s).length := by omega
    have hstop := run_stop (bytesOf s) hb
    rw [← bt_bytes s _ hb] at hstop
    have e1 := Span_str_ev c s (run c (bytesOf s) : Int) (by omega) (by omega)
    rw [spanI_in (Nat.le_refl _)] at e1
    have e2 := Bad_str_ev c (s ++ t) (by rw [size_append]; omega)
    rw [bytesOf_append, run_append_stop _ _ hb] at e2
    refine Ev.round (f := fun k => (octet_Span_string.f k c s (run c (bytesOf s) : Int)).bind fun t268 => if t268 = (run c (bytesOf s) : Int) then (octet_Bad_string.f k c (s ++ t)).bind fun t269 => some (t269 == (run c (bytesOf s) : Int)) else some false) (fun k => ?_) (Ev.bind e1 (Ev.congr (fun k => ?_) (Ev.bind (f := fun _ (t269 : Int) => some (t269 == (run c (bytesOf s) : Int))) e2 (Ev.val fun k => by rw [beq_self_eq_true]))))
    · simp only [posthornlaw01_OctetRows.l0, octet_Is.f]
      rw [if_neg (by omega), if_pos (by omega), if_pos (by omega), bind_some', if_neg (by rw [hstop]; decide), if_pos (by omega)]
    · rw [if_pos rfl]
  · have he : run c (bytesOf s) = s.size := by omega
    have ha := run_append_all (bytesOf s) (bytesOf t) (c := c) (by omega)
    have hrt := run_le c (bytesOf t)
    rw [bytesOf_len] at hrt
    have e2 := Bad_str_ev c (s ++ t) (by rw [size_append]; omega)
    rw [bytesOf_append, ha, hl] at e2
    have e3 := Bad_str_ev c t (by omega)
    have e4 := Span_str_ev c (s ++ t) (s.size : Int) (by rw [size_append]; omega) (by omega)
    rw [bytesOf_append, spanI_in (by rw [ha]; omega), ha, hl] at e4
    have e5 := Span_str_ev c t 0 (by omega) (by omega)
    rw [show (0 : Int) = ((0 : Nat) : Int) from rfl, spanI_in (Nat.zero_le _)] at e5
    rw [he]
    refine Ev.round (f := fun k => (octet_Bad_string.f k c (s ++ t)).bind fun t270 => (octet_Bad_string.f k c t).bind fun t271 => if t270 = wrap64 ((s.size : Int) + t271) then (octet_Span_string.f k c (s ++ t) (s.size : Int)).bind fun t272 => (octet_Span_string.f k c t 0).bind fun t273 => some (t272 == wrap64 ((s.size : Int) + t273)) else some false) (fun k => ?_) (Ev.bind e2 (Ev.bind e3 (Ev.congr (fun k => ?_) (Ev.bind (f := fun k (t272 : Int) => (octet_Span_string.f k c t 0).bind fun t273 => some (t272 == wrap64 ((s.size : Int) + t273))) e4 (Ev.bind e5 (Ev.val fun k => ?_))))))
    · simp only [posthornlaw01_OctetRows.l0]
      rw [if_neg (by omega), if_neg (by omega), if_pos (by omega)]
    · rw [if_pos]
      rw [wrap_id _ (by omega) (by omega)]
      omega
    · rw [wrap_id _ (by omega) (by omega), show (((s.size + run c (bytesOf t) : Nat) : Int) == (s.size : Int) + (run c (bytesOf t) : Int)) = true from beq_iff_eq.2 (by omega)]

theorem rows_loop (c : Int) (s t : ByteArray) (hs : s.size ≤ 140737488351232) (ht : t.size ≤ 140737488351232) (d : Nat) : ∀ i : Nat, run c (bytesOf s) - i = d →
    Ev (fun k => posthornlaw01_OctetRows.l0 k c s t (run c (bytesOf s) : Int) (i : Int)) true := by
  have hr := run_le c (bytesOf s)
  have hl := bytesOf_len s
  induction d with
  | zero => intro i hd; exact rows_end c s t hs ht i (by omega)
  | succ d ih =>
    intro i hd
    have hb : i < (bytesOf s).length := by omega
    have hx := run_at (bytesOf s) i hb (c := c) (by omega)
    rw [← bt_bytes s i hb] at hx
    have key := ih (i + 1) (by omega)
    have e1 := Span_str_ev c s (i : Int) (by omega) (by omega)
    rw [spanI_in (by omega)] at e1
    have nxt : Ev (fun k => (octet_Span_string.f k c s (i : Int)).bind fun t263 => if t263 = (run c (bytesOf s) : Int) then posthornlaw01_OctetRows.l0 k c s t (run c (bytesOf s) : Int) (wrap64 ((i : Int) + 1)) else some false) true := by
      refine Ev.bind e1 (Ev.congr (fun k => ?_) key)
      rw [if_pos rfl, wrap_id _ (by omega) (by omega)]
      rfl
    have head : ∀ k, posthornlaw01_OctetRows.l0 (k + 1) c s t (run c (bytesOf s) : Int) (i : Int) = if (run c (bytesOf s) : Int) < 300 then ((octet_Span_string.f k c s (i : Int)).bind fun t263 => if t263 = (run c (bytesOf s) : Int) then posthornlaw01_OctetRows.l0 k c s t (run c (bytesOf s) : Int) (wrap64 ((i : Int) + 1)) else some false) else if (i : Int) < 3 then ((octet_Span_string.f k c s (i : Int)).bind fun t263 => if t263 = (run c (bytesOf s) : Int) then posthornlaw01_OctetRows.l0 k c s t (run c (bytesOf s) : Int) (wrap64 ((i : Int) + 1)) else some false) else if (i : Int) = wrap64 (Int.tdiv (run c (bytesOf s) : Int) 2) then ((octet_Span_string.f k c s (i : Int)).bind fun t263 => if t263 = (run c (bytesOf s) : Int) then posthornlaw01_OctetRows.l0 k c s t (run c (bytesOf s) : Int) (wrap64 ((i : Int) + 1)) else some false) else if (i : Int) = wrap64 ((run c (bytesOf s) : Int) - 1) then ((octet_Span_string.f k c s (i : Int)).bind fun t263 => if t263 = (run c (bytesOf s) : Int) then posthornlaw01_OctetRows.l0 k c s t (run c (bytesOf s) : Int) (wrap64 ((i : Int) + 1)) else some false) else posthornlaw01_OctetRows.l0 k c s t (run c (bytesOf s) : Int) (wrap64 ((i : Int) + 1)) := by
      intro k
      rw [posthornlaw01_OctetRows.l0]
      simp only [octet_Is.f]
      rw [if_pos (by omega), if_pos (by omega), if_pos (by omega), bind_some', if_pos hx]
    by_cases c1 : (run c (bytesOf s) : Int) < 300
    · exact Ev.round (fun k => by rw [head, if_pos c1]) nxt
    by_cases c2 : (i : Int) < 3
    · exact Ev.round (fun k => by rw [head, if_neg c1, if_pos c2]) nxt
    by_cases c3 : (i : Int) = wrap64 (Int.tdiv (run c (bytesOf s) : Int) 2)
    · exact Ev.round (fun k => by rw [head, if_neg c1, if_neg c2, if_pos c3]) nxt
    by_cases c4 : (i : Int) = wrap64 ((run c (bytesOf s) : Int) - 1)
    · exact Ev.round (fun k => by rw [head, if_neg c1, if_neg c2, if_neg c3, if_pos c4]) nxt
    · refine Ev.round (fun k => ?_) key
      rw [head, if_neg c1, if_neg c2, if_neg c3, if_neg c4, wrap_id _ (by omega) (by omega)]
      rfl

theorem OctetRows : posthornlaw01_OctetRows.Pure := by
  intro c s t hc hs ht
  have hr := run_le c (bytesOf s)
  rw [bytesOf_len] at hr
  apply Ev.rounds
  unfold posthornlaw01_OctetRows.f
  refine Ev.bind wakes_ev ?_
  simp only [if_true]
  refine Ev.bind (Bad_str_ev c s (by omega)) ?_
  have e1 := Span_str_ev c s 0 (by omega) (by omega)
  rw [show (0 : Int) = ((0 : Nat) : Int) from rfl, spanI_in (Nat.zero_le _)] at e1
  have e2 := Span_byte_ev c (bytesOf s) 0 (by rw [bytesOf_len]; exact hs) (by omega)
  rw [show (0 : Int) = ((0 : Nat) : Int) from rfl, spanI_in (Nat.zero_le _)] at e2
  refine Ev.congr (f := fun k => (octet_Span_string.f k c s 0).bind fun t257 => if t257 = (run c (bytesOf s) : Int) then (octet_Span_byte.f k c (bytesOf s) 0).bind fun t261 => posthornlaw01_OctetRows.j0 k c s t (run c (bytesOf s) : Int) (t261 != (run c (bytesOf s) : Int)) else posthornlaw01_OctetRows.j0 k c s t (run c (bytesOf s) : Int) true) (fun k => ?_) (Ev.bind e1 (Ev.congr (fun k => ?_) (Ev.bind (f := fun k (t261 : Int) => posthornlaw01_OctetRows.j0 k c s t (run c (bytesOf s) : Int) (t261 != (run c (bytesOf s) : Int))) e2 ?_)))
  · rw [if_neg (by omega), if_neg (by omega)]
    simp only [if_pos (show s.size ≤ 9223372036854775807 by omega)]
  · rw [if_pos rfl]
    rfl
  · rw [bne_self_eq_false]
    refine Ev.round (fun k => ?_) (rows_loop c s t hs ht (run c (bytesOf s)) 0 (by omega))
    simp only [posthornlaw01_OctetRows.j0]
    rw [if_neg (by decide)]
    rfl
end Go.Proofs.YtfljmojiglkckaaDoor.Pure
