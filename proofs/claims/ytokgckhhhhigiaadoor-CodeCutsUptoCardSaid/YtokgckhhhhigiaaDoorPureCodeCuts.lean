/- CodeCuts, where what it reads is of bulk at most 1048576: a text cut into pieces, and cut otherwise, tells the same, and what Unbase64 tells of its letters. -/
import Derived.Test.YtokgckhhhhigiaaDoorCod
import Derived.Test.YtokgckhhhhigiaaDoorGC2
namespace Go.Proofs.YtokgckhhhhigiaaDoor.Pure
set_option linter.unusedVariables false
set_option linter.unusedSimpArgs false
open Go.RowKit Go.Proofs.YtokgckhhhhigiaaDoor.GC Go.Proofs.YtokgckhhhhigiaaDoorW.PrintWords
open Go.Proofs.YtokgckhhhhigiaaDoor.B Go.Proofs.YtokgckhhhhigiaaDoor.B64 Go.Proofs.YtokgckhhhhigiaaDoor.UB Go.Proofs.YtokgckhhhhigiaaDoor.Rd Go.Proofs.YtokgckhhhhigiaaDoor.CM Go.Proofs.YtokgckhhhhigiaaDoor.Glob Go.Proofs.YtokgckhhhhigiaaDoor.Fd Go.Proofs.YtokgckhhhhigiaaDoor.FdW

theorem unb_f (s : ByteArray) (hs : s.size ≤ 40000000000000) : code_Unbase64.f s = some (unbL (bytesOf s) St.new [] 0) := if_pos hs
theorem refUnb_f (s : ByteArray) (hs : s.size ≤ 40000000000000) : posthornref04_Unbase64.f s = some (unbL (bytesOf s) St.new [] 0) := if_pos hs
theorem fed_f (l c : List Int) (hl : InB l) (h1 : l.length ≤ 10000000000000) (h2 : c.length ≤ 10000000000000) : posthornlaw04_fed.f l c = some (fedR l) := if_pos ⟨allB_in.2 hl, h1, h2⟩
theorem rd_nat (xs : List Int) (i : Nat) (h : i < xs.length) : rd xs (i : Int) = xs[i] := by
  unfold rd
  simp [List.getD_eq_getElem?_getD, h]
/-- What is asked at the end. -/
theorem cuts_end (l : List Int) (hl : InB l) (hs : l.length ≤ 1048576) : Ev (fun k => posthornlaw04_CodeCuts.l0 k l (fedR l).1 (fedR l).2.1 (fedR l).2.2.1 (l.filter noEnd) (l.length : Int)) true := by
  have hf : InB (l.filter noEnd) := fun x hx => hl x (List.mem_filter.1 hx).1
  have hfl : (l.filter noEnd).length ≤ l.length := List.length_filter_le _ _
  have hz : (strOfNums (l.filter noEnd)).size = (l.filter noEnd).length := strOfNums_len _
  have hb : bytesOf (strOfNums (l.filter noEnd)) = l.filter noEnd := bytesOf_strOfNums _ hf
  refine Ev.last (fun k => ?_)
  simp only [posthornlaw04_CodeCuts.l0]
  rw [if_neg (by omega), unb_f _ (by rw [hz]; omega), refUnb_f _ (by rw [hz]; omega), Option.bind_some, Option.bind_some, hb]
  rw [if_neg (by simp)]
  rcases feed_unb l St.new [] 0 (by decide) (by decide) (by decide) with ⟨h0, hu⟩ | ⟨h0, p, hu, hp, ho⟩
  · rw [Nat.zero_add] at hu
    by_cases hn : (feedL l St.new []).2.1.n > 0
    · rw [if_pos hn] at hu
      have hfr : fedR l = ((feedL l St.new []).1, 0, 41, true) := by
        unfold fedR closeV
        rw [h0, if_pos ⟨rfl, hn⟩]
      rw [hu, hfr]
      simp
    · rw [if_neg hn] at hu
      have hfr : fedR l = ((feedL l St.new []).1, 0, 0, true) := by
        unfold fedR closeV
        rw [h0, if_neg (fun h => hn h.2)]
      rw [hu, hfr]
      simp
  · rw [Nat.zero_add] at hp
    have hfr : fedR l = ((feedL l St.new []).1, (feedL l St.new []).2.2, (feedL l St.new []).2.2, true) := by
      unfold fedR closeV
      rw [if_neg (fun h => h0 h.1)]
    rw [hu, hfr]
    simp only
    have hw : wrap64 (wrap64 (Int.tdiv (p : Int) 4) * 3) = ((p / 4 * 3 : Nat) : Int) := by
      rw [Int.tdiv_eq_ediv_of_nonneg (by omega), wrap_id ((p : Int) / 4) (by omega) (by omega), wrap_id _ (by omega) (by omega)]
      omega
    rw [if_neg h0, if_pos trivial, if_pos trivial, if_pos (by omega), hw]
    exact congrArg some (decide_eq_true (by omega))
theorem cuts_loop (l : List Int) (hl : InB l) (hs : l.length ≤ 1048576) (d : Nat) : ∀ (i : Nat), i + d = l.length →
    Ev (fun k => posthornlaw04_CodeCuts.l0 k l (fedR l).1 (fedR l).2.1 (fedR l).2.2.1 ((l.take i).filter noEnd) (i : Int)) true := by
  induction d with
  | zero =>
    intro i h
    obtain rfl : i = l.length := by omega
    rw [List.take_length]
    exact cuts_end l hl hs
  | succ d ih =>
    intro i h
    have hi : i < l.length := by omega
    have hw : wrap64 ((i : Int) + 1) = ((i + 1 : Nat) : Int) := by rw [wrap_id _ (by omega) (by omega)]; omega
    have hlen : ((l.take i).filter noEnd).length ≤ i := by
      have := List.length_filter_le noEnd (l.take i)
      rw [List.length_take] at this
      omega
    have ih' := ih (i + 1) (by omega)
    rw [take_snoc l i hi, List.filter_append] at ih'
    refine Ev.round (fun k => ?_) ih'
    simp only [posthornlaw04_CodeCuts.l0]
    rw [if_pos (by omega), if_pos (by omega), rd_nat l i hi, hw]
    by_cases h13 : l[i] = 13
    · rw [if_pos h13, List.filter_cons_of_neg (by rw [h13]; decide)]
      simp
    · rw [if_neg h13]
      by_cases h10 : l[i] = 10
      · rw [if_pos h10, List.filter_cons_of_neg (by rw [h10]; decide)]
        simp
      · rw [if_neg h10, if_pos (by omega), List.filter_cons_of_pos (by unfold noEnd; simp [h13, h10])]
        simp
theorem cuts (l c d : List Int) (hl : InB l) (hs : l.length ≤ 1048576) (hc : c.length ≤ 1048576) (hd : d.length ≤ 1048576) : ∃ k, posthornlaw04_CodeCuts.f k l c d = some true := by
  apply Ev.rounds
  refine Ev.round (g := fun k => posthornlaw04_CodeCuts.f k l c d) (f := fun k => posthornlaw04_CodeCuts.l0 k l (fedR l).1 (fedR l).2.1 (fedR l).2.2.1 ([] : List Int) 0) (fun k => ?_) (cuts_loop l hl hs l.length 0 (by omega))
  unfold posthornlaw04_CodeCuts.f
  rw [show posthornlaw04_wakes.f = some true from rfl, Option.bind_some, if_pos rfl, fed_f l c hl (by omega) (by omega), fed_f l d hl (by omega) (by omega), Option.bind_some, Option.bind_some]
  have h4 : (fedR l).2.2.2 = true := rfl
  rw [if_pos h4, if_pos h4, if_pos rfl, if_pos rfl]
  have hne : ((fedR l).2.2.1 != (fedR l).2.2.1) = false := by simp
  rw [hne]
  simp only [posthornlaw04_CodeCuts.j0]
  rw [if_neg (by decide)]

theorem CodeCuts (a0 : Option Addr) (len0 cap0 : Nat) (z0 : List Int) (a1 : Option Addr) (len1 cap1 : Nat) (z1 : List Int) (a2 : Option Addr) (len2 cap2 : Nat) (z2 : List Int) (w : World) (w0 : (a0 = none ∧ len0 = 0 ∧ cap0 = 0 ∧ z0 = []) ∨ ∃ x, a0 = some x ∧ len0 ≤ cap0 ∧ cap0 ≤ maxLen ∧ z0.length = cap0 ∧ (∀ i, i < z0.length → w.cell? (x.add i) = some (.int .u8 (z0.getD i 0))) ∧ ∀ n ∈ z0, (Lit.int .u8 n).wf = true) (_y0 : len0 * 1 ≤ 140737488351232) (w1 : (a1 = none ∧ len1 = 0 ∧ cap1 = 0 ∧ z1 = []) ∨ ∃ x, a1 = some x ∧ len1 ≤ cap1 ∧ cap1 ≤ maxLen ∧ z1.length = cap1 ∧ (∀ i, i < z1.length → w.cell? (x.add i) = some (.int .i64 (z1.getD i 0))) ∧ ∀ n ∈ z1, (Lit.int .i64 n).wf = true) (_y1 : len1 * 8 ≤ 140737488351232) (w2 : (a2 = none ∧ len2 = 0 ∧ cap2 = 0 ∧ z2 = []) ∨ ∃ x, a2 = some x ∧ len2 ≤ cap2 ∧ cap2 ≤ maxLen ∧ z2.length = cap2 ∧ (∀ i, i < z2.length → w.cell? (x.add i) = some (.int .i64 (z2.getD i 0))) ∧ ∀ n ∈ z2, (Lit.int .i64 n).wf = true) (_y2 : len2 * 8 ≤ 140737488351232) (b0 : len0 ≤ 1048576) (b1 : len1 ≤ 1048576) (b2 : len2 ≤ 1048576) (HG : GOk w) :
    Calls Tryd.prog 9 #[.slice a0 len0 cap0, .slice a1 len1 cap1, .slice a2 len2 cap2] w fun e w' => e = .returned (.bool true) ∧ Below w.heap.size w w' := by
  obtain ⟨l0, rfl, hr0, hm0, hw0, hc0⟩ := ReadsInt.ofRowC w0
  obtain ⟨l1, rfl, hr1, hm1, hw1, hc1⟩ := ReadsInt.ofRowC w1
  obtain ⟨l2, rfl, hr2, hm2, hw2, hc2⟩ := ReadsInt.ofRowC w2
  obtain ⟨k, h⟩ := cuts l0 l1 l2 (fun x hx => wf_u8 (hw0 x hx)) b0 b1 b2
  refine (posthornlaw04_CodeCuts.calls k _ _ l0 _ _ l1 _ _ l2 true ⟨rfl⟩ w (Kd.C_of_reads (d := (0 : Int)) (h1 := fun _ => rfl) hr0) hc0 (Kd.C_of_reads (d := (0 : Int)) (h1 := fun _ => rfl) hr1) hc1 (Kd.C_of_reads (d := (0 : Int)) (h1 := fun _ => rfl) hr2) hc2 HG h).mono ?_
  rintro e w' ⟨rfl, hd⟩
  exact ⟨rfl, hd⟩
end Go.Proofs.YtokgckhhhhigiaaDoor.Pure
