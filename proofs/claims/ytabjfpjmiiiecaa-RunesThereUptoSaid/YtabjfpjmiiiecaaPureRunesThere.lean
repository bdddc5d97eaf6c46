/- RunesThere, where what it reads is of bulk at most 1048576: Punycode is read as it was written, and what is read is written as it was, but for capitals. -/
import Derived.Test.YtabjfpjmiiiecaaT3
import Derived.Test.YtabjfpjmiiiecaaThB
namespace Go.Proofs.Ytabjfpjmiiiecaa.Pure
set_option linter.unusedVariables false
set_option linter.unusedSimpArgs false
open Go.RowKit Go.Proofs.Ytabjfpjmiiiecaa.T Go.Proofs.YtabjfpjmiiiecaaW.PrintWords Go.Proofs.YtabjfpjmiiiecaaW.PrintLast Go.Proofs.YtabjfpjmiiiecaaW.PrintMore
open Go.Proofs.Ytabjfpjmiiiecaa.B Go.Proofs.Ytabjfpjmiiiecaa.MN Go.Proofs.Ytabjfpjmiiiecaa.WK Go.Proofs.Ytabjfpjmiiiecaa.CL Go.Proofs.Ytabjfpjmiiiecaa.D Go.Proofs.Ytabjfpjmiiiecaa.UN Go.Proofs.Ytabjfpjmiiiecaa.RQ Go.Proofs.Ytabjfpjmiiiecaa.SM Go.Proofs.Ytabjfpjmiiiecaa.PU

theorem there_j0 (s : ByteArray) (hs : s.size ≤ 1048576) : Ev (fun k => posthornlaw05_RunesThere.j0 k s) true := by
  have e1 : runes_Unpuny.f s = some (unpunyV s) := by unfold runes_Unpuny.f; rw [if_pos (by omega)]
  have hlen := unpunyV_len s
  refine Ev.round (fun k => by rw [posthornlaw05_RunesThere.j0, e1, bind_some']) ?_
  refine Ev.bind (refUnpuny_ev s (by omega)) ?_
  refine Ev.congr (fun k => by rw [if_neg (by rw [beq_self_eq_true, beq_self_eq_true]; decide)]) ?_
  by_cases c : (unpunyV s).2.1 = 0
  · have hz : (unpunyV s).2.2 = 0 := by
      have : ∀ (f : Nat) (out : List Int) (p : Nat) (n place bias : Int) (first : Bool), (outP s f out p n place bias first).2.1 = 0 → (outP s f out p n place bias first).2.2 = 0 := by
        intro f
        induction f with
        | zero => intro out p n place bias first _; rfl
        | succ f ih =>
          intro out p n place bias first
          rw [outP]
          split
          · split
            · split
              · exact ih _ _ _ _ _ _
              · intro h; simp at h
            · rename_i h1
              intro h
              exact absurd h h1
          · intro _; rfl
      unfold unpunyV unpV at c ⊢
      split
      · rename_i h0
        rw [if_pos h0] at c
        split
        · rename_i j hj
          rw [hj] at c
          simp at c
        · rename_i hj
          rw [hj] at c
          exact this _ _ _ _ _ _ _ c
      · rename_i h0
        rw [if_neg h0] at c
        exact this _ _ _ _ _ _ _ c
    have he : unpunyV s = ((unpunyV s).1, 0, 0) := Prod.ext rfl (Prod.ext c hz)
    have hb := back s hs (unpunyV s).1 he
    have hin : ∀ x ∈ (unpunyV s).1, -2147483648 ≤ x ∧ x ≤ 2147483647 := by
      intro x hx
      have ha : ((unpunyV s).1.all isV) = true := by
        by_cases h : ((unpunyV s).1.all isV) = true
        · exact h
        · unfold punyV at hb
          rw [if_neg h] at hb
          simp at hb
      have := isV_rng x (List.all_eq_true.1 ha x hx)
      omega
    have hp := puny_ev (unpunyV s).1 (by omega) hin
    rw [hb] at hp
    have e2 : posthornlaw05_small.f s = some (smallV s) := if_pos (by omega)
    refine Ev.congr (fun k => by rw [if_pos c]) ?_
    refine Ev.bind hp ?_
    exact Ev.val fun k => by rw [if_pos rfl, e2, bind_some', if_pos rfl]; rfl
  · have hz : (unpunyV s).1 = [] := by
      have : ∀ (f : Nat) (out : List Int) (p : Nat) (n place bias : Int) (first : Bool), (outP s f out p n place bias first).2.1 ≠ 0 → (outP s f out p n place bias first).1 = [] := by
        intro f
        induction f with
        | zero => intro out p n place bias first h; exact absurd rfl h
        | succ f ih =>
          intro out p n place bias first
          rw [outP]
          split
          · split
            · split
              · exact ih _ _ _ _ _ _
              · intro _; rfl
            · intro _; rfl
          · intro h; exact absurd rfl h
      unfold unpunyV unpV at c ⊢
      split
      · rename_i h0
        rw [if_pos h0] at c
        split
        · rfl
        · rename_i hj
          rw [hj] at c
          exact this _ _ _ _ _ _ _ c
      · rename_i h0
        rw [if_neg h0] at c
        exact this _ _ _ _ _ _ _ c
    exact Ev.val fun k => by rw [if_neg c, hz, if_pos (show (([] : List Int).length : Int) = 0 by decide)]; rfl
theorem RunesThere (a0 : Option Addr) (len0 cap0 : Nat) (z0 : List Int) (a1 : ByteArray) (w : World) (w0 : (a0 = none ∧ len0 = 0 ∧ cap0 = 0 ∧ z0 = []) ∨ ∃ x, a0 = some x ∧ len0 ≤ cap0 ∧ cap0 ≤ maxLen ∧ z0.length = cap0 ∧ (∀ i, i < z0.length → w.cell? (x.add i) = some (.int .i32 (z0.getD i 0))) ∧ ∀ n ∈ z0, (Lit.int .i32 n).wf = true) (_y0 : len0 * 4 ≤ 140737488351232) (w1 : a1.size ≤ 140737488351232) (b0 : len0 ≤ 1048576) (b1 : a1.size ≤ 1048576) :
    Calls Try.prog 8 #[.slice a0 len0 cap0, .string a1] w fun e w' => e = .returned (.bool true) ∧ Below w.heap.size w w' := by
  obtain ⟨l, rfl, hr, hm, hw, hc⟩ := ReadsInt.ofRowC w0
  have hC := Kd.C_of_reads (d := (0 : Int)) (h1 := fun _ => rfl) hr
  have hin : ∀ x ∈ l, -2147483648 ≤ x ∧ x ≤ 2147483647 := fun x hx => wf_i32 (hw x hx)
  obtain ⟨k, hk⟩ : Ev (fun k => posthornlaw05_RunesThere.f k l a1) true := by
    unfold posthornlaw05_RunesThere.f
    refine Ev.bind (puny_ev l b0 hin) ?_
    refine Ev.bind (refPuny_ev l b0 hin) ?_
    refine Ev.congr (fun k => by rw [if_pos rfl]) ?_
    by_cases c : (punyV l).2 = 0
    · obtain ⟨h1, h2⟩ := there l b0 (punyV l).1 (by rw [← c])
      have e1 : runes_Unpuny.f (punyV l).1 = some (l, 0, 0) := by unfold runes_Unpuny.f; rw [if_pos (by omega), h1]
      refine Ev.congr (fun k => by rw [if_pos c, e1, bind_some', if_pos rfl]) ?_
      refine Ev.bind (eq_ev l (by omega)) ?_
      exact Ev.congr (fun k => by rw [if_pos rfl]) (there_j0 a1 b1)
    · exact Ev.congr (fun k => by rw [if_neg c]) (there_j0 a1 b1)
  exact posthornlaw05_RunesThere.calls k a0 cap0 l a1 true w hC hc (hk k (Nat.le_refl _))
end Go.Proofs.Ytabjfpjmiiiecaa.Pure
