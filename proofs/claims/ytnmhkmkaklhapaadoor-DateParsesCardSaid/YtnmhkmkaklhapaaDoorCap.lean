/- The reference's capitals: small letters as capitals. -/
import Derived.Test.YtnmhkmkaklhapaaDoorWrt
import Derived.Test.YtnmhkmkaklhapaaDoorRefs
namespace Go.Proofs.YtnmhkmkaklhapaaDoor.DP
set_option linter.unusedVariables false
set_option linter.unusedSimpArgs false
open Go.RowKit Go.Proofs.YtnmhkmkaklhapaaDoorW.PrintWords Go.Proofs.YtnmhkmkaklhapaaDoorW.PrintLast Go.Proofs.YtnmhkmkaklhapaaDoorW.PrintMore Go.Proofs.YtnmhkmkaklhapaaDoor.B Go.Proofs.YtnmhkmkaklhapaaDoor.T Go.Proofs.YtnmhkmkaklhapaaDoor.M Go.Proofs.YtnmhkmkaklhapaaDoor.Chk Go.Proofs.YtnmhkmkaklhapaaDoor.MN Go.Proofs.YtnmhkmkaklhapaaDoor.U
/-- The row, the first i made capitals. -/
def capC (xs : List Int) (i n : Nat) : Int := if n < i then up (xs.getD n 0) else xs.getD n 0
theorem capC_next (xs : List Int) (i n : Nat) (h : n ≠ i) : capC xs (i + 1) n = capC xs i n := by
  unfold capC
  by_cases k : n < i
  · rw [if_pos k, if_pos (by omega)]
  · rw [if_neg k, if_neg (by omega)]
theorem capC_at (xs : List Int) (i : Nat) : capC xs i i = xs.getD i 0 := if_neg (by omega)
theorem capC_put (xs : List Int) (i : Nat) : capC xs (i + 1) i = up (xs.getD i 0) := if_pos (by omega)
theorem capC_end (xs : List Int) (n : Nat) (h : n < xs.length) : capC xs xs.length n = (upL xs).getD n 0 := by
  unfold capC upL
  rw [if_pos h, List.getD_eq_getElem?_getD, List.getD_eq_getElem?_getD, List.getElem?_map, List.getElem?_eq_getElem h]
  rfl
set_option maxHeartbeats 1000000 in
set_option maxRecDepth 100000 in
theorem caps_calls (s : ByteArray) (hs : s.size ≤ 140737488351232) (w : World) :
    Calls Tryd.prog 58 #[.string s] w fun e w' => e = .returned (.string (strOfNums (upL (bytesOf s)))) ∧ Below w.heap.size w w' := by
  have hcv := print_bytes (P := Tryd.prog) 9 88 5 Tryd.underlying9 Tryd.underlying88 Tryd.underlying5 s w
  have hrd := bytes_reads w 5 s (by omega)
  have hB := bytes_below (Below.refl w.heap.size w) (Nat.le_refl _) 5 s
  have hf1 : ∀ n, n < s.size → (Lib.bytesWorld w 5 s).frozen? ⟨w.heap.size, n, none⟩ = false := fun n hn => bytesWorld_frozen w 5 s n hn
  have hin := bytesOf_in s
  have hlen := bytesOf_len s
  obtain ⟨xs, hxs⟩ : ∃ xs, bytesOf s = xs := ⟨_, rfl⟩
  obtain ⟨W1, hW1⟩ : ∃ W1, Lib.bytesWorld w 5 s = W1 := ⟨_, rfl⟩
  obtain ⟨cp, hcp⟩ : ∃ n, grownCap w s.size 0 5 = n := ⟨_, rfl⟩
  obtain ⟨N, hN⟩ : ∃ N, s.size = N := ⟨_, rfl⟩
  rw [hxs] at hrd hin hlen ⊢
  rw [hcp] at hcv
  rw [hW1] at hcv hrd hB hf1
  rw [hN] at hcv hrd hlen hs hf1
  have hc1 : ∀ n, n < N → W1.cell? ⟨w.heap.size, n, none⟩ = some (.int .u8 (xs.getD n 0)) := fun n hn => by
    obtain ⟨ad, ead, hcs⟩ := hrd.2.2 (by omega)
    obtain rfl := (Option.some.inj ead).symm
    have := hcs n hn
    rw [add_plain] at this
    exact this
  have HB := Aside0.mk hB
  have HC := Aside0.mk hc1
  have HF := Aside0.mk hf1
  have HI := Aside0.mk hin
  have HL := Aside0.mk hlen
  have HX := Aside0.mk (And.intro hxs (And.intro hW1 (And.intro hcp hN)))
  clear hB hc1 hf1 hin hlen hrd hW1 hcp hxs
  go_enter Tryd.func58, Tryd.ntmps58
  go_wp2
  go_loopw [4] (fun v2 wr => ∃ i : Nat, v2 = .int .i64 (i : Int) ∧ i ≤ N ∧ Aside0 (∀ n, n < N → wr.cell? ⟨w.heap.size, n, none⟩ = some (.int .u8 (capC xs i n))) ∧ Aside0 (∀ n, n < N → wr.frozen? ⟨w.heap.size, n, none⟩ = false) ∧ Aside0 (Below w.heap.size w wr)) (fun v2 _ => N - (intOf v2).toNat)
  case atStart => exact ⟨0, rfl, by omega, ⟨fun n hn => by rw [HC.out n hn]; unfold capC; rw [if_neg (by omega)]⟩, HF, HB⟩
  case round =>
    obtain ⟨i, rfl, hi, HC, HF, HB⟩ := hrel
    by_cases hlt : i < N
    · have hc := HC.out i hlt
      rw [capC_at] at hc
      have hf := HF.out i hlt
      have hx : 0 ≤ xs.getD i 0 ∧ xs.getD i 0 ≤ 255 := by
        have h2 : i < xs.length := by rw [HL.out]; exact hlt
        rw [List.getD_eq_getElem?_getD, List.getElem?_eq_getElem h2]
        exact HI.out _ (List.getElem_mem h2)
      obtain ⟨x, hxx⟩ : ∃ x, xs.getD i 0 = x := ⟨_, rfl⟩
      rw [hxx] at hc hx
      have HXX := Aside0.mk (And.intro hxx hx)
      have hd : decide ((i : Int) < (N : Int)) = true := decide_eq_true (by omega)
      by_cases h1 : 97 ≤ x
      · by_cases h2 : x ≤ 122
        · have d1 : decide (97 ≤ x) = true := decide_eq_true h1
          have d2 : decide (x ≤ 122) = true := decide_eq_true h2
          have q : IntKind.u8.wrap (x - 32) = x - 32 := wrap8 _ (by omega) (by omega)
          clear hxx hx
          go_wp2
          go_roundw
          case rel =>
            refine ⟨i + 1, by go_num, by omega, ⟨fun n hn => ?_⟩, ⟨fun n hn => ?_⟩, ⟨Below.setCell HB.out (Nat.le_refl _) _⟩⟩
            · by_cases e : n = i
              · subst e
                rw [World.cell?_setCell_same _ _ _ hc, capC_put, HXX.out.1, U.up, if_pos ⟨h1, h2⟩]
              · rw [World.cell?_setCell_other _ _ _ _ (by simp <;> omega), HC.out n hn, capC_next _ _ _ e]
            · rw [World.frozen?_setCell]; exact HF.out n hn
          case measure => simp [intOf]; omega
        · have d1 : decide (97 ≤ x) = true := decide_eq_true h1
          have d2 : decide (x ≤ 122) = false := decide_eq_false h2
          clear hxx hx
          go_wp2
          go_roundw
          case rel =>
            refine ⟨i + 1, by go_num, by omega, ⟨fun n hn => ?_⟩, HF, HB⟩
            by_cases e : n = i
            · subst e
              rw [hc, capC_put, HXX.out.1, U.up, if_neg (by omega)]
            · rw [HC.out n hn, capC_next _ _ _ e]
          case measure => simp [intOf]; omega
      · have d1 : decide (97 ≤ x) = false := decide_eq_false h1
        clear hxx hx
        go_wp2
        go_roundw
        case rel =>
          refine ⟨i + 1, by go_num, by omega, ⟨fun n hn => ?_⟩, HF, HB⟩
          by_cases e : n = i
          · subst e
            rw [hc, capC_put, HXX.out.1, U.up, if_neg (by omega)]
          · rw [HC.out n hn, capC_next _ _ _ e]
        case measure => simp [intOf]; omega
    · obtain rfl : i = N := by omega
      have hd : decide ((i : Int) < (i : Int)) = false := decide_eq_false (by omega)
      have hcv2 := run_convert_bytes_arg (P := Tryd.prog) wr 88 5 Tryd.underlying88 Tryd.underlying5 w.heap.size 0 i cp (upL xs) (by rw [upL_len, HL.out]) (fun n hn => by rw [Nat.zero_add, HC.out n hn]; have e := capC_end xs n (by rw [HL.out]; exact hn); rw [HL.out] at e; rw [e]) 9 Tryd.underlying9
      go_wp2
      go_ret
      exact ⟨rfl, HB.out⟩
end Go.Proofs.YtnmhkmkaklhapaaDoor.DP
namespace Go.Proofs.YtnmhkmkaklhapaaDoor.MN
open Go.RowKit Go.Proofs.YtnmhkmkaklhapaaDoorW.PrintWords Go.Proofs.YtnmhkmkaklhapaaDoorW.PrintLast Go.Proofs.YtnmhkmkaklhapaaDoorW.PrintMore Go.Proofs.YtnmhkmkaklhapaaDoor.B Go.Proofs.YtnmhkmkaklhapaaDoor.U
def posthornref06_capitals.f (s : ByteArray) : Option ByteArray := if s.size ≤ 140737488351232 then some (upS s) else none
theorem posthornref06_capitals.calls (s r : ByteArray) (w : World) (h : posthornref06_capitals.f s = some r) :
    Calls Tryd.prog 58 #[.string s] w fun e w' => e = .returned (.string r) ∧ Below w.heap.size w w' := by
  unfold posthornref06_capitals.f at h
  split at h
  · rename_i hs
    obtain rfl := Option.some.inj h
    exact DP.caps_calls s hs w
  · cases h
end Go.Proofs.YtnmhkmkaklhapaaDoor.MN
