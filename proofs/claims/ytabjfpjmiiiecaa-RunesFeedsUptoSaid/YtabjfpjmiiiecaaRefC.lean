/- The reference's One, Bad and Decode in closed form; its Bad is the program's. -/
import Derived.Test.YtabjfpjmiiiecaaRefB
import Derived.Test.YtabjfpjmiiiecaaD7
namespace Go.Proofs.Ytabjfpjmiiiecaa.CK
set_option linter.unusedVariables false
set_option linter.unusedSimpArgs false
open Go.RowKit Go.Proofs.YtabjfpjmiiiecaaW.PrintWords Go.Proofs.YtabjfpjmiiiecaaW.PrintLast Go.Proofs.Ytabjfpjmiiiecaa.B Go.Proofs.Ytabjfpjmiiiecaa.D
def oneR (q : List Int) : Int × Int := if oneV q = 0 then (0, 0) else (numV (q.take (oneV q)), (oneV q : Int))
theorem inb_drop {l : List Int} (h : InB l) (n : Nat) : InB (l.drop n) := fun x hx => h x (List.mem_of_mem_drop hx)
theorem inb_take {l : List Int} (h : InB l) (n : Nat) : InB (l.take n) := fun x hx => h x (List.mem_of_mem_take hx)
theorem one_l0 (l : List Int) (hl : InB l) (hL : l.length ≤ 140737488351232) (a : Nat) (ha : a ≤ l.length) (c : Nat) : ∀ n : Nat, 5 - n = c → 1 ≤ n → n ≤ 5 → (∀ m, 1 ≤ m → m < n → oneV (l.drop a) ≠ m) →
    Ev (fun k => posthornref05_One.l0 k l (a : Int) (n : Int)) (oneR (l.drop a)) := by
  induction c with
  | zero =>
    intro n hc h1 h5 hm
    have hz : oneV (l.drop a) = 0 := by
      have hb := one_le (l.drop a)
      have m1 := hm 1 (by omega) (by omega)
      have m2 := hm 2 (by omega) (by omega)
      have m3 := hm 3 (by omega) (by omega)
      have m4 := hm 4 (by omega) (by omega)
      omega
    unfold oneR
    rw [if_pos hz]
    refine ⟨2, fun k hk => ?_⟩
    obtain ⟨q, rfl⟩ : ∃ q, k = q + 2 := ⟨k - 2, by omega⟩
    dsimp only
    rw [posthornref05_One.l0, if_neg (by omega), posthornref05_One.j1, if_neg (by decide)]
  | succ c ih =>
    intro n hc h1 h5 hm
    by_cases hlen : a + n ≤ l.length
    · have hq : ((l.take (a + n)).drop a) = (l.drop a).take n := by rw [List.drop_take, Nat.add_sub_cancel_left]
      have hnq : n ≤ (l.drop a).length := by rw [List.length_drop]; omega
      have hmo := made_one (l.drop a) (inb_drop hl a) n h1 (by omega) hnq
      obtain ⟨K, hK⟩ := made_ev ((l.drop a).take n) (inb_take (inb_drop hl a) n) (by rw [List.length_take]; omega) (by rw [List.length_take]; omega)
      cases hmb : madeB ((l.drop a).take n) with
      | true =>
        have h1v := hmo.1 hmb
        refine ⟨K + 2, fun k hk => ?_⟩
        obtain ⟨q, rfl⟩ : ∃ q, k = q + 2 := ⟨k - 2, by omega⟩
        have e := hK q (by omega)
        dsimp only at e ⊢
        rw [posthornref05_One.l0, if_pos (by omega), posthornref05_One.j1, wrap_id _ (by omega) (by omega), if_pos (decide_eq_true (by omega)), if_pos (by omega), if_pos (by omega), if_pos (by omega), show ((a : Int) + (n : Int)).toNat = a + n from by omega, Int.toNat_natCast, hq, e, bind_some', hmb, if_pos rfl]
        unfold oneR
        rw [if_neg (by omega), h1v]
      | false =>
        have h1v : oneV (l.drop a) ≠ n := fun e => by rw [hmo.2 e] at hmb; cases hmb
        obtain ⟨K2, hK2⟩ := ih (n + 1) (by omega) (by omega) (by omega) (fun m a1 a2 => by
          by_cases e : m = n
          · rw [e]; exact h1v
          · exact hm m a1 (by omega))
        refine ⟨max K K2 + 2, fun k hk => ?_⟩
        obtain ⟨q, rfl⟩ : ∃ q, k = q + 2 := ⟨k - 2, by omega⟩
        have e := hK q (by omega)
        have e2 := hK2 q (by omega)
        dsimp only at e e2 ⊢
        rw [posthornref05_One.l0, if_pos (by omega), posthornref05_One.j1, wrap_id _ (by omega) (by omega), if_pos (decide_eq_true (by omega)), if_pos (by omega), if_pos (by omega), if_pos (by omega), show ((a : Int) + (n : Int)).toNat = a + n from by omega, Int.toNat_natCast, hq, e, bind_some', hmb, if_neg (by intro h; cases h), wrap_id _ (by omega) (by omega)]
        exact e2
    · have hz : oneV (l.drop a) = 0 := by
        have hb := one_le (l.drop a)
        rw [List.length_drop] at hb
        rcases Nat.eq_zero_or_pos (oneV (l.drop a)) with h | h
        · exact h
        · exact absurd rfl (hm (oneV (l.drop a)) h (by omega))
      unfold oneR
      rw [if_pos hz]
      refine ⟨2, fun k hk => ?_⟩
      obtain ⟨q, rfl⟩ : ∃ q, k = q + 2 := ⟨k - 2, by omega⟩
      dsimp only
      by_cases h4 : (n : Int) ≤ 4
      · rw [posthornref05_One.l0, if_pos h4, wrap_id _ (by omega) (by omega), decide_eq_false (by omega), posthornref05_One.j1, if_neg (by decide)]
      · rw [posthornref05_One.l0, if_neg h4, posthornref05_One.j1, if_neg (by decide)]
theorem one_ev (l : List Int) (hl : InB l) (hL : l.length ≤ 140737488351232) (a : Nat) (ha : a ≤ l.length) : Ev (fun k => posthornref05_One.f k l (a : Int)) (oneR (l.drop a)) :=
  one_l0 l hl hL a ha 4 1 rfl (by omega) (by omega) fun m a1 a2 => by omega
theorem refBad_l0 (l : List Int) (hl : InB l) (hL : l.length ≤ 140737488351232) : ∀ (f a : Nat), a ≤ l.length → l.length - a ≤ f →
    Ev (fun k => posthornref05_Bad.l0 k l (a : Int)) ((a + badV f (l.drop a) : Nat) : Int)
  | 0, a, ha, hf => by
    refine Ev.round (fun k => posthornref05_Bad.l0.eq_2 _ _ k) ?_
    refine Ev.bind (one_ev l hl hL a ha) (Ev.val fun k => ?_)
    rw [List.drop_eq_nil_of_le (show l.length ≤ a by omega)]
    rfl
  | f + 1, a, ha, hf => by
    refine Ev.round (fun k => posthornref05_Bad.l0.eq_2 _ _ k) ?_
    refine Ev.bind (one_ev l hl hL a ha) ?_
    rw [bad_succ]
    unfold oneR
    have hb := one_le (l.drop a)
    rw [List.length_drop] at hb
    by_cases hz : oneV (l.drop a) = 0
    · rw [if_pos hz, if_pos hz]
      exact Ev.val fun k => by rw [if_pos rfl]; rfl
    · rw [if_neg hz, if_neg hz, List.drop_drop]
      have h := refBad_l0 l hl hL f (a + oneV (l.drop a)) (by omega) (by omega)
      refine Ev.congr (fun k => ?_) (show Ev (fun k => posthornref05_Bad.l0 k l ((a + oneV (l.drop a) : Nat) : Int)) _ from by rw [← Nat.add_assoc]; exact h)
      dsimp only
      rw [if_neg (by omega), wrap_id _ (by omega) (by omega)]
      rfl
theorem refBad_ev (l : List Int) (hl : InB l) (hL : l.length ≤ 140737488351232) : Ev (fun k => posthornref05_Bad.f k l) ((badV l.length l : Nat) : Int) := by
  unfold posthornref05_Bad.f
  have h := refBad_l0 l hl hL l.length 0 (Nat.zero_le _) (by omega)
  rw [List.drop_zero, Nat.zero_add] at h
  exact h
/-- The program's Bad of a text: the reference's of its bytes. -/
theorem bad_same (s : ByteArray) (hs : s.size ≤ 140737488351232) : Ev (fun k => runes_Bad_string.f k s) ((badV s.size (bytesOf s) : Nat) : Int) := by
  have h := bad_ev s hs
  rw [auto_bad s.size (bytesOf s) 0 (by rw [bytesOf_len]; exact Nat.le_refl _), Nat.zero_add] at h
  exact h
theorem badB_same (l : List Int) (hs : l.length ≤ 140737488351232) : Ev (fun k => runes_Bad_byte.f k l) ((badV l.length l : Nat) : Int) := by
  have h := badB_ev l hs
  rw [auto_bad l.length l 0 (Nat.le_refl _), Nat.zero_add] at h
  exact h
end Go.Proofs.Ytabjfpjmiiiecaa.CK
