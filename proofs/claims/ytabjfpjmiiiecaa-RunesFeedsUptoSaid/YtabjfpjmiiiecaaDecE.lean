/- A range over a well-formed text tells the reference's runes. -/
import Derived.Test.YtabjfpjmiiiecaaRefC
import Derived.Test.YtabjfpjmiiiecaaDecP
namespace Go.Proofs.Ytabjfpjmiiiecaa.CK
set_option linter.unusedVariables false
set_option linter.unusedSimpArgs false
open Go.RowKit Go.Proofs.YtabjfpjmiiiecaaW.PrintWords Go.Proofs.Ytabjfpjmiiiecaa.B Go.Proofs.Ytabjfpjmiiiecaa.D Go.Proofs.Ytabjfpjmiiiecaa.DE
theorem get_b (s : ByteArray) (p k : Nat) (h : p + k < s.size) : ((bytesOf s).drop p).getD k 0 = ((s.get! (p + k)).toNat : Int) := by
  have hl : p + k < (bytesOf s).length := by rw [bytesOf_len]; exact h
  rw [List.getD_eq_getElem?_getD, List.getElem?_drop, List.getElem?_eq_getElem hl]
  have e : s.get! (p + k) = s[p + k]'h := by simp [ByteArray.get!, getElem!_pos, h]; rfl
  rw [e]
  have := bt_bytes s (p + k) hl
  show (bytesOf s)[p + k] = _
  rw [← this, ← bt_at s ((p + k : Nat) : Int) h]
  rfl
set_option maxRecDepth 100000 in
theorem dec_one (s : ByteArray) (p n : Nat) (hn : oneV ((bytesOf s).drop p) = n) (h1 : 1 ≤ n) : ((Utf8.decode s p).1 : Int) = numV (((bytesOf s).drop p).take n) ∧ (Utf8.decode s p).2 = n := by
  have hb := one_le ((bytesOf s).drop p)
  rw [hn] at hb
  have hlen : ((bytesOf s).drop p).length = s.size - p := by rw [List.length_drop, bytesOf_len]
  have hin : InB ((bytesOf s).drop p) := inb_drop (bytesOf_in s) p
  have hm := (madeB_iff _).1 ((made_one ((bytesOf s).drop p) hin n h1 hb.2 hb.1).2 hn)
  obtain ⟨B, hB⟩ : ∃ B : Nat → Nat, ∀ k, (s.get! (p + k)).toNat = B k := ⟨_, fun _ => rfl⟩
  have g : ∀ k, p + k < s.size → ((bytesOf s).drop p).getD k 0 = ((B k : Nat) : Int) := fun k h => by rw [get_b s p k h, hB]
  have l : ∀ k, B k < 256 := fun k => by rw [← hB]; exact (s.get! (p + k)).toNat_lt
  have l0 := l 0
  have l1 := l 1
  have l2 := l 2
  have l3 := l 3
  have g0 := g 0
  have g1 := g 1
  have g2 := g 2
  have g3 := g 3
  simp only [Utf8.decode, hB]
  clear hB g l
  generalize B 0 = b0 at *
  generalize B 1 = b1 at *
  generalize B 2 = b2 at *
  generalize B 3 = b3 at *
  have hn' : n = 1 ∨ n = 2 ∨ n = 3 ∨ n = 4 := by omega
  generalize (bytesOf s).drop p = q at *
  rcases hn' with rfl | rfl | rfl | rfl
  · match q, hb.1 with
    | a :: r, _ =>
      have ha := hin a (by simp)
      have e0 : a = (b0 : Int) := g0 (by omega)
      have hk := (ok1 a ha).1 hm
      rw [if_pos (by omega)]
      exact ⟨e0.symm, rfl⟩
  · match q, hb.1 with
    | a :: b :: r, _ =>
      have ha := hin a (by simp)
      have hbb := hin b (by simp)
      have e0 : a = (b0 : Int) := g0 (by omega)
      have e1 : b = (b1 : Int) := g1 (by omega)
      have hk := (ok2 a b ha hbb).1 hm
      have c1 : (b0 / 32 == 6 && (decide (p + 1 < s.size) && b1 / 64 == 2)) = true := by
        rw [decide_eq_true (by omega), show b0 / 32 = 6 from by omega, show b1 / 64 = 2 from by omega]; rfl
      rw [if_neg (by omega), if_pos c1, if_pos (by omega)]
      refine ⟨?_, rfl⟩
      show ((b0 % 32 * 64 + b1 % 64 : Nat) : Int) = 64 * (a - 192) + b - 128
      omega
  · match q, hb.1 with
    | a :: b :: c :: r, _ =>
      have ha := hin a (by simp)
      have hbb := hin b (by simp)
      have hcc := hin c (by simp)
      have e0 : a = (b0 : Int) := g0 (by omega)
      have e1 : b = (b1 : Int) := g1 (by omega)
      have e2 : c = (b2 : Int) := g2 (by omega)
      have hk := (ok3 a b c ha hbb hcc).1 hm
      have hl := ldL_or a
      have hh := ldH_or a
      have c0 : ¬ ((b0 / 32 == 6 && (decide (p + 1 < s.size) && b1 / 64 == 2)) = true) := by
        rw [beq_eq_false_iff_ne.2 (show b0 / 32 ≠ 6 by omega)]; simp
      have c1 : (b0 / 16 == 14 && (decide (p + 1 < s.size) && b1 / 64 == 2) && (decide (p + 2 < s.size) && b2 / 64 == 2)) = true := by
        rw [decide_eq_true (show p + 1 < s.size by omega), decide_eq_true (show p + 2 < s.size by omega), show b0 / 16 = 14 from by omega, show b1 / 64 = 2 from by omega, show b2 / 64 = 2 from by omega]; rfl
      have hx : ((b0 % 16 * 4096 + b1 % 64 * 64 + b2 % 64 : Nat) : Int) = 64 * (64 * (a - 224) + b - 128) + c - 128 := by omega
      have c2 : (decide (b0 % 16 * 4096 + b1 % 64 * 64 + b2 % 64 ≥ 2048) && Utf8.valid ((b0 % 16 * 4096 + b1 % 64 * 64 + b2 % 64 : Nat) : Int)) = true := by
        rw [decide_eq_true (by omega), hx]
        unfold Utf8.valid
        simp only [Bool.true_and, Bool.or_eq_true, Bool.and_eq_true, decide_eq_true_eq]
        omega
      rw [if_neg (by omega), if_neg c0, if_pos c1, if_pos c2]
      exact ⟨hx, rfl⟩
  · match q, hb.1 with
    | a :: b :: c :: d :: r, _ =>
      have ha := hin a (by simp)
      have hbb := hin b (by simp)
      have hcc := hin c (by simp)
      have hdd := hin d (by simp)
      have e0 : a = (b0 : Int) := g0 (by omega)
      have e1 : b = (b1 : Int) := g1 (by omega)
      have e2 : c = (b2 : Int) := g2 (by omega)
      have e3 : d = (b3 : Int) := g3 (by omega)
      have hk := (ok4 a b c d ha hbb hcc hdd).1 hm
      have hl := ldL_or a
      have hh := ldH_or a
      have c0 : ¬ ((b0 / 32 == 6 && (decide (p + 1 < s.size) && b1 / 64 == 2)) = true) := by
        rw [beq_eq_false_iff_ne.2 (show b0 / 32 ≠ 6 by omega)]; simp
      have c1 : ¬ ((b0 / 16 == 14 && (decide (p + 1 < s.size) && b1 / 64 == 2) && (decide (p + 2 < s.size) && b2 / 64 == 2)) = true) := by
        rw [beq_eq_false_iff_ne.2 (show b0 / 16 ≠ 14 by omega)]; simp
      have c2 : (b0 / 8 == 30 && (decide (p + 1 < s.size) && b1 / 64 == 2) && (decide (p + 2 < s.size) && b2 / 64 == 2) && (decide (p + 3 < s.size) && b3 / 64 == 2)) = true := by
        rw [decide_eq_true (show p + 1 < s.size by omega), decide_eq_true (show p + 2 < s.size by omega), decide_eq_true (show p + 3 < s.size by omega), show b0 / 8 = 30 from by omega, show b1 / 64 = 2 from by omega, show b2 / 64 = 2 from by omega, show b3 / 64 = 2 from by omega]; rfl
      have hx : ((b0 % 8 * 262144 + b1 % 64 * 4096 + b2 % 64 * 64 + b3 % 64 : Nat) : Int) = 64 * (64 * (64 * (a - 240) + b - 128) + c - 128) + d - 128 := by omega
      have c3 : (decide (b0 % 8 * 262144 + b1 % 64 * 4096 + b2 % 64 * 64 + b3 % 64 ≥ 65536) && Utf8.valid ((b0 % 8 * 262144 + b1 % 64 * 4096 + b2 % 64 * 64 + b3 % 64 : Nat) : Int)) = true := by
        rw [decide_eq_true (by omega), hx]
        unfold Utf8.valid
        simp only [Bool.true_and, Bool.or_eq_true, Bool.and_eq_true, decide_eq_true_eq]
        omega
      rw [if_neg (by omega), if_neg c0, if_neg c1, if_pos c2, if_pos c3]
      exact ⟨hx, rfl⟩
end Go.Proofs.Ytabjfpjmiiiecaa.CK
