/- A checker's Feed and Whole, and New. -/
import Derived.Test.YtabjfpjmiiiecaaTakeC
namespace Go.Proofs.Ytabjfpjmiiiecaa.CK
set_option linter.unusedVariables false
set_option linter.unusedSimpArgs false
open Go.RowKit Go.Proofs.YtabjfpjmiiiecaaW.PrintWords Go.Proofs.YtabjfpjmiiiecaaW.PrintLast Go.Proofs.YtabjfpjmiiiecaaW.PrintMore Go.Proofs.Ytabjfpjmiiiecaa.B Go.Proofs.Ytabjfpjmiiiecaa.D
/-- What take tells of a byte, and where the reader stands then. -/
def takeV (n l h x : Int) : Bool × Int × Int × Int :=
  if n > 0 then (if x < l then (false, n, l, h) else if x > h then (false, n, l, h) else (true, (n - 1) % 256, 128, 191))
  else if x < 128 then (true, n, 128, 191) else if x < 194 then (false, n, 128, 191) else if x > 244 then (false, n, 128, 191)
  else (true, (if x < 224 then 1 else if x < 240 then 2 else 3), (if x = 224 then 160 else if x = 240 then 144 else 128), (if x = 237 then 159 else if x = 244 then 143 else 191))
theorem take_j1 (k : Nat) (x n l h : Int) (hl : l = 128) (hh : h = 191) : runes_state_take.j1 (k + 1) x n l h = some (true, n, (if x = 224 then 160 else if x = 240 then 144 else 128), (if x = 237 then 159 else if x = 244 then 143 else 191)) := by
  subst hl hh
  rw [runes_state_take.j1]
  by_cases h1 : x = 224
  · subst h1; rfl
  rw [if_neg h1, if_neg h1]
  by_cases h2 : x = 237
  · subst h2; rfl
  rw [if_neg h2, if_neg h2]
  by_cases h3 : x = 240
  · subst h3; rfl
  rw [if_neg h3, if_neg h3]
  by_cases h4 : x = 244
  · subst h4; rfl
  rw [if_neg h4, if_neg h4]
theorem take_f (k : Nat) (n l h x : Int) : runes_state_take.f (k + 2) n l h x = some (takeV n l h x) := by
  unfold runes_state_take.f takeV
  by_cases h0 : n > 0
  · rw [if_pos h0, if_pos h0]
    by_cases h1 : x < l
    · rw [if_pos h1, if_pos h1]
    rw [if_neg h1, if_neg h1]
    by_cases h2 : x > h
    · rw [if_pos h2, if_pos h2]
    rw [if_neg h2, if_neg h2]
  rw [if_neg h0, if_neg h0]
  by_cases h1 : x < 128
  · rw [if_pos h1, if_pos h1]
  rw [if_neg h1, if_neg h1]
  by_cases h2 : x < 194
  · rw [if_pos h2, if_pos h2, runes_state_take.j0, if_pos rfl]
  rw [if_neg h2, if_neg h2, runes_state_take.j0]
  by_cases h3 : x > 244
  · rw [if_pos (decide_eq_true h3), if_pos h3]
  rw [if_neg (by rw [decide_eq_false h3]; decide), if_neg h3]
  by_cases h4 : x < 224
  · rw [if_pos h4, if_pos h4, take_j1 _ _ _ _ _ rfl rfl]
  rw [if_neg h4, if_neg h4]
  by_cases h5 : x < 240
  · rw [if_pos h5, if_pos h5, take_j1 _ _ _ _ _ rfl rfl]
  rw [if_neg h5, if_neg h5, take_j1 _ _ _ _ _ rfl rfl]
theorem take_calls (g : Nat) (M B : Bool) (n l h x : Int) (t : Bool) (n' l' h' : Int) (ht : takeV n l h x = (t, n', l', h')) (w0 w : World) (hI : IsC w0 w g M B n l h) (hB : Below w0.heap.size w0 w) :
    Calls Try.prog 36 #[.pointer (some ⟨g, 2, none⟩), .int .u8 x] w fun e w' => e = .returned (.bool t) ∧ IsC w0 w' g M B n' l' h' ∧ Below w0.heap.size w0 w' ∧ KeepBut w w' g none :=
  take_C 2 g M B n l h x t n' l' h' w0 w hI hB ((take_f 0 n l h x).trans (congrArg some ht))
theorem rd_nat (xs : List Int) (i : Nat) (h : i < xs.length) : rd xs (i : Int) = xs[i] := by
  unfold rd
  simp [List.getD_eq_getElem?_getD, h]

def feedV : List Int → Bool × Int × Int × Int → Bool × Int × Int × Int
  | [], s => s
  | x :: r, (B, n, l, h) => if B = true then (B, n, l, h) else feedV r (!(takeV n l h x).1, (takeV n l h x).2)
theorem feedV_bad : ∀ (xs : List Int) (n l h : Int), feedV xs (true, n, l, h) = (true, n, l, h)
  | [], _, _, _ => rfl
  | x :: r, n, l, h => by unfold feedV; rw [if_pos rfl]
structure CK (w0 w : World) (g : Nat) (B : Bool) (n l h : Int) (W : World) : Prop where
  st : IsC w0 W g true B n l h
  bl : Below w0.heap.size w0 W
  kp : KeepBut w W g none
theorem whole_calls (w0 w : World) (g : Nat) (B : Bool) (n l h : Int) (hI : IsC w0 w g true B n l h) :
    Calls Try.prog 25 #[.pointer (some ⟨g, 0, none⟩)] w fun e w' => e = .returned (.bool (!B && n == 0)) ∧ Drawn0 w w' := by
  have c0 := cellC_m hI.1
  have c1 := cellC_b hI.1
  have c2 := cellC_0 hI.1
  clear hI
  cases B with
  | true =>
    go_enter Try.func25, Try.ntmps25
    go_wp2
    go_ret
    exact ⟨rfl, by repeat (first | exact Drawn0.refl _ | apply Drawn0.step)⟩
  | false =>
    go_enter Try.func25, Try.ntmps25
    go_wp2
    go_ret
    exact ⟨rfl, by repeat (first | exact Drawn0.refl _ | apply Drawn0.step)⟩
theorem whole_nil (w : World) :
    Calls Try.prog 25 #[.pointer none] w fun e w' => e = .returned (.bool false) ∧ Drawn0 w w' := by
  go_enter Try.func25, Try.ntmps25
  go_wp2
  go_ret
  exact ⟨rfl, by repeat (first | exact Drawn0.refl _ | apply Drawn0.step)⟩
theorem new_calls (w : World) :
    Calls Try.prog 21 #[] w fun e w' => ∃ g, e = .returned (.pointer (some ⟨g, 0, none⟩)) ∧ IsC w w' g true false 0 0 0 ∧ Below w.heap.size w w' := by
  go_enter Try.func21, Try.ntmps21
  go_wp2
  go_ret
  exact ⟨_, rfl, ⟨by simpa using heap_alloc_new w _, Nat.le_refl _⟩, below_alloc (Below.refl _ _) _⟩
set_option maxHeartbeats 4000000 in
set_option maxRecDepth 100000 in
theorem feed_calls2 (w0 w : World) (g : Nat) (B : Bool) (n l h : Int) (xs : List Int) (A0 : Option Addr) (c0 : Nat) (hr : Kd.C (Kd.int .u8) w A0 xs.length xs) (hne : ∀ ad, A0 = some ad → 0 < xs.length → ad.block ≠ g) (hc : xs.length ≤ c0) (hl : xs.length ≤ 140737488351232) (hI : IsC w0 w g true B n l h) (hB : Below w0.heap.size w0 w) (B' : Bool) (n' l' h' : Int) (hf : feedV xs (B, n, l, h) = (B', n', l', h')) :
    Calls Try.prog 23 #[.pointer (some ⟨g, 0, none⟩), .slice A0 xs.length c0] w fun e w' => e = .returned (.bool (!B')) ∧ CK w0 w g B' n' l' h' w' := by
  have m0 := cellC_m hI.1
  have HR := Aside0.mk hr
  have HNE := Aside0.mk hne
  have HL := Aside0.mk hl
  have H0 := Aside0.mk (show CK w0 w g B n l h w from ⟨hI, hB, KeepBut.refl w g none⟩)
  have HF := Aside0.mk hf
  clear hr hl hI hB hf hne
  go_enter Try.func23, Try.ntmps23
  go_wp2
  go_loopg [18] xs.length (fun kq v18 W => ∃ (j : Nat) (b : Bool) (x1 x2 x3 : Int), v18 = .int .i64 (j : Int) ∧ Aside0 (j ≤ xs.length ∧ xs.length - j ≤ kq ∧ feedV (xs.drop j) (b, x1, x2, x3) = (B', n', l', h')) ∧ Aside0 (CK w0 w g b x1 x2 x3 W))
  case atStart => exact ⟨0, B, n, l, h, rfl, ⟨Nat.zero_le _, by omega, by rw [List.drop_zero]; exact HF.out⟩, H0⟩
  case round =>
    obtain ⟨j, b, x1, x2, x3, rfl, HJ, HC⟩ := hrel
    obtain ⟨hj1, hj2, hj3⟩ := HJ.out
    have hl := HL.out
    have k0 := cellC_m HC.out.st.1
    have k1 := cellC_b HC.out.st.1
    have k2 := blk_frozen HC.out.st.1 1
    by_cases hlt : j < xs.length
    · have hlt2 : decide ((j : Int) < (xs.length : Int)) = true := decide_eq_true (by omega)
      obtain ⟨ad, e, hx⟩ := Kd.at_int HR.out (j : Int) (by omega) (by omega)
      subst e
      have hx' := keep_cell HC.out.kp hx (by rw [add_block]; exact HNE.out ad rfl (by omega))
      rw [List.drop_eq_getElem_cons hlt] at hj3
      have hrd : rd xs (j : Int) = xs[j] := rd_nat xs j hlt
      rw [hrd] at hx'
      simp only [Int.toNat_natCast] at hx'
      generalize xs[j] = x at *
      have p1 := eq_true (show (0 : Int) ≤ (j : Int) by omega)
      have p2 := eq_true (show (j : Int) < (xs.length : Int) by omega)
      have q2 : IntKind.i64.wrap ((j : Int) + 1) = ((j + 1 : Nat) : Int) := by rw [i64_w, wrap_id _ (by omega) (by omega)]; rfl
      cases gk with
      | zero => omega
      | succ k9 =>
      cases b with
      | true =>
        rw [feedV_bad] at hj3
        simp only [Prod.mk.injEq] at hj3
        obtain ⟨rfl, rfl, rfl, rfl⟩ := hj3
        clear hj1 hj2
        go_wp2
        go_ret
        exact ⟨rfl, HC.out⟩
      | false =>
        obtain ⟨t, y1, y2, y3, ht⟩ : ∃ t y1 y2 y3, takeV x1 x2 x3 x = (t, y1, y2, y3) := ⟨_, _, _, _, rfl⟩
        unfold feedV at hj3
        rw [if_neg (by decide), ht] at hj3
        have HT := Aside0.mk ht
        have HJ2 := Aside0.mk (show j + 1 ≤ xs.length ∧ xs.length - (j + 1) ≤ k9 ∧ feedV (xs.drop (j + 1)) (!t, y1, y2, y3) = (B', n', l', h') from ⟨by omega, by omega, hj3⟩)
        clear hj1 hj2 hj3 ht
        go_wp2_with ((go_at_call 36); (with_reducible refine (take_calls g true false x1 x2 x3 x t y1 y2 y3 HT.out w0 _ HC.out.st HC.out.bl).mono ?_); rintro e wt ⟨rfl, h1, h2, h3⟩; have HC2 := Aside0.mk (show CK w0 w g false y1 y2 y3 wt from ⟨h1, h2, KeepBut.trans HC.out.kp h3 (Or.inl rfl)⟩); have k3 := cellC_b h1.1; have k4 := blk_frozen h1.1 1; clear h1 h2 h3)
        go_roundg k9
        case measure => omega
        case rel => exact ⟨j + 1, !t, y1, y2, y3, rfl, HJ2, ⟨⟨IsC.set_b HC2.out.st _, below_set HC2.out.bl (IsC.ge HC2.out.st), KeepBut.set_ HC2.out.kp _ _⟩⟩⟩
    · have hlt2 : decide ((j : Int) < (xs.length : Int)) = false := decide_eq_false (by omega)
      rw [List.drop_eq_nil_of_le (by omega)] at hj3
      unfold feedV at hj3
      simp only [Prod.mk.injEq] at hj3
      obtain ⟨rfl, rfl, rfl, rfl⟩ := hj3
      clear hj1 hj2
      go_wp2
      go_ret
      exact ⟨rfl, HC.out⟩
theorem feed_calls (w0 w : World) (g : Nat) (B : Bool) (n l h : Int) (xs : List Int) (A0 : Option Addr) (c0 : Nat) (hr : Kd.C (Kd.int .u8) w0 A0 xs.length xs) (hc : xs.length ≤ c0) (hl : xs.length ≤ 140737488351232) (hI : IsC w0 w g true B n l h) (hB : Below w0.heap.size w0 w) (B' : Bool) (n' l' h' : Int) (hf : feedV xs (B, n, l, h) = (B', n', l', h')) :
    Calls Try.prog 23 #[.pointer (some ⟨g, 0, none⟩), .slice A0 xs.length c0] w fun e w' => e = .returned (.bool (!B')) ∧ CK w0 w g B' n' l' h' w' := by
  refine feed_calls2 w0 w g B n l h xs A0 c0 (Kd.C_below hr hB) (fun ad ha h0 => ?_) hc hl hI hB B' n' l' h' hf
  obtain ⟨ad', e, hx⟩ := Kd.at_int hr 0 (by omega) (by omega)
  rw [ha] at e
  cases e
  have h1 := World.block_lt_of_cell? w0 _ hx
  rw [add_block] at h1
  have h2 := IsC.ge hI
  omega
end Go.Proofs.Ytabjfpjmiiiecaa.CK
