/- The reference's Check, Seconds, Days and digits, in closed words. -/
import Derived.Test.YtnmhkmkaklhapaaDoorPad
import Derived.Test.YtnmhkmkaklhapaaDoorMan
import Derived.Test.YtnmhkmkaklhapaaDoorG4
import Derived.Test.YtnmhkmkaklhapaaDoorG2
import Derived.Test.YtnmhkmkaklhapaaDoorG3
namespace Go.Proofs.YtnmhkmkaklhapaaDoor.DP
set_option linter.unusedVariables false
set_option linter.unusedSimpArgs false
open Go.RowKit Go.Proofs.YtnmhkmkaklhapaaDoorW.PrintWords Go.Proofs.YtnmhkmkaklhapaaDoorW.PrintLast Go.Proofs.YtnmhkmkaklhapaaDoorW.PrintMore Go.Proofs.YtnmhkmkaklhapaaDoor.B Go.Proofs.YtnmhkmkaklhapaaDoor.G Go.Proofs.YtnmhkmkaklhapaaDoor.Cal Go.Proofs.YtnmhkmkaklhapaaDoor.Chk Go.Proofs.YtnmhkmkaklhapaaDoor.Dec
theorem one_digit (n : Nat) (h : n < 10000000000) : wrap64 (48 + Int.tmod (n : Int) 10) % 256 = 48 + ((n % 10 : Nat) : Int) ∧ wrap64 (Int.tdiv (n : Int) 10) = ((n / 10 : Nat) : Int) := by
  rw [Int.tmod_eq_emod_of_nonneg (by omega), Int.tdiv_eq_ediv_of_nonneg (by omega), wrap_id _ (by omega) (by omega), wrap_id _ (by omega) (by omega)]
  omega
theorem digits_zero (k : Nat) (hk : k ≤ 100) (c : Nat) : ∀ acc : List Int, k - acc.length = c → acc.length ≤ 200 → Ev (fun r => posthornref06_digits.l0 r 0 (k : Int) (strOfNums acc)) (strOfNums (List.replicate c 48 ++ acc)) := by
  induction c with
  | zero =>
    intro acc hc ha
    refine Ev.last fun r => ?_
    rw [posthornref06_digits.l0, if_neg (by decide), if_neg (by rw [strOfNums_len]; omega)]
    rfl
  | succ c ih =>
    intro acc hc ha
    have key := ih (48 :: acc) (by rw [List.length_cons]; omega) (by rw [List.length_cons]; omega)
    rw [show List.replicate c 48 ++ 48 :: acc = List.replicate (c + 1) (48 : Int) ++ acc from by rw [List.replicate_succ', List.append_assoc, List.singleton_append]] at key
    refine Ev.step (fun r => ?_) key
    have e : wrap64 (48 + Int.tmod (0 : Int) 10) % 256 = 48 := by decide +kernel
    have e2 : wrap64 (Int.tdiv (0 : Int) 10) = 0 := by decide +kernel
    rw [posthornref06_digits.l0, if_neg (by decide), if_pos (by rw [strOfNums_len]; omega), bind_some', e, e2, if_pos (by rw [strOfNums_len, strOfNums_len]; simp; omega), str_app]
    rfl
theorem digits_pos (k : Nat) (hk : k ≤ 100) : ∀ (n : Nat) (acc : List Int), 0 < n → n < 10000000000 → (decN n).length + acc.length ≤ 100 → Ev (fun r => posthornref06_digits.l0 r (n : Int) (k : Int) (strOfNums acc)) (strOfNums (List.replicate (k - ((decN n).length + acc.length)) 48 ++ (decN n ++ acc))) := by
  intro n
  induction n using Nat.strongRecOn with
  | _ n ih =>
    intro acc h0 hn hl
    obtain ⟨e1, e2⟩ := one_digit n hn
    have rd : ∀ r, posthornref06_digits.l0 (r + 1) (n : Int) (k : Int) (strOfNums acc) = posthornref06_digits.l0 r ((n / 10 : Nat) : Int) (k : Int) (strOfNums ((48 + ((n % 10 : Nat) : Int)) :: acc)) := fun r => by
      rw [posthornref06_digits.l0, if_pos (by omega), bind_some', e1, e2, if_pos (by rw [strOfNums_len, strOfNums_len]; simp; omega), str_app]
      rfl
    clear e1 e2
    by_cases hs : n < 10
    · have hd := decN_small hs
      rw [hd] at hl ⊢
      have key := digits_zero k hk (k - (acc.length + 1)) ((48 + ((n % 10 : Nat) : Int)) :: acc) (by rw [List.length_cons]) (by rw [List.length_cons]; simp at hl; omega)
      rw [show n % 10 = n from by omega] at key rd
      rw [show [48 + (n : Int)].length + acc.length = acc.length + 1 from by simp; omega]
      refine Ev.step (fun r => ?_) key
      rw [rd, show n / 10 = 0 from by omega]
      rfl
    · have hd := decN_big hs
      rw [hd] at hl ⊢
      rw [List.length_append, List.length_singleton] at hl
      have key := ih (n / 10) (by omega) ((48 + ((n % 10 : Nat) : Int)) :: acc) (by omega) (by omega) (by rw [List.length_cons]; omega)
      rw [List.length_append, List.length_singleton, List.append_assoc, List.singleton_append, show (decN (n / 10)).length + 1 + acc.length = (decN (n / 10)).length + ((48 + ((n % 10 : Nat) : Int)) :: acc).length from by rw [List.length_cons]; omega]
      exact Ev.step rd key
theorem refDigits_calls (n k : Nat) (hn : n < 10000) (h1 : 1 ≤ k) (hk : k ≤ 4) (w : World) :
    Calls Tryd.prog 54 #[.int .i64 (n : Int), .int .i64 (k : Int)] w fun e w' => e = .returned (.string (strOfNums (padL n k))) ∧ Below w.heap.size w w' := by
  have he : Ev (fun r => posthornref06_digits.f r (n : Int) (k : Int)) (strOfNums (padL n k)) := by
    unfold posthornref06_digits.f padL
    have z : (⟨#[]⟩ : ByteArray) = strOfNums [] := rfl
    rw [z]
    by_cases h0 : n = 0
    · subst h0
      have key := digits_zero k (by omega) k [] rfl (Nat.zero_le _)
      rw [List.append_nil] at key
      rw [decN_small (by decide), show List.replicate (k - [48 + ((0 : Nat) : Int)].length) 48 ++ [48 + ((0 : Nat) : Int)] = List.replicate k (48 : Int) from by
        obtain ⟨q, rfl⟩ : ∃ q, k = q + 1 := ⟨k - 1, by omega⟩
        rw [List.replicate_succ']
        rfl]
      exact key
    · have key := digits_pos k (by omega) n [] (by omega) (by omega) (by have := decN_len 3 n (by omega); simp; omega)
      rw [List.append_nil, List.length_nil, Nat.add_zero] at key
      exact key
  obtain ⟨r, hr⟩ := he
  exact posthornref06_digits.calls r _ _ _ w (hr r (Nat.le_refl _))
theorem refCheck_ev (y mo d h m s z : Int) (hy : -32768 ≤ y) (hy2 : y ≤ 32767) (hm : -128 ≤ mo) (hm2 : mo ≤ 127) (hd : -128 ≤ d) (hd2 : d ≤ 127) : Ev (fun k => posthornref06_Check.f k y mo d h m s z) (chkV y mo d h m s z) := by
  unfold posthornref06_Check.f chkV
  have yes : Ev (fun k => posthornref06_Check.j0 k true y mo d h m s z) 60 := Ev.last fun k => by rw [posthornref06_Check.j0]; exact if_pos rfl
  rw [wrap_id y (by omega) (by omega), wrap_id mo (by omega) (by omega), wrap_id d (by omega) (by omega)]
  refine Ev.bind (refIsDay_ev y mo d) ?_
  cases hv : dayOk y mo d with
  | false =>
    rw [if_pos rfl]
    exact Ev.val fun k => by rw [if_neg (by decide)]
  | true =>
    rw [if_neg (by decide)]
    refine Ev.congr (fun k => by rw [if_pos rfl]) ?_
    unfold timeOk
    by_cases h1 : h < 0
    · rw [if_pos (by simp; omega)]; exact Ev.congr (fun k => by rw [if_pos h1]) yes
    by_cases h2 : h > 23
    · rw [if_pos (by simp; omega)]; exact Ev.congr (fun k => by rw [if_neg h1, if_pos h2]) yes
    by_cases h3 : m < 0
    · rw [if_pos (by simp; omega)]; exact Ev.congr (fun k => by rw [if_neg h1, if_neg h2, if_pos h3]) yes
    by_cases h4 : m > 59
    · rw [if_pos (by simp; omega)]; exact Ev.congr (fun k => by rw [if_neg h1, if_neg h2, if_neg h3, if_pos h4]) yes
    by_cases h5 : s < 0
    · rw [if_pos (by simp; omega)]; exact Ev.congr (fun k => by rw [if_neg h1, if_neg h2, if_neg h3, if_neg h4, if_pos h5]) yes
    by_cases h6 : s > 59
    · rw [if_pos (by simp; omega)]; exact Ev.congr (fun k => by rw [if_neg h1, if_neg h2, if_neg h3, if_neg h4, if_neg h5, decide_eq_true h6]) yes
    rw [if_neg (by simp; omega)]
    refine Ev.congr (f := fun k => posthornref06_Check.j0 k false y mo d h m s z) (fun k => by rw [if_neg h1, if_neg h2, if_neg h3, if_neg h4, if_neg h5, decide_eq_false h6]) (Ev.last fun k => ?_)
    rw [posthornref06_Check.j0, if_neg (by decide)]
    by_cases z1 : z < -1439
    · rw [if_pos z1, if_pos (.inl z1)]
    by_cases z2 : z > 1439
    · rw [if_neg z1, if_pos z2, if_pos (.inr z2)]
    rw [if_neg z1, if_neg z2, if_neg (by omega)]
theorem refSeconds_ev (y mo d h m s z : Int) (hI : MN.allI y mo d h m s z) : Ev (fun k => posthornref06_Seconds.f k y mo d h m s z) (MN.secT y mo d h m s z) := by
  obtain ⟨⟨hy, hy2⟩, ⟨hm, hm2⟩, ⟨hd, hd2⟩, ⟨b7, b8⟩, ⟨b9, b10⟩, ⟨b11, b12⟩, b13, b14⟩ := hI
  unfold posthornref06_Seconds.f MN.secT
  refine Ev.bind (refCheck_ev y mo d h m s z hy hy2 hm hm2 hd hd2) ?_
  by_cases hc : chkV y mo d h m s z = 0
  · rw [if_pos hc]
    refine Ev.congr (fun k => by rw [if_pos hc]) (Ev.bind (refDays_ev y mo d hy hy2 hm hm2 hd hd2) (Ev.val fun k => ?_))
    have hr : -719162 ≤ (daysV y mo d).1 ∧ (daysV y mo d).1 ≤ 2932896 := by
      unfold daysV
      split
      · rename_i hv
        have hq := of_decide_eq_true hv
        have := dn_range (y := y.toNat) (m := mo.toNat) (d := d.toNat) ⟨by omega, by omega, by omega, by omega, by omega, by unfold longI at hq; omega⟩
        show -719162 ≤ ((dn y.toNat mo.toNat d.toNat : Nat) : Int) - 719162 ∧ ((dn y.toNat mo.toNat d.toNat : Nat) : Int) - 719162 ≤ 2932896
        omega
      · exact ⟨by decide, by decide⟩
    unfold secV
    obtain ⟨n, e⟩ : ∃ n, (daysV y mo d).1 = n := ⟨_, rfl⟩
    rw [e] at hr ⊢
    rw [wrap_id (86400 * n) (by omega) (by omega), wrap_id h (by omega) (by omega), wrap_id (3600 * h) (by omega) (by omega), wrap_id (86400 * n + 3600 * h) (by omega) (by omega), wrap_id m (by omega) (by omega), wrap_id (60 * m) (by omega) (by omega), wrap_id (86400 * n + 3600 * h + 60 * m) (by omega) (by omega), wrap_id s (by omega) (by omega), wrap_id (86400 * n + 3600 * h + 60 * m + s) (by omega) (by omega), wrap_id z (by omega) (by omega), wrap_id (60 * z) (by omega) (by omega), wrap_id _ (by omega) (by omega)]
    refine congrArg some (Prod.ext ?_ rfl)
    show 86400 * n + 3600 * h + 60 * m + s - 60 * z = n * 86400 + h * 3600 + m * 60 + s - z * 60
    omega
  · rw [if_neg hc]
    exact Ev.val fun k => by rw [if_neg hc]
theorem refCheck_calls (y mo d h m s z : Int) (hI : MN.allI y mo d h m s z) (w : World) :
    Calls Tryd.prog 30 #[.agg #[.int .i16 y, .int .i8 mo, .int .i8 d, .int .i8 h, .int .i8 m, .int .i8 s, .int .i16 z]] w fun e w' => e = .returned (.int .i64 (chkV y mo d h m s z)) ∧ Below w.heap.size w w' := by
  obtain ⟨k, hk⟩ := refCheck_ev y mo d h m s z hI.1.1 hI.1.2 hI.2.1.1 hI.2.1.2 hI.2.2.1.1 hI.2.2.1.2
  exact posthornref06_Check.calls k y mo d h m s z (chkV y mo d h m s z) w (hk k (Nat.le_refl _))
theorem refSeconds_calls (y mo d h m s z : Int) (hI : MN.allI y mo d h m s z) (w : World) :
    Calls Tryd.prog 26 #[.agg #[.int .i16 y, .int .i8 mo, .int .i8 d, .int .i8 h, .int .i8 m, .int .i8 s, .int .i16 z]] w fun e w' => e = .returned (.tuple #[.int .i64 (MN.secT y mo d h m s z).1, .int .i64 (MN.secT y mo d h m s z).2]) ∧ Below w.heap.size w w' := by
  obtain ⟨k, hk⟩ := refSeconds_ev y mo d h m s z hI
  exact posthornref06_Seconds.calls k y mo d h m s z (MN.secT y mo d h m s z).1 (MN.secT y mo d h m s z).2 w (hk k (Nat.le_refl _))
theorem refDays_calls (y mo d : Int) (hy : MN.I16 y) (hm : MN.I8 mo) (hd : MN.I8 d) (w : World) :
    Calls Tryd.prog 13 #[.int .i16 y, .int .i8 mo, .int .i8 d] w fun e w' => e = .returned (.tuple #[.int .i64 (daysV y mo d).1, .int .i64 (daysV y mo d).2]) ∧ Drawn0 w w' := by
  obtain ⟨k, hk⟩ := refDays_ev y mo d hy.1 hy.2 hm.1 hm.2 hd.1 hd.2
  exact posthornref06_Days.calls k y mo d (daysV y mo d).1 (daysV y mo d).2 w (hk k (Nat.le_refl _))
theorem refWeekday_calls (n : Int) (w : World) : Calls Tryd.prog 21 #[.int .i64 n] w fun e w' => e = .returned (.int .i8 (wkV n)) ∧ Drawn0 w w' := posthornref06_Weekday.calls n (wkV n) w (refWeekday_f n)
end Go.Proofs.YtnmhkmkaklhapaaDoor.DP
