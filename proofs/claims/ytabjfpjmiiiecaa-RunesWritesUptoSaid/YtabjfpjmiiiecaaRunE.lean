/- Encode, of the program and of the reference, in closed form; and that Decode and Encode undo one another. -/
import Derived.Test.YtabjfpjmiiiecaaD4
import Derived.Test.YtabjfpjmiiiecaaD8
import Derived.Test.YtabjfpjmiiiecaaDecM
import Derived.Test.YtabjfpjmiiiecaaUnpM
namespace Go.Proofs.Ytabjfpjmiiiecaa.EN
set_option linter.unusedVariables false
set_option linter.unusedSimpArgs false
open Go.RowKit Go.Proofs.YtabjfpjmiiiecaaW.PrintWords Go.Proofs.Ytabjfpjmiiiecaa.B Go.Proofs.Ytabjfpjmiiiecaa.D Go.Proofs.Ytabjfpjmiiiecaa.DE Go.Proofs.Ytabjfpjmiiiecaa.CK
theorem or192 : ∀ n : Nat, n < 32 → Go.bits .or .u8 192 (n : Int) = 192 + (n : Int) := by decide +kernel
theorem or224 : ∀ n : Nat, n < 16 → Go.bits .or .u8 224 (n : Int) = 224 + (n : Int) := by decide +kernel
theorem or240 : ∀ n : Nat, n < 8 → Go.bits .or .u8 240 (n : Int) = 240 + (n : Int) := by decide +kernel
theorem orI192 (x : Int) (h0 : 0 ≤ x) (h1 : x < 32) : Go.bits .or .u8 192 x = 192 + x := by
  have h := or192 x.toNat (by omega)
  rwa [show ((x.toNat : Nat) : Int) = x from Int.toNat_of_nonneg h0] at h
theorem orI224 (x : Int) (h0 : 0 ≤ x) (h1 : x < 16) : Go.bits .or .u8 224 x = 224 + x := by
  have h := or224 x.toNat (by omega)
  rwa [show ((x.toNat : Nat) : Int) = x from Int.toNat_of_nonneg h0] at h
theorem orI240 (x : Int) (h0 : 0 ≤ x) (h1 : x < 8) : Go.bits .or .u8 240 x = 240 + x := by
  have h := or240 x.toNat (by omega)
  rwa [show ((x.toNat : Nat) : Int) = x from Int.toNat_of_nonneg h0] at h
theorem wr_len (x : Int) : 1 ≤ (wrV x).length ∧ (wrV x).length ≤ 4 := by
  unfold wrV
  split
  · simp
  · split
    · simp
    · split <;> simp
theorem valid_f (k : Nat) (x : Int) : utf8_ValidRune.f (k + 1) x = some (isV x) := by
  unfold utf8_ValidRune.f isV
  by_cases h0 : 0 ≤ x
  · rw [if_pos h0, utf8_ValidRune.j0, decide_eq_true h0]
    by_cases h1 : x < 55296
    · rw [decide_eq_true h1, if_pos rfl, decide_eq_true (show x ≤ 1114111 by omega)]
      rfl
    · rw [decide_eq_false h1, if_neg (by decide)]
      by_cases h2 : 57343 < x
      · rw [if_pos h2, decide_eq_true (show x > 57343 from h2)]
        by_cases h3 : x ≤ 1114111
        · rw [if_pos h3, decide_eq_true h3]; rfl
        · rw [if_neg h3, decide_eq_false h3]; rfl
      · rw [if_neg h2, decide_eq_false (show ¬ x > 57343 from h2)]
        simp
  · rw [if_neg h0, utf8_ValidRune.j0, if_neg (by decide), if_neg (by omega), decide_eq_false h0]
    rfl
theorem append_f (k : Nat) (l : List Int) (x : Int) (hx : isV x = true) (hl : l.length + 4 < 140737488355328) : utf8_AppendRune.f (k + 1) l x = some (l ++ wrV x) := by
  have hb := (isV_iff x).1 hx
  have hm : x % 4294967296 = x := by omega
  unfold utf8_AppendRune.f utf8_appendRuneNonASCII.f wrV
  rw [hm]
  by_cases c1 : x < 128
  · rw [if_pos (by omega), if_pos (by omega), if_pos c1, show x % 256 = x from by omega]
  rw [if_neg (by omega), if_neg c1]
  by_cases c2 : x < 2048
  · rw [if_pos (by omega), if_pos c2, bind_some', show x / 64 % 256 = x / 64 from by omega, orI192 _ (by omega) (by omega), if_pos (by simp; omega), bind_some']
  rw [if_neg (by omega), if_neg c2]
  by_cases c3 : x < 65536
  · rw [if_pos c3]
    have e : (if x < 55296 then utf8_appendRuneNonASCII.j0 (k + 1) l x x (decide (x < 55296)) else if 57343 < x then utf8_appendRuneNonASCII.j0 (k + 1) l x x (decide (x ≤ 65535)) else utf8_appendRuneNonASCII.j0 (k + 1) l x x false) = utf8_appendRuneNonASCII.j0 (k + 1) l x x true := by
      by_cases c4 : x < 55296
      · rw [if_pos c4, decide_eq_true c4]
      · rw [if_neg c4, if_pos (by omega), decide_eq_true (show x ≤ 65535 by omega)]
    rw [e, utf8_appendRuneNonASCII.j0, if_pos rfl, bind_some', show x / 4096 % 256 = x / 4096 from by omega, orI224 _ (by omega) (by omega), if_pos (by simp; omega), bind_some']
  · rw [if_neg c3, if_neg (by omega), if_pos (by omega), decide_eq_false (show ¬ x ≤ 65535 by omega), utf8_appendRuneNonASCII.j0, if_neg (by decide), if_pos (by omega), if_pos hb.2.1, bind_some', show x / 262144 % 256 = x / 262144 from by omega, orI240 _ (by omega) (by omega), if_pos (by simp; omega), bind_some']
/-- What Encode tells, from the place i on. -/
def encV : List Int → List Int → Nat → ByteArray × Int × Int
  | acc, [], _ => (strOfNums acc, 0, 0)
  | acc, r :: t, i => if isV r = true then encV (acc ++ wrV r) t (i + 1) else ((⟨#[]⟩ : ByteArray), 50, (i : Int))
def encodeV (l : List Int) : ByteArray × Int × Int := encV [] l 0
theorem enc_l0 (L : List Int) (hL : L.length ≤ 35184372088830) : ∀ (f i : Nat) (acc : List Int), i + f = L.length → acc.length ≤ 4 * i → Ev (fun k => runes_Encode.l0 k acc L (L.length : Int) (i : Int)) (encV acc (L.drop i) i)
  | 0, i, acc, hi, ha => by
    rw [List.drop_of_length_le (by omega)]
    exact Ev.last fun k => by rw [runes_Encode.l0, if_neg (by omega)]; rfl
  | f + 1, i, acc, hi, ha => by
    have hlt : i < L.length := by omega
    rw [List.drop_eq_getElem_cons hlt, encV]
    have hrd : rd L (i : Int) = L[i] := rd_nat L i hlt
    generalize L[i] = x at *
    by_cases hv : isV x = true
    · rw [if_pos hv]
      have hw := wr_len x
      obtain ⟨K, hK⟩ := enc_l0 L hL f (i + 1) (acc ++ wrV x) (by omega) (by rw [List.length_append]; omega)
      refine ⟨K + 2, fun k hk => ?_⟩
      obtain ⟨q, rfl⟩ : ∃ q, k = q + 2 := ⟨k - 2, by omega⟩
      show runes_Encode.l0 (q + 1 + 1) acc L (L.length : Int) (i : Int) = _
      rw [runes_Encode.l0, if_pos (by omega), if_pos (by omega), if_pos (by omega), hrd, valid_f, bind_some', if_pos hv, append_f q acc x hv (by omega), bind_some', wrap_id _ (by omega) (by omega)]
      exact hK (q + 1) (by omega)
    · rw [if_neg hv]
      refine ⟨2, fun k hk => ?_⟩
      obtain ⟨q, rfl⟩ : ∃ q, k = q + 2 := ⟨k - 2, by omega⟩
      show runes_Encode.l0 (q + 1 + 1) acc L (L.length : Int) (i : Int) = _
      rw [runes_Encode.l0, if_pos (by omega), if_pos (by omega), if_pos (by omega), hrd, valid_f, bind_some', if_neg hv]
theorem encode_ev (L : List Int) (hL : L.length ≤ 35184372088830) : Ev (fun k => runes_Encode.f k L) (encodeV L) := by
  have h := enc_l0 L hL L.length 0 [] (by omega) (Nat.zero_le _)
  rw [List.drop_zero] at h
  exact h
theorem refEnc_l0 (L : List Int) (hL : L.length ≤ 35184372088830) (hr : ∀ x ∈ L, -2147483648 ≤ x ∧ x ≤ 2147483647) : ∀ (f i : Nat) (acc : List Int), i + f = L.length → acc.length ≤ 4 * i → Ev (fun k => posthornref05_Encode.l0 k acc L (L.length : Int) (i : Int)) (encV acc (L.drop i) i)
  | 0, i, acc, hi, ha => by
    rw [List.drop_of_length_le (by omega)]
    exact Ev.last fun k => by rw [posthornref05_Encode.l0, if_neg (by omega)]; rfl
  | f + 1, i, acc, hi, ha => by
    have hlt : i < L.length := by omega
    have hx := hr L[i] (List.getElem_mem hlt)
    rw [List.drop_eq_getElem_cons hlt, encV]
    have hrd : rd L (i : Int) = L[i] := rd_nat L i hlt
    generalize L[i] = x at *
    refine Ev.round (fun k => by rw [posthornref05_Encode.l0, if_pos (by omega), if_pos (by omega), if_pos (by omega), hrd, wrap_id x (by omega) (by omega), is_f, bind_some']) ?_
    by_cases hv : isV x = true
    · have hw := wr_len x
      have hb := (isV_iff x).1 hv
      rw [if_pos hv]
      refine Ev.congr (fun k => ?_) (refEnc_l0 L hL hr f (i + 1) (acc ++ wrV x) (by omega) (by rw [List.length_append]; omega))
      rw [if_pos hv, write_f x hb.1 hb.2.1, bind_some', if_pos (by omega), wrap_id _ (by omega) (by omega)]
      rfl
    · rw [if_neg hv]
      exact Ev.val fun k => by rw [if_neg hv]
theorem refEncode_ev (L : List Int) (hL : L.length ≤ 35184372088830) (hr : ∀ x ∈ L, -2147483648 ≤ x ∧ x ≤ 2147483647) : Ev (fun k => posthornref05_Encode.f k L) (encodeV L) := by
  have h := refEnc_l0 L hL hr L.length 0 [] (by omega) (Nat.zero_le _)
  rw [List.drop_zero] at h
  exact h
/-- All the bytes. -/
def encL (l : List Int) : List Int := l.flatMap wrV
theorem encV_yes : ∀ (l acc : List Int) (i : Nat), (∀ x ∈ l, isV x = true) → encV acc l i = (strOfNums (acc ++ encL l), 0, 0)
  | [], acc, i, _ => by
    rw [encV]
    unfold encL
    rw [List.flatMap_nil, List.append_nil]
  | r :: t, acc, i, h => by
    rw [encV, if_pos (h r (by simp)), encV_yes t _ _ (fun x hx => h x (by simp [hx]))]
    unfold encL
    rw [List.flatMap_cons, List.append_assoc]
theorem encV_or : ∀ (l acc : List Int) (i : Nat), (∀ x ∈ l, isV x = true) ∨ ∃ j, j < l.length ∧ encV acc l i = ((⟨#[]⟩ : ByteArray), 50, ((i + j : Nat) : Int))
  | [], acc, i => .inl (by simp)
  | r :: t, acc, i => by
    rw [encV]
    by_cases hv : isV r = true
    · rw [if_pos hv]
      rcases encV_or t (acc ++ wrV r) (i + 1) with h | ⟨j, hj, h⟩
      · refine .inl fun x hx => ?_
        rcases List.mem_cons.1 hx with rfl | hx
        · exact hv
        · exact h x hx
      · refine .inr ⟨j + 1, by rw [List.length_cons]; omega, ?_⟩
        rw [h, show i + 1 + j = i + (j + 1) from by omega]
    · rw [if_neg hv]
      exact .inr ⟨0, by simp, rfl⟩
theorem num_wr (x : Int) (h : isV x = true) : numV (wrV x) = x := by
  have hb := (isV_iff x).1 h
  unfold wrV
  split
  · rfl
  · split
    · rw [show numV [192 + x / 64, 128 + x % 64] = 64 * (192 + x / 64 - 192) + (128 + x % 64) - 128 from rfl]
      omega
    · split
      · rw [show numV [224 + x / 4096, 128 + x / 64 % 64, 128 + x % 64] = 64 * (64 * (224 + x / 4096 - 224) + (128 + x / 64 % 64) - 128) + (128 + x % 64) - 128 from rfl]
        omega
      · rw [show numV [240 + x / 262144, 128 + x / 4096 % 64, 128 + x / 64 % 64, 128 + x % 64] = 64 * (64 * (64 * (240 + x / 262144 - 240) + (128 + x / 4096 % 64) - 128) + (128 + x / 64 % 64) - 128) + (128 + x % 64) - 128 from rfl]
        omega
theorem one_wr (x : Int) (h : isV x = true) (r : List Int) (hr : InB r) : oneV (wrV x ++ r) = (wrV x).length := by
  have hb := (isV_iff x).1 h
  have hw := wr_len x
  have hq : InB (wrV x ++ r) := fun y hy => by
    rcases List.mem_append.1 hy with hy | hy
    · exact wr_in x hb.1 hb.2.1 y hy
    · exact hr y hy
  refine (made_one (wrV x ++ r) hq (wrV x).length hw.1 hw.2 (by rw [List.length_append]; omega)).1 ?_
  rw [List.take_left, madeB_iff, num_wr x h]
  exact ⟨h, rfl⟩
theorem encL_in : ∀ (l : List Int), (∀ x ∈ l, isV x = true) → InB (encL l)
  | [], _ => fun y hy => by simp [encL] at hy
  | x :: t, h => fun y hy => by
    unfold encL at hy
    rw [List.flatMap_cons] at hy
    have hb := (isV_iff x).1 (h x (by simp))
    rcases List.mem_append.1 hy with hy | hy
    · exact wr_in x hb.1 hb.2.1 y hy
    · exact encL_in t (fun z hz => h z (by simp [hz])) y hy
theorem encL_cons (x : Int) (t : List Int) : encL (x :: t) = wrV x ++ encL t := by unfold encL; rw [List.flatMap_cons]
theorem bad_enc : ∀ (l : List Int) (f : Nat), (∀ x ∈ l, isV x = true) → (encL l).length ≤ f → badV f (encL l) = (encL l).length
  | [], f, _, _ => by
    cases f with
    | zero => rfl
    | succ f => rfl
  | x :: t, f, h, hf => by
    have hx := h x (by simp)
    have ht : ∀ z ∈ t, isV z = true := fun z hz => h z (by simp [hz])
    have hw := wr_len x
    rw [encL_cons] at hf ⊢
    rw [List.length_append] at hf ⊢
    cases f with
    | zero => omega
    | succ f =>
    rw [bad_succ, one_wr x hx _ (encL_in t ht), if_neg (by omega), List.drop_left, bad_enc t f ht (by omega)]
theorem dec_enc (s : ByteArray) : ∀ (l : List Int) (f p : Nat), (∀ x ∈ l, isV x = true) → (bytesOf s).drop p = encL l → s.size - p ≤ f → p ≤ s.size → decL s f p = l
  | [], f, p, _, h, _, hp => by
    have hl : ((bytesOf s).drop p).length = s.size - p := by rw [List.length_drop, bytesOf_len]
    rw [h] at hl
    refine decL_end s f p ?_
    have : (encL []).length = 0 := rfl
    omega
  | x :: t, f, p, hv, h, hf, hp => by
    have hx := hv x (by simp)
    have ht : ∀ z ∈ t, isV z = true := fun z hz => hv z (by simp [hz])
    have hw := wr_len x
    have hl : ((bytesOf s).drop p).length = s.size - p := by rw [List.length_drop, bytesOf_len]
    rw [h, encL_cons, List.length_append] at hl
    cases f with
    | zero => omega
    | succ f =>
    have hlt : p < s.size := by omega
    have ho : oneV ((bytesOf s).drop p) = (wrV x).length := by rw [h, encL_cons]; exact one_wr x hx _ (encL_in t ht)
    obtain ⟨d1, d2⟩ := dec_one s p _ ho (by omega)
    rw [h, encL_cons, List.take_left, num_wr x hx] at d1
    rw [decL_step s f p hlt, d1, d2]
    congr 1
    refine dec_enc s t f (p + (wrV x).length) ht ?_ (by omega) (by omega)
    rw [← List.drop_drop, h, encL_cons, List.drop_left]
theorem enc_dec (s : ByteArray) : ∀ (f p : Nat), p ≤ s.size → s.size - p ≤ f → badV f ((bytesOf s).drop p) = s.size - p → encL (decL s f p) = (bytesOf s).drop p ∧ ∀ x ∈ decL s f p, isV x = true
  | 0, p, hp, hf, _ => by
    have hl : ((bytesOf s).drop p).length = s.size - p := by rw [List.length_drop, bytesOf_len]
    refine ⟨?_, fun x hx => by cases hx⟩
    have : (bytesOf s).drop p = [] := List.length_eq_zero_iff.1 (by omega)
    rw [this]
    rfl
  | f + 1, p, hp, hf, hb => by
    have hl : ((bytesOf s).drop p).length = s.size - p := by rw [List.length_drop, bytesOf_len]
    by_cases hlt : p < s.size
    · rw [bad_succ] at hb
      have hz : oneV ((bytesOf s).drop p) ≠ 0 := fun e => by rw [if_pos e] at hb; omega
      rw [if_neg hz, List.drop_drop] at hb
      have ho := one_le ((bytesOf s).drop p)
      obtain ⟨d1, d2⟩ := dec_one s p _ rfl (by omega)
      have hin : InB ((bytesOf s).drop p) := fun y hy => bytesOf_in s y (List.mem_of_mem_drop hy)
      have hm := (made_one ((bytesOf s).drop p) hin (oneV ((bytesOf s).drop p)) (by omega) ho.2 ho.1).2 rfl
      rw [madeB_iff] at hm
      rw [decL_step s f p hlt, d1, d2]
      have ih := enc_dec s f (p + oneV ((bytesOf s).drop p)) (by omega) (by omega) (by omega)
      generalize hn : oneV ((bytesOf s).drop p) = n at *
      refine ⟨?_, fun x hx => ?_⟩
      · rw [encL_cons, hm.2, ih.1, ← List.drop_drop, List.take_append_drop]
      · rcases List.mem_cons.1 hx with rfl | hx
        · exact hm.1
        · exact ih.2 x hx
    · rw [decL_end s (f + 1) p hlt]
      refine ⟨?_, fun x hx => by cases hx⟩
      have : (bytesOf s).drop p = [] := List.length_eq_zero_iff.1 (by omega)
      rw [this]
      rfl
end Go.Proofs.Ytabjfpjmiiiecaa.EN
