/- SumBits: bits turned within 32 beside one another make another sum, and none turned the same. -/
import Derived.Test.YtlaglidgjnpncaaSumC
import Derived.Test.YtlaglidgjnpncaaSumP
import Derived.Test.YtlaglidgjnpncaaH1
namespace Go.Proofs.Ytlaglidgjnpncaa.Pure
set_option linter.unusedVariables false
set_option linter.unusedSimpArgs false
set_option linter.unusedVariables false
open Go.RowKit Go.Proofs.Ytlaglidgjnpncaa.H Go.Proofs.YtlaglidgjnpncaaW.PrintWords Go.Proofs.YtlaglidgjnpncaaW.PrintLast Go.Proofs.YtlaglidgjnpncaaW.PrintMore
open Go.Proofs.Ytlaglidgjnpncaa.B Go.Proofs.Ytlaglidgjnpncaa.SumF Go.Proofs.Ytlaglidgjnpncaa.SumP Go.Proofs.Ytlaglidgjnpncaa.Crc

theorem runb_xor (r s : W) (a b : List Bool) (h : a.length = b.length) : runb (r ^^^ s) (List.zipWith (· ^^ ·) a b) = runb r a ^^^ runb s b := by
  induction a generalizing r s b with
  | nil => cases b with
    | nil => rfl
    | cons _ _ => cases h
  | cons x a ih => cases b with
    | nil => cases h
    | cons y b =>
      simp only [List.zipWith_cons_cons, runb_cons]
      rw [bit_xor, show r ^^^ s ^^^ (bit x ^^^ bit y) = (r ^^^ bit x) ^^^ (s ^^^ bit y) by ac_rfl, D_xor, ih _ _ _ (by simpa using h)]
/-- A byte's bits; a row's bits. -/
def bi (x : Int) : List Bool := bits8 (BitVec.ofInt 8 x)
def bs (l : List Int) : List Bool := l.flatMap bi
def BIT (l : List Int) (k : Nat) : Bool := (BitVec.ofInt 8 (l.getD (k / 8) 0)).getLsbD (k % 8)
theorem bi_len (x : Int) : (bi x).length = 8 := rfl
theorem bi_get (x : Int) (k : Nat) (h : k < 8) : (bi x)[k]? = some ((BitVec.ofInt 8 x).getLsbD k) := by
  unfold bi bits8
  match k, h with
  | 0, _ => rfl
  | 1, _ => rfl
  | 2, _ => rfl
  | 3, _ => rfl
  | 4, _ => rfl
  | 5, _ => rfl
  | 6, _ => rfl
  | 7, _ => rfl
theorem bs_len (l : List Int) : (bs l).length = 8 * l.length := by
  induction l with
  | nil => rfl
  | cons x l ih => unfold bs at *; rw [List.flatMap_cons, List.length_append, ih, bi_len, List.length_cons]; omega
theorem bs_get (l : List Int) : ∀ k, k < 8 * l.length → (bs l)[k]? = some (BIT l k) := by
  induction l with
  | nil => intro k h; simp at h
  | cons x l ih =>
    intro k h
    unfold bs at *
    rw [List.flatMap_cons]
    by_cases hk : k < 8
    · rw [List.getElem?_append_left (by rw [bi_len]; exact hk), bi_get x k hk]
      unfold BIT
      rw [show k / 8 = 0 by omega, show k % 8 = k by omega]; rfl
    · rw [List.getElem?_append_right (by rw [bi_len]; omega), bi_len, ih (k - 8) (by simp at h; omega)]
      unfold BIT
      rw [show k / 8 = (k - 8) / 8 + 1 by omega, show (k - 8) % 8 = k % 8 by omega]; rfl
theorem byte_w (x : Int) (h : 0 ≤ x ∧ x ≤ 255) : toW x = BitVec.ofNat 32 (BitVec.ofInt 8 x).toNat := by
  obtain ⟨n, rfl⟩ := Int.eq_ofNat_of_zero_le h.1
  unfold toW
  rw [BitVec.ofInt_natCast, BitVec.ofInt_natCast, BitVec.toNat_ofNat, Nat.mod_eq_of_lt (show n < 2 ^ 8 by omega)]
theorem run_bs (r : W) (l : List Int) (h : InB l) : run r (ws l) = runb r (bs l) := by
  have := run_bits r (l.map fun x => BitVec.ofInt 8 x)
  rw [List.flatMap_map] at this
  unfold bs bi
  rw [← this, List.map_map]
  unfold ws
  congr 1
  apply List.map_congr_left
  intro x hx
  exact byte_w x (h x hx)

theorem pow_bit : ∀ (e j : Fin 8), (BitVec.ofInt 8 ((2 : Int) ^ e.val)).getLsbD j.val = decide (j.val = e.val) := by decide +kernel
theorem xor8_bit (v p : Int) (j : Nat) : (BitVec.ofInt 8 (Go.bits .xor .u8 v p)).getLsbD j = ((BitVec.ofInt 8 v).getLsbD j ^^ (BitVec.ofInt 8 p).getLsbD j) := by
  have h : Go.bits .xor .u8 v p = (((BitVec.ofInt 8 v ^^^ BitVec.ofInt 8 p).toNat : Nat) : Int) := by
    show IntKind.u8.wrap (((BitVec.ofInt 8 v ^^^ BitVec.ofInt 8 p).toNat : Nat) : Int) = _
    have := (BitVec.ofInt 8 v ^^^ BitVec.ofInt 8 p).isLt
    rw [IntKind.wrap_u8]; omega
  rw [h, BitVec.ofInt_natCast, BitVec.ofNat_toNat, BitVec.setWidth_eq, BitVec.getLsbD_xor]
theorem xor8_in (v p : Int) : 0 ≤ Go.bits .xor .u8 v p ∧ Go.bits .xor .u8 v p ≤ 255 := by
  show 0 ≤ IntKind.u8.wrap (((BitVec.ofInt 8 v ^^^ BitVec.ofInt 8 p).toNat : Nat) : Int) ∧ IntKind.u8.wrap (((BitVec.ofInt 8 v ^^^ BitVec.ofInt 8 p).toNat : Nat) : Int) ≤ 255
  rw [IntKind.wrap_u8]; omega
theorem shl_bit (e : Nat) (h : e < 8) : shl .u8 1 (e : Int) = (2 : Int) ^ e := by
  have : ∀ e : Fin 8, shl .u8 1 (e.val : Int) = (2 : Int) ^ e.val := by decide +kernel
  exact this ⟨e, h⟩
/-- One bit turned. -/
theorem flip_bit (l : List Int) (k : Nat) (hk : k < 8 * l.length) (k' : Nat) :
    BIT (l.set (k / 8) (Go.bits .xor .u8 (l.getD (k / 8) 0) ((2 : Int) ^ (k % 8)))) k' = (BIT l k' ^^ decide (k' = k)) := by
  unfold BIT
  by_cases h : k' / 8 = k / 8
  · rw [h, getD_set_self _ _ _ _ (by omega), xor8_bit]
    have h2 := pow_bit ⟨k % 8, by omega⟩ ⟨k' % 8, by omega⟩
    simp only at h2
    rw [h2]
    congr 1
    exact decide_eq_decide.2 ⟨fun e => by omega, fun e => by rw [e]⟩
  · have e : (l.set (k / 8) (Go.bits .xor .u8 (l.getD (k / 8) 0) ((2 : Int) ^ (k % 8)))).getD (k' / 8) 0 = l.getD (k' / 8) 0 := by
      rw [List.getD_eq_getElem?_getD, List.getElem?_set_ne (Ne.symm h), List.getD_eq_getElem?_getD]
    rw [e, decide_eq_false (fun e => h (by rw [e])), Bool.xor_false]

/-- What is turned: the bits of the mask from a place on. -/
def dl (at' : Nat) (m : W) (i k : Nat) : Bool := decide (at' ≤ k ∧ k < at' + i) && m.getLsbD (k - at')
theorem dl_succ (at' : Nat) (m : W) (i k : Nat) : dl at' m (i + 1) k = (dl at' m i k ^^ (decide (k = at' + i) && m.getLsbD i)) := by
  unfold dl
  by_cases h : k = at' + i
  · subst h
    rw [decide_eq_true (by omega), decide_eq_false (by omega), show at' + i - at' = i by omega, decide_eq_true rfl]
    cases m.getLsbD i <;> rfl
  · rw [decide_eq_false h, Bool.false_and, Bool.xor_false]
    congr 1
    exact decide_eq_decide.2 ⟨fun e => by omega, fun e => by omega⟩
theorem dl_split (n at' : Nat) (m : W) (h : at' ≤ n) : (List.range n).map (dl at' m 32) = List.replicate at' false ++ (List.range (min 32 (n - at'))).map (fun j => m.getLsbD j) ++ List.replicate (n - at' - min 32 (n - at')) false := by
  apply List.ext_getElem?
  intro k
  by_cases hk : k < n
  · rw [List.getElem?_map, List.getElem?_range hk, Option.map_some]
    unfold dl
    by_cases h1 : k < at'
    · rw [List.append_assoc, List.getElem?_append_left (by simp; exact h1), List.getElem?_replicate, if_pos h1, decide_eq_false (by omega)]; rfl
    · by_cases h2 : k < at' + 32
      · rw [List.append_assoc, List.getElem?_append_right (by simp; omega), List.getElem?_append_left (by simp; omega), List.length_replicate, List.getElem?_map, List.getElem?_range (by omega), decide_eq_true (by omega)]; rfl
      · rw [List.getElem?_append_right (by simp; omega), List.getElem?_replicate, if_pos (by simp; omega), decide_eq_false (by omega)]; rfl
  · rw [List.getElem?_eq_none (by simp; omega), List.getElem?_eq_none (by simp; omega)]

/-- Where the loop stands behind i rounds. -/
structure St (l : List Int) (at' : Nat) (m : W) (i : Nat) (x : List Int) (t : Bool) : Prop where
  len : x.length = l.length
  inb : InB x
  bits : ∀ k, k < 8 * l.length → BIT x k = (BIT l k ^^ dl at' m i k)
  turned : t = (List.range i).any fun j => m.getLsbD j && decide (at' + j < 8 * l.length)
theorem St.start (l : List Int) (at' : Nat) (m : W) (h : InB l) : St l at' m 0 l false :=
  ⟨rfl, h, fun k _ => by unfold dl; rw [decide_eq_false (by omega)]; simp, rfl⟩
theorem St.skip {l : List Int} {at' : Nat} {m : W} {i : Nat} {x : List Int} {t : Bool} (h : St l at' m i x t) (hs : (m.getLsbD i && decide (at' + i < 8 * l.length)) = false) : St l at' m (i + 1) x t :=
  ⟨h.len, h.inb, fun k hk => by
    rw [dl_succ, h.bits k hk]
    by_cases e : k = at' + i
    · subst e
      rw [decide_eq_true hk, Bool.and_true] at hs
      rw [hs, Bool.and_false, Bool.xor_false]
    · rw [decide_eq_false e, Bool.false_and, Bool.xor_false], by rw [List.range_succ, List.any_append, ← h.turned]; simp [hs]⟩
theorem St.turn {l : List Int} {at' : Nat} {m : W} {i : Nat} {x : List Int} {t : Bool} (h : St l at' m i x t) (hm : m.getLsbD i = true) (hk : at' + i < 8 * l.length) :
    St l at' m (i + 1) (x.set ((at' + i) / 8) (Go.bits .xor .u8 (x.getD ((at' + i) / 8) 0) ((2 : Int) ^ ((at' + i) % 8)))) true := by
  refine ⟨by rw [List.length_set]; exact h.len, ?_, fun k hk' => ?_, ?_⟩
  · intro y hy
    rcases List.mem_or_eq_of_mem_set hy with hy | rfl
    · exact h.inb y hy
    · exact xor8_in _ _
  · rw [flip_bit x (at' + i) (by rw [h.len]; exact hk) k, h.bits k hk', dl_succ, hm, Bool.and_true, Bool.xor_assoc]
  · rw [List.range_succ, List.any_append, ← h.turned]
    simp [hm, hk]
theorem St.done {l : List Int} {at' : Nat} {m : W} {x : List Int} {t : Bool} (h : St l at' m 32 x t) (hl : InB l) (hat : at' ≤ 8 * l.length) : ((ofW (more 0#32 (ws x)) != ofW (more 0#32 (ws l))) == t) = true := by
  have hx : bs x = List.zipWith (· ^^ ·) (bs l) ((List.range (8 * l.length)).map (dl at' m 32)) := by
    apply List.ext_getElem?
    intro k
    by_cases hk : k < 8 * l.length
    · rw [bs_get x k (by rw [h.len]; exact hk), List.getElem?_zipWith, bs_get l k hk, List.getElem?_map, List.getElem?_range hk, h.bits k hk]; rfl
    · rw [List.getElem?_eq_none (by rw [bs_len, h.len]; omega), List.getElem?_eq_none (by rw [List.length_zipWith, bs_len]; omega)]
  have hr : run (~~~ 0#32) (ws x) = run (~~~ 0#32) (ws l) ^^^ runb 0#32 ((List.range (8 * l.length)).map (dl at' m 32)) := by
    rw [run_bs _ x h.inb, run_bs _ l hl, hx]
    have := runb_xor (~~~ 0#32) 0#32 (bs l) ((List.range (8 * l.length)).map (dl at' m 32)) (by rw [bs_len]; simp)
    rw [BitVec.xor_zero] at this
    exact this
  have key : (more 0#32 (ws x) = more 0#32 (ws l)) ↔ t = false := by
    unfold more
    constructor
    · intro e
      have e2 : run (~~~ 0#32) (ws x) = run (~~~ 0#32) (ws l) := by have := congrArg (fun z => ~~~ z) e; simpa using this
      rw [hr] at e2
      have e3 : runb 0#32 ((List.range (8 * l.length)).map (dl at' m 32)) = 0#32 := by
        have := congrArg (fun z => run (~~~ 0#32) (ws l) ^^^ z) e2
        simp only [BitVec.xor_self] at this
        rwa [xor_self_left] at this
      rw [dl_split _ _ _ hat] at e3
      have hb := burst _ _ _ (by simp; omega) e3
      rw [h.turned]
      rw [List.any_eq_false]
      intro j hj
      have hj32 : j < 32 := List.mem_range.1 hj
      by_cases hlt : at' + j < 8 * l.length
      · have := hb (m.getLsbD j) (List.mem_map.2 ⟨j, List.mem_range.2 (by omega), rfl⟩)
        simp [this]
      · simp [hlt]
    · intro e
      have hz : runb 0#32 ((List.range (8 * l.length)).map (dl at' m 32)) = 0#32 := by
        have : (List.range (8 * l.length)).map (dl at' m 32) = List.replicate (8 * l.length) false := by
          apply List.ext_getElem?
          intro k
          by_cases hk : k < 8 * l.length
          · rw [List.getElem?_map, List.getElem?_range hk, List.getElem?_replicate, if_pos hk, Option.map_some]
            unfold dl
            by_cases h2 : at' ≤ k ∧ k < at' + 32
            · have ht := h.turned
              rw [e] at ht
              have ht := List.any_eq_false.1 ht.symm (k - at') (List.mem_range.2 (by omega))
              rw [decide_eq_true (show at' + (k - at') < 8 * l.length by omega), Bool.and_true] at ht
              rw [decide_eq_true h2, Bool.true_and]
              simpa using ht
            · rw [decide_eq_false h2]; rfl
          · rw [List.getElem?_eq_none (by simp; omega), List.getElem?_eq_none (by simp; omega)]
        rw [this, runb_false, (Lin.D.it _).zero]
      rw [hr, hz, BitVec.xor_zero]
  cases ht : t
  · rw [key.2 ht]; simp
  · have : ofW (more 0#32 (ws x)) ≠ ofW (more 0#32 (ws l)) := fun e => by
      have := key.1 (ofW_inj e)
      rw [ht] at this
      cases this
    simpa using this

theorem mask_w (m : Int) (hm : U m) (i : Nat) (hi : i < 32) : (Go.bits .and .u32 (shr .u32 m (i : Int)) 1 = 1) ↔ (toW m).getLsbD i = true := by
  have e : shr .u32 m (i : Int) = m / (2 : Int) ^ i := by
    unfold shr
    rw [Int.toNat_natCast, show min i IntKind.u32.bits = i from Nat.min_eq_left (show i ≤ 32 by omega)]
  have h := tst_w (toW m) i
  unfold Mtx.tst at h
  rw [ofW_toW m hm] at h
  rw [e, ← h]
  exact beq_iff_eq.symm
theorem bits_loop (l : List Int) (hl : InB l) (hlen : l.length ≤ 140737488355328) (at' : Nat) (hat : at' < 8 * l.length) (m : Int) (hm : U m) (d : Nat) : ∀ (i : Nat) (x : List Int) (t : Bool), i + d = 32 → St l at' (toW m) i x t →
    Ev (fun k => posthornlaw02_SumBits.l0 k l (at' : Int) m x t (i : Int)) true := by
  induction d with
  | zero =>
    intro i x t hi hs
    obtain rfl : i = 32 := by omega
    refine Ev.last fun k => ?_
    simp only [posthornlaw02_SumBits.l0]
    rw [if_neg (by omega), Of_w x hs.inb, bind_some', Of_w l hl, bind_some', if_pos (hs.done hl (by omega))]; rfl
  | succ d ih =>
    intro i x t hi hs
    have w1 : wrap64 ((at' : Int) + (i : Int)) = ((at' + i : Nat) : Int) := by rw [wrap_id _ (by omega) (by omega)]; omega
    have w2 : wrap64 (8 * (l.length : Int)) = ((8 * l.length : Nat) : Int) := by rw [wrap_id _ (by omega) (by omega)]; omega
    have w3 : wrap64 ((i : Int) + 1) = ((i + 1 : Nat) : Int) := wrap_id _ (by omega) (by omega)
    by_cases h1 : (toW m).getLsbD i = true
    · by_cases h2 : at' + i < 8 * l.length
      · have q1 : wrap64 (Int.tdiv ((at' + i : Nat) : Int) 8) = (((at' + i) / 8 : Nat) : Int) := by rw [Int.tdiv_eq_ediv_of_nonneg (by omega), wrap_id _ (by omega) (by omega)]; omega
        have q2 : Int.tmod ((at' + i : Nat) : Int) 8 = (((at' + i) % 8 : Nat) : Int) := by rw [Int.tmod_eq_emod_of_nonneg (by omega)]; omega
        refine Ev.round (fun k => ?_) (ih (i + 1) _ true (by omega) (hs.turn h1 h2))
        have hlen2 := hs.len
        simp only [posthornlaw02_SumBits.l0]
        rw [if_pos (by omega), if_pos (by omega), if_pos ((mask_w m hm i (by omega)).2 h1), w1, w2, if_pos (by omega), q1, q2, if_pos (by omega), if_pos (by omega), if_pos (by omega), w3, Int.toNat_natCast, shl_bit _ (by omega)]; rfl
      · refine Ev.round (fun k => ?_) (ih (i + 1) x t (by omega) (hs.skip (by rw [decide_eq_false h2, Bool.and_false])))
        simp only [posthornlaw02_SumBits.l0]
        rw [if_pos (by omega), if_pos (by omega), if_pos ((mask_w m hm i (by omega)).2 h1), w1, w2, if_neg (by omega), w3]
    · refine Ev.round (fun k => ?_) (ih (i + 1) x t (by omega) (hs.skip (by rw [Bool.eq_false_iff.2 h1, Bool.false_and])))
      simp only [posthornlaw02_SumBits.l0]
      rw [if_pos (by omega), if_pos (by omega), if_neg (fun e => h1 ((mask_w m hm i (by omega)).1 e)), w3]
theorem u64_wrap (x : Int) : IntKind.u64.wrap x = x % 18446744073709551616 := by simp [IntKind.wrap, IntKind.bits, IntKind.signed]

theorem SumBits : posthornlaw02_SumBits.Pure := by
  intro l a m hl hz hb ha hm
  have hin : InB l := fun x hx => wf_u8 (hb x hx)
  have hm := wf_u32 hm
  by_cases h0 : l.length = 0
  · refine ⟨0, ?_⟩
    unfold posthornlaw02_SumBits.f
    rw [if_pos (by omega)]; rfl
  · have w2 : IntKind.u64.wrap (wrap64 (8 * (l.length : Int))) = ((8 * l.length : Nat) : Int) := by rw [wrap_id _ (by omega) (by omega), u64_wrap]; omega
    have hge : 0 ≤ IntKind.u64.wrap a := by rw [u64_wrap]; omega
    obtain ⟨p, hp⟩ := Int.eq_ofNat_of_zero_le hge
    have hat : p % (8 * l.length) < 8 * l.length := Nat.mod_lt _ (by omega)
    obtain ⟨K, hK⟩ := bits_loop l hin (by omega) (p % (8 * l.length)) hat m ⟨by omega, by omega⟩ 32 0 l false rfl (St.start l _ _ hin)
    refine ⟨K, ?_⟩
    have e : wrap64 (Int.tmod (p : Int) ((8 * l.length : Nat) : Int)) = ((p % (8 * l.length) : Nat) : Int) := by
      rw [Int.tmod_eq_emod_of_nonneg (by omega), ← Int.natCast_emod, wrap_id _ (by omega) (by omega)]
    have hc : slices_Clone_byte_byte.f l = some l := if_pos (by omega)
    unfold posthornlaw02_SumBits.f
    rw [if_neg (by omega), w2, if_neg (by omega), hc, bind_some', hp, e]
    exact hK K (Nat.le_refl _)
end Go.Proofs.Ytlaglidgjnpncaa.Pure
