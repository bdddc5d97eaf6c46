/- The reference's sums as maps over one bit (plain). -/
import Derived.Test.YtlaglidgjnpncaaSumP
import Derived.Test.YtlaglidgjnpncaaG1
namespace Go.Proofs.Ytlaglidgjnpncaa.SumP
set_option linter.unusedVariables false
set_option linter.unusedSimpArgs false
set_option linter.unusedVariables false
set_option linter.unusedSimpArgs false
open Go.RowKit Go.Proofs.YtlaglidgjnpncaaW.PrintWords Go.Proofs.YtlaglidgjnpncaaW.PrintLast Go.Proofs.YtlaglidgjnpncaaW.PrintMore Go.Proofs.Ytlaglidgjnpncaa.B Go.Proofs.Ytlaglidgjnpncaa.Mtx Go.Proofs.Ytlaglidgjnpncaa.SumF Go.Proofs.Ytlaglidgjnpncaa.Crc Go.Proofs.Ytlaglidgjnpncaa.G

theorem Down_w (x : W) : posthornref02_Down.f (ofW x) = some (ofW (D x)) := by
  unfold posthornref02_Down.f D
  have hu := ofW_u x
  unfold U at hu
  rw [Int.tmod_eq_emod_of_nonneg hu.1, Int.tdiv_eq_ediv_of_nonneg hu.1, low_w]
  have e : ofW x / (2 : Int) % (4294967296 : Int) = ofW (x >>> 1) := by rw [← half1]; omega
  rw [e, xor_w, toW_ofW]
  by_cases h : x.getLsbD 0 = true
  · rw [if_pos h, if_pos rfl, if_pos h]; rfl
  · rw [if_neg h, if_neg (by decide), if_neg h]
/-! ### The reference's More -/
theorem ref_eight (d : Nat) : ∀ (x : W) (l : List Int) (n i : Int) (j : Nat) (r : Int), j + d = 8 → Ev (fun k => posthornref02_More.l0 k (ofW (it D d x)) l n (wrap64 (i + 1))) r → Ev (fun k => posthornref02_More.l1 k (ofW x) l n i (j : Int)) r := by
  induction d with
  | zero =>
    intro x l n i j r hj h
    refine Ev.round (fun k => ?_) h
    simp only [posthornref02_More.l1]
    rw [if_neg (by omega)]; rfl
  | succ d ih =>
    intro x l n i j r hj h
    refine Ev.round (f := fun k => posthornref02_More.l1 k (ofW (D x)) l n i ((j + 1 : Nat) : Int)) (fun k => ?_) (ih (D x) l n i (j + 1) r (by omega) h)
    simp only [posthornref02_More.l1]
    rw [if_pos (by omega), Down_w, bind_some', wrap_id _ (by omega) (by omega)]; rfl
theorem refMore_loop (l : List Int) (hl : l.length ≤ 140737488355328) (h : InB l) (d : Nat) : ∀ (i : Nat) (x : W), i + d = l.length → Ev (fun k => posthornref02_More.l0 k (ofW x) l (l.length : Int) (i : Int)) (ofW (~~~ (run x (ws (l.drop i))))) := by
  induction d with
  | zero =>
    intro i x hi
    refine Ev.last fun k => ?_
    simp only [posthornref02_More.l0]
    rw [if_neg (by omega), List.drop_eq_nil_of_le (by omega), xor_w, ones_m, toW_ofW, BitVec.xor_comm, ← not_eq]; rfl
  | succ d ih =>
    intro i x hi
    have hlt : i < l.length := by omega
    have hr : rd l (i : Int) = l[i] := by unfold rd; simp [List.getD_eq_getElem?_getD, hlt]
    have hb := h l[i] (List.getElem_mem hlt)
    have key := ih (i + 1) (it D 8 (x ^^^ toW l[i])) (by omega)
    rw [drop_cons l i hlt]
    refine Ev.round (f := fun k => posthornref02_More.l1 k (ofW (x ^^^ toW l[i])) l (l.length : Int) (i : Int) ((0 : Nat) : Int)) (fun k => ?_) (ref_eight 8 _ _ _ _ 0 _ rfl (Ev.congr (fun k => ?_) key))
    · simp only [posthornref02_More.l0]
      rw [if_pos (by omega), if_pos (by omega), if_pos (by omega), hr, show l[i] % 4294967296 = l[i] by omega, xor_w, toW_ofW]; rfl
    · rw [wrap_id _ (by omega) (by omega)]; rfl
theorem refMore_ev (s : Int) (l : List Int) (hl : l.length ≤ 140737488355328) (h : InB l) : Ev (fun k => posthornref02_More.f k s l) (ofW (more (toW s) (ws l))) := by
  have key := refMore_loop l hl h l.length 0 (~~~ (toW s)) (by omega)
  refine Ev.congr (fun k => ?_) key
  unfold posthornref02_More.f
  rw [xor_w, ones_m, BitVec.xor_comm, ← not_eq]; rfl
theorem refOf_ev (l : List Int) (hl : l.length ≤ 140737488355328) (h : InB l) : Ev (fun k => posthornref02_Of.f k l) (ofW (more 0#32 (ws l))) :=
  Ev.same (refMore_ev 0 l hl h)

theorem product_loop (d : Nat) : ∀ (i : Nat) (p q r : W), i + d = 32 → Ev (fun k => posthornref02_product.l0 k (ofW p) (ofW q) (ofW r) (i : Int)) (ofW (r ^^^ pl d p q)) := by
  induction d with
  | zero =>
    intro i p q r hi
    refine Ev.last fun k => ?_
    simp only [posthornref02_product.l0]
    rw [if_neg (by omega), pl, BitVec.xor_zero]
  | succ d ih =>
    intro i p q r hi
    rw [pl]
    by_cases h : p.getLsbD 31 = true
    · rw [if_pos h, ← BitVec.xor_assoc]
      refine Ev.round (fun k => ?_) (ih (i + 1) (p <<< 1) (D q) (r ^^^ q) (by omega))
      simp only [posthornref02_product.l0]
      rw [if_pos (by omega), if_pos ((top_w p).2 h), Down_w, bind_some', dbl_w, xor_w, toW_ofW, toW_ofW, wrap_id _ (by omega) (by omega)]; rfl
    · rw [if_neg h, BitVec.zero_xor]
      refine Ev.round (fun k => ?_) (ih (i + 1) (p <<< 1) (D q) r (by omega))
      simp only [posthornref02_product.l0]
      rw [if_pos (by omega), if_neg (fun e => h ((top_w p).1 e)), Down_w, bind_some', dbl_w, wrap_id _ (by omega) (by omega)]; rfl
theorem product_ev (p q : W) : Ev (fun k => posthornref02_product.f k (ofW p) (ofW q)) (ofW (prod p q)) := by
  have key := product_loop 32 0 p q 0#32 rfl
  rw [BitVec.zero_xor, pl_prod] at key
  exact key
theorem refJoin_loop (d : Nat) : ∀ (a b : W) (n m e : Nat), n < 2 ^ d → n < 9223372036854775808 → Ev (fun k => posthornref02_Join.l0 k (ofW a) (ofW b) (n : Int) (ofW (pw m)) (ofW (pw e))) (ofW (it D (m + e * n) a ^^^ b), true) := by
  induction d with
  | zero =>
    intro a b n m e hn _
    obtain rfl : n = 0 := by simpa using hn
    refine Ev.round (f := fun k => (posthornref02_product.f k (ofW a) (ofW (pw m))).bind fun t116 => (some (Go.bits .xor .u32 t116 (ofW b), true))) (fun k => ?_) ?_
    · simp only [posthornref02_Join.l0]; rw [if_neg (by omega)]
    · refine Ev.bind (f := fun k t116 => (some (Go.bits .xor .u32 t116 (ofW b), true))) (product_ev a (pw m)) (Ev.val fun k => ?_)
      rw [xor_w, toW_ofW, toW_ofW, pw, prod_it, Nat.mul_zero, Nat.add_zero]
  | succ d ih =>
    intro a b n m e hn h63
    by_cases h0 : n = 0
    · subst h0
      refine Ev.round (f := fun k => (posthornref02_product.f k (ofW a) (ofW (pw m))).bind fun t116 => (some (Go.bits .xor .u32 t116 (ofW b), true))) (fun k => ?_) ?_
      · simp only [posthornref02_Join.l0]; rw [if_neg (by omega)]
      · refine Ev.bind (f := fun k t116 => (some (Go.bits .xor .u32 t116 (ofW b), true))) (product_ev a (pw m)) (Ev.val fun k => ?_)
        rw [xor_w, toW_ofW, toW_ofW, pw, prod_it, Nat.mul_zero, Nat.add_zero]
    · have hq : wrap64 (Int.tdiv (n : Int) 2) = ((n / 2 : Nat) : Int) := by
        rw [Int.tdiv_eq_ediv_of_nonneg (by omega), wrap_id _ (by omega) (by omega)]; omega
      have hm : Int.tmod (n : Int) 2 = (n : Int) % 2 := Int.tmod_eq_emod_of_nonneg (by omega)
      have hp : n / 2 < 2 ^ d := by rw [Nat.pow_succ] at hn; omega
      by_cases ho : n % 2 = 1
      · have key := ih a b (n / 2) (m + e) (e + e) hp (by omega)
        have ee : m + e + (e + e) * (n / 2) = m + e * n := by
          conv => rhs; rw [show n = 2 * (n / 2) + 1 by omega]
          rw [Nat.mul_add, Nat.mul_one, ← Nat.mul_assoc, Nat.mul_comm e 2, Nat.two_mul]; omega
        rw [ee, ← prod_pw m e, ← prod_pw e e] at key
        refine Ev.round (f := fun k => (posthornref02_product.f k (ofW (pw m)) (ofW (pw e))).bind fun t117 => ((posthornref02_product.f k (ofW (pw e)) (ofW (pw e))).bind fun t118 => (posthornref02_Join.l0 k (ofW a) (ofW b) (wrap64 (Int.tdiv (n : Int) 2)) t117 t118))) (fun k => ?_) ?_
        · simp only [posthornref02_Join.l0]; rw [if_pos (by omega), hm, if_pos (by omega)]
        · refine Ev.bind (f := fun k t117 => ((posthornref02_product.f k (ofW (pw e)) (ofW (pw e))).bind fun t118 => (posthornref02_Join.l0 k (ofW a) (ofW b) (wrap64 (Int.tdiv (n : Int) 2)) t117 t118))) (product_ev _ _) ?_
          refine Ev.bind (f := fun k t118 => (posthornref02_Join.l0 k (ofW a) (ofW b) (wrap64 (Int.tdiv (n : Int) 2)) (ofW (prod (pw m) (pw e))) t118)) (product_ev _ _) ?_
          rw [hq]; exact key
      · have key := ih a b (n / 2) m (e + e) hp (by omega)
        have ee : m + (e + e) * (n / 2) = m + e * n := by
          conv => rhs; rw [show n = 2 * (n / 2) by omega]
          rw [← Nat.mul_assoc, Nat.mul_comm e 2, Nat.two_mul]
        rw [ee, ← prod_pw e e] at key
        refine Ev.round (f := fun k => (posthornref02_product.f k (ofW (pw e)) (ofW (pw e))).bind fun t118 => (posthornref02_Join.l0 k (ofW a) (ofW b) (wrap64 (Int.tdiv (n : Int) 2)) (ofW (pw m)) t118)) (fun k => ?_) ?_
        · simp only [posthornref02_Join.l0]; rw [if_pos (by omega), hm, if_neg (by omega)]
        · refine Ev.bind (f := fun k t118 => (posthornref02_Join.l0 k (ofW a) (ofW b) (wrap64 (Int.tdiv (n : Int) 2)) (ofW (pw m)) t118)) (product_ev _ _) ?_
          rw [hq]; exact key
theorem refJoin_ev (a b : W) (n : Nat) (h : n < 9223372036854775808) : Ev (fun k => posthornref02_Join.f k (ofW a) (ofW b) (n : Int)) (ofW (jn a b n), true) := by
  have key := refJoin_loop 63 a b n 0 8 (by omega) h
  rw [Nat.zero_add] at key
  refine Ev.congr (fun k => ?_) key
  unfold posthornref02_Join.f
  rw [if_neg (by omega)]
  have e1 : (2147483648 : Int) = ofW (pw 0) := by decide +kernel
  have e2 : (8388608 : Int) = ofW (pw 8) := by decide +kernel
  rw [← e1, ← e2]

end Go.Proofs.Ytlaglidgjnpncaa.SumP
