/- What the reference's begun tells of the first bytes of a rune. -/
import Derived.Test.YtabjfpjmiiiecaaBegun
import Derived.Test.YtabjfpjmiiiecaaRefC
namespace Go.Proofs.Ytabjfpjmiiiecaa.BG
set_option linter.unusedVariables false
set_option linter.unusedSimpArgs false
open Go.RowKit Go.Proofs.YtabjfpjmiiiecaaW.PrintWords Go.Proofs.YtabjfpjmiiiecaaW.PrintLast Go.Proofs.YtabjfpjmiiiecaaW.PrintMore Go.Proofs.Ytabjfpjmiiiecaa.B Go.Proofs.Ytabjfpjmiiiecaa.CK Go.Proofs.Ytabjfpjmiiiecaa.D
def lim (n : Int) : Int := if n = 2 then 128 else if n = 3 then 2048 else 65536
def top (n : Int) : Int := if n = 2 then 2048 else if n = 3 then 65536 else 1114112
/-- Is one among the numbers from x to m a rune of n bytes? -/
def rng (n m x : Int) : Bool := decide (x ≤ m ∧ 0 ≤ x ∧ x < top n ∧ lim n ≤ m ∧ (55296 ≤ x → x ≤ 57343 → 57344 ≤ m))
theorem write_len (x : Int) (h0 : 0 ≤ x) (h1 : x ≤ 1114111) : ∃ t, posthornref05_Write.f (wrap32 x) = some t ∧ (t.length : Int) = if x < 128 then 1 else if x < 2048 then 2 else if x < 65536 then 3 else 4 := by
  refine ⟨wrV x, by rw [wrap32_id x (by omega) (by omega)]; exact write_f x h0 h1, ?_⟩
  unfold wrV
  split
  · rfl
  · split
    · rfl
    · split <;> rfl
theorem three {n : Int} (h : 2 ≤ n ∧ n ≤ 4) : (n = 2 ∧ lim n = 128 ∧ top n = 2048 ∧ rd [0, 0, 128, 2048, 65536] n = 128) ∨ (n = 3 ∧ lim n = 2048 ∧ top n = 65536 ∧ rd [0, 0, 128, 2048, 65536] n = 2048) ∨ (n = 4 ∧ lim n = 65536 ∧ top n = 1114112 ∧ rd [0, 0, 128, 2048, 65536] n = 65536) := by
  have : n = 2 ∨ n = 3 ∨ n = 4 := by omega
  rcases this with rfl | rfl | rfl
  · exact .inl ⟨rfl, rfl, rfl, rfl⟩
  · exact .inr (.inl ⟨rfl, rfl, rfl, rfl⟩)
  · exact .inr (.inr ⟨rfl, rfl, rfl, rfl⟩)
theorem l1_end (k : Nat) (n m x : Int) (h : m < x) : posthornref05_begun.l1 (k + 1) n m x = some false := by
  rw [posthornref05_begun.l1, if_neg (by omega)]
theorem l1_no (k : Nat) (n m x : Int) (h : x ≤ m) (hx : x < 0 ∨ 1114111 < x) : posthornref05_begun.l1 (k + 1) n m x = some false := by
  have e : isV x = false := by
    cases he : isV x with
    | false => rfl
    | true => have := (isV_iff x).1 he; omega
  rw [posthornref05_begun.l1, if_pos h, is_f, bind_some', e, if_neg (by decide)]
  by_cases h0 : x < 0
  · rw [if_pos h0]
  · rw [if_neg h0, if_pos (by omega)]
theorem l1_sur (k : Nat) (n m x : Int) (h : x ≤ m) (h0 : 55296 ≤ x) (h1 : x ≤ 57343) : posthornref05_begun.l1 (k + 1) n m x = posthornref05_begun.l1 k n m 57344 := by
  have e : isV x = false := by
    cases he : isV x with
    | false => rfl
    | true => have := (isV_iff x).1 he; omega
  rw [posthornref05_begun.l1, if_pos h, is_f, bind_some', e, if_neg (by decide), if_neg (by omega), if_neg (by omega)]
  rfl
theorem l1_is (k : Nat) (n m x : Int) (h : x ≤ m) (hn : 2 ≤ n ∧ n ≤ 4) (hx : isV x = true) : posthornref05_begun.l1 (k + 1) n m x = if x < lim n then posthornref05_begun.l1 k n m (lim n) else some (decide (x < top n)) := by
  obtain ⟨h0, h1, h2⟩ := (isV_iff x).1 hx
  obtain ⟨t, ht, hl⟩ := write_len x h0 h1
  rw [posthornref05_begun.l1, if_pos h, is_f, bind_some', hx, if_pos rfl, ht, bind_some', bind_some', bind_some', hl]
  rcases three hn with ⟨rfl, e1, e2, e3⟩ | ⟨rfl, e1, e2, e3⟩ | ⟨rfl, e1, e2, e3⟩ <;> rw [e1, e2, e3]
  · by_cases a : x < 128
    · rw [if_pos a, if_neg (by decide), if_pos (by decide), if_pos (by decide), if_pos (by decide), if_pos a, wrap_id (128 - 1) (by omega) (by omega)]
      have : mx x (128 - 1) = 127 := by unfold mx; split <;> omega
      rw [this, wrap_id (127 + 1) (by omega) (by omega)]; rfl
    · rw [if_neg a, if_neg a]
      by_cases b : x < 2048
      · rw [if_pos b, if_pos rfl, decide_eq_true b]
      · rw [if_neg b, decide_eq_false b]
        by_cases c : x < 65536
        · rw [if_pos c, if_neg (by decide), if_neg (by decide)]
        · rw [if_neg c, if_neg (by decide), if_neg (by decide)]
  · have key : (if x < 128 then (1 : Int) else if x < 2048 then 2 else if x < 65536 then 3 else 4) = (if x < 2048 then (if x < 128 then 1 else 2) else if x < 65536 then 3 else 4) := by
      split <;> (try split) <;> (try split) <;> (try split) <;> omega
    rw [key]
    by_cases a : x < 2048
    · have l1 : (if x < 128 then (1 : Int) else 2) < 3 := by split <;> omega
      rw [if_pos a, if_neg (by omega), if_pos l1, if_pos (by decide), if_pos (by decide), if_pos a, wrap_id (2048 - 1) (by omega) (by omega)]
      have : mx x (2048 - 1) = 2047 := by unfold mx; split <;> omega
      rw [this, wrap_id (2047 + 1) (by omega) (by omega)]; rfl
    · rw [if_neg a, if_neg a]
      by_cases b : x < 65536
      · rw [if_pos b, if_pos rfl, decide_eq_true b]
      · rw [if_neg b, decide_eq_false b, if_neg (by decide), if_neg (by decide)]
  · have key : (if x < 128 then (1 : Int) else if x < 2048 then 2 else if x < 65536 then 3 else 4) = (if x < 65536 then (if x < 128 then 1 else if x < 2048 then 2 else 3) else 4) := by
      split <;> (try split) <;> (try split) <;> (try split) <;> omega
    rw [key]
    by_cases a : x < 65536
    · have l1 : (if x < 128 then (1 : Int) else if x < 2048 then 2 else 3) < 4 := by split <;> (try split) <;> omega
      rw [if_pos a, if_neg (by omega), if_pos l1, if_pos (by decide), if_pos (by decide), if_pos a, wrap_id (65536 - 1) (by omega) (by omega)]
      have : mx x (65536 - 1) = 65535 := by unfold mx; split <;> omega
      rw [this, wrap_id (65535 + 1) (by omega) (by omega)]; rfl
    · rw [if_neg a, if_neg a, if_pos rfl, decide_eq_true (by omega)]
/-- The first loop's last numbers: what the second tells of them. -/
theorem l1_ev (n m x : Int) (hn : 2 ≤ n ∧ n ≤ 4) : Ev (fun k => posthornref05_begun.l1 k n m x) (rng n m x) := by
  have isl : isV (lim n) = true := by
    rcases three hn with ⟨rfl, e1, e2, e3⟩ | ⟨rfl, e1, e2, e3⟩ | ⟨rfl, e1, e2, e3⟩ <;> rw [e1] <;> decide
  have hlt : lim n < top n := by
    rcases three hn with ⟨rfl, e1, e2, e3⟩ | ⟨rfl, e1, e2, e3⟩ | ⟨rfl, e1, e2, e3⟩ <;> rw [e1, e2] <;> decide
  have atl : lim n ≤ m → Ev (fun k => posthornref05_begun.l1 k n m (lim n)) true := fun h => Ev.last fun k => by
    rw [l1_is k n m _ h hn isl, if_neg (by omega), decide_eq_true hlt]
  have nol : m < lim n → Ev (fun k => posthornref05_begun.l1 k n m (lim n)) false := fun h => Ev.last fun k => l1_end k n m _ h
  have fin : ∀ y : Int, y ≤ m → isV y = true → Ev (fun k => posthornref05_begun.l1 k n m y) (decide (y < top n ∧ lim n ≤ m)) := fun y hy hi => by
    by_cases a : y < lim n
    · refine Ev.round (fun k => by rw [l1_is k n m y hy hn hi, if_pos a]) ?_
      by_cases b : lim n ≤ m
      · rw [decide_eq_true (by omega)]; exact atl b
      · rw [decide_eq_false (by omega)]; exact nol (by omega)
    · refine Ev.last fun k => ?_
      rw [l1_is k n m y hy hn hi, if_neg a]
      by_cases b : y < top n
      · rw [decide_eq_true b, decide_eq_true (by omega)]
      · rw [decide_eq_false b, decide_eq_false (by omega)]
  unfold rng
  by_cases h0 : m < x
  · rw [decide_eq_false (by omega)]
    exact Ev.last fun k => l1_end k n m x h0
  have htop : top n ≤ 1114112 := by
    rcases three hn with ⟨rfl, e1, e2, e3⟩ | ⟨rfl, e1, e2, e3⟩ | ⟨rfl, e1, e2, e3⟩ <;> rw [e2] <;> decide
  by_cases h1 : x < 0 ∨ 1114111 < x
  · rw [decide_eq_false (by omega)]
    exact Ev.last fun k => l1_no k n m x (by omega) h1
  by_cases h2 : 55296 ≤ x ∧ x ≤ 57343
  · refine Ev.round (fun k => l1_sur k n m x (by omega) h2.1 h2.2) ?_
    by_cases h3 : 57344 ≤ m
    · have := fin 57344 h3 (by decide)
      have e : (decide (57344 < top n ∧ lim n ≤ m)) = decide (x ≤ m ∧ 0 ≤ x ∧ x < top n ∧ lim n ≤ m ∧ (55296 ≤ x → x ≤ 57343 → 57344 ≤ m)) := by
        refine decide_eq_decide.2 ?_
        rcases three hn with ⟨rfl, e1, e2, e3⟩ | ⟨rfl, e1, e2, e3⟩ | ⟨rfl, e1, e2, e3⟩ <;> rw [e1, e2] <;> omega
      rw [← e]; exact this
    · rw [decide_eq_false (by omega)]
      exact Ev.last fun k => l1_end k n m _ (by omega)
  · have hi : isV x = true := (isV_iff x).2 ⟨by omega, by omega, by omega⟩
    have e : (decide (x < top n ∧ lim n ≤ m)) = decide (x ≤ m ∧ 0 ≤ x ∧ x < top n ∧ lim n ≤ m ∧ (55296 ≤ x → x ≤ 57343 → 57344 ≤ m)) := decide_eq_decide.2 (by omega)
    rw [← e]
    exact fin x (by omega) hi
theorem l0_end (b : List Int) (n a m i : Int) (hn : 2 ≤ n ∧ n ≤ 4) (h : n ≤ i) : Ev (fun k => posthornref05_begun.l0 k b n a m i) (rng n m a) := by
  refine Ev.round (fun k => by rw [posthornref05_begun.l0, if_neg (by omega)]) ?_
  exact l1_ev n m a hn
theorem l0_out (b : List Int) (n a m i : Int) (v : Bool) (h : i < n) (hb : (b.length : Int) ≤ i) (ha : -1099511627776 ≤ a ∧ a ≤ 1099511627776) (hm : -1099511627776 ≤ m ∧ m ≤ 1099511627776) (hi : 0 ≤ i ∧ i ≤ 10)
    (e : Ev (fun k => posthornref05_begun.l0 k b n (64 * a) (64 * m + 63) (i + 1)) v) : Ev (fun k => posthornref05_begun.l0 k b n a m i) v := by
  refine Ev.round (fun k => ?_) e
  rw [posthornref05_begun.l0, if_pos h, if_neg (by omega), if_neg (by decide), if_neg (by decide), wrap_id (64 * a) (by omega) (by omega), wrap_id (64 * m) (by omega) (by omega), wrap_id (i + 1) (by omega) (by omega), wrap_id (64 * a + 0) (by omega) (by omega), wrap_id (64 * m + 63) (by omega) (by omega), Int.add_zero]
theorem l0_in (b : List Int) (n a m i y : Int) (v : Bool) (h : i < n) (hb : i < (b.length : Int)) (hy : rd b i = y) (h01 : 0 ≤ y ∧ y ≤ 255) (ha : -1099511627776 ≤ a ∧ a ≤ 1099511627776) (hm : -1099511627776 ≤ m ∧ m ≤ 1099511627776) (hi : 0 ≤ i ∧ i ≤ 10)
    (hin : 128 ≤ y ∧ y ≤ 191) (e : Ev (fun k => posthornref05_begun.l0 k b n (64 * a + (y - 128)) (64 * m + (y - 128)) (i + 1)) v) : Ev (fun k => posthornref05_begun.l0 k b n a m i) v := by
  refine Ev.round (fun k => ?_) e
  rw [posthornref05_begun.l0, if_pos h, if_pos hb, if_pos hi.1, hy, wrap_id y (by omega) (by omega), wrap_id (y - 128) (by omega) (by omega), if_neg (by omega), if_neg (by omega), wrap_id (64 * a) (by omega) (by omega), wrap_id (64 * m) (by omega) (by omega), wrap_id (i + 1) (by omega) (by omega), wrap_id (64 * a + (y - 128)) (by omega) (by omega), wrap_id (64 * m + (y - 128)) (by omega) (by omega)]
theorem l0_bad (b : List Int) (n a m i y : Int) (h : i < n) (hb : i < (b.length : Int)) (hy : rd b i = y) (h01 : 0 ≤ y ∧ y ≤ 255) (hi : 0 ≤ i ∧ i ≤ 10)
    (hin : ¬ (128 ≤ y ∧ y ≤ 191)) : Ev (fun k => posthornref05_begun.l0 k b n a m i) false := by
  refine Ev.last fun k => ?_
  rw [posthornref05_begun.l0, if_pos h, if_pos hb, if_pos hi.1, hy, wrap_id y (by omega) (by omega), wrap_id (y - 128) (by omega) (by omega)]
  by_cases c : y - 128 < 0
  · rw [if_pos c]
  · rw [if_neg c, if_pos (by omega)]
theorem start (b : List Int) (a n z : Int) (v : Bool) (hb : 0 < b.length) (ha : rd b 0 = a) (h01 : 0 ≤ a ∧ a ≤ 255) (hn : 2 ≤ n ∧ n ≤ 4) (hz : z = if n = 2 then 192 else if n = 3 then 224 else 240)
    (e : Ev (fun k => posthornref05_begun.l0 k b n (a - z) (a - z) 1) v) : Ev (fun k => posthornref05_begun.f k b n) v := by
  have hl : posthornref05_lead.f n = some z := by
    rw [hz]
    rcases three hn with ⟨rfl, e1, e2, e3⟩ | ⟨rfl, e1, e2, e3⟩ | ⟨rfl, e1, e2, e3⟩ <;> rfl
  refine Ev.congr (fun k => ?_) e
  have hzz : 192 ≤ z ∧ z ≤ 240 := by rw [hz]; split <;> (try split) <;> omega
  rw [posthornref05_begun.f, if_pos (by omega), hl, bind_some', ha, wrap_id a (by omega) (by omega), wrap_id (a - z) (by omega) (by omega)]
/-- What begun tells of one byte, two and three. -/
def bv : List Int → Nat → Bool
  | [a], 2 => decide (194 ≤ a ∧ a ≤ 223)
  | [a], 3 => decide (224 ≤ a ∧ a ≤ 239)
  | [a], 4 => decide (240 ≤ a ∧ a ≤ 244)
  | [a, b], 3 => decide (224 ≤ a ∧ a ≤ 239 ∧ ldL a ≤ b ∧ b ≤ ldH a)
  | [a, b], 4 => decide (240 ≤ a ∧ a ≤ 244 ∧ ldL a ≤ b ∧ b ≤ ldH a)
  | [a, b, c], 4 => decide (240 ≤ a ∧ a ≤ 244 ∧ ldL a ≤ b ∧ b ≤ ldH a ∧ 128 ≤ c ∧ c ≤ 191)
  | _, _ => false
theorem ev_to {g : Nat → Option Bool} {v v' : Bool} (h : Ev g v) (e : v = v') : Ev g v' := e ▸ h
theorem ev12 (a : Int) (h : 0 ≤ a ∧ a ≤ 255) : Ev (fun k => posthornref05_begun.f k [a] 2) (bv [a] 2) := by
  refine start [a] a 2 192 _ (Nat.succ_pos _) rfl h (by omega) rfl (l0_out [a] 2 _ _ 1 _ (by omega) (by simp) (by omega) (by omega) (by omega) ?_)
  refine ev_to (l0_end [a] 2 _ _ _ (by omega) (by omega)) (decide_eq_decide.2 ?_)
  rw [show lim 2 = 128 from rfl, show top 2 = 2048 from rfl]
  omega
theorem ev13 (a : Int) (h : 0 ≤ a ∧ a ≤ 255) : Ev (fun k => posthornref05_begun.f k [a] 3) (bv [a] 3) := by
  refine start [a] a 3 224 _ (Nat.succ_pos _) rfl h (by omega) rfl (l0_out [a] 3 _ _ 1 _ (by omega) (by simp) (by omega) (by omega) (by omega) (l0_out [a] 3 _ _ (1 + 1) _ (by omega) (by simp) (by omega) (by omega) (by omega) ?_))
  refine ev_to (l0_end [a] 3 _ _ _ (by omega) (by omega)) (decide_eq_decide.2 ?_)
  rw [show lim 3 = 2048 from rfl, show top 3 = 65536 from rfl]
  omega
theorem ev14 (a : Int) (h : 0 ≤ a ∧ a ≤ 255) : Ev (fun k => posthornref05_begun.f k [a] 4) (bv [a] 4) := by
  refine start [a] a 4 240 _ (Nat.succ_pos _) rfl h (by omega) rfl (l0_out [a] 4 _ _ 1 _ (by omega) (by simp) (by omega) (by omega) (by omega) (l0_out [a] 4 _ _ (1 + 1) _ (by omega) (by simp) (by omega) (by omega) (by omega) (l0_out [a] 4 _ _ (1 + 1 + 1) _ (by omega) (by simp) (by omega) (by omega) (by omega) ?_)))
  refine ev_to (l0_end [a] 4 _ _ _ (by omega) (by omega)) (decide_eq_decide.2 ?_)
  rw [show lim 4 = 65536 from rfl, show top 4 = 1114112 from rfl]
  omega
theorem ev23 (a b : Int) (h : 0 ≤ a ∧ a ≤ 255) (hb : 0 ≤ b ∧ b ≤ 255) : Ev (fun k => posthornref05_begun.f k [a, b] 3) (bv [a, b] 3) := by
  have L := ldL_or a
  have H := ldH_or a
  by_cases c : 128 ≤ b ∧ b ≤ 191
  · refine start [a, b] a 3 224 _ (Nat.succ_pos _) rfl h (by omega) rfl (l0_in [a, b] 3 _ _ 1 b _ (by omega) (by simp) rfl hb (by omega) (by omega) (by omega) c (l0_out [a, b] 3 _ _ (1 + 1) _ (by omega) (by simp) (by omega) (by omega) (by omega) ?_))
    refine ev_to (l0_end [a, b] 3 _ _ _ (by omega) (by omega)) (decide_eq_decide.2 ?_)
    rw [show lim 3 = 2048 from rfl, show top 3 = 65536 from rfl]
    omega
  · refine start [a, b] a 3 224 _ (Nat.succ_pos _) rfl h (by omega) rfl (ev_to (l0_bad [a, b] 3 _ _ 1 b (by omega) (by simp) rfl hb (by omega) c) (decide_eq_false ?_).symm)
    omega
theorem ev24 (a b : Int) (h : 0 ≤ a ∧ a ≤ 255) (hb : 0 ≤ b ∧ b ≤ 255) : Ev (fun k => posthornref05_begun.f k [a, b] 4) (bv [a, b] 4) := by
  have L := ldL_or a
  have H := ldH_or a
  by_cases c : 128 ≤ b ∧ b ≤ 191
  · refine start [a, b] a 4 240 _ (Nat.succ_pos _) rfl h (by omega) rfl (l0_in [a, b] 4 _ _ 1 b _ (by omega) (by simp) rfl hb (by omega) (by omega) (by omega) c (l0_out [a, b] 4 _ _ (1 + 1) _ (by omega) (by simp) (by omega) (by omega) (by omega) (l0_out [a, b] 4 _ _ (1 + 1 + 1) _ (by omega) (by simp) (by omega) (by omega) (by omega) ?_)))
    refine ev_to (l0_end [a, b] 4 _ _ _ (by omega) (by omega)) (decide_eq_decide.2 ?_)
    rw [show lim 4 = 65536 from rfl, show top 4 = 1114112 from rfl]
    omega
  · refine start [a, b] a 4 240 _ (Nat.succ_pos _) rfl h (by omega) rfl (ev_to (l0_bad [a, b] 4 _ _ 1 b (by omega) (by simp) rfl hb (by omega) c) (decide_eq_false ?_).symm)
    omega
theorem ev34 (a b c : Int) (h : 0 ≤ a ∧ a ≤ 255) (hb : 0 ≤ b ∧ b ≤ 255) (hc : 0 ≤ c ∧ c ≤ 255) : Ev (fun k => posthornref05_begun.f k [a, b, c] 4) (bv [a, b, c] 4) := by
  have L := ldL_or a
  have H := ldH_or a
  by_cases d : 128 ≤ b ∧ b ≤ 191
  · by_cases f : 128 ≤ c ∧ c ≤ 191
    · refine start [a, b, c] a 4 240 _ (Nat.succ_pos _) rfl h (by omega) rfl (l0_in [a, b, c] 4 _ _ 1 b _ (by omega) (by simp) rfl hb (by omega) (by omega) (by omega) d (l0_in [a, b, c] 4 _ _ (1 + 1) c _ (by omega) (by simp) rfl hc (by omega) (by omega) (by omega) f (l0_out [a, b, c] 4 _ _ (1 + 1 + 1) _ (by omega) (by simp) (by omega) (by omega) (by omega) ?_)))
      refine ev_to (l0_end [a, b, c] 4 _ _ _ (by omega) (by omega)) (decide_eq_decide.2 ?_)
      rw [show lim 4 = 65536 from rfl, show top 4 = 1114112 from rfl]
      omega
    · refine start [a, b, c] a 4 240 _ (Nat.succ_pos _) rfl h (by omega) rfl (l0_in [a, b, c] 4 _ _ 1 b _ (by omega) (by simp) rfl hb (by omega) (by omega) (by omega) d (ev_to (l0_bad [a, b, c] 4 _ _ (1 + 1) c (by omega) (by simp) rfl hc (by omega) f) (decide_eq_false ?_).symm))
      omega
  · refine start [a, b, c] a 4 240 _ (Nat.succ_pos _) rfl h (by omega) rfl (ev_to (l0_bad [a, b, c] 4 _ _ 1 b (by omega) (by simp) rfl hb (by omega) d) (decide_eq_false ?_).symm)
    omega
theorem ev_bv (l : List Int) (hl : InB l) (n : Nat) (h1 : 0 < l.length) (h2 : l.length < n) (h4 : n ≤ 4) : Ev (fun k => posthornref05_begun.f k l (n : Int)) (bv l n) := by
  match l, h1 with
  | [a], _ =>
    have := hl a (by simp)
    match n, h2, h4 with
    | 2, _, _ => exact ev12 a this
    | 3, _, _ => exact ev13 a this
    | 4, _, _ => exact ev14 a this
  | [a, b], _ =>
    have := hl a (by simp)
    have := hl b (by simp)
    match n, h2, h4 with
    | 3, _, _ => exact ev23 a b ‹_› ‹_›
    | 4, _, _ => exact ev24 a b ‹_› ‹_›
  | [a, b, c], _ =>
    have := hl a (by simp)
    have := hl b (by simp)
    have := hl c (by simp)
    match n, h2, h4 with
    | 4, _, _ => exact ev34 a b c ‹_› ‹_› ‹_›
  | a :: b :: c :: d :: r, _ => simp at h2; omega
end Go.Proofs.Ytabjfpjmiiiecaa.BG
