/- CodeQuoteOnce, where what it reads is of bulk at most 1048576: what Unquote takes is quoted and read as the same; what it refuses has its place whatever stands around. -/
import Derived.Test.YtokgckhhhhigiaaDoorCodeMQ
import Derived.Test.YtokgckhhhhigiaaDoorGZ2
namespace Go.Proofs.YtokgckhhhhigiaaDoor.Pure
set_option linter.unusedVariables false
set_option linter.unusedSimpArgs false
open Go.RowKit Go.Proofs.YtokgckhhhhigiaaDoor.GZ Go.Proofs.YtokgckhhhhigiaaDoorW.PrintWords Go.Proofs.YtokgckhhhhigiaaDoorW.PrintMore
open Go.Proofs.YtokgckhhhhigiaaDoor.B Go.Proofs.YtokgckhhhhigiaaDoor.Q Go.Proofs.YtokgckhhhhigiaaDoor.CM Go.Proofs.YtokgckhhhhigiaaDoor.Glob Go.Proofs.YtokgckhhhhigiaaDoor.UR

theorem quote_f (xs : List Int) (hx : InB xs) (hl : xs.length ≤ 10000000000000) : code_Quote.f xs = some (strOfNums (quo xs)) := if_pos ⟨allB_in.2 hx, hl⟩
theorem unquote_f (s : ByteArray) (hs : s.size ≤ 40000000000000) : code_Unquote.f s = some (unq (bytesOf s)) := if_pos hs
theorem refUnq_f (s : ByteArray) (hs : s.size ≤ 10000000000) : posthornref04_Unquote.f s = some (unq (bytesOf s)) := if_pos hs
theorem bytesOf_app (s t : ByteArray) : bytesOf (s ++ t) = bytesOf s ++ bytesOf t := by
  refine (congrArg bytesOf ?_).trans (bytesOf_strOfNums (bytesOf s ++ bytesOf t) fun x hx => (List.mem_append.1 hx).elim (bytesOf_in s x) (bytesOf_in t x))
  rw [UF.str_append, strOfNums_bytesOf, strOfNums_bytesOf]

/-- Either all letters are gone through, or one stands in the way. -/
theorem split : ∀ (l : List Int) (s : S), (∃ s', walk l s = some s') ∨ ∃ a c r s', l = a ++ c :: r ∧ walk a s = some s' ∧ UR.step s' c = none
  | [], s => .inl ⟨s, rfl⟩
  | c :: r, s => by
    cases h : UR.step s c with
    | none => exact .inr ⟨[], c, r, s, rfl, rfl, h⟩
    | some s1 =>
      rcases split r s1 with ⟨s', e⟩ | ⟨a, d, q, s', e1, e2, e3⟩
      · exact .inl ⟨s', by rw [walk, h]; exact e⟩
      · exact .inr ⟨c :: a, d, q, s', by rw [e1]; rfl, by rw [walk, h]; exact e2, e3⟩
theorem run_full {l : List Int} {s s' : S} (i : Nat) (h : walk l s = some s') : run l s i = fin s' (i + l.length) := by
  have := run_walk l [] s i s' h
  rw [List.append_nil] at this
  exact this
theorem run_stuck {a : List Int} {c : Int} {s s' : S} (r : List Int) (i : Nat) (h : walk a s = some s') (hn : UR.step s' c = none) : run (a ++ c :: r) s i = ([], 42, ((i + a.length : Nat) : Int)) := by
  rw [run_walk _ _ _ _ _ h, run_none hn]
theorem fin_cases (s : S) : (∃ col out, s = .p col false out) ∨ (∀ o (i : Nat), fin (pre o s) i = ([], 42, (i : Int)) ∧ fin s i = ([], 42, (i : Int))) := by
  cases s with
  | p col bl out =>
    cases bl
    · exact .inl ⟨col, out, rfl⟩
    · exact .inr fun o i => ⟨rfl, rfl⟩
  | _ => exact .inr fun o i => ⟨rfl, rfl⟩

def outS : S → List Int
  | .p _ _ out => out
  | .e _ out => out
  | .x _ _ out => out
  | .c out => out
  | .ec out => out
def digS : S → Prop
  | .x _ a _ => isB 4 a = true ∧ 0 ≤ a ∧ a ≤ 255
  | _ => True
theorem in_one {l : List Int} {c : Int} (h : InB l) (hc : 0 ≤ c ∧ c ≤ 255) : InB (l ++ [c]) := fun x hx => by
  rcases List.mem_append.1 hx with h1 | h1
  · exact h x h1
  · rw [List.mem_singleton.1 h1]; exact hc
theorem step_out {s s' : S} {c : Int} (ho : InB (outS s)) (hd : digS s) (hc : 0 ≤ c ∧ c ≤ 255) (h : UR.step s c = some s') : InB (outS s') ∧ digS s' := by
  cases s with
  | p col bl out =>
    rw [step_p] at h
    repeat' split at h
    all_goals first | (cases h; done) | (obtain rfl := Option.some.inj h; exact ⟨ho, trivial⟩) | (obtain rfl := Option.some.inj h; exact ⟨in_one ho hc, trivial⟩)
  | e col out =>
    rw [step_e] at h
    split at h
    · obtain rfl := Option.some.inj h; exact ⟨ho, trivial⟩
    · split at h
      · cases h
      · rename_i h4
        obtain rfl := Option.some.inj h
        refine ⟨ho, ?_, hc⟩
        cases hb : isB 4 c with
        | true => rfl
        | false => exact absurd (Or.inr hb) h4
  | x col a out =>
    rw [step_x] at h
    split at h
    · rename_i h4
      obtain rfl := Option.some.inj h
      have h1 := (UF.dig_ev a hd.2 hd.1).2
      have h2 := (UF.dig_ev c hc h4).2
      exact ⟨in_one ho (by omega), trivial⟩
    · cases h
  | c out =>
    rw [step_c] at h
    split at h
    · obtain rfl := Option.some.inj h
      refine ⟨?_, trivial⟩
      have := in_one (in_one (l := out) ho (c := 13) (by omega)) (c := 10) (by omega)
      rw [List.append_assoc] at this
      exact this
    · cases h
  | ec out =>
    rw [step_ec] at h
    split at h
    · obtain rfl := Option.some.inj h; exact ⟨ho, trivial⟩
    · cases h
theorem walk_out : ∀ (l : List Int) (s s' : S), InB l → InB (outS s) → digS s → walk l s = some s' → InB (outS s')
  | [], s, s', _, ho, _, h => by injection h with h; rw [← h]; exact ho
  | c :: r, s, s', hl, ho, hd, h => by
    rw [walk] at h
    cases hs : UR.step s c with
    | none => rw [hs] at h; cases h
    | some s1 =>
      rw [hs] at h
      obtain ⟨h1, h2⟩ := step_out ho hd (hl c List.mem_cons_self) hs
      exact walk_out r s1 s' (fun x hx => hl x (List.mem_cons_of_mem _ hx)) h1 h2 h

theorem j0_ev (s t : ByteArray) (p : Nat) (hs : s.size ≤ 1048576) (ht : t.size ≤ 1048576) (e1 : unq ([120, 13, 10] ++ bytesOf s) = ([], 42, ((p + 3 : Nat) : Int))) (hp : p ≤ s.size) (e2 : p < s.size → unq (bytesOf s ++ bytesOf t) = ([], 42, (p : Int))) :
    Ev (fun k => posthornlaw04_CodeQuoteOnce.j0 k s t false 42 (p : Int)) true := by
  have hx : bytesOf ((⟨#[120, 13, 10]⟩ : ByteArray) ++ s) = [120, 13, 10] ++ bytesOf s := by rw [bytesOf_app]; rfl
  have hz : ((⟨#[120, 13, 10]⟩ : ByteArray) ++ s).size = 3 + s.size := by rw [← bytesOf_len, hx, List.length_append, bytesOf_len]; rfl
  have hy : (s ++ t).size = s.size + t.size := by rw [← bytesOf_len, bytesOf_app, List.length_append, bytesOf_len, bytesOf_len]
  have hw : wrap64 ((p : Int) + 3) = ((p + 3 : Nat) : Int) := by rw [wrap_id _ (by omega) (by omega)]; omega
  refine Ev.last fun k => ?_
  simp only [posthornlaw04_CodeQuoteOnce.j0]
  rw [if_neg (by decide), if_pos (by omega), unquote_f _ (by omega), hx, e1, Option.bind_some, hw]
  simp only
  rw [if_neg (by simp), if_pos (by omega), unquote_f _ (by omega), bytesOf_app, Option.bind_some]
  by_cases h : p = s.size
  · rw [if_pos (by omega)]
  · rw [if_neg (by omega), e2 (by omega)]
    simp

theorem err_ev (s t : ByteArray) (p : Nat) (hs : s.size ≤ 1048576) (ht : t.size ≤ 1048576) (e0 : unq (bytesOf s) = ([], 42, (p : Int))) (e1 : unq ([120, 13, 10] ++ bytesOf s) = ([], 42, ((p + 3 : Nat) : Int))) (hp : p ≤ s.size) (e2 : p < s.size → unq (bytesOf s ++ bytesOf t) = ([], 42, (p : Int))) :
    Ev (fun k => posthornlaw04_CodeQuoteOnce.f k s t) true := by
  refine Ev.congr (fun k => ?_) (j0_ev s t p hs ht e1 hp e2)
  unfold posthornlaw04_CodeQuoteOnce.f
  rw [show posthornlaw04_wakes.f = some true from rfl, Option.bind_some, if_pos rfl, unquote_f _ (by omega), refUnq_f _ (by omega), e0, Option.bind_some, Option.bind_some]
  simp only
  rw [if_neg (by simp), if_neg (by decide), if_neg (by simp), if_pos trivial, if_neg (by omega), decide_eq_false (by omega)]

theorem ok_ev (s t : ByteArray) (out : List Int) (hs : s.size ≤ 1048576) (ho : InB out) (hl : out.length ≤ s.size) (e0 : unq (bytesOf s) = (out, 0, 0)) (e1 : unq ((bytesOf s ++ [13, 10]) ++ bytesOf s) = ((out ++ [13, 10]) ++ out, 0, 0)) :
    Ev (fun k => posthornlaw04_CodeQuoteOnce.f k s t) true := by
  have hq : InB (quo out) := qL_in _ _ _ ho
  have h6 : (quo out).length ≤ 6 * out.length := qL_len_le _ _ _
  have hz : (strOfNums (quo out)).size = (quo out).length := strOfNums_len _
  have hzo : (strOfNums out).size = out.length := strOfNums_len _
  have hc : bytesOf (⟨#[13, 10]⟩ : ByteArray) = [13, 10] := rfl
  have h1 : (s ++ (⟨#[13, 10]⟩ : ByteArray)).size = s.size + 2 := by rw [← bytesOf_len, bytesOf_app, List.length_append, bytesOf_len, hc]; rfl
  have h2 : ((s ++ (⟨#[13, 10]⟩ : ByteArray)) ++ s).size = s.size + 2 + s.size := by rw [← bytesOf_len, bytesOf_app, List.length_append, bytesOf_len, bytesOf_len, h1]
  have h3 : bytesOf ((s ++ (⟨#[13, 10]⟩ : ByteArray)) ++ s) = (bytesOf s ++ [13, 10]) ++ bytesOf s := by rw [bytesOf_app, bytesOf_app, hc]
  have h4 : strOfNums ((out ++ [13, 10]) ++ out) = (strOfNums out ++ (⟨#[13, 10]⟩ : ByteArray)) ++ strOfNums out := by rw [UF.str_append, UF.str_append]; rfl
  have h5 : (strOfNums out ++ (⟨#[13, 10]⟩ : ByteArray)).size = out.length + 2 := by
    have : strOfNums (out ++ [13, 10]) = strOfNums out ++ (⟨#[13, 10]⟩ : ByteArray) := by rw [UF.str_append]; rfl
    rw [← this, strOfNums_len, List.length_append]; rfl
  refine Ev.val fun k => ?_
  unfold posthornlaw04_CodeQuoteOnce.f
  rw [show posthornlaw04_wakes.f = some true from rfl, Option.bind_some, if_pos rfl, unquote_f _ (by omega), refUnq_f _ (by omega), e0, Option.bind_some, Option.bind_some]
  simp only
  rw [if_neg (by simp), if_pos trivial, quote_f _ ho (by omega), Option.bind_some, unquote_f _ (by omega), bytesOf_strOfNums _ hq, unq_of_quo _ ho, Option.bind_some, if_pos (by omega), if_pos (by omega), unquote_f _ (by omega), h3, e1, Option.bind_some]
  simp only
  rw [if_pos trivial, if_pos trivial, if_pos trivial, if_pos trivial, if_pos (by omega), if_pos (by omega), h4]
  simp

theorem quote_once (s t : ByteArray) (hs : s.size ≤ 1048576) (ht : t.size ≤ 1048576) : ∃ k, posthornlaw04_CodeQuoteOnce.f k s t = some true := by
  apply Ev.rounds
  have hb := bytesOf_len s
  have hx : ∀ r, walk r (.p 0 false [120, 13, 10]) = (walk r (.p 0 false [])).map (pre [120, 13, 10]) := fun r => walk_pre [120, 13, 10] r (.p 0 false [])
  have hx0 : walk [120, 13, 10] (.p 0 false []) = some (.p 0 false [120, 13, 10]) := by kernel_rfl
  have e1 : ∀ l, unq ([120, 13, 10] ++ l) = run l (.p 0 false [120, 13, 10]) 3 := fun l => by rw [unq_run, run_walk _ _ _ _ _ hx0]; rfl
  rcases split (bytesOf s) (.p 0 false []) with ⟨s', hw⟩ | ⟨a, c, r, s', hl, hw, hn⟩
  · rcases fin_cases s' with ⟨col, out, rfl⟩ | hf
    · have e0 : unq (bytesOf s) = (out, 0, 0) := by rw [unq_run, run_full _ hw]; rfl
      have hlen := unq_len (bytesOf s)
      rw [e0] at hlen
      refine ok_ev s t out hs (walk_out (bytesOf s) (.p 0 false []) (.p col false out) (bytesOf_in s) (fun x hx => by cases hx) trivial hw) (by simp only at hlen; omega) e0 ?_
      have hq : walk (bytesOf s) (.p 0 false (out ++ [13, 10])) = some (.p col false ((out ++ [13, 10]) ++ out)) := by
        have := walk_pre (out ++ [13, 10]) (bytesOf s) (.p 0 false [])
        rw [hw] at this
        simp only [pre, List.append_nil] at this
        exact this
      have hm : walk (bytesOf s ++ [13, 10]) (.p 0 false []) = some (.p 0 false (out ++ [13, 10])) := by
        rw [walk_append, hw]
        rfl
      rw [unq_run, run_full _ (s' := .p col false ((out ++ [13, 10]) ++ out)) (by rw [walk_append, hm]; exact hq)]
      rfl
    · refine err_ev s t (bytesOf s).length hs ht ?_ ?_ (by omega) (fun h => absurd h (by omega))
      · rw [unq_run, run_full _ hw, (hf [] _).2, Nat.zero_add]
      · rw [e1, run_full _ (s' := pre [120, 13, 10] s') (by rw [hx, hw]; rfl), (hf _ _).1, Nat.add_comm]
  · have hp : (bytesOf s).length = a.length + (r.length + 1) := by rw [hl, List.length_append]; rfl
    refine err_ev s t a.length hs ht ?_ ?_ (by omega) (fun _ => ?_)
    · rw [hl, unq_run, run_stuck _ _ hw hn, Nat.zero_add]
    · rw [hl, e1, run_stuck _ _ (s' := pre [120, 13, 10] s') (by rw [hx, hw]; rfl) (by rw [step_pre, hn]; rfl), Nat.add_comm]
    · rw [hl, List.append_assoc, List.cons_append, unq_run, run_stuck _ _ hw hn, Nat.zero_add]

theorem CodeQuoteOnce (a0 : ByteArray) (a1 : ByteArray) (w : World) (w0 : a0.size ≤ 140737488351232) (w1 : a1.size ≤ 140737488351232) (b0 : a0.size ≤ 1048576) (b1 : a1.size ≤ 1048576) (HG : GOk w) :
    Calls Tryd.prog 8 #[.string a0, .string a1] w fun e w' => e = .returned (.bool true) ∧ Below w.heap.size w w' := by
  obtain ⟨k, h⟩ := quote_once a0 a1 b0 b1
  refine (posthornlaw04_CodeQuoteOnce.calls k a0 a1 true ⟨rfl⟩ w HG h).mono ?_
  rintro e w' ⟨rfl, hd⟩
  exact ⟨rfl, hd⟩
end Go.Proofs.YtokgckhhhhigiaaDoor.Pure
