/- RunesFeeds: the checkers that may be none, and the reference's checker by value. -/
import Derived.Test.YtabjfpjmiiiecaaBeginsW
import Derived.Test.YtabjfpjmiiiecaaChkr
import Derived.Test.YtabjfpjmiiiecaaD7
namespace Go.Proofs.Ytabjfpjmiiiecaa.FE
set_option linter.unusedVariables false
set_option linter.unusedSimpArgs false
set_option linter.unusedVariables false
set_option linter.unusedSimpArgs false
open Go.RowKit Go.Proofs.YtabjfpjmiiiecaaW.PrintWords Go.Proofs.YtabjfpjmiiiecaaW.PrintLast Go.Proofs.YtabjfpjmiiiecaaW.PrintMore Go.Proofs.Ytabjfpjmiiiecaa.B Go.Proofs.Ytabjfpjmiiiecaa.M Go.Proofs.Ytabjfpjmiiiecaa.D Go.Proofs.Ytabjfpjmiiiecaa.CK Go.Proofs.Ytabjfpjmiiiecaa.BG

def ptrv (q : Option Nat) : Value := .pointer (q.map fun g => ⟨g, 0, none⟩)
theorem ptrv_some (g : Nat) : ptrv (some g) = .pointer (some ⟨g, 0, none⟩) := rfl
def cells0 (M B : Bool) (n l h : Int) : Array Value := #[.bool M, .bool B, .int .u8 n, .int .u8 l, .int .u8 h]
/-- A checker's cells, by what has been fed. -/
def ck (y : Bool × List Int) : Array Value := if y.1 = true then cells0 true (fd y.2).1 (fd y.2).2.1 (fd y.2).2.2.1 (fd y.2).2.2.2 else cells0 false false 0 0 0
theorem ck_yes (l : List Int) : ck (true, l) = cells0 true (fd l).1 (fd l).2.1 (fd l).2.2.1 (fd l).2.2.2 := rfl
theorem ck_no (l : List Int) : ck (false, l) = cells0 false false 0 0 0 := rfl
/-- Is all well-formed, no rune begun? -/
def wholeV (l : List Int) : Bool := !(fd l).1 && ((fd l).2.1 == 0)
theorem whole_bad (l : List Int) : (((badV l.length l : Nat) : Int) == (l.length : Int)) = wholeV l := by
  have h := whole_iff l
  unfold wholeV
  cases hw : (!(fd l).1 && ((fd l).2.1 == 0)) with
  | true =>
    rw [Bool.and_eq_true, beq_iff_eq, Bool.not_eq_true'] at hw
    rw [beq_iff_eq, h.2 hw]
  | false =>
    rw [beq_eq_false_iff_ne]
    intro e
    have e2 := h.1 (by omega)
    rw [e2.1, e2.2] at hw
    cases hw
structure Left (w0 : World) (g : Nat) (cs : Array Value) (w w' : World) : Prop where
  blk : w'.heap[g]? = some (.cells cs 48 (0, 0))
  below : Below w0.heap.size w0 w'
  keep : KeepBut w w' g none
theorem feed_yes (w0 w : World) (g : Nat) (l ps : List Int) (A : Option Addr) (c : Nat) (hk : w.heap[g]? = some (.cells (ck (true, l)) 48 (0, 0))) (hg : w0.heap.size ≤ g) (hB : Below w0.heap.size w0 w) (hC : Kd.C (Kd.int .u8) w0 A ps.length ps) (hc : ps.length ≤ c) (hl : ps.length ≤ 140737488351232) :
    Calls Try.prog 23 #[.pointer (some ⟨g, 0, none⟩), .slice A ps.length c] w fun e w' => e = .returned (.bool (!(fd (l ++ ps)).1)) ∧ Left w0 g (ck (true, l ++ ps)) w w' := by
  refine (feed_calls w0 w g (fd l).1 (fd l).2.1 (fd l).2.2.1 (fd l).2.2.2 ps A c hC hc hl ⟨hk, hg⟩ hB (fd (l ++ ps)).1 (fd (l ++ ps)).2.1 (fd (l ++ ps)).2.2.1 (fd (l ++ ps)).2.2.2 (fd_app l ps).symm).mono ?_
  rintro e w' ⟨he, h⟩
  exact ⟨he, h.st.1, h.bl, h.kp⟩
theorem feed_nil (v : Value) (w : World) :
    Calls Try.prog 23 #[.pointer none, v] w fun e w' => e = .returned (.bool false) ∧ Drawn0 w w' := by
  go_enter Try.func23, Try.ntmps23
  go_wp2_with (fail)
  go_ret
  exact ⟨rfl, by repeat (first | exact Drawn0.refl _ | apply Drawn0.step)⟩
theorem feed_no (v : Value) (g : Nat) (w : World) (hk : w.heap[g]? = some (.cells (cells0 false false 0 0 0) 48 (0, 0))) :
    Calls Try.prog 23 #[.pointer (some ⟨g, 0, none⟩), v] w fun e w' => e = .returned (.bool false) ∧ Drawn0 w w' := by
  have k0 : w.cell? ⟨g, 0, none⟩ = some (.bool false) := blk_cell hk 0
  clear hk
  go_enter Try.func23, Try.ntmps23
  go_wp2_with (fail)
  go_ret
  exact ⟨rfl, by repeat (first | exact Drawn0.refl _ | apply Drawn0.step)⟩
theorem whole_no (g : Nat) (w : World) (hk : w.heap[g]? = some (.cells (cells0 false false 0 0 0) 48 (0, 0))) :
    Calls Try.prog 25 #[.pointer (some ⟨g, 0, none⟩)] w fun e w' => e = .returned (.bool false) ∧ Drawn0 w w' := by
  have k0 : w.cell? ⟨g, 0, none⟩ = some (.bool false) := blk_cell hk 0
  clear hk
  go_enter Try.func25, Try.ntmps25
  go_wp2_with (fail)
  go_ret
  exact ⟨rfl, by repeat (first | exact Drawn0.refl _ | apply Drawn0.step)⟩
theorem refFeed (b : Bool) (A B : Option Addr) (c d : Nat) (l p : List Int) (w : World) (hr : Kd.C (Kd.int .u8) w A l.length l) (hc : l.length ≤ c) (hs : Kd.C (Kd.int .u8) w B p.length p) (hd : p.length ≤ d) (hl : l.length + p.length < 140737488355328) :
    Calls Try.prog 22 #[.agg #[.bool b, .slice A l.length c], .slice B p.length d] w fun e w' => ∃ v1, e = .returned (.agg #[.bool b, v1]) ∧ Kd.R (Kd.int .u8) 5 w' w.heap.size (fun _ => True) v1 (l ++ p) ∧ Below w.heap.size w w' := by
  refine posthornref05_Checker_Feed.calls b A c l B d p b (l ++ p) w hr hc hs hd ?_
  unfold posthornref05_Checker_Feed.f
  rw [bind_some', if_pos (by simp; omega), bind_some', if_pos (by simp; omega)]
  rfl
end Go.Proofs.Ytabjfpjmiiiecaa.FE
