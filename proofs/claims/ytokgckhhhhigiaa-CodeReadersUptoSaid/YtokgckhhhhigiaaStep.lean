/- code.Reader: take, as one step of a plain state. -/
import Derived.Test.YtokgckhhhhigiaaTake
namespace Go.Proofs.Ytokgckhhhhigiaa.Rd
set_option linter.unusedVariables false
set_option linter.unusedSimpArgs false
open Go.RowKit Go.Proofs.YtokgckhhhhigiaaW.PrintWords Go.Proofs.YtokgckhhhhigiaaW.PrintLast Go.Proofs.YtokgckhhhhigiaaW.PrintMore Go.Proofs.Ytokgckhhhhigiaa.B Go.Proofs.Ytokgckhhhhigiaa.M Go.Proofs.Ytokgckhhhhigiaa.G Go.Proofs.Ytokgckhhhhigiaa.Turn

/-- The letters under way (what lies behind them is of no weight), how many, and whether a group ended with a sign. -/
structure St where
  a : Int
  b : Int
  c : Int
  d : Int
  n : Nat
  o : Bool
def St.cells (s : St) (m : Bool) (er : Int) : Array Value := cellsR m s.a s.b s.c s.d s.n s.o er
def St.next (s : St) (v : Int) : Int := nextV s.a s.b s.c s.n s.o v
/-- A letter that the text goes on with. -/
def St.put (s : St) (v : Int) : St :=
  match s.n with
  | 0 => ⟨v, s.b, s.c, s.d, 1, s.o⟩
  | 1 => ⟨s.a, v, s.c, s.d, 2, s.o⟩
  | 2 => ⟨s.a, s.b, v, s.d, 3, s.o⟩
  | _ => ⟨s.a, s.b, s.c, v, 0, v == 64⟩
def St.out (s : St) (v : Int) : List Int := if s.n = 3 then fourB s.a s.b s.c v else []
theorem St.put_n (s : St) (v : Int) (h : s.n ≤ 3) : (s.put v).n ≤ 3 := by
  obtain ⟨a, b, c, d, n, o⟩ := s
  match n, h with
  | 0, _ => exact (by decide : 1 ≤ 3)
  | 1, _ => exact (by decide : 2 ≤ 3)
  | 2, _ => exact (by decide : 3 ≤ 3)
  | 3, _ => exact (by decide : 0 ≤ 3)

theorem take_ok (k : Nat) (g : Nat) (m : Bool) (s : St) (hn : s.n ≤ 3) (er ch v : Int) (hv : code_value.f k ch = some v) (hnx : s.next v = 0) (v0 : Value) (xs : List Int) (base : Nat) (w : World) (hg : base ≤ g) (hbase : base ≤ w.heap.size)
    (hk : w.heap[g]? = some (.cells (s.cells m er) 47 (0, 0))) (ho : w.ownsRow base 5 1 v0 xs.length (nums .u8 xs)) (hl : xs.length + 3 < 140737488355328) :
    Calls Try.prog 24 #[.pointer (some ⟨g, 0, none⟩), v0, .int .u8 ch] w fun e w' => ∃ v1, e = .returned (.tuple #[v1, .int .i64 0]) ∧ Took g ((s.put v).cells m er) v0 v1 (xs ++ s.out v) base w w' := by
  obtain ⟨a, b, c, d, n, o⟩ := s
  match n, hn with
  | 0, _ =>
    have h := take_zero k g m a b c d o er ch v hv hnx v0 xs base w hg hbase hk ho
    simpa [St.out, St.put, St.cells] using h
  | 1, _ =>
    have h := take_uno k g m a b c d o er ch v hv hnx v0 xs base w hg hbase hk ho
    simpa [St.out, St.put, St.cells] using h
  | 2, _ =>
    have h := take_due k g m a b c d o er ch v hv hnx v0 xs base w hg hbase hk ho
    simpa [St.out, St.put, St.cells] using h
  | 3, _ =>
    by_cases hc : c = 64
    · have hv64 : v = 64 := by
        have h : nextV a b c 3 o v = 0 := hnx
        unfold nextV at h
        by_cases h1 : v = 65
        · rw [if_pos h1] at h; cases h
        · rw [if_neg h1] at h
          by_cases h2 : o = true
          · rw [if_pos h2] at h; cases h
          · rw [if_neg h2, if_pos ⟨rfl, hc⟩] at h
            by_cases h3 : v ≠ 64
            · rw [if_pos h3] at h; cases h
            · exact Decidable.of_not_not h3
      have h := take_one k g m a b c d o er ch v hv hnx hc hv64 v0 xs base w hg hbase hk ho hl
      simpa [St.out, St.put, St.cells, fourB, hc, hv64] using h
    · by_cases hd : v = 64
      · have h := take_two k g m a b c d o er ch v hv hnx hc hd v0 xs base w hg hbase hk ho hl
        simpa [St.out, St.put, St.cells, fourB, hc, hd] using h
      · have h := take_three k g m a b c d o er ch v hv hnx hc hd v0 xs base w hg hbase hk ho hl
        have hb : (v == 64) = false := beq_eq_false_iff_ne.2 hd
        simpa [St.out, St.put, St.cells, fourB, hc, hd, hb] using h
end Go.Proofs.Ytokgckhhhhigiaa.Rd
