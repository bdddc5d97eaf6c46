/- CodeReaders: all that the law has in memory, and what its calls say of it. -/
import Derived.Test.YtokgckhhhhigiaaRdOb
namespace Go.Proofs.Ytokgckhhhhigiaa.PA
set_option linter.unusedVariables false
set_option linter.unusedSimpArgs false
set_option linter.unusedVariables false
set_option linter.unusedSimpArgs false
open Go.RowKit Go.Proofs.YtokgckhhhhigiaaW.PrintWords Go.Proofs.YtokgckhhhhigiaaW.PrintLast Go.Proofs.YtokgckhhhhigiaaW.PrintMore Go.Proofs.Ytokgckhhhhigiaa.B Go.Proofs.Ytokgckhhhhigiaa.M Go.Proofs.Ytokgckhhhhigiaa.G Go.Proofs.Ytokgckhhhhigiaa.Rd Go.Proofs.Ytokgckhhhhigiaa.UnbP Go.Proofs.Ytokgckhhhhigiaa.Fd Go.Proofs.Ytokgckhhhhigiaa.Fd2 Go.Proofs.Ytokgckhhhhigiaa.RdP Go.Proofs.Ytokgckhhhhigiaa.XF Go.Proofs.Ytokgckhhhhigiaa.Turn Go.Proofs.Ytokgckhhhhigiaa.Lent
section
variable {w W W' : World}
/-- One may be taken for the other. -/
def Ent (a b : Ob w) : Prop := ∀ W F, a.K W F → ∃ F', b.K W F' ∧ ∀ i, F' i → F i
variable {a a' b b' c d : Ob w}
theorem Ent.has (e : Ent a b) (h : Has a W) : Has b W := by
  obtain ⟨F, h⟩ := h
  obtain ⟨F', h', _⟩ := e W F h
  exact ⟨F', h'⟩
theorem Ent.refl (a : Ob w) : Ent a a := fun W F h => ⟨F, h, fun _ h => h⟩
theorem Ent.trans (e : Ent a b) (k : Ent b c) : Ent a c := fun W F h => by
  obtain ⟨F1, h1, k1⟩ := e W F h
  obtain ⟨F2, h2, k2⟩ := k W F1 h1
  exact ⟨F2, h2, fun i hi => k1 i (k2 i hi)⟩
theorem Ent.both (e : Ent a a') (k : Ent b b') : Ent (both2 a b) (both2 a' b') := fun W F h => by
  obtain ⟨F1, F2, h1, h2, hd, rfl⟩ := h
  obtain ⟨G1, g1, k1⟩ := e W F1 h1
  obtain ⟨G2, g2, k2⟩ := k W F2 h2
  exact ⟨_, ⟨G1, G2, g1, g2, fun i hi hi2 => hd i (k1 i hi) (k2 i hi2), rfl⟩, fun i hi => hi.imp (k1 i) (k2 i)⟩
theorem Ent.comm (a b : Ob w) : Ent (both2 a b) (both2 b a) := fun W F h => by
  obtain ⟨F1, F2, h1, h2, hd, rfl⟩ := h
  exact ⟨_, ⟨F2, F1, h2, h1, fun i hi hi2 => hd i hi2 hi, rfl⟩, fun i hi => hi.symm⟩
theorem Ent.assoc (a b c : Ob w) : Ent (both2 (both2 a b) c) (both2 a (both2 b c)) := fun W F h => by
  obtain ⟨_, F3, ⟨F1, F2, h1, h2, h4, rfl⟩, h3, h5, rfl⟩ := h
  exact ⟨_, ⟨F1, _, h1, ⟨F2, F3, h2, h3, fun i hi => h5 i (.inr hi), rfl⟩, fun i hi hh => hh.elim (h4 i hi) (h5 i (.inl hi)), rfl⟩, fun i hi => hi.elim (fun h => .inl (.inl h)) (fun h => h.elim (fun h => .inl (.inr h)) .inr)⟩
theorem Ent.assoc' (a b c : Ob w) : Ent (both2 a (both2 b c)) (both2 (both2 a b) c) := fun W F h => by
  obtain ⟨F1, _, h1, ⟨F2, F3, h2, h3, h4, rfl⟩, h5, rfl⟩ := h
  exact ⟨_, ⟨_, F3, ⟨F1, F2, h1, h2, fun i hi hh => h5 i hi (.inl hh), rfl⟩, h3, fun i hi hh => hi.elim (fun hi => h5 i hi (.inr hh)) (fun hi => h4 i hi hh), rfl⟩, fun i hi => hi.elim (fun h => h.elim .inl (fun h => .inr (.inl h))) (fun h => .inr (.inr h))⟩
theorem Ent.add (a : Ob w) : Ent a (both2 a (emp w)) := fun W F h => ⟨_, ⟨F, _, h, ⟨a.bl h, rfl⟩, fun _ _ h => h, rfl⟩, fun i hi => hi.elim (fun h => h) False.elim⟩
theorem Ent.fst (a b : Ob w) : Ent (both2 a b) a := fun W F h => by
  obtain ⟨F1, F2, h1, h2, hd, rfl⟩ := h
  exact ⟨F1, h1, fun i hi => .inl hi⟩
theorem Ent.snd (a b : Ob w) : Ent (both2 a b) b := (Ent.comm a b).trans (Ent.fst b a)
/-- The two inner ones change places. -/
theorem Ent.mid (a b c d : Ob w) : Ent (both2 (both2 a b) (both2 c d)) (both2 (both2 a c) (both2 b d)) :=
  (Ent.assoc a b (both2 c d)).trans (((Ent.refl a).both ((Ent.assoc' b c d).trans (((Ent.comm b c).both (Ent.refl d)).trans (Ent.assoc c b d)))).trans (Ent.assoc' a c (both2 b d)))
theorem Ent.turn (a b c : Ob w) : Ent (both2 a (both2 b c)) (both2 b (both2 a c)) := (Ent.assoc' a b c).trans (((Ent.comm a b).both (Ent.refl c)).trans (Ent.assoc b a c))
theorem Steps.to {ι : Type} {f : Nat} {args : Array Value} {v : ι → Value} {o' o'' : ι → Ob w} (h : Steps a f args v o') (e : ∀ j, Ent (o' j) (o'' j)) : Steps a f args v o'' := fun W F hh => (h W F hh).mono fun ee W' ⟨j, he, F', h1, hs⟩ => by
  obtain ⟨F2, h2, k2⟩ := e j W' F' h1
  exact ⟨j, he, F2, h2, ⟨hs.size, hs.keep, fun i hi => hs.mv i (k2 i hi)⟩⟩
theorem Steps.of {ι : Type} {f : Nat} {args : Array Value} {v : ι → Value} {o' : ι → Ob w} (h : Steps b f args v o') (e : Ent a b) : Steps a f args v o' := fun W F hh => by
  obtain ⟨F1, h1, k1⟩ := e W F hh
  exact (h W F1 h1).mono fun ee W' ⟨j, he, F', h2, hs⟩ => ⟨j, he, F', h2, ⟨hs.size, fun i hi hn => hs.keep i hi (fun h => hn (k1 i h)), fun i hi => (hs.mv i hi).imp (k1 i) id⟩⟩
end
section
variable {w W W' : World} {g h g1 h1 bl bm ob : Nat} {st st1 : St} {er er1 : Int} {m m1 : Nat} {v6 v7 : Value} {ys : List Int} {pl pm : Array Value} {P BB O La Wa L F X Wt R : Ob w}
/-- What a round works on: the reader, what is lent, what is told; the reference's and what it tells; what was told last; all else. -/
def TT (R L F X Wt La Wa O : Ob w) : Ob w := both2 (both2 (both2 R L) F) (both2 (both2 X Wt) (both2 (both2 La Wa) O))
variable {ι : Type} {f : Nat} {args : Array Value} {v : ι → Value}
theorem TT.stL {o' : ι → Ob w} (k : Steps L f args v o') : Steps (TT R L F X Wt La Wa O) f args v (fun j => TT R (o' j) F X Wt La Wa O) := ((k.r R).l F).l _
theorem TT.stX {x' w' : ι → Ob w} (k : Steps (both2 X Wt) f args v (fun j => both2 (x' j) (w' j))) : Steps (TT R L F X Wt La Wa O) f args v (fun j => TT R L F (x' j) (w' j) La Wa O) := (k.l _).r _
theorem TT.stR {r' f' : ι → Ob w} (k : Steps (both2 (both2 R L) F) f args v (fun j => both2 (both2 (r' j) L) (f' j))) : Steps (TT R L F X Wt La Wa O) f args v (fun j => TT (r' j) L (f' j) X Wt La Wa O) := k.l _
theorem TT.stLa {o' : ι → Ob w} (k : Steps La f args v o') : Steps (TT R L F X Wt La Wa O) f args v (fun j => TT R L F X Wt (o' j) Wa O) := (((k.l Wa).l O).r _).r _
theorem TT.F_ (hh : Has (TT R L F X Wt La Wa O) W) : Has F W := hh.fst.snd
theorem TT.Wt_ (hh : Has (TT R L F X Wt La Wa O) W) : Has Wt W := hh.snd.fst.snd
theorem TT.La_ (hh : Has (TT R L F X Wt La Wa O) W) : Has La W := hh.snd.snd.fst.fst
theorem TT.Wa_ (hh : Has (TT R L F X Wt La Wa O) W) : Has Wa W := hh.snd.snd.fst.snd
theorem TT.O_ (hh : Has (TT R L F X Wt La Wa O) W) : Has O W := hh.snd.snd.snd
/-- Between the rounds: a reader and the reference's, the others, what was told last. -/
def CC (R X P BB La Wa : Ob w) : Ob w := both2 (both2 R X) (both2 P (both2 BB (both2 La Wa)))
theorem CC.turn (hh : Has (CC R X (both2 L F) BB La Wa) W) : Has (CC L F (both2 R X) BB La Wa) W := (Ent.turn _ _ _).has hh
theorem CC.tt : Ent (both2 (CC R X P BB La Wa) O) (TT R (emp w) (emp w) X (emp w) La Wa (both2 (both2 P BB) O)) := by
  refine (Ent.assoc _ _ _).trans ?_
  -- both2 (both2 R X) (both2 (P, BB, LW) O)
  refine ((Ent.refl _).both ((((Ent.assoc' P BB (both2 La Wa)).trans (Ent.comm _ _)).both (Ent.refl O)).trans (Ent.assoc _ _ _))).trans ?_
  -- both2 (both2 R X) (both2 LW (both2 (both2 P BB) O))
  refine (Ent.assoc _ _ _).trans ?_
  exact (((Ent.add R).trans (Ent.add _))).both ((Ent.add X).both (Ent.refl _))
theorem TT.cc : Ent (TT R L F X Wt La Wa (both2 (both2 P BB) O)) (CC R X P BB F Wt) := by
  -- drop L, La, Wa, O
  refine (((Ent.fst R L).both (Ent.refl F)).both ((Ent.refl (both2 X Wt)).both ((Ent.snd (both2 La Wa) _).trans (Ent.fst (both2 P BB) O)))).trans ?_
  -- both2 (both2 R F) (both2 (both2 X Wt) (both2 P BB))
  refine ((Ent.refl _).both ((Ent.assoc X Wt _))).trans ?_
  -- both2 (both2 R F) (both2 X (both2 Wt (both2 P BB)))
  refine (Ent.mid R F X _).trans ?_
  -- both2 (both2 R X) (both2 F (both2 Wt (both2 P BB)))
  refine (Ent.refl _).both ?_
  refine (Ent.assoc' F Wt _).trans ?_
  refine (Ent.comm _ _).trans ?_
  exact Ent.assoc P BB (both2 F Wt)
theorem t_lent (A : Option Addr) (c0 : Nat) (l : List Int) (hl0 : Kd.C (Kd.int .u8) w A l.length l) (hs : l.length ≤ 140737488351232) (hh : Has (TT R (emp w) F X Wt La Wa O) W) :
    Calls Try.prog 6 #[.slice A l.length c0] W fun e W' => ∃ v, e = .returned v ∧ Has (TT R (lentO w v l) F X Wt La Wa O) W' :=
  (TT.stL (s_lent A c0 l hl0 hs)).has hh
theorem t_xfeed (A : Option Addr) (c0 : Nat) (l : List Int) (hl0 : Kd.C (Kd.int .u8) w A l.length l) (hin : InB l) (hlen : m + l.length ≤ 10000000000000) (hh : Has (TT R L F (xr w h st er m) (emp w) La Wa O) W) :
    Calls Try.prog 19 #[.pointer (some ⟨h, 0, none⟩), .slice A l.length c0] W fun e W' => ∃ v, e = .returned (.tuple #[v, .int .i64 (feedA l st er).2.2]) ∧ Has (TT R L F (xr w h (feedA l st er).2.1 (feedA l st er).2.2 (m + l.length)) (row w v (feedA l st er).1) La Wa O) W' :=
  (TT.stX (x' := fun _ => _) (w' := fun v => row w v (feedA l st er).1) ((s_xfeed h st er m A c0 l hl0 hin hlen).of (Ent.fst _ _))).has hh
theorem t_feed (vin : Value) (l : List Int) (hl : l.length ≤ 10000000000000) (hin : InB l) (hh : Has (TT (rd w g st er) (lentO w vin l) (emp w) X Wt La Wa O) W) :
    Calls Try.prog 17 #[.pointer (some ⟨g, 0, none⟩), vin] W fun e W' => ∃ v, e = .returned (.tuple #[v, .int .i64 (feedA l st er).2.2]) ∧ Has (TT (rd w g (feedA l st er).2.1 (feedA l st er).2.2) (lentO w vin l) (full w v (feedA l st er).1) X Wt La Wa O) W' :=
  (TT.stR (r' := fun _ => _) (f' := fun v => full w v (feedA l st er).1) (((s_feed g st er vin l hl hin).of (Ent.fst _ _)).to fun j => (Ent.assoc _ _ _).trans (((Ent.refl _).both (Ent.comm _ _)).trans (Ent.assoc' _ _ _)))).has hh
theorem t_kept (vin : Value) (A : Option Addr) (c0 : Nat) (l : List Int) (hl0 : Kd.C (Kd.int .u8) w A l.length l) (hs : l.length ≤ 140737488351232) (hh : Has (TT R (lentO w vin l) F X Wt La Wa O) W) :
    Calls Try.prog 11 #[vin, .slice A l.length c0] W fun e W' => e = .returned (.bool true) ∧ Has (TT R (lentO w vin l) F X Wt La Wa O) W' :=
  ((TT.stL (s_kept vin A c0 l hl0 hs)).has hh).mono fun e W' ⟨_, he, h2⟩ => ⟨he, h2⟩
theorem t_spoil (vin : Value) (l : List Int) (hs : l.length ≤ 70368744177664) (hh : Has (TT R (lentO w vin l) F X Wt La Wa O) W) :
    Calls Try.prog 14 #[vin] W fun e W' => e = .returned (.tuple #[]) ∧ Has (TT R (emp w) F X Wt La Wa O) W' :=
  ((TT.stL (s_spoil vin l hs)).has hh).mono fun e W' ⟨_, he, h2⟩ => ⟨he, h2⟩
theorem t_spoilLa (v6 : Value) (ys : List Int) (hs : ys.length ≤ 70368744177664) (hh : Has (TT R L F X Wt (full w v6 ys) Wa O) W) :
    Calls Try.prog 14 #[v6] W fun e W' => e = .returned (.tuple #[]) ∧ Has (TT R L F X Wt (emp w) Wa O) W' :=
  ((TT.stLa (s_spoilF v6 ys hs)).has hh).mono fun e W' ⟨_, he, h2⟩ => ⟨he, h2⟩
theorem c_close (hh : Has (both2 (CC (rd w g st er) X P BB La Wa) O) W) :
    Calls Try.prog 18 #[.pointer (some ⟨g, 0, none⟩)] W fun e W' => e = .returned (.int .i64 (closeV st er)) ∧ Has (both2 (CC (rd w g st er) X P BB La Wa) O) W' :=
  (((((s_close g st er).l _).l _).l _).has hh).mono fun e W' ⟨_, he, h2⟩ => ⟨he, h2⟩
theorem c_xclose (hh : Has (both2 (CC R (xr w h st er m) P BB La Wa) O) W) :
    Calls Try.prog 20 #[.pointer (some ⟨h, 0, none⟩)] W fun e W' => e = .returned (.int .i64 (closeV st er)) ∧ Has (both2 (CC R (xr w h st er m) P BB La Wa) O) W' :=
  (((((s_xclose h st er m).r _).l _).l _).has hh).mono fun e W' ⟨_, he, h2⟩ => ⟨he, h2⟩
theorem c_new (hh : Has (both2 (CC R X P BB La Wa) O) W) :
    Calls Try.prog 15 #[] W fun e W' => ∃ g : Nat, e = .returned (.pointer (some ⟨g, 0, none⟩)) ∧ Has (both2 (CC (rd w g St.new 0) X P BB La Wa) O) W' :=
  ((((s_new R).l X).l _).l _).has hh
theorem c_xnew (m : Nat) (hh : Has (both2 (CC R X P BB La Wa) O) W) :
    Calls Try.prog 16 #[] W fun e W' => ∃ h : Nat, e = .returned (.pointer (some ⟨h, 0, none⟩)) ∧ Has (both2 (CC R (xr w h St.new 0 m) P BB La Wa) O) W' :=
  ((((s_xnew X m).r R).l _).l _).has hh
/-- The two tables of pointers. -/
def BT (w : World) (bl bm : Nat) (pl pm : Array Value) : Ob w := both2 (box w bl 38 pl) (box w bm 40 pm)
theorem CC.setl (q : Nat) (u : Value) (hh : Has (both2 (CC R X P (BT w bl bm pl pm) La Wa) O) W) : Has (both2 (CC R X P (BT w bl bm (pl.setIfInBounds q u) pm) La Wa) O) (W.setCell ⟨bl, q, none⟩ u) :=
  ((((((Moves.set W q u).l _).l _).r _).r _).l _).has hh
theorem CC.setm (q : Nat) (u : Value) (hh : Has (both2 (CC R X P (BT w bl bm pl pm) La Wa) O) W) : Has (both2 (CC R X P (BT w bl bm pl (pm.setIfInBounds q u)) La Wa) O) (W.setCell ⟨bm, q, none⟩ u) :=
  ((((((Moves.set W q u).r _).l _).r _).r _).l _).has hh
theorem CC.bl_ (hh : Has (both2 (CC R X P (BT w bl bm pl pm) La Wa) O) W) : W.heap[bl]? = some (.cells pl 38 (0, 0)) := hh.fst.snd.snd.fst.fst.box
theorem CC.bm_ (hh : Has (both2 (CC R X P (BT w bl bm pl pm) La Wa) O) W) : W.heap[bm]? = some (.cells pm 40 (0, 0)) := hh.fst.snd.snd.fst.snd.box
theorem TT.bl_ (hh : Has (TT R L F X Wt La Wa (both2 (both2 P (BT w bl bm pl pm)) O)) W) : W.heap[bl]? = some (.cells pl 38 (0, 0)) := hh.snd.snd.snd.fst.snd.fst.box
theorem TT.bm_ (hh : Has (TT R L F X Wt La Wa (both2 (both2 P (BT w bl bm pl pm)) O)) W) : W.heap[bm]? = some (.cells pm 40 (0, 0)) := hh.snd.snd.snd.fst.snd.snd.box
theorem TT.ob_ {t : Nat} {cs : Array Value} (hh : Has (TT R L F X Wt La Wa (both2 P (box w ob t cs))) W) : W.heap[ob]? = some (.cells cs t (0, 0)) := hh.snd.snd.snd.snd.box
end
/-- Of none, and of one that New did not make. -/
theorem feed_nil (W : World) (v : Value) :
    Calls Try.prog 17 #[.pointer none, v] W fun e W' => e = .returned (.tuple #[.slice none 0 0, .int .i64 1]) ∧ Below W.heap.size W W' := by
  go_enter Try.func17, Try.ntmps17
  go_wp2_with (fail)
  go_ret2
  exact ⟨rfl, Below.refl _ _⟩
theorem close_nil (W : World) :
    Calls Try.prog 18 #[.pointer none] W fun e W' => e = .returned (.int .i64 1) ∧ Below W.heap.size W W' := by
  go_enter Try.func18, Try.ntmps18
  go_wp2_with (fail)
  go_ret
  exact ⟨rfl, Below.refl _ _⟩
theorem feed_zero {W : World} {g t : Nat} {cs : Array Value} (hk : W.heap[g]? = some (.cells cs t (0, 0))) (h0 : cs[0]? = some (.bool false)) (v : Value) :
    Calls Try.prog 17 #[.pointer (some ⟨g, 0, none⟩), v] W fun e W' => e = .returned (.tuple #[.slice none 0 0, .int .i64 1]) ∧ Below W.heap.size W W' := by
  have k0 : W.cell? ⟨g, 0, none⟩ = some (.bool false) := (blk_cell hk 0).trans h0
  have kl := blk_lt hk
  clear hk h0
  go_enter Try.func17, Try.ntmps17
  go_wp2_with (fail)
  go_ret2
  exact ⟨rfl, Below.refl _ _⟩
theorem close_zero {W : World} {g t : Nat} {cs : Array Value} (hk : W.heap[g]? = some (.cells cs t (0, 0))) (h0 : cs[0]? = some (.bool false)) :
    Calls Try.prog 18 #[.pointer (some ⟨g, 0, none⟩)] W fun e W' => e = .returned (.int .i64 1) ∧ Below W.heap.size W W' := by
  have k0 : W.cell? ⟨g, 0, none⟩ = some (.bool false) := (blk_cell hk 0).trans h0
  have kl := blk_lt hk
  clear hk h0
  go_enter Try.func18, Try.ntmps18
  go_wp2_with (fail)
  go_ret
  exact ⟨rfl, Below.refl _ _⟩
end Go.Proofs.Ytokgckhhhhigiaa.PA
