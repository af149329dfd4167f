/- Slices of structs of four ints, opened. -/
import Derived.Test.YtfjdooloikofoaaProg
import Derived.ProofKit
import Derived.OpenShut
import Derived.Lib.SmallJoins
namespace Go.Proofs.Ytfjdooloikofoaa.Base
open Go.ChangeShapes Go.WideShapes Go.Deep Go.RowKit
set_option linter.unusedVariables false

structure Four where
  a : Int
  b : Int
  c : Int
  d : Int
deriving Inhabited

structure In64 (x : Four) : Prop where
  a : -9223372036854775808 ≤ x.a ∧ x.a ≤ 9223372036854775807
  b : -9223372036854775808 ≤ x.b ∧ x.b ≤ 9223372036854775807
  c : -9223372036854775808 ≤ x.c ∧ x.c ≤ 9223372036854775807
  d : -9223372036854775808 ≤ x.d ∧ x.d ≤ 9223372036854775807

/-- Where the slice's elements lie. -/
structure Fours (W : World) (a : Option Addr) (len : Nat) (g : Nat → Four) : Prop where
  at_ : ∀ i, i < len → ∃ x : Addr, a = some x ∧ W.cell? (x.add (i * 4)) = some (.int .i64 (g i).a) ∧ W.cell? ⟨(x.add (i * 4)).block, (x.add (i * 4)).off + 1, none⟩ = some (.int .i64 (g i).b) ∧ W.cell? ⟨(x.add (i * 4)).block, (x.add (i * 4)).off + 2, none⟩ = some (.int .i64 (g i).c) ∧ W.cell? ⟨(x.add (i * 4)).block, (x.add (i * 4)).off + 3, none⟩ = some (.int .i64 (g i).d) ∧ In64 (g i)
  len : len ≤ maxLen

theorem open_fours {H : Type} {enc : TypeId × Value → H} {P : Program} {w : World} {base : Nat} {spare : Nat → Bool} {held : Bool} {t e : TypeId} {f0 f1 f2 f3 : Field} {a : Option Addr} {len cap : Nat} {d : DataW H} {p : List MemPlace}
    (ht : P.underlying t = some (.slice e)) (he : P.underlying e = some (.struct #[f0, f1, f2, f3])) (ce : P.cellsOf e = 4)
    (o0 : f0.offset = 0) (o1 : f1.offset = 1) (o2 : f2.offset = 2) (o3 : f3.offset = 3)
    (u0 : P.underlying f0.type = some (.int .i64)) (u1 : P.underlying f1.type = some (.int .i64)) (u2 : P.underlying f2.type = some (.int .i64)) (u3 : P.underlying f3.type = some (.int .i64))
    (c0 : P.cellsOf f0.type = 1) (c1 : P.cellsOf f1.type = 1) (c2 : P.cellsOf f2.type = 1) (c3 : P.cellsOf f3.type = 1)
    (h : DataW.Trod enc P w base spare held t (.slice a len cap) d p) : ∃ g, Fours w a len g := by
  obtain ⟨fuel, hf⟩ := h
  rcases open_slice ht hf with ⟨hcs, _⟩ | ⟨x, l, c, m, n, D, Pl, hcs, hb, hl, hm, hmm, _, hx⟩
  · simp [Value.cells] at hcs
    obtain ⟨rfl, rfl, rfl⟩ := hcs
    exact ⟨fun _ => default, ⟨fun i hi => absurd hi (by omega), by unfold maxLen; omega⟩⟩
  · simp [Value.cells] at hcs
    obtain ⟨rfl, rfl, rfl⟩ := hcs
    have hlm : len ≤ m := by rw [hmm]; split <;> omega
    have each : ∀ i, i < len → ∃ q : Four, w.cell? (x.add (i * 4)) = some (.int .i64 q.a) ∧ w.cell? ⟨(x.add (i * 4)).block, (x.add (i * 4)).off + 1, none⟩ = some (.int .i64 q.b) ∧ w.cell? ⟨(x.add (i * 4)).block, (x.add (i * 4)).off + 2, none⟩ = some (.int .i64 q.c) ∧ w.cell? ⟨(x.add (i * 4)).block, (x.add (i * 4)).off + 3, none⟩ = some (.int .i64 q.d) ∧ In64 q := by
      intro i hi
      obtain ⟨cs', h1, h2⟩ := hx i (by omega)
      rw [ce] at h1
      obtain ⟨_, hlen, hcell⟩ := World.cells?_some h1
      obtain ⟨xs, k, hk, hxy, _, hxl, hff⟩ := DataW.trod_struct he h2
      match xs, hxl, cs', hlen with
      | [y0, y1, y2, y3], _, [v0, v1, v2, v3], _ =>
        have g0 := hff 0 f0 rfl
        have g1 := hff 1 f1 rfl
        have g2 := hff 2 f2 rfl
        have g3 := hff 3 f3 rfl
        simp [o0, o1, o2, o3, c0, c1, c2, c3] at g0 g1 g2 g3
        have e0 := hcell 0 (by omega)
        have e1 := hcell 1 (by omega)
        have e2 := hcell 2 (by omega)
        have e3 := hcell 3 (by omega)
        have e0 : w.cell? (x.add (i * 4)) = _ := e0
        have e1 : w.cell? ⟨(x.add (i * 4)).block, (x.add (i * 4)).off + 1, none⟩ = _ := e1
        have e2 : w.cell? ⟨(x.add (i * 4)).block, (x.add (i * 4)).off + 2, none⟩ = _ := e2
        have e3 : w.cell? ⟨(x.add (i * 4)).block, (x.add (i * 4)).off + 3, none⟩ = _ := e3
        obtain ⟨n0, k0, _, w0⟩ := DataW.trod_int u0 g0
        obtain ⟨n1, k1, _, w1⟩ := DataW.trod_int u1 g1
        obtain ⟨n2, k2, _, w2⟩ := DataW.trod_int u2 g2
        obtain ⟨n3, k3, _, w3⟩ := DataW.trod_int u3 g3
        simp at k0 k1 k2 k3
        subst k0 k1 k2 k3
        exact ⟨⟨n0, n1, n2, n3⟩, by simpa using e0, by simpa using e1, by simpa using e2, by simpa using e3, ⟨bounds_i64 w0, bounds_i64 w1, bounds_i64 w2, bounds_i64 w3⟩⟩
    obtain ⟨q, hq⟩ := choose_lt each
    exact ⟨q, ⟨fun i hi => ⟨x, rfl, hq i hi⟩, by omega⟩⟩

theorem Fours.old {w W : World} {a : Option Addr} {len : Nat} {g : Nat → Four} (h : Fours w a len g) (hb : Below w.heap.size w W) : Fours W a len g := by
  refine ⟨fun i hi => ?_, h.len⟩
  obtain ⟨x, hx, h0, h1, h2, h3, hw⟩ := h.at_ i hi
  have k : ∀ (y : Addr) v, w.cell? y = some v → W.cell? y = some v := fun y v hv => (hb.cell (World.block_lt_of_cell? w _ hv)).trans hv
  exact ⟨x, hx, k _ _ h0, k _ _ h1, k _ _ h2, k _ _ h3, hw⟩

end Go.Proofs.Ytfjdooloikofoaa.Base
