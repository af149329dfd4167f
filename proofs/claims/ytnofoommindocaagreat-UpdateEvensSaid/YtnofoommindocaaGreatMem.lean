/- Lists of ints, rows, models and beliefs in memory: what it means that they lie there, and that they stay. -/
import Derived.Test.YtnofoommindocaaGreatProg
import Derived.ProofKit
import Derived.WalkKit
import Derived.OpenShut
import Derived.Lib.SmallJoins
namespace Go.Proofs.YtnofoommindocaaGreat.Base
open Go.ChangeShapes Go.WideShapes Go.Deep Go.RowKit
set_option linter.unusedVariables false

/-- Only block b has changed, and new ones have come. -/
structure But (b : Nat) (w w' : World) : Prop where
  os : w'.os = w.os
  tape : w'.tape = w.tape
  output : w'.output = w.output
  size : w.heap.size ≤ w'.heap.size
  block : ∀ k, k < w.heap.size → k ≠ b → w'.heap[k]? = w.heap[k]?
/-- What was there at first is as it was. -/
structure Old (w0 w : World) : Prop where
  below : Below w0.heap.size w0 w
theorem Old.refl (w : World) : Old w w := ⟨Below.refl _ _⟩
theorem Old.keep {w0 w w' : World} (h : Old w0 w) (hb : Below w.heap.size w w') : Old w0 w' := ⟨h.below.trans (hb.mono h.below.size)⟩
theorem Old.from {w0 w w' : World} {B : Nat} (h : Old w0 w) (hb : Below B w w') (hB : w0.heap.size ≤ B) : Old w0 w' := ⟨h.below.trans (hb.mono hB)⟩
theorem Old.but {w0 w w' : World} {b : Nat} (h : Old w0 w) (hb : But b w w') (hle : w0.heap.size ≤ b) : Old w0 w' :=
  ⟨h.below.trans ⟨hb.os, hb.tape, hb.output, hb.size, fun k hk => hb.block k (Nat.lt_of_lt_of_le hk h.below.size) (by omega)⟩⟩
theorem Old.cell {w0 w : World} {a : Addr} {v : Value} (h : Old w0 w) (hc : w0.cell? a = some v) : w.cell? a = some v :=
  (h.below.cell (World.block_lt_of_cell? w0 _ hc)).trans hc
theorem Old.drew {w0 w : World} (h : Old w0 w) : Old w0 w.drew := ⟨h.below.drew⟩
theorem Old.drewN {w0 w : World} (h : Old w0 w) (n : Nat) : Old w0 (w.drewN n) := ⟨h.below.trans ⟨rfl, rfl, rfl, Nat.le_refl _, fun _ _ => rfl⟩⟩
theorem below_drewN (w : World) (n : Nat) : Below w.heap.size w (w.drewN n) := ⟨rfl, rfl, rfl, Nat.le_refl _, fun _ _ => rfl⟩

theorem more {W X Y : World} (h : Below W.heap.size W X) (h2 : Below X.heap.size X Y) : Below W.heap.size W Y := h.trans (h2.mono h.size)

def I64 (z : Int) : Prop := -9223372036854775808 ≤ z ∧ z ≤ 9223372036854775807

/-- A slice at a has these ints; its memory is none below block B. -/
structure MI (B : Nat) (W : World) (a : Option Addr) (c : Nat) (zs : List Int) : Prop where
  cell : ∀ k, (h : k < zs.length) → ∃ x : Addr, a = some x ∧ W.cell? (x.add k) = some (.int .i64 zs[k])
  rng : ∀ z ∈ zs, I64 z
  len : zs.length ≤ maxLen
  lo : ∀ x, a = some x → 0 < zs.length → B ≤ x.block
  nn : a = none → c = 0
  cap : zs.length ≤ c
theorem MI.keep {B : Nat} {W W' : World} {a : Option Addr} {c : Nat} {zs : List Int} (h : MI B W a c zs) (hb : Below W.heap.size W W') : MI B W' a c zs := by
  refine ⟨fun k hk => ?_, h.rng, h.len, h.lo, h.nn, h.cap⟩
  obtain ⟨x, hx, hc⟩ := h.cell k hk
  exact ⟨x, hx, (hb.cell (World.block_lt_of_cell? W _ hc)).trans hc⟩
theorem MI.mono {B B' : Nat} {W : World} {a : Option Addr} {c : Nat} {zs : List Int} (h : MI B W a c zs) (hB : B' ≤ B) : MI B' W a c zs :=
  ⟨h.cell, h.rng, h.len, fun x hx hn => Nat.le_trans hB (h.lo x hx hn), h.nn, h.cap⟩
theorem MI.at {B : Nat} {W : World} {a : Option Addr} {c : Nat} {zs : List Int} (h : MI B W a c zs) (k : Nat) (hk : k < zs.length) :
    ∃ x : Addr, a = some x ∧ W.cell? (x.add k) = some (.int .i64 zs[k]) ∧ I64 zs[k] := by
  obtain ⟨x, hx, hc⟩ := h.cell k hk
  exact ⟨x, hx, hc, h.rng _ (List.getElem_mem hk)⟩
theorem MI.nil (B : Nat) (W : World) : MI B W none 0 [] := ⟨fun k hk => absurd hk (by simp), by simp, by simp [maxLen], fun x _ hn => absurd hn (by simp), fun _ => rfl, Nat.le_refl _⟩

/-- One row. -/
structure Rw where
  s : Int
  h : List Int
  r : Int
deriving Inhabited
structure RowAt (B : Nat) (W : World) (y : Addr) (q : Rw) : Prop where
  ex : ∃ a c, W.cell? y = some (.int .i64 q.s) ∧ W.cell? ⟨y.block, y.off + 1, none⟩ = some (.slice a q.h.length c) ∧ W.cell? ⟨y.block, y.off + 2, none⟩ = some (.int .i64 q.r) ∧ MI B W a c q.h
  s : I64 q.s
  r : I64 q.r
theorem RowAt.keep {B : Nat} {W W' : World} {y : Addr} {q : Rw} (h : RowAt B W y q) (hb : Below W.heap.size W W') : RowAt B W' y q := by
  obtain ⟨a, c, h1, h2, h3, h4⟩ := h.ex
  have k : ∀ (y : Addr) v, W.cell? y = some v → W'.cell? y = some v := fun y v hv => (hb.cell (World.block_lt_of_cell? W _ hv)).trans hv
  exact ⟨⟨a, c, k _ _ h1, k _ _ h2, k _ _ h3, h4.keep hb⟩, h.s, h.r⟩
/-- A slice at a has these rows; its memory is none below block B, nor that of its rows' lists. -/
structure MR (B : Nat) (W : World) (a : Option Addr) (c : Nat) (qs : List Rw) : Prop where
  at_ : ∀ k, (h : k < qs.length) → ∃ x : Addr, a = some x ∧ RowAt B W (x.add (k * 3)) qs[k]
  len : qs.length ≤ maxLen
  lo : ∀ x, a = some x → 0 < qs.length → B ≤ x.block
  nn : a = none → c = 0
  cap : qs.length ≤ c
theorem MR.keep {B : Nat} {W W' : World} {a : Option Addr} {c : Nat} {qs : List Rw} (h : MR B W a c qs) (hb : Below W.heap.size W W') : MR B W' a c qs := by
  refine ⟨fun k hk => ?_, h.len, h.lo, h.nn, h.cap⟩
  obtain ⟨x, hx, hr⟩ := h.at_ k hk
  exact ⟨x, hx, hr.keep hb⟩

/-- A model. -/
structure Mdl where
  n : Int
  A : List Int
  Q : List Int
  tick : Int
  gate : Int
  rmin : Int
  rows : List Rw
structure MM (B : Nat) (W : World) (v : Value) (M : Mdl) : Prop where
  ex : ∃ aA cA aQ cQ aR cR, v = .agg #[.int .i64 M.n, .slice aA M.A.length cA, .slice aQ M.Q.length cQ, .int .i64 M.tick, .int .i64 M.gate, .int .i64 M.rmin, .slice aR M.rows.length cR] ∧
    MI B W aA cA M.A ∧ MI B W aQ cQ M.Q ∧ MR B W aR cR M.rows
  n : I64 M.n
  tick : I64 M.tick
  gate : I64 M.gate
  rmin : I64 M.rmin
theorem MM.keep {B : Nat} {W W' : World} {v : Value} {M : Mdl} (h : MM B W v M) (hb : Below W.heap.size W W') : MM B W' v M := by
  obtain ⟨aA, cA, aQ, cQ, aR, cR, hv, h1, h2, h3⟩ := h.ex
  exact ⟨⟨aA, cA, aQ, cQ, aR, cR, hv, h1.keep hb, h2.keep hb, h3.keep hb⟩, h.n, h.tick, h.gate, h.rmin⟩
/-- A belief. -/
structure Blf where
  t : Int
  X : List Int
  P : List Int
  flag : Bool
  pass : Int
  fail : Int
structure MB (B : Nat) (W : World) (v : Value) (b : Blf) : Prop where
  ex : ∃ aX cX aP cP, v = .agg #[.int .i64 b.t, .slice aX b.X.length cX, .slice aP b.P.length cP, .bool b.flag, .int .i64 b.pass, .int .i64 b.fail] ∧ MI B W aX cX b.X ∧ MI B W aP cP b.P
  t : I64 b.t
  pass : I64 b.pass
  fail : I64 b.fail
theorem MB.keep {B : Nat} {W W' : World} {v : Value} {b : Blf} (h : MB B W v b) (hb : Below W.heap.size W W') : MB B W' v b := by
  obtain ⟨aX, cX, aP, cP, hv, h1, h2⟩ := h.ex
  exact ⟨⟨aX, cX, aP, cP, hv, h1.keep hb, h2.keep hb⟩, h.t, h.pass, h.fail⟩

section
variable {H : Type} {enc : TypeId × Value → H} {P : Program} {w : World} {base : Nat} {spare : Nat → Bool} {held : Bool}

theorem open_mi {t e : TypeId} {fuel : Nat} {v : Value} {x : DataW H × List MemPlace} (ht : P.underlying t = some (.slice e)) (he : P.underlying e = some (.int .i64)) (hc : P.cellsOf e = 1)
    (h : DataW.trod enc P w base spare held fuel t [v] = some x) : ∃ a c zs, v = .slice a zs.length c ∧ MI 0 w a c zs := by
  rcases open_ints ht he hc h with ⟨hcs, _⟩ | ⟨a, l, c, zs, hcs, _, hl, hm, hz, _, hcell, hwz⟩
  · simp at hcs
    exact ⟨none, 0, [], by simp [hcs], MI.nil _ _⟩
  · simp at hcs
    have hlz : l ≤ zs.length := by rw [hz]; split <;> omega
    have hlt : (zs.take l).length = l := by simp; omega
    refine ⟨some a, c, zs.take l, by rw [hlt]; exact hcs, ⟨fun k hk => ⟨a, rfl, ?_⟩, fun z hz' => ?_, by rw [hlt]; omega, fun _ _ _ => Nat.zero_le _, fun h => (by cases h), by rw [hlt]; omega⟩⟩
    · have h1 : k < l := by omega
      rw [hcell k (by omega)]
      simp [List.getD, show k < zs.length by omega]
    · exact bounds_i64 (hwz z (List.mem_of_mem_take hz'))

theorem open_mr {t e : TypeId} {f0 f1 f2 : Field} {ei : TypeId} {fuel : Nat} {v : Value} {x : DataW H × List MemPlace}
    (ht : P.underlying t = some (.slice e)) (he : P.underlying e = some (.struct #[f0, f1, f2])) (ce : P.cellsOf e = 3)
    (o0 : f0.offset = 0) (o1 : f1.offset = 1) (o2 : f2.offset = 2)
    (u0 : P.underlying f0.type = some (.int .i64)) (u1 : P.underlying f1.type = some (.slice ei)) (ui : P.underlying ei = some (.int .i64)) (u2 : P.underlying f2.type = some (.int .i64))
    (c0 : P.cellsOf f0.type = 1) (c1 : P.cellsOf f1.type = 1) (ci : P.cellsOf ei = 1) (c2 : P.cellsOf f2.type = 1)
    (h : DataW.trod enc P w base spare held fuel t [v] = some x) : ∃ a c qs, v = .slice a qs.length c ∧ MR 0 w a c qs := by
  rcases open_slice ht h with ⟨hcs, _⟩ | ⟨a, l, c, m, n, D, Pl, hcs, hb, hl, hm, hmm, _, hx⟩
  · simp at hcs
    exact ⟨none, 0, [], by simp [hcs], ⟨fun k hk => absurd hk (by simp), by simp [maxLen], fun _ _ _ => Nat.zero_le _, fun _ => rfl, Nat.le_refl _⟩⟩
  · simp at hcs
    have hlm : l ≤ m := by rw [hmm]; split <;> omega
    have each : ∀ i, i < l → ∃ q : Rw, RowAt 0 w (a.add (i * 3)) q := by
      intro i hi
      obtain ⟨cs', h1, h2⟩ := hx i (by omega)
      rw [ce] at h1
      obtain ⟨_, hlen, hcell⟩ := World.cells?_some h1
      obtain ⟨xs, k, hk, hxy, _, hxl, hff⟩ := DataW.trod_struct he h2
      match xs, hxl, cs', hlen with
      | [y0, y1, y2], _, [v0, v1, v2], _ =>
        have g0 := hff 0 f0 rfl
        have g1 := hff 1 f1 rfl
        have g2 := hff 2 f2 rfl
        simp [o0, o1, o2, c0, c1, c2] at g0 g1 g2
        have e0 := hcell 0 (by omega)
        have e1 := hcell 1 (by omega)
        have e2 := hcell 2 (by omega)
        have e0 : w.cell? (a.add (i * 3)) = _ := e0
        have e1 : w.cell? ⟨(a.add (i * 3)).block, (a.add (i * 3)).off + 1, none⟩ = _ := e1
        have e2 : w.cell? ⟨(a.add (i * 3)).block, (a.add (i * 3)).off + 2, none⟩ = _ := e2
        obtain ⟨n0, k0, _, w0⟩ := DataW.trod_int u0 g0
        obtain ⟨aH, cH, zs, k1, hH⟩ := open_mi u1 ui ci g1
        obtain ⟨n2, k2, _, w2⟩ := DataW.trod_int u2 g2
        simp at k0 k2
        subst k0 k1 k2
        exact ⟨⟨n0, zs, n2⟩, ⟨⟨aH, cH, by simpa using e0, by simpa using e1, by simpa using e2, hH⟩, bounds_i64 w0, bounds_i64 w2⟩⟩
    obtain ⟨q, hq⟩ := choose_lt each
    have hll : ((List.range l).map q).length = l := by simp
    refine ⟨some a, c, (List.range l).map q, by rw [hll]; exact hcs, ⟨fun k hk => ⟨a, rfl, ?_⟩, by rw [hll]; omega, fun _ _ _ => Nat.zero_le _, fun h => (by cases h), by rw [hll]; omega⟩⟩
    simp at hk
    simpa using hq k hk

/-- A struct of six, seven fields of one cell each. -/
theorem trod_six {t : TypeId} {f0 f1 f2 f3 f4 f5 : Field} {fuel : Nat} {v0 v1 v2 v3 v4 v5 : Value} {x : DataW H × List MemPlace} (hs : P.underlying t = some (.struct #[f0, f1, f2, f3, f4, f5]))
    (o : f0.offset = 0 ∧ f1.offset = 1 ∧ f2.offset = 2 ∧ f3.offset = 3 ∧ f4.offset = 4 ∧ f5.offset = 5)
    (c : P.cellsOf f0.type = 1 ∧ P.cellsOf f1.type = 1 ∧ P.cellsOf f2.type = 1 ∧ P.cellsOf f3.type = 1 ∧ P.cellsOf f4.type = 1 ∧ P.cellsOf f5.type = 1)
    (h : DataW.trod enc P w base spare held fuel t [v0, v1, v2, v3, v4, v5] = some x) :
    ∃ (n : Nat) (y0 y1 y2 y3 y4 y5 : DataW H × List MemPlace), DataW.trod enc P w base spare held n f0.type [v0] = some y0 ∧ DataW.trod enc P w base spare held n f1.type [v1] = some y1 ∧ DataW.trod enc P w base spare held n f2.type [v2] = some y2 ∧
      DataW.trod enc P w base spare held n f3.type [v3] = some y3 ∧ DataW.trod enc P w base spare held n f4.type [v4] = some y4 ∧ DataW.trod enc P w base spare held n f5.type [v5] = some y5 := by
  obtain ⟨xs, n, _, _, _, hxl, hff⟩ := DataW.trod_struct hs h
  match xs, hxl with
  | [y0, y1, y2, y3, y4, y5], _ =>
    have g0 := hff 0 f0 rfl
    have g1 := hff 1 f1 rfl
    have g2 := hff 2 f2 rfl
    have g3 := hff 3 f3 rfl
    have g4 := hff 4 f4 rfl
    have g5 := hff 5 f5 rfl
    simp [o, c] at g0 g1 g2 g3 g4 g5
    exact ⟨n, y0, y1, y2, y3, y4, y5, g0, g1, g2, g3, g4, g5⟩
theorem trod_seven {t : TypeId} {f0 f1 f2 f3 f4 f5 f6 : Field} {fuel : Nat} {v0 v1 v2 v3 v4 v5 v6 : Value} {x : DataW H × List MemPlace} (hs : P.underlying t = some (.struct #[f0, f1, f2, f3, f4, f5, f6]))
    (o : f0.offset = 0 ∧ f1.offset = 1 ∧ f2.offset = 2 ∧ f3.offset = 3 ∧ f4.offset = 4 ∧ f5.offset = 5 ∧ f6.offset = 6)
    (c : P.cellsOf f0.type = 1 ∧ P.cellsOf f1.type = 1 ∧ P.cellsOf f2.type = 1 ∧ P.cellsOf f3.type = 1 ∧ P.cellsOf f4.type = 1 ∧ P.cellsOf f5.type = 1 ∧ P.cellsOf f6.type = 1)
    (h : DataW.trod enc P w base spare held fuel t [v0, v1, v2, v3, v4, v5, v6] = some x) :
    ∃ (n : Nat) (y0 y1 y2 y3 y4 y5 y6 : DataW H × List MemPlace), DataW.trod enc P w base spare held n f0.type [v0] = some y0 ∧ DataW.trod enc P w base spare held n f1.type [v1] = some y1 ∧ DataW.trod enc P w base spare held n f2.type [v2] = some y2 ∧
      DataW.trod enc P w base spare held n f3.type [v3] = some y3 ∧ DataW.trod enc P w base spare held n f4.type [v4] = some y4 ∧ DataW.trod enc P w base spare held n f5.type [v5] = some y5 ∧ DataW.trod enc P w base spare held n f6.type [v6] = some y6 := by
  obtain ⟨xs, n, _, _, _, hxl, hff⟩ := DataW.trod_struct hs h
  match xs, hxl with
  | [y0, y1, y2, y3, y4, y5, y6], _ =>
    have g0 := hff 0 f0 rfl
    have g1 := hff 1 f1 rfl
    have g2 := hff 2 f2 rfl
    have g3 := hff 3 f3 rfl
    have g4 := hff 4 f4 rfl
    have g5 := hff 5 f5 rfl
    have g6 := hff 6 f6 rfl
    simp [o, c] at g0 g1 g2 g3 g4 g5 g6
    exact ⟨n, y0, y1, y2, y3, y4, y5, y6, g0, g1, g2, g3, g4, g5, g6⟩
theorem okWide_six {r : Reach} {b0 : Nat} {t : TypeId} {fs : Array Field} {v : Value} (hs : P.underlying t = some (.struct fs)) (hC : P.cellsOf t = 6) (hv : Value.okWide P w r b0 t v) : ∃ v0 v1 v2 v3 v4 v5, v = .agg #[v0, v1, v2, v3, v4, v5] := by
  obtain ⟨cs, rfl, hsz⟩ := okWide_struct hs hv
  rw [hC] at hsz
  obtain ⟨l⟩ := cs
  match l, hsz with
  | [v0, v1, v2, v3, v4, v5], _ => exact ⟨v0, v1, v2, v3, v4, v5, rfl⟩
theorem okWide_seven {r : Reach} {b0 : Nat} {t : TypeId} {fs : Array Field} {v : Value} (hs : P.underlying t = some (.struct fs)) (hC : P.cellsOf t = 7) (hv : Value.okWide P w r b0 t v) : ∃ v0 v1 v2 v3 v4 v5 v6, v = .agg #[v0, v1, v2, v3, v4, v5, v6] := by
  obtain ⟨cs, rfl, hsz⟩ := okWide_struct hs hv
  rw [hC] at hsz
  obtain ⟨l⟩ := cs
  match l, hsz with
  | [v0, v1, v2, v3, v4, v5, v6], _ => exact ⟨v0, v1, v2, v3, v4, v5, v6, rfl⟩

end

theorem one_int {n : Int} {v : Value} (h : [v] = [Value.int .i64 n]) (hw : (Lit.int .i64 n).wf = true) : v = .int .i64 n ∧ I64 n := ⟨by simpa using h, bounds_i64 hw⟩

section
variable {H : Type} {enc : TypeId × Value → H} {w : World} {base : Nat} {spare : Nat → Bool} {held : Bool}
set_option maxRecDepth 100000 in
/-- A model that came in. -/
theorem open_model {r : Reach} {b0 : Nat} {v : Value} {d : DataW H} {p : List MemPlace} (hv : Value.okWide Tryz.prog w r b0 25 v) (h : DataW.Trod enc Tryz.prog w base spare held 25 v d p) : ∃ M, MM 0 w v M := by
  obtain ⟨v0, v1, v2, v3, v4, v5, v6, rfl⟩ := okWide_seven (P := Tryz.prog) Tryz.underlying25 (by kernel_rfl) hv
  obtain ⟨fuel, hf⟩ := h
  obtain ⟨n, y0, y1, y2, y3, y4, y5, y6, g0, g1, g2, g3, g4, g5, g6⟩ := trod_seven (P := Tryz.prog) Tryz.underlying25 ⟨rfl, rfl, rfl, rfl, rfl, rfl, rfl⟩ ⟨by kernel_rfl, by kernel_rfl, by kernel_rfl, by kernel_rfl, by kernel_rfl, by kernel_rfl, by kernel_rfl⟩ hf
  obtain ⟨n0, k0, _, w0⟩ := DataW.trod_int Tryz.underlying3 g0
  obtain ⟨n3, k3, _, w3⟩ := DataW.trod_int Tryz.underlying3 g3
  obtain ⟨n4, k4, _, w4⟩ := DataW.trod_int Tryz.underlying3 g4
  obtain ⟨n5, k5, _, w5⟩ := DataW.trod_int Tryz.underlying3 g5
  obtain ⟨rfl, i0⟩ := one_int k0 w0
  obtain ⟨rfl, i3⟩ := one_int k3 w3
  obtain ⟨rfl, i4⟩ := one_int k4 w4
  obtain ⟨rfl, i5⟩ := one_int k5 w5
  obtain ⟨aA, cA, zA, rfl, hA⟩ := open_mi (P := Tryz.prog) Tryz.underlying22 Tryz.underlying3 (by kernel_rfl) g1
  obtain ⟨aQ, cQ, zQ, rfl, hQ⟩ := open_mi (P := Tryz.prog) Tryz.underlying22 Tryz.underlying3 (by kernel_rfl) g2
  obtain ⟨aR, cR, qR, rfl, hR⟩ := open_mr (P := Tryz.prog) Tryz.underlying23 Tryz.underlying29 (by kernel_rfl) rfl rfl rfl Tryz.underlying3 Tryz.underlying22 Tryz.underlying3 Tryz.underlying3 (by kernel_rfl) (by kernel_rfl) (by kernel_rfl) (by kernel_rfl) g6
  exact ⟨⟨n0, zA, zQ, n3, n4, n5, qR⟩, ⟨⟨aA, cA, aQ, cQ, aR, cR, rfl, hA, hQ, hR⟩, i0, i3, i4, i5⟩⟩
set_option maxRecDepth 100000 in
/-- A belief that came in. -/
theorem open_belief {r : Reach} {b0 : Nat} {v : Value} {d : DataW H} {p : List MemPlace} (hv : Value.okWide Tryz.prog w r b0 27 v) (h : DataW.Trod enc Tryz.prog w base spare held 27 v d p) : ∃ b, MB 0 w v b := by
  obtain ⟨v0, v1, v2, v3, v4, v5, rfl⟩ := okWide_six (P := Tryz.prog) Tryz.underlying27 (by kernel_rfl) hv
  obtain ⟨fuel, hf⟩ := h
  obtain ⟨n, y0, y1, y2, y3, y4, y5, g0, g1, g2, g3, g4, g5⟩ := trod_six (P := Tryz.prog) Tryz.underlying27 ⟨rfl, rfl, rfl, rfl, rfl, rfl⟩ ⟨by kernel_rfl, by kernel_rfl, by kernel_rfl, by kernel_rfl, by kernel_rfl, by kernel_rfl⟩ hf
  obtain ⟨n0, k0, _, w0⟩ := DataW.trod_int Tryz.underlying3 g0
  obtain ⟨n4, k4, _, w4⟩ := DataW.trod_int Tryz.underlying3 g4
  obtain ⟨n5, k5, _, w5⟩ := DataW.trod_int Tryz.underlying3 g5
  obtain ⟨b3, k3, _⟩ := DataW.trod_bool Tryz.underlying4 g3
  obtain ⟨rfl, i0⟩ := one_int k0 w0
  obtain ⟨rfl, i4⟩ := one_int k4 w4
  obtain ⟨rfl, i5⟩ := one_int k5 w5
  obtain rfl : v3 = .bool b3 := by simpa using k3
  obtain ⟨aX, cX, zX, rfl, hX⟩ := open_mi (P := Tryz.prog) Tryz.underlying22 Tryz.underlying3 (by kernel_rfl) g1
  obtain ⟨aP, cP, zP, rfl, hP⟩ := open_mi (P := Tryz.prog) Tryz.underlying22 Tryz.underlying3 (by kernel_rfl) g2
  exact ⟨⟨n0, zX, zP, b3, n4, n5⟩, ⟨⟨aX, cX, aP, cP, rfl, hX, hP⟩, i0, i4, i5⟩⟩
end

end Go.Proofs.YtnofoommindocaaGreat.Base
