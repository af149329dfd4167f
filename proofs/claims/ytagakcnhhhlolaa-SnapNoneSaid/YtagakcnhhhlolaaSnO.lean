/- snap: acts that come in. No conditions. -/
import Derived.Test.YtagakcnhhhlolaaSnL
namespace Go.Proofs.Ytagakcnhhhlolaa.Base
open Go.ChangeShapes Go.WideShapes Go.Deep Go.RowKit
set_option linter.unusedVariables false
set_option linter.unusedSimpArgs false

/-- A call. -/
structure Ac where
  kind : Int
  n : Int
  m : Mrk
instance : Inhabited Ac := ⟨⟨0, 0, ⟨⟨0, [], [], false, 0, 0⟩, ⟨false, [], [], 0, 0⟩⟩⟩⟩
/-- The values of a mark's cells, its lists whoever's, in bounds. -/
structure KO (W : World) (cs : List Value) (m : Mrk) : Prop where
  km : KM W cs m
  t : I64 m.b.t
  pass : I64 m.b.pass
  fail : I64 m.b.fail
  s : I64 m.t.s
  nu : I64 m.t.nu
theorem KO.keep {W W' : World} {cs : List Value} {m : Mrk} (h : KO W cs m) (hb : Below W.heap.size W W') : KO W' cs m := ⟨h.km.keep hb, h.t, h.pass, h.fail, h.s, h.nu⟩
/-- At y lies an act. -/
structure AcAt (W : World) (y : Addr) (q : Ac) : Prop where
  ex : ∃ cs, KO W cs q.m ∧ ∀ j u, (Value.int .i64 q.kind :: .int .i64 q.n :: cs)[j]? = some u → W.cell? (y.add j) = some u
  kind : I64 q.kind
  n : I64 q.n
theorem AcAt.keep {W W' : World} {y : Addr} {q : Ac} (h : AcAt W y q) (hb : Below W.heap.size W W') : AcAt W' y q := by
  obtain ⟨cs, h1, h2⟩ := h.ex
  exact ⟨⟨cs, h1.keep hb, fun j u hj => by have := h2 j u hj; exact (hb.cell (World.block_lt_of_cell? W _ this)).trans this⟩, h.kind, h.n⟩
structure MAc (W : World) (a : Option Addr) (c : Nat) (qs : List Ac) : Prop where
  at_ : ∀ k, (h : k < qs.length) → ∃ x : Addr, a = some x ∧ AcAt W (x.add (k * 13)) qs[k]
  len : qs.length ≤ maxLen
  nn : a = none → c = 0
  cap : qs.length ≤ c
theorem MAc.keep {W W' : World} {a : Option Addr} {c : Nat} {qs : List Ac} (h : MAc W a c qs) (hb : Below W.heap.size W W') : MAc W' a c qs :=
  ⟨fun k hk => by obtain ⟨x, hx, hr⟩ := h.at_ k hk; exact ⟨x, hx, hr.keep hb⟩, h.len, h.nn, h.cap⟩

section
variable {H : Type} {enc : TypeId × Value → H} {P : Program} {w : World} {base : Nat} {spare : Nat → Bool} {held : Bool}
theorem trod_five {t : TypeId} {f0 f1 f2 f3 f4 : Field} {fuel : Nat} {v0 v1 v2 v3 v4 : Value} {x : DataW H × List MemPlace} (hs : P.underlying t = some (.struct #[f0, f1, f2, f3, f4]))
    (o : f0.offset = 0 ∧ f1.offset = 1 ∧ f2.offset = 2 ∧ f3.offset = 3 ∧ f4.offset = 4)
    (c : P.cellsOf f0.type = 1 ∧ P.cellsOf f1.type = 1 ∧ P.cellsOf f2.type = 1 ∧ P.cellsOf f3.type = 1 ∧ P.cellsOf f4.type = 1)
    (h : DataW.trod enc P w base spare held fuel t [v0, v1, v2, v3, v4] = some x) :
    ∃ (n : Nat) (y0 y1 y2 y3 y4 : DataW H × List MemPlace), DataW.trod enc P w base spare held n f0.type [v0] = some y0 ∧ DataW.trod enc P w base spare held n f1.type [v1] = some y1 ∧ DataW.trod enc P w base spare held n f2.type [v2] = some y2 ∧
      DataW.trod enc P w base spare held n f3.type [v3] = some y3 ∧ DataW.trod enc P w base spare held n f4.type [v4] = some y4 := by
  obtain ⟨xs, n, _, _, _, hxl, hff⟩ := DataW.trod_struct hs h
  match xs, hxl with
  | [y0, y1, y2, y3, y4], _ =>
    have g0 := hff 0 f0 rfl
    have g1 := hff 1 f1 rfl
    have g2 := hff 2 f2 rfl
    have g3 := hff 3 f3 rfl
    have g4 := hff 4 f4 rfl
    simp [o, c] at g0 g1 g2 g3 g4
    exact ⟨n, y0, y1, y2, y3, y4, g0, g1, g2, g3, g4⟩
end
section
variable {H : Type} {enc : TypeId × Value → H} {w : World} {base : Nat} {spare : Nat → Bool} {held : Bool}
set_option maxRecDepth 100000 in
/-- A belief, a trace: their cells. -/
theorem open_bel6 {fuel : Nat} {v0 v1 v2 v3 v4 v5 : Value} {x : DataW H × List MemPlace} (h : DataW.trod enc Try.prog w base spare held fuel 27 [v0, v1, v2, v3, v4, v5] = some x) :
    ∃ (b : Blf) (aX : Option Addr) (cX : Nat) (aP : Option Addr) (cP : Nat), [v0, v1, v2, v3, v4, v5] = [.int .i64 b.t, .slice aX b.X.length cX, .slice aP b.P.length cP, .bool b.flag, .int .i64 b.pass, .int .i64 b.fail] ∧ MI 0 w aX cX b.X ∧ MI 0 w aP cP b.P ∧ I64 b.t ∧ I64 b.pass ∧ I64 b.fail := by
  obtain ⟨n, y0, y1, y2, y3, y4, y5, g0, g1, g2, g3, g4, g5⟩ := trod_six (P := Try.prog) Try.underlying27 ⟨rfl, rfl, rfl, rfl, rfl, rfl⟩ ⟨by kernel_rfl, by kernel_rfl, by kernel_rfl, by kernel_rfl, by kernel_rfl, by kernel_rfl⟩ h
  obtain ⟨n0, k0, _, w0⟩ := DataW.trod_int Try.underlying3 g0
  obtain ⟨n4, k4, _, w4⟩ := DataW.trod_int Try.underlying3 g4
  obtain ⟨n5, k5, _, w5⟩ := DataW.trod_int Try.underlying3 g5
  obtain ⟨b3, k3, _⟩ := DataW.trod_bool Try.underlying4 g3
  obtain ⟨rfl, i0⟩ := one_int k0 w0
  obtain ⟨rfl, i4⟩ := one_int k4 w4
  obtain ⟨rfl, i5⟩ := one_int k5 w5
  obtain rfl : v3 = .bool b3 := by simpa using k3
  obtain ⟨aX, cX, zX, rfl, hX⟩ := open_mi (P := Try.prog) Try.underlying22 Try.underlying3 (by kernel_rfl) g1
  obtain ⟨aP, cP, zP, rfl, hP⟩ := open_mi (P := Try.prog) Try.underlying22 Try.underlying3 (by kernel_rfl) g2
  exact ⟨⟨n0, zX, zP, b3, n4, n5⟩, aX, cX, aP, cP, rfl, hX, hP, i0, i4, i5⟩
set_option maxRecDepth 100000 in
theorem open_trc5 {fuel : Nat} {v0 v1 v2 v3 v4 : Value} {x : DataW H × List MemPlace} (h : DataW.trod enc Try.prog w base spare held fuel 52 [v0, v1, v2, v3, v4] = some x) :
    ∃ (t : Trc) (aH : Option Addr) (cH : Nat) (aR : Option Addr) (cR : Nat), [v0, v1, v2, v3, v4] = [.bool t.is, .slice aH t.H.length cH, .slice aR t.R.length cR, .int .i64 t.s, .int .i64 t.nu] ∧ MI 0 w aH cH t.H ∧ MI 0 w aR cR t.R ∧ I64 t.s ∧ I64 t.nu := by
  obtain ⟨n, y0, y1, y2, y3, y4, g0, g1, g2, g3, g4⟩ := trod_five (P := Try.prog) Try.underlying52 ⟨rfl, rfl, rfl, rfl, rfl⟩ ⟨by kernel_rfl, by kernel_rfl, by kernel_rfl, by kernel_rfl, by kernel_rfl⟩ h
  obtain ⟨n3, k3, _, w3⟩ := DataW.trod_int Try.underlying3 g3
  obtain ⟨n4, k4, _, w4⟩ := DataW.trod_int Try.underlying3 g4
  obtain ⟨b0, k0, _⟩ := DataW.trod_bool Try.underlying4 g0
  obtain ⟨rfl, i3⟩ := one_int k3 w3
  obtain ⟨rfl, i4⟩ := one_int k4 w4
  obtain rfl : v0 = .bool b0 := by simpa using k0
  obtain ⟨aH, cH, zH, rfl, hH⟩ := open_mi (P := Try.prog) Try.underlying22 Try.underlying3 (by kernel_rfl) g1
  obtain ⟨aR, cR, zR, rfl, hR⟩ := open_mi (P := Try.prog) Try.underlying22 Try.underlying3 (by kernel_rfl) g2
  exact ⟨⟨b0, zH, zR, n3, n4⟩, aH, cH, aR, cR, rfl, hH, hR, i3, i4⟩
set_option maxRecDepth 100000 in
/-- An act's thirteen cells. -/
theorem open_act13 {fuel : Nat} {cs : List Value} (hl : cs.length = 13) {x : DataW H × List MemPlace} (h : DataW.trod enc Try.prog w base spare held fuel 68 cs = some x) :
    ∃ (q : Ac) (ds : List Value), cs = .int .i64 q.kind :: .int .i64 q.n :: ds ∧ KO w ds q.m ∧ I64 q.kind ∧ I64 q.n := by
  match cs, hl with
  | [v0, v1, v2, v3, v4, v5, v6, v7, v8, v9, v10, v11, v12], _ =>
    obtain ⟨xs, n, _, _, _, hxl, hff⟩ := DataW.trod_struct Try.underlying68 h
    match xs, hxl with
    | [y0, y1, y2, y3], _ =>
      have g0 := hff 0 _ rfl
      have g1 := hff 1 _ rfl
      have g2 := hff 2 _ rfl
      have g3 := hff 3 _ rfl
      have c0 : Try.prog.cellsOf 3 = 1 := by kernel_rfl
      have c2 : Try.prog.cellsOf 27 = 6 := by kernel_rfl
      have c3 : Try.prog.cellsOf 52 = 5 := by kernel_rfl
      simp [c0, c2, c3] at g0 g1 g2 g3
      obtain ⟨n0, k0, _, w0⟩ := DataW.trod_int Try.underlying3 g0
      obtain ⟨n1, k1, _, w1⟩ := DataW.trod_int Try.underlying3 g1
      obtain ⟨rfl, i0⟩ := one_int k0 w0
      obtain ⟨rfl, i1⟩ := one_int k1 w1
      obtain ⟨b, aX, cX, aP, cP, e2, hX, hP, j0, j1, j2⟩ := open_bel6 g2
      obtain ⟨t, aH, cH, aR, cR, e3, hH, hR, j3, j4⟩ := open_trc5 g3
      simp at e2 e3
      obtain ⟨rfl, rfl, rfl, rfl, rfl, rfl⟩ := e2
      obtain ⟨rfl, rfl, rfl, rfl, rfl⟩ := e3
      exact ⟨⟨n0, n1, ⟨b, t⟩⟩, _, rfl, ⟨⟨aX, cX, aP, cP, aH, cH, aR, cR, rfl, hX, hP, hH, hR⟩, j0, j1, j2, j3, j4⟩, i0, i1⟩
set_option maxRecDepth 100000 in
/-- Acts that came in. -/
theorem open_acts {fuel : Nat} {v : Value} {x : DataW H × List MemPlace} (h : DataW.trod enc Try.prog w base spare held fuel 62 [v] = some x) : ∃ a c qs, v = .slice a qs.length c ∧ MAc w a c qs := by
  have ce : Try.prog.cellsOf 68 = 13 := by kernel_rfl
  rcases open_slice Try.underlying62 h with ⟨hcs, _⟩ | ⟨a, l, c, m, n, D, Pl, hcs, hb, hl, hm, hmm, _, hx⟩
  · simp at hcs
    exact ⟨none, 0, [], by simp [hcs], ⟨fun k hk => absurd hk (by simp), by simp [maxLen], fun _ => rfl, Nat.le_refl _⟩⟩
  · simp at hcs
    have hlm : l ≤ m := by rw [hmm]; split <;> omega
    have each : ∀ i, i < l → ∃ q : Ac, AcAt w (a.add (i * 13)) q := by
      intro i hi
      obtain ⟨cs', h1, h2⟩ := hx i (by omega)
      rw [ce] at h1
      obtain ⟨_, hlen, hcell⟩ := World.cells?_some h1
      obtain ⟨q, ds, rfl, k1, k2, k3⟩ := open_act13 hlen h2
      refine ⟨q, ⟨⟨ds, k1, fun j u hj => ?_⟩, k2, k3⟩⟩
      have hjl : j < 13 := by rw [← hlen]; exact (List.getElem?_eq_some_iff.1 hj).1
      rw [hcell j (by omega)]
      exact hj
    obtain ⟨q, hq⟩ := choose_lt each
    have hll : ((List.range l).map q).length = l := by simp
    refine ⟨some a, c, (List.range l).map q, by rw [hll]; exact hcs, ⟨fun k hk => ⟨a, rfl, ?_⟩, by rw [hll]; omega, fun h => (by cases h), by rw [hll]; omega⟩⟩
    simp at hk
    simpa using hq k hk
end

end Go.Proofs.Ytagakcnhhhlolaa.Base
