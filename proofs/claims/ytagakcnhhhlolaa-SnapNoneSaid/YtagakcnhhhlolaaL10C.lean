/- ModelTells: the walk. -/
import Derived.Test.YtagakcnhhhlolaaL10B
import Derived.Test.YtagakcnhhhlolaaGrow
import Derived.Deep.RegionHeld3
import Derived.Deep.DeepCutAuto
import Derived.Handy
namespace Go.Proofs.Ytagakcnhhhlolaa.Base
open Go.RowKit
set_option linter.unusedVariables false
set_option linter.unusedSimpArgs false

/-- What the boxes of a model and a belief hold. -/
structure Bx (w0 : World) (x y : Nat) (cs ds : Array Value) (W : World) : Prop where
  x : Blk W x cs 25
  y : Blk W y ds 27
  bel : Below w0.heap.size w0 W
theorem Bx.keep {w0 W W' : World} {x y : Nat} {cs ds : Array Value} (h : Bx w0 x y cs ds W) (hb : Below W.heap.size W W') : Bx w0 x y cs ds W' := ⟨h.x.keep hb, h.y.keep hb, more h.bel hb⟩
theorem Bx.alloc {w0 W : World} {x y : Nat} {cs ds : Array Value} (h : Bx w0 x y cs ds W) (o : Obj) : Bx w0 x y cs ds (W.alloc o) := h.keep ((Below.refl _ _).alloc (Nat.le_refl _) _)
theorem Bx.drew {w0 W : World} {x y : Nat} {cs ds : Array Value} (h : Bx w0 x y cs ds W) : Bx w0 x y cs ds W.drew := ⟨h.x, h.y, h.bel.drew⟩
theorem Bx.cells {w0 W : World} {x y : Nat} {m0 m1 m2 m3 m4 m5 m6 n0 n1 n2 n3 n4 n5 : Value} (h : Bx w0 x y #[m0, m1, m2, m3, m4, m5, m6] #[n0, n1, n2, n3, n4, n5] W) : Bx w0 x y #[m0, m1, m2, m3, m4, m5, m6] #[n0, n1, n2, n3, n4, n5] W ∧
    (W.cell? ⟨x, 0, none⟩ = some m0 ∧ W.cell? ⟨x, 1, none⟩ = some m1 ∧ W.cell? ⟨x, 2, none⟩ = some m2 ∧ W.cell? ⟨x, 3, none⟩ = some m3 ∧ W.cell? ⟨x, 4, none⟩ = some m4 ∧ W.cell? ⟨x, 5, none⟩ = some m5 ∧ W.cell? ⟨x, 6, none⟩ = some m6) ∧
    (W.cell? ⟨y, 0, none⟩ = some n0 ∧ W.cell? ⟨y, 1, none⟩ = some n1 ∧ W.cell? ⟨y, 2, none⟩ = some n2 ∧ W.cell? ⟨y, 3, none⟩ = some n3 ∧ W.cell? ⟨y, 4, none⟩ = some n4 ∧ W.cell? ⟨y, 5, none⟩ = some n5) :=
  ⟨h, ⟨h.x.cell 0, h.x.cell 1, h.x.cell 2, h.x.cell 3, h.x.cell 4, h.x.cell 5, h.x.cell 6⟩, ⟨h.y.cell 0, h.y.cell 1, h.y.cell 2, h.y.cell 3, h.y.cell 4, h.y.cell 5⟩⟩
theorem bcell {W w1 : World} (hb : Below W.heap.size W w1) : (∀ b o, b < W.heap.size → w1.cell? ⟨b, o, none⟩ = W.cell? ⟨b, o, none⟩) ∧ (∀ b o, b < W.heap.size → w1.frozen? ⟨b, o, none⟩ = W.frozen? ⟨b, o, none⟩) :=
  ⟨fun b o h => hb.cell (p := ⟨b, o, none⟩) h, fun b o h => hb.frozen (p := ⟨b, o, none⟩) h⟩
/-- What copies, in boxes of their own, are. -/
def Copied (w0 : World) (x y : Nat) (cs ds : Array Value) (M : Mdl) (b : Blf) (s7 s8 : Value) (W : World) : Prop :=
  ∃ p q es fs, s7 = .pointer (some ⟨p, 0, none⟩) ∧ s8 = .pointer (some ⟨q, 0, none⟩) ∧ Bx w0 x y cs ds W ∧ Blk W p es 25 ∧ Blk W q fs 27 ∧ (x < p ∧ y < p ∧ x < q ∧ y < q ∧ w0.heap.size ≤ p ∧ w0.heap.size ≤ q) ∧ OM 0 W (.agg es) M ∧ OB 0 W (.agg fs) b

structure Cps (w0 : World) (x y : Nat) (cs ds : Array Value) (M : Mdl) (b : Blf) (p q : Nat) (es fs : Array Value) (v1 v3 : Value) (W : World) : Prop where
  bx : Bx w0 x y cs ds W
  bp : Blk W p es 25
  bq : Blk W q fs 27
  m : OM 0 W v1 M
  b : OB 0 W v3 b
  lt : x < p ∧ y < p ∧ x < q ∧ y < q ∧ w0.heap.size ≤ p ∧ w0.heap.size ≤ q
theorem Cps.setP {w0 : World} {x y : Nat} {cs ds : Array Value} {M : Mdl} {b : Blf} {p q : Nat} {es fs : Array Value} {v1 v3 : Value} {W : World} (h : Cps w0 x y cs ds M b p q es fs v1 v3 W) (o : Nat) (u : Value) :
    Cps w0 x y cs ds M b p q (es.setIfInBounds o u) fs v1 v3 (W.setCell ⟨p, o, none⟩ u) := by
  obtain ⟨h1, h2, h3, h4, h5, h6⟩ := h
  have hpq := blk_ne h2 h3 (by decide)
  exact ⟨⟨h1.x.other (by omega) o u, h1.y.other (by omega) o u, h1.bel.setCell (p := ⟨p, o, none⟩) (by simp; omega) u⟩, h2.set o u, h3.other (Ne.symm hpq) o u, h4.other h2 (by decide) (by decide) o u, h5.other h2 (by decide) o u, h6⟩
theorem Cps.setQ {w0 : World} {x y : Nat} {cs ds : Array Value} {M : Mdl} {b : Blf} {p q : Nat} {es fs : Array Value} {v1 v3 : Value} {W : World} (h : Cps w0 x y cs ds M b p q es fs v1 v3 W) (o : Nat) (u : Value) :
    Cps w0 x y cs ds M b p q es (fs.setIfInBounds o u) v1 v3 (W.setCell ⟨q, o, none⟩ u) := by
  obtain ⟨h1, h2, h3, h4, h5, h6⟩ := h
  have hpq := blk_ne h2 h3 (by decide)
  exact ⟨⟨h1.x.other (by omega) o u, h1.y.other (by omega) o u, h1.bel.setCell (p := ⟨q, o, none⟩) (by simp; omega) u⟩, h2.other hpq o u, h3.set o u, h4.other h3 (by decide) (by decide) o u, h5.other h3 (by decide) o u, h6⟩

theorem Cps.keep {w0 : World} {x y : Nat} {cs ds : Array Value} {M : Mdl} {b : Blf} {p q : Nat} {es fs : Array Value} {v1 v3 : Value} {W W' : World} (h : Cps w0 x y cs ds M b p q es fs v1 v3 W) (hb : Below W.heap.size W W') : Cps w0 x y cs ds M b p q es fs v1 v3 W' :=
  ⟨h.bx.keep hb, h.bp.keep hb, h.bq.keep hb, h.m.keep hb, h.b.keep hb, h.lt⟩
theorem Cps.drew {w0 : World} {x y : Nat} {cs ds : Array Value} {M : Mdl} {b : Blf} {p q : Nat} {es fs : Array Value} {v1 v3 : Value} {W : World} (h : Cps w0 x y cs ds M b p q es fs v1 v3 W) : Cps w0 x y cs ds M b p q es fs v1 v3 W.drew := h.keep (below_drewN W 1)
/-- The cells of a model's box, of a belief's. -/
def C7 (W : World) (x : Nat) (m0 m1 m2 m3 m4 m5 m6 : Value) : Prop := W.cell? ⟨x, 0, none⟩ = some m0 ∧ W.cell? ⟨x, 1, none⟩ = some m1 ∧ W.cell? ⟨x, 2, none⟩ = some m2 ∧ W.cell? ⟨x, 3, none⟩ = some m3 ∧ W.cell? ⟨x, 4, none⟩ = some m4 ∧ W.cell? ⟨x, 5, none⟩ = some m5 ∧ W.cell? ⟨x, 6, none⟩ = some m6
def C6 (W : World) (x : Nat) (m0 m1 m2 m3 m4 m5 : Value) : Prop := W.cell? ⟨x, 0, none⟩ = some m0 ∧ W.cell? ⟨x, 1, none⟩ = some m1 ∧ W.cell? ⟨x, 2, none⟩ = some m2 ∧ W.cell? ⟨x, 3, none⟩ = some m3 ∧ W.cell? ⟨x, 4, none⟩ = some m4 ∧ W.cell? ⟨x, 5, none⟩ = some m5
theorem Cps.cells {w0 : World} {x y : Nat} {m0 m1 m2 m3 m4 m5 m6 n0 n1 n2 n3 n4 n5 k0 k1 k2 k3 k4 k5 k6 l0 l1 l2 l3 l4 l5 : Value} {M : Mdl} {b : Blf} {p q : Nat} {v1 v3 : Value} {W : World} (h : Cps w0 x y #[m0, m1, m2, m3, m4, m5, m6] #[n0, n1, n2, n3, n4, n5] M b p q #[k0, k1, k2, k3, k4, k5, k6] #[l0, l1, l2, l3, l4, l5] v1 v3 W) :
    Cps w0 x y #[m0, m1, m2, m3, m4, m5, m6] #[n0, n1, n2, n3, n4, n5] M b p q #[k0, k1, k2, k3, k4, k5, k6] #[l0, l1, l2, l3, l4, l5] v1 v3 W ∧
    (W.cell? ⟨x, 0, none⟩ = some m0 ∧ W.cell? ⟨x, 1, none⟩ = some m1 ∧ W.cell? ⟨x, 2, none⟩ = some m2 ∧ W.cell? ⟨x, 3, none⟩ = some m3 ∧ W.cell? ⟨x, 4, none⟩ = some m4 ∧ W.cell? ⟨x, 5, none⟩ = some m5 ∧ W.cell? ⟨x, 6, none⟩ = some m6) ∧
    (W.cell? ⟨y, 0, none⟩ = some n0 ∧ W.cell? ⟨y, 1, none⟩ = some n1 ∧ W.cell? ⟨y, 2, none⟩ = some n2 ∧ W.cell? ⟨y, 3, none⟩ = some n3 ∧ W.cell? ⟨y, 4, none⟩ = some n4 ∧ W.cell? ⟨y, 5, none⟩ = some n5) ∧
    (W.cell? ⟨p, 0, none⟩ = some k0 ∧ W.cell? ⟨p, 1, none⟩ = some k1 ∧ W.cell? ⟨p, 2, none⟩ = some k2 ∧ W.cell? ⟨p, 3, none⟩ = some k3 ∧ W.cell? ⟨p, 4, none⟩ = some k4 ∧ W.cell? ⟨p, 5, none⟩ = some k5 ∧ W.cell? ⟨p, 6, none⟩ = some k6) ∧
    (W.cell? ⟨q, 0, none⟩ = some l0 ∧ W.cell? ⟨q, 1, none⟩ = some l1 ∧ W.cell? ⟨q, 2, none⟩ = some l2 ∧ W.cell? ⟨q, 3, none⟩ = some l3 ∧ W.cell? ⟨q, 4, none⟩ = some l4 ∧ W.cell? ⟨q, 5, none⟩ = some l5) :=
  ⟨h, ⟨h.bx.x.cell 0, h.bx.x.cell 1, h.bx.x.cell 2, h.bx.x.cell 3, h.bx.x.cell 4, h.bx.x.cell 5, h.bx.x.cell 6⟩, ⟨h.bx.y.cell 0, h.bx.y.cell 1, h.bx.y.cell 2, h.bx.y.cell 3, h.bx.y.cell 4, h.bx.y.cell 5⟩, ⟨h.bp.cell 0, h.bp.cell 1, h.bp.cell 2, h.bp.cell 3, h.bp.cell 4, h.bp.cell 5, h.bp.cell 6⟩, ⟨h.bq.cell 0, h.bq.cell 1, h.bq.cell 2, h.bq.cell 3, h.bq.cell 4, h.bq.cell 5⟩⟩

/-- Rows whose lists may be written over. -/
def WR (n : Nat) (W : World) (a : Option Addr) (m : Nat) : Prop := ∀ k, k < m → ∃ x : Addr, a = some x ∧ ∃ aH nH cH, W.cell? ⟨(x.add (k * 3)).block, (x.add (k * 3)).off + 1, none⟩ = some (.slice aH nH cH) ∧ WJ n W aH nH ∧ ¬ IntsB W x.block
theorem OR.wr {B : Nat} {W : World} {a : Option Addr} {n c : Nat} {qs : List Rw} (h : OR B W (.slice a n c) qs) (hn : qs.length = n) : WR B W a n := by
  intro k hk
  obtain ⟨vs, ho, hr⟩ := h.ex
  have hno := row_noInts ho (by decide)
  have hcl := fun g hg => World.ownsRow.cells ho (g := g) hg
  obtain ⟨aH, cH, e0, e1, e2, e3⟩ := (hr k (by omega)).ex
  obtain ⟨hl2, h1 | ⟨g, cap, cur, hv, hB, hh, _⟩⟩ := ho
  · obtain ⟨_, h0⟩ := h1; omega
  · cases hv
    refine ⟨_, rfl, aH, _, cH, ?_, e3.wj, hno g (by simp [Value.ownBlock])⟩
    have := hcl g (by simp [Value.ownBlock]) _ _ e1
    rw [add_next _ _ _ (by omega)]
    exact this
theorem WR.wrote {n B : Nat} {W W' : World} {a : Option Addr} {m : Nat} (h : WR n W a m) (hw : Wrote B W W') : WR n W' a m := by
  intro k hk
  obtain ⟨x, hx, aH, nH, cH, h1, h2, h3⟩ := h k hk
  have hb := hw.other _ h3
  refine ⟨x, hx, aH, nH, cH, ?_, hw.wj h2, ?_⟩
  · exact (World.cell?_of_block (a := ⟨(x.add (k * 3)).block, (x.add (k * 3)).off + 1, none⟩) (show W'.heap[(x.add (k * 3)).block]? = W.heap[(x.add (k * 3)).block]? by rw [add_block]; exact hb)).trans h1
  · rintro ⟨cs, q, hc⟩
    rw [hb] at hc
    exact h3 ⟨cs, q, hc⟩

/-- What the operations that make the copies yield. -/
def FCp (n0 : Nat) (cs ds : Array Value) (M : Mdl) (b : Blf) : Nat → Value → World → Prop
  | 0, v, _ => v = .agg cs
  | 1, v, W => OM 0 W v M
  | 2, v, _ => v = .agg ds
  | 3, v, W => OB 0 W v b
  | 4, v, W => ∃ p, v = .pointer (some ⟨p, 0, none⟩) ∧ n0 ≤ p ∧ Blk W p #[.int .i64 0, .slice none 0 0, .slice none 0 0, .int .i64 0, .int .i64 0, .int .i64 0, .slice none 0 0] 25
  | 5, v, W => ∃ p, v = .pointer (some ⟨p, 0, none⟩) ∧ n0 ≤ p ∧ Blk W p #[.int .i64 0, .slice none 0 0, .slice none 0 0, .bool false, .int .i64 0, .int .i64 0] 27
  | _, _, _ => True
theorem FCp.keep (n0 : Nat) (cs ds : Array Value) (M : Mdl) (b : Blf) (i : Nat) (v : Value) (W W' : World) (h : FCp n0 cs ds M b i v W) (hb : Below W.heap.size W W') : FCp n0 cs ds M b i v W' := by
  match i, h with
  | 0, h => exact h
  | 1, h => exact OM.keep h hb
  | 2, h => exact h
  | 3, h => exact OB.keep h hb
  | 4, h => obtain ⟨p, h1, h2, h3⟩ := h; exact ⟨p, h1, h2, h3.keep hb⟩
  | 5, h => obtain ⟨p, h1, h2, h3⟩ := h; exact ⟨p, h1, h2, h3.keep hb⟩
  | (n + 6), _ => exact trivial

set_option maxHeartbeats 8000000 in
set_option maxRecDepth 100000 in
theorem tells_walk (v0 : Value) (M : Mdl) (v1 : Value) (b : Blf) (sn : Int) (w : World) (hM : MM 0 w v0 M) (hb : MB 0 w v1 b) (hs : (Lit.int .i64 sn).wf = true) :
    Calls Try.prog 3 #[v0, v1, .int .i64 sn] w fun e w' => e = .returned (.bool true) ∧ Below w.heap.size w w' := by
  obtain ⟨aA, cA, aQ, cQ, aR, cR, rfl, hA, hQ, hR⟩ := hM.ex
  obtain ⟨aX, cX, aP, cP, rfl, hX, hP⟩ := hb.ex
  have hS := SFt.start w 0 M b aA cA aQ cQ aR cR aX cX aP cP hX hP
  have hMd : Mod M ∨ ¬ Mod M := Classical.em _
  go_enter Try.func3, Try.ntmps3
  go_wp2_with fail
  generalize (w.alloc (.cells #[Value.int .i64 M.n, .slice aA M.A.length cA, .slice aQ M.Q.length cQ, .int .i64 M.tick, .int .i64 M.gate, .int .i64 M.rmin, .slice aR M.rows.length cR] 25)).alloc (.cells #[Value.int .i64 b.t, .slice aX b.X.length cX, .slice aP b.P.length cP, .bool b.flag, .int .i64 b.pass, .int .i64 b.fail] 27) = W1 at *
  refine (longModel_is (hM.keep hS.bel)).mono ?_
  rintro e w2 ⟨hq, hK⟩
  replace hS := hS.keep hK
  clear hK hMd
  rcases hq with ⟨hno, rfl⟩ | ⟨hmod, rfl⟩
  · clear hno
    go_wp2_with fail
    refine (awake_is _).mono ?_
    rintro e w3 ⟨rfl, hK⟩
    go_wp2_with fail
    go_ret
    exact ⟨rfl, more hS.bel hK⟩
  have hmod' : Mod M := Classical.not_not.1 hmod
  clear hmod
  have y0 := hS.y.cell 0
  have y1 := hS.y.cell 1
  have y2 := hS.y.cell 2
  have y3 := hS.y.cell 3
  have y4 := hS.y.cell 4
  have y5 := hS.y.cell 5
  simp at y0 y1 y2 y3 y4 y5
  go_wp2_with fail
  refine (longBelief_is (hb.keep hS.bel)).mono ?_
  rintro e w3 ⟨rfl, hK⟩
  replace hS := hS.keep hK
  clear hK y0 y1 y2 y3 y4 y5
  by_cases hl : 12 < b.X.length ∨ 40 < b.P.length
  · have hl' : (decide (12 < b.X.length) || decide (40 < b.P.length)) = true := by simpa using hl
    rw [hl']
    clear hl'
    go_wp2_with fail
    refine (awake_is _).mono ?_
    rintro e w4 ⟨rfl, hK⟩
    go_wp2_with fail
    go_ret
    exact ⟨rfl, more hS.bel hK⟩
  have hl' : (decide (12 < b.X.length) || decide (40 < b.P.length)) = false := by simp; omega
  rw [hl']
  clear hl'
  have hMw := hM.keep hS.bel
  have hbw := hb.keep hS.bel
  have hX2 : Bx w w.heap.size (w.heap.size + 1) #[Value.int .i64 M.n, .slice aA M.A.length cA, .slice aQ M.Q.length cQ, .int .i64 M.tick, .int .i64 M.gate, .int .i64 M.rmin, .slice aR M.rows.length cR] #[Value.int .i64 b.t, .slice aX b.X.length cX, .slice aP b.P.length cP, .bool b.flag, .int .i64 b.pass, .int .i64 b.fail] w3 := ⟨hS.x, hS.y, hS.bel⟩
  have HCM := Lib.hid (fun (W : World) (hW : Below w.heap.size w W) => copyModel_om (hM.keep hW) (by have := hmod'.a; omega) (by have := hmod'.q; omega) (by have := hmod'.r; omega) (fun q hq => by have := hmod'.h q hq; omega))
  have HCB := Lib.hid (fun (W : World) (hW : Below w.heap.size w W) => copyBelief_is (hb.keep hW) (by omega) (by omega))
  obtain ⟨lA, hlA⟩ : ∃ n, M.A.length = n := ⟨_, rfl⟩
  obtain ⟨lQ, hlQ⟩ : ∃ n, M.Q.length = n := ⟨_, rfl⟩
  obtain ⟨lR, hlR⟩ : ∃ n, M.rows.length = n := ⟨_, rfl⟩
  obtain ⟨lX, hlX⟩ : ∃ n, b.X.length = n := ⟨_, rfl⟩
  obtain ⟨lP, hlP⟩ : ∃ n, b.P.length = n := ⟨_, rfl⟩
  clear hS hl
  rw [hlA, hlQ, hlR, hlX, hlP] at hX2
  rw [hlA, hlQ, hlR] at HCM hM hMw
  rw [hlX, hlP] at HCB hb hbw
  simp only [hlA, hlQ, hlR, hlX, hlP]
  have HLA := Lib.hid hlA
  have HLQ := Lib.hid hlQ
  have HLR := Lib.hid hlR
  have HLX := Lib.hid hlX
  have HLP := Lib.hid hlP
  clear hlA hlQ hlR hlX hlP
  go_upto_region 3 with fail
  go_cut [7, 8] (fun s7 s8 wx => Copied w w.heap.size (w.heap.size + 1) #[Value.int .i64 M.n, .slice aA lA cA, .slice aQ lQ cQ, .int .i64 M.tick, .int .i64 M.gate, .int .i64 M.rmin, .slice aR lR cR] #[Value.int .i64 b.t, .slice aX lX cX, .slice aP lP cP, .bool b.flag, .int .i64 b.pass, .int .i64 b.fail] M b s7 s8 wx)
  case first =>
    have hX3 := hX2.drew
    refine region_grows 6 (fun i => [20, 21, 22, 23, 7, 8].getD i 0) (FCp (w.heap.size + 2) #[Value.int .i64 M.n, .slice aA lA cA, .slice aQ lQ cQ, .int .i64 M.tick, .int .i64 M.gate, .int .i64 M.rmin, .slice aR lR cR] #[Value.int .i64 b.t, .slice aX lX cX, .slice aP lP cP, .bool b.flag, .int .i64 b.pass, .int .i64 b.fail] M b)
      (Bx w w.heap.size (w.heap.size + 1) #[Value.int .i64 M.n, .slice aA lA cA, .slice aQ lQ cQ, .int .i64 M.tick, .int .i64 M.gate, .int .i64 M.rmin, .slice aR lR cR] #[Value.int .i64 b.t, .slice aX lX cX, .slice aP lP cP, .bool b.flag, .int .i64 b.pass, .int .i64 b.fail])
      (by kernel_rfl) (by kernel_rfl) (by kernel_rfl) (by kernel_rfl) (by kernel_rfl) (by kernel_rfl) (FCp.keep _ _ _ _ _) (fun W W' h hb => h.keep hb) hX3 ?_ ?_
    · intro i hi b' W hSW he hF K hK
      have : i = 0 ∨ i = 1 ∨ i = 2 ∨ i = 3 ∨ i = 4 ∨ i = 5 := by omega
      rcases this with rfl | rfl | rfl | rfl | rfl | rfl
      · refine wpOp_go rfl rfl ?_
        have h3 : b'.tmps[3]?.getD undef = .pointer (some ⟨w.heap.size, 0, none⟩) := he 3 (by kernel_rfl)
        obtain ⟨_, hc1, hc2⟩ := hSW.cells
        have HK := Lib.hid hK
        clear hK he hF
        go_simp
        exact HK.out _ _ rfl (Below.refl _ _)
      · refine wpOp_go rfl rfl ?_
        have h20 : b'.tmps[20]?.getD undef = _ := hF 0 (by kernel_rfl)
        have HK := Lib.hid hK
        clear hK he hF
        go_simp
        refine (HCM.out _ hSW.bel).mono ?_
        rintro e w5 ⟨v5, rfl, hm5, hK5⟩
        exact HK.out _ _ (OM.mono hm5 (Nat.zero_le _)) hK5
      · refine wpOp_go rfl rfl ?_
        have h3 : b'.tmps[4]?.getD undef = .pointer (some ⟨w.heap.size + 1, 0, none⟩) := he 4 (by kernel_rfl)
        obtain ⟨_, hc1, hc2⟩ := hSW.cells
        have HK := Lib.hid hK
        clear hK he hF
        go_simp
        exact HK.out _ _ rfl (Below.refl _ _)
      · refine wpOp_go rfl rfl ?_
        have h22 : b'.tmps[22]?.getD undef = _ := hF 2 (by kernel_rfl)
        have HK := Lib.hid hK
        clear hK he hF
        go_simp
        refine (HCB.out _ hSW.bel).mono ?_
        rintro e w5 ⟨v5, rfl, hm5, hK5⟩
        exact HK.out _ _ (OB.mono hm5 (Nat.zero_le _)) hK5
      · refine wpOp_go rfl rfl ?_
        have HK := Lib.hid hK
        clear hK he hF
        go_simp
        exact HK.out _ _ ⟨_, rfl, by have := hSW.y.lt; omega, Blk.new W _ _⟩ ((Below.refl _ _).alloc (Nat.le_refl _) _)
      · refine wpOp_go rfl rfl ?_
        have HK := Lib.hid hK
        clear hK he hF
        go_simp
        exact HK.out _ _ ⟨_, rfl, by have := hSW.y.lt; omega, Blk.new W _ _⟩ ((Below.refl _ _).alloc (Nat.le_refl _) _)
    · intro v W hv hSW
      obtain ⟨p, h4, hp0, bp⟩ := hv 4 (by decide)
      obtain ⟨q, h5, hq0, bq⟩ := hv 5 (by decide)
      have hm1 : OM 0 W (v 1) M := hv 1 (by decide)
      have hm3 : OB 0 W (v 3) b := hv 3 (by decide)
      clear hv
      simp only [putsL, Act.put, h4, h5]
      generalize v 0 = u0 at *
      generalize v 1 = u1 at *
      generalize v 2 = u2 at *
      generalize v 3 = u3 at *
      clear h4 h5
      simp [List.getD]
      have hpq := blk_ne bp bq (by decide)
      obtain ⟨eA, dA, eQ, dQ, eR, dR, rfl, _⟩ := hm1.ex
      obtain ⟨eX, dX, eP, dP, rfl, _⟩ := hm3.ex
      simp only [HLA.out, HLQ.out, HLR.out, HLX.out, HLP.out] at hm1 hm3 ⊢
      have hC : Cps w w.heap.size (w.heap.size + 1) _ _ M b p q _ _ _ _ W := ⟨hSW, bp, bq, hm1, hm3, by omega⟩
      have f1 := bp.frozen
      have r0 := bp.cell 0
      have r1 := bp.cell 1
      have r2 := bp.cell 2
      have r3 := bp.cell 3
      have r4 := bp.cell 4
      have r5 := bp.cell 5
      have r6 := bp.cell 6
      simp at r0 r1 r2 r3 r4 r5 r6
      have hC2 := ((((((hC.setP 0 (.int .i64 M.n)).setP 1 (.slice eA lA dA)).setP 2 (.slice eQ lQ dQ)).setP 3 (.int .i64 M.tick)).setP 4 (.int .i64 M.gate)).setP 5 (.int .i64 M.rmin)).setP 6 (.slice eR lR dR)
      clear hC bp bq hm1 hm3 hSW
      refine wpAny_one (i := 6) (by kernel_rfl) rfl rfl ?_
      intro K hK
      have HK := Lib.hid hK
      clear hK
      go_simp
      refine HK.out _ _ ?_
      clear HK K f1 r0 r1 r2 r3 r4 r5 r6
      generalize ((((((W.setCell ⟨p, 0, none⟩ (.int .i64 M.n)).setCell ⟨p, 1, none⟩ (.slice eA lA dA)).setCell ⟨p, 2, none⟩ (.slice eQ lQ dQ)).setCell ⟨p, 3, none⟩ (.int .i64 M.tick)).setCell ⟨p, 4, none⟩ (.int .i64 M.gate)).setCell ⟨p, 5, none⟩ (.int .i64 M.rmin)).setCell ⟨p, 6, none⟩ (.slice eR lR dR) = W6 at *
      have f1 := hC2.bq.frozen
      have r0 := hC2.bq.cell 0
      have r1 := hC2.bq.cell 1
      have r2 := hC2.bq.cell 2
      have r3 := hC2.bq.cell 3
      have r4 := hC2.bq.cell 4
      have r5 := hC2.bq.cell 5
      simp at r0 r1 r2 r3 r4 r5
      have hC3 := (((((hC2.setQ 0 (.int .i64 b.t)).setQ 1 (.slice (some ⟨eX, 0, none⟩) lX dX)).setQ 2 (.slice (some ⟨eP, 0, none⟩) lP dP)).setQ 3 (.bool b.flag)).setQ 4 (.int .i64 b.pass)).setQ 5 (.int .i64 b.fail)
      clear hC2
      refine wpAny_one (i := 7) (by kernel_rfl) rfl rfl ?_
      intro K hK
      have HK := Lib.hid hK
      clear hK
      go_simp
      refine HK.out _ _ ?_
      clear HK K f1 r0 r1 r2 r3 r4 r5
      generalize (((((W6.setCell ⟨q, 0, none⟩ (.int .i64 b.t)).setCell ⟨q, 1, none⟩ (.slice (some ⟨eX, 0, none⟩) lX dX)).setCell ⟨q, 2, none⟩ (.slice (some ⟨eP, 0, none⟩) lP dP)).setCell ⟨q, 3, none⟩ (.bool b.flag)).setCell ⟨q, 4, none⟩ (.int .i64 b.pass)).setCell ⟨q, 5, none⟩ (.int .i64 b.fail) = W7 at *
      refine wpAny_none (by kernel_rfl) ?_
      go_wp2_with fail
      go_meet
      exact ⟨p, q, _, _, rfl, rfl, hC3.bx, hC3.bp, hC3.bq, hC3.lt, hC3.m, hC3.b⟩
  case rest =>
    obtain ⟨p, q, es, fs, rfl, rfl, hX4, bp, bq, hlt, hmo, hbo⟩ := hcut
    clear hX2 hMw hbw HCM HCB
    obtain ⟨eA, dA, eQ, dQ, eR, dR, hes, _⟩ := hmo.ex
    obtain ⟨eX, dX, eP, dP, hfs, _⟩ := hbo.ex
    cases hes
    cases hfs
    have hC : Cps w w.heap.size (w.heap.size + 1) _ _ M b p q _ _ _ _ wc := ⟨hX4, bp, bq, hmo, hbo, hlt⟩
    simp only [HLA.out, HLQ.out, HLR.out, HLX.out, HLP.out] at hC
    clear hX4 bp bq hmo hbo hA hQ hR hX hP
    have hlM : M.rows.length ≤ 1000 := by have := hmod'.r; omega
    have hhM : ∀ q ∈ M.rows, q.h.length ≤ 100000 := fun q hq => by have := hmod'.h q hq; omega
    obtain ⟨ns, hns⟩ : ∃ n, (rowsS sn M.rows).length = n := ⟨_, rfl⟩
    have hnl : ns ≤ 1000 := by rw [← hns]; exact Nat.le_trans (rowsS_len _ _) hlM
    have HNS := Lib.hid hns
    have HR1 := Lib.hid (fun (W : World) (v : Value) (h : OM 0 W v M) => show Calls Try.prog 18 #[v, .int .i64 sn] W fun e w' => ∃ a c, e = .returned (.slice a ns c) ∧ OR W.heap.size w' (.slice a ns c) (rowsS sn M.rows) ∧ Below W.heap.size W w' from
      (rows_is (h.mm hlM) hlM hhM).mono fun e w' ⟨u, he, hO, hb⟩ => by obtain ⟨a, c, hu, _⟩ := hO.mr (by rw [hns]; exact hnl); rw [hns] at hu; exact ⟨a, c, by rw [he, hu], by rw [← hu]; exact hO, hb⟩)
    have HR2 := Lib.hid (fun (W : World) (hW : Below w.heap.size w W) => show Calls Try.prog 19 #[.agg #[Value.int .i64 M.n, .slice aA lA cA, .slice aQ lQ cQ, .int .i64 M.tick, .int .i64 M.gate, .int .i64 M.rmin, .slice aR lR cR], .int .i64 sn] W fun e w' => ∃ a c, e = .returned (.slice a ns c) ∧ OR W.heap.size w' (.slice a ns c) (rowsS sn M.rows) ∧ Below W.heap.size W w' from
      (rrows_is (hM.keep hW) hlM hhM).mono fun e w' ⟨u, he, hO, hb⟩ => by obtain ⟨a, c, hu, _⟩ := hO.mr (by rw [hns]; exact hnl); rw [hns] at hu; exact ⟨a, c, by rw [he, hu], by rw [← hu]; exact hO, hb⟩)
    clear hns
    go_wp2_with fail
    have hC1 := hC.drew
    have hbel1 := below_drewN wc 1
    obtain ⟨cv, hcv⟩ : ∃ z, chkV M = z := ⟨_, rfl⟩
    obtain ⟨fv, hfv⟩ : ∃ z, fitsV M b = z := ⟨_, rfl⟩
    have HX1 := Lib.hid (fun (W : World) (v : Value) (h : OM 0 W v M) => show Calls Try.prog 20 #[v] W fun e w' => e = .returned (.int .i64 cv) ∧ Below W.heap.size W w' from (chk_val (h.mm hlM) hlM).mono fun e w' ⟨he, hb⟩ => ⟨by rw [he, hcv], hb⟩)
    have HX2 := Lib.hid (fun (W : World) (hW : Below w.heap.size w W) => show Calls Try.prog 21 #[.agg #[Value.int .i64 M.n, .slice aA lA cA, .slice aQ lQ cQ, .int .i64 M.tick, .int .i64 M.gate, .int .i64 M.rmin, .slice aR lR cR]] W fun e w' => e = .returned (.int .i64 cv) ∧ Below W.heap.size W w' from (rcheck_is (hM.keep hW) hlM hhM).mono fun e w' ⟨he, hb⟩ => ⟨by rw [chkV_is he, hcv], hb⟩)
    have HX3 := Lib.hid (fun (W : World) (v u : Value) (h : OM 0 W v M) (h2 : OB 0 W u b) => show Calls Try.prog 22 #[v, u] W fun e w' => e = .returned (.int .i64 fv) ∧ Below W.heap.size W w' from fits_val (h.mm hlM) h2.mb hlM hfv)
    have HX4 := Lib.hid (fun (W : World) (hW : Below w.heap.size w W) => show Calls Try.prog 23 #[.agg #[Value.int .i64 M.n, .slice aA lA cA, .slice aQ lQ cQ, .int .i64 M.tick, .int .i64 M.gate, .int .i64 M.rmin, .slice aR lR cR], .agg #[Value.int .i64 b.t, .slice aX lX cX, .slice aP lP cP, .bool b.flag, .int .i64 b.pass, .int .i64 b.fail]] W fun e w' => e = .returned (.int .i64 fv) ∧ Below W.heap.size W w' from (rfits_is (hM.keep hW) (hb.keep hW) hlM hhM).mono fun e w' ⟨he, hb⟩ => ⟨by rw [he, hfv], hb⟩)
    have HX5 := Lib.hid (fun (W : World) (v : Value) (h : OM 0 W v M) => show Calls Try.prog 24 #[v, .int .i64 sn] W fun e w' => e = .returned (.int .i64 ns) ∧ Below W.heap.size W w' from (dim_is (h.mm hlM) hlM hhM).mono fun e w' ⟨he, hb⟩ => ⟨by rw [he, HNS.out], hb⟩)
    have HX6 := Lib.hid (fun (W : World) (n1 n2 : Nat) (a1 a2 : Option Addr) (c1 c2 : Nat) (h1 : OR n1 W (.slice a1 ns c1) (rowsS sn M.rows)) (h2 : OR n2 W (.slice a2 ns c2) (rowsS sn M.rows)) => show Calls Try.prog 25 #[.slice a1 ns c1, .slice a2 ns c2] W fun e w' => e = .returned (.bool true) ∧ Below W.heap.size W w' from by
      obtain ⟨b1, d1, e1, g1⟩ := h1.mr (by rw [HNS.out]; exact hnl)
      obtain ⟨b2, d2, e2, g2⟩ := h2.mr (by rw [HNS.out]; exact hnl)
      rw [HNS.out] at e1 e2
      cases e1
      cases e2
      have := sameRows_same g1 g2
      rw [HNS.out] at this
      exact this)
    clear hcv hfv
    have HC := Lib.hid hC
    clear hC
    go_region_held3 (fun W => Cps w w.heap.size (w.heap.size + 1) #[Value.int .i64 M.n, .slice aA lA cA, .slice aQ lQ cQ, .int .i64 M.tick, .int .i64 M.gate, .int .i64 M.rmin, .slice aR lR cR] #[Value.int .i64 b.t, .slice aX lX cX, .slice aP lP cP, .bool b.flag, .int .i64 b.pass, .int .i64 b.fail] M b p q #[Value.int .i64 M.n, .slice eA lA dA, .slice eQ lQ dQ, .int .i64 M.tick, .int .i64 M.gate, .int .i64 M.rmin, .slice eR lR dR] #[Value.int .i64 b.t, .slice (some ⟨eX, 0, none⟩) lX dX, .slice (some ⟨eP, 0, none⟩) lP dP, .bool b.flag, .int .i64 b.pass, .int .i64 b.fail] (.agg #[Value.int .i64 M.n, .slice eA lA dA, .slice eQ lQ dQ, .int .i64 M.tick, .int .i64 M.gate, .int .i64 M.rmin, .slice eR lR dR]) (.agg #[Value.int .i64 b.t, .slice (some ⟨eX, 0, none⟩) lX dX, .slice (some ⟨eP, 0, none⟩) lP dP, .bool b.flag, .int .i64 b.pass, .int .i64 b.fail]) W ∧ (W.cell? ⟨w.heap.size, 0, none⟩ = some (.int .i64 M.n) ∧ W.cell? ⟨w.heap.size, 1, none⟩ = some (.slice aA lA cA) ∧ W.cell? ⟨w.heap.size, 2, none⟩ = some (.slice aQ lQ cQ) ∧ W.cell? ⟨w.heap.size, 3, none⟩ = some (.int .i64 M.tick) ∧ W.cell? ⟨w.heap.size, 4, none⟩ = some (.int .i64 M.gate) ∧ W.cell? ⟨w.heap.size, 5, none⟩ = some (.int .i64 M.rmin) ∧ W.cell? ⟨w.heap.size, 6, none⟩ = some (.slice aR lR cR)) ∧ (W.cell? ⟨w.heap.size + 1, 0, none⟩ = some (.int .i64 b.t) ∧ W.cell? ⟨w.heap.size + 1, 1, none⟩ = some (.slice aX lX cX) ∧ W.cell? ⟨w.heap.size + 1, 2, none⟩ = some (.slice aP lP cP) ∧ W.cell? ⟨w.heap.size + 1, 3, none⟩ = some (.bool b.flag) ∧ W.cell? ⟨w.heap.size + 1, 4, none⟩ = some (.int .i64 b.pass) ∧ W.cell? ⟨w.heap.size + 1, 5, none⟩ = some (.int .i64 b.fail)) ∧ (W.cell? ⟨p, 0, none⟩ = some (.int .i64 M.n) ∧ W.cell? ⟨p, 1, none⟩ = some (.slice eA lA dA) ∧ W.cell? ⟨p, 2, none⟩ = some (.slice eQ lQ dQ) ∧ W.cell? ⟨p, 3, none⟩ = some (.int .i64 M.tick) ∧ W.cell? ⟨p, 4, none⟩ = some (.int .i64 M.gate) ∧ W.cell? ⟨p, 5, none⟩ = some (.int .i64 M.rmin) ∧ W.cell? ⟨p, 6, none⟩ = some (.slice eR lR dR)) ∧ (W.cell? ⟨q, 0, none⟩ = some (.int .i64 b.t) ∧ W.cell? ⟨q, 1, none⟩ = some (.slice (some ⟨eX, 0, none⟩) lX dX) ∧ W.cell? ⟨q, 2, none⟩ = some (.slice (some ⟨eP, 0, none⟩) lP dP) ∧ W.cell? ⟨q, 3, none⟩ = some (.bool b.flag) ∧ W.cell? ⟨q, 4, none⟩ = some (.int .i64 b.pass) ∧ W.cell? ⟨q, 5, none⟩ = some (.int .i64 b.fail))) (exact Cps.cells (by assumption))
      (first
        | (go_at_call 18; refine (HR1.out _ _ (Cps.m (by assumption))).mono ?_; rintro e w5 ⟨a5, c5, rfl, hO5, hK5⟩; have hC5 := Cps.keep (by assumption) hK5)
        | (go_at_call 19; refine (HR2.out _ (Bx.bel (Cps.bx (by assumption)))).mono ?_; rintro e w6 ⟨a6, c6, rfl, hO6, hK6⟩; have hC6 := Cps.keep (by assumption) hK6; have hO5b := OR.keep hO5 hK6))
    have hb6 := more hbel1 (more hK5 hK6)
    clear hbel1 hK5 hK6 hO5 HR1 HR2 hC1 hC5
    go_wp2_with fail
    have hC7 := hC6.drew
    have hO7 := hO5b.keep (below_drewN w6 1)
    have hP7 := hO6.keep (below_drewN w6 1)
    have hb7 := more hb6 (below_drewN w6 1)
    clear hC6 hO5b hO6 hb6
    go_region_held3 (fun W => Cps w w.heap.size (w.heap.size + 1) #[Value.int .i64 M.n, .slice aA lA cA, .slice aQ lQ cQ, .int .i64 M.tick, .int .i64 M.gate, .int .i64 M.rmin, .slice aR lR cR] #[Value.int .i64 b.t, .slice aX lX cX, .slice aP lP cP, .bool b.flag, .int .i64 b.pass, .int .i64 b.fail] M b p q #[Value.int .i64 M.n, .slice eA lA dA, .slice eQ lQ dQ, .int .i64 M.tick, .int .i64 M.gate, .int .i64 M.rmin, .slice eR lR dR] #[Value.int .i64 b.t, .slice (some ⟨eX, 0, none⟩) lX dX, .slice (some ⟨eP, 0, none⟩) lP dP, .bool b.flag, .int .i64 b.pass, .int .i64 b.fail] (.agg #[Value.int .i64 M.n, .slice eA lA dA, .slice eQ lQ dQ, .int .i64 M.tick, .int .i64 M.gate, .int .i64 M.rmin, .slice eR lR dR]) (.agg #[Value.int .i64 b.t, .slice (some ⟨eX, 0, none⟩) lX dX, .slice (some ⟨eP, 0, none⟩) lP dP, .bool b.flag, .int .i64 b.pass, .int .i64 b.fail]) W ∧ (W.cell? ⟨w.heap.size, 0, none⟩ = some (.int .i64 M.n) ∧ W.cell? ⟨w.heap.size, 1, none⟩ = some (.slice aA lA cA) ∧ W.cell? ⟨w.heap.size, 2, none⟩ = some (.slice aQ lQ cQ) ∧ W.cell? ⟨w.heap.size, 3, none⟩ = some (.int .i64 M.tick) ∧ W.cell? ⟨w.heap.size, 4, none⟩ = some (.int .i64 M.gate) ∧ W.cell? ⟨w.heap.size, 5, none⟩ = some (.int .i64 M.rmin) ∧ W.cell? ⟨w.heap.size, 6, none⟩ = some (.slice aR lR cR)) ∧ (W.cell? ⟨w.heap.size + 1, 0, none⟩ = some (.int .i64 b.t) ∧ W.cell? ⟨w.heap.size + 1, 1, none⟩ = some (.slice aX lX cX) ∧ W.cell? ⟨w.heap.size + 1, 2, none⟩ = some (.slice aP lP cP) ∧ W.cell? ⟨w.heap.size + 1, 3, none⟩ = some (.bool b.flag) ∧ W.cell? ⟨w.heap.size + 1, 4, none⟩ = some (.int .i64 b.pass) ∧ W.cell? ⟨w.heap.size + 1, 5, none⟩ = some (.int .i64 b.fail)) ∧ (W.cell? ⟨p, 0, none⟩ = some (.int .i64 M.n) ∧ W.cell? ⟨p, 1, none⟩ = some (.slice eA lA dA) ∧ W.cell? ⟨p, 2, none⟩ = some (.slice eQ lQ dQ) ∧ W.cell? ⟨p, 3, none⟩ = some (.int .i64 M.tick) ∧ W.cell? ⟨p, 4, none⟩ = some (.int .i64 M.gate) ∧ W.cell? ⟨p, 5, none⟩ = some (.int .i64 M.rmin) ∧ W.cell? ⟨p, 6, none⟩ = some (.slice eR lR dR)) ∧ (W.cell? ⟨q, 0, none⟩ = some (.int .i64 b.t) ∧ W.cell? ⟨q, 1, none⟩ = some (.slice (some ⟨eX, 0, none⟩) lX dX) ∧ W.cell? ⟨q, 2, none⟩ = some (.slice (some ⟨eP, 0, none⟩) lP dP) ∧ W.cell? ⟨q, 3, none⟩ = some (.bool b.flag) ∧ W.cell? ⟨q, 4, none⟩ = some (.int .i64 b.pass) ∧ W.cell? ⟨q, 5, none⟩ = some (.int .i64 b.fail))) (exact Cps.cells (by assumption))
      (first
        | (go_at_call 20; refine (HX1.out _ _ (Cps.m (by assumption))).mono ?_; rintro e w8 ⟨rfl, hK8⟩; have hC8 := Cps.keep (by assumption) hK8)
        | (go_at_call 21; refine (HX2.out _ (Bx.bel (Cps.bx (by assumption)))).mono ?_; rintro e w9 ⟨rfl, hK9⟩; have hC9 := Cps.keep (by assumption) hK9)
        | (go_at_call 22; refine (HX3.out _ _ _ (Cps.m (by assumption)) (Cps.b (by assumption))).mono ?_; rintro e w10 ⟨rfl, hK10⟩; have hC10 := Cps.keep (by assumption) hK10)
        | (go_at_call 23; refine (HX4.out _ (Bx.bel (Cps.bx (by assumption)))).mono ?_; rintro e w11 ⟨rfl, hK11⟩; have hC11 := Cps.keep (by assumption) hK11)
        | (go_at_call 24; refine (HX5.out _ _ (Cps.m (by assumption))).mono ?_; rintro e w12 ⟨rfl, hK12⟩; have hC12 := Cps.keep (by assumption) hK12; have hb12 := more hb7 (more hK8 (more hK9 (more hK10 (more hK11 hK12)))); have hO12 := hO7.keep (more hK8 (more hK9 (more hK10 (more hK11 hK12)))); have hP12 := hP7.keep (more hK8 (more hK9 (more hK10 (more hK11 hK12)))))
        | (go_at_call 25; refine (HX6.out _ _ _ _ _ _ _ hO12 hP12).mono ?_; rintro e w13 ⟨rfl, hK13⟩; have hC13 := Cps.keep (by assumption) hK13))
    have hWR : WR wc.heap.size w13 a5 ns := (hO12.keep hK13).wr HNS.out
    have hb13 := more hb12 hK13
    clear hK8 hK9 hK10 hK11 hK12 hK13 hC7 hC8 hC9 hC10 hC11 hC12 hC13 hO7 hP7 hb7 hb12 hO12 hP12 HX1 HX2 HX3 HX4 HX5 HX6
    go_wp2_with fail
    go_loopw [12] (fun i wr => ∃ (k : Nat), k ≤ ns ∧ i = .int .i64 k ∧ WR wc.heap.size wr a5 ns ∧ Wrote wc.heap.size w13 wr) (fun i _ => ns - (intOf i).toNat)
    case atStart => exact ⟨0, Nat.zero_le _, rfl, hWR, Wrote.refl _ _⟩
    case round =>
      clear hWR
      obtain ⟨k, hk, rfl, hWR, hWr⟩ := hrel
      by_cases hkl : k < ns
      · have hkl' : (k : Int) < (ns : Int) := by omega
        have hk0 : (0 : Int) ≤ (k : Int) := by omega
        obtain ⟨x, rfl, aH, nH, cH, h1, h2, h3⟩ := hWR k hkl
        have HWR := Lib.hid hWR
        clear hWR
        go_wp2_with fail
        refine (over_is h2).mono ?_
        rintro e w14 ⟨rfl, hW2⟩
        clear h1 h2 h3
        have HW3 := Lib.hid (HWR.out.wrote hW2)
        have hW4 := hWr.trans hW2
        clear hW2 hWr
        go_wp2_with fail
        go_roundw
        case rel => exact ⟨k + 1, by omega, by go_num, HW3.out, hW4⟩
        case measure => simp [intOf]; omega
      · have hge : ¬ (k : Int) < (ns : Int) := by omega
        have hbE := hb13.trans hWr.below
        have hCE := HC.out.keep hbE
        clear hWR hWr hb13 HC
        obtain ⟨_, c1, c2, c3, c4⟩ := hCE.cells
        go_wp2_with fail
        refine (sameModel_same (hCE.m.mm hlM) ((hM.mono (Nat.zero_le _)).keep hCE.bx.bel)).mono ?_
        rintro e w15 ⟨rfl, hK15⟩
        replace hCE := hCE.keep hK15
        clear c1 c2 c3 c4 hK15 hbE
        obtain ⟨_, c1, c2, c3, c4⟩ := hCE.cells
        go_wp2_with fail
        refine (sameBelief_same hCE.b.mb (hb.keep hCE.bx.bel)).mono ?_
        rintro e w16 ⟨rfl, hK16⟩
        replace hCE := hCE.keep hK16
        clear c1 c2 c3 c4 hK16
        go_wp2_with fail
        refine (awake_is _).mono ?_
        rintro e w17 ⟨rfl, hK17⟩
        have hB := more hCE.bx.bel hK17
        clear hCE hK17
        go_wp2_with fail
        go_ret
        exact ⟨rfl, hB⟩

end Go.Proofs.Ytagakcnhhhlolaa.Base
