/- ModelKnown: the walk. -/
import Derived.Test.YtagakcnhhhlolaaL10C
namespace Go.Proofs.Ytagakcnhhhlolaa.Base
open Go.RowKit
set_option linter.unusedVariables false
set_option linter.unusedSimpArgs false

theorem LI.zero {B : Nat} {W : World} {a : Option Addr} {c : Nat} {zs : List Int} (h : LI B W a c zs) : LI 0 W a c zs := h.mono (Nat.zero_le _)
theorem R3.zero {B : Nat} {W : World} {b : Nat} {q0 q1 q2 : Rw} (h : R3 B W b q0 q1 q2) : R3 0 W b q0 q1 q2 := by
  obtain ⟨h0, h1, h2, hb, m0, m1, m2⟩ := h.ex
  exact ⟨⟨h0, h1, h2, hb, m0.zero, m1.zero, m2.zero⟩, Nat.zero_le _, h.r0, h.r1, h.r2⟩
theorem R3.other {B : Nat} {W : World} {b : Nat} {q0 q1 q2 : Rw} (h : R3 B W b q0 q1 q2) {k : Nat} (hne : b ≠ k) (hno : ¬ IntsB W k) (o : Nat) (u : Value) : R3 B (W.setCell ⟨k, o, none⟩ u) b q0 q1 q2 := by
  obtain ⟨h0, h1, h2, hb, m0, m1, m2⟩ := h.ex
  exact ⟨⟨h0, h1, h2, hb.other hne o u, m0.setOther hno o u, m1.setOther hno o u, m2.setOther hno o u⟩, h.lo, h.r0, h.r1, h.r2⟩
def row1' : Rw := ⟨3, [0, 4294967296], 0⟩
def row0' : Rw := ⟨7, [4294967296, 0], 5⟩
theorem R3.set5 {B : Nat} {W : World} {b : Nat} (h : R3 B W b row0 row1 row2) : R3 B (W.setCell ⟨b, 5, none⟩ (.int .i64 0)) b row0 row1' row2 := by
  obtain ⟨h0, h1, h2, hb, m0, m1, m2⟩ := h.ex
  have hno := noInts_of hb (by decide)
  exact ⟨⟨h0, h1, h2, hb.set 5 _, m0.setOther hno _ _, m1.setOther hno _ _, m2.setOther hno _ _⟩, h.lo, h.r0, ⟨i64_lit rfl, i64_lit rfl⟩, h.r2⟩
theorem R3.set0 {B : Nat} {W : World} {b : Nat} (h : R3 B W b row0 row1 row2) : R3 B (W.setCell ⟨b, 0, none⟩ (.int .i64 7)) b row0' row1 row2 := by
  obtain ⟨h0, h1, h2, hb, m0, m1, m2⟩ := h.ex
  have hno := noInts_of hb (by decide)
  exact ⟨⟨h0, h1, h2, hb.set 0 _, m0.setOther hno _ _, m1.setOther hno _ _, m2.setOther hno _ _⟩, h.lo, ⟨i64_lit rfl, i64_lit rfl⟩, h.r1, h.r2⟩
theorem LI.take {B : Nat} {W : World} {a : Option Addr} {c : Nat} {zs : List Int} (h : LI B W a c zs) (n : Nat) (hn : 0 < n) (hl : n ≤ zs.length) : LI B W a c (zs.take n) := by
  have hlen : (zs.take n).length = n := by simp; omega
  refine ⟨⟨fun k hk => ?_, fun z hz => h.mi.rng z (List.mem_of_mem_take hz), by have := h.mi.len; omega, fun x hx _ => h.mi.lo x hx (by omega), h.mi.nn, by have := h.mi.cap; omega⟩, ⟨fun k hk => h.wj.wi.at_ k (by omega), by have := h.wj.wi.len; omega⟩, fun x hx _ => h.wj.ty x hx (by omega)⟩
  obtain ⟨x, hx, hc⟩ := h.mi.cell k (by omega)
  exact ⟨x, hx, by simpa using hc⟩
/-- Three models, as ModelKnown changes them. -/
structure Kn (w0 : World) (A gN gQ1 gA2 gQ2 gA3 gQ3 b1 b2 b3 : Nat) (q1 q0 : Rw) (W : World) : Prop where
  ba : Blk W A #[.int .i64 2, .slice (some ⟨gN, 0, none⟩) 4 4, .slice (some ⟨gQ1, 0, none⟩) 2 2, .int .i64 4294967296, .int .i64 38654705664, .int .i64 1, .slice (some ⟨b1, 0, none⟩) 3 3] 25
  bb : Blk W (A + 1) #[.int .i64 2, .slice (some ⟨gA2, 0, none⟩) 4 4, .slice (some ⟨gQ2, 0, none⟩) 2 2, .int .i64 4294967296, .int .i64 38654705664, .int .i64 1, .slice (some ⟨b2, 0, none⟩) 3 3] 25
  bc : Blk W (A + 1 + 1) #[.int .i64 2, .slice (some ⟨gA3, 0, none⟩) 4 4, .slice (some ⟨gQ3, 0, none⟩) 2 2, .int .i64 4294967296, .int .i64 38654705664, .int .i64 1, .slice (some ⟨b3, 0, none⟩) 3 3] 25
  ln : LI 0 W (some ⟨gN, 0, none⟩) 4 [0, 0, 4294967296, 0]
  lq1 : LI 0 W (some ⟨gQ1, 0, none⟩) 2 [0, 1]
  la2 : LI 0 W (some ⟨gA2, 0, none⟩) 4 [0, 4294967296, 0, 0]
  lq2 : LI 0 W (some ⟨gQ2, 0, none⟩) 2 [0, 1]
  la3 : LI 0 W (some ⟨gA3, 0, none⟩) 4 [0, 4294967296, 0, 0]
  lq3 : LI 0 W (some ⟨gQ3, 0, none⟩) 2 [0, 1]
  r1 : R3 0 W b1 row0 row1 row2
  r2 : R3 0 W b2 row0 q1 row2
  r3 : R3 0 W b3 q0 row1 row2
  bel : Below w0.heap.size w0 W
  lt : w0.heap.size ≤ b1 ∧ b1 < b2 ∧ b2 < b3
theorem Kn.keep {w0 : World} {A gN gQ1 gA2 gQ2 gA3 gQ3 b1 b2 b3 : Nat} {q1 q0 : Rw} {W W' : World} (h : Kn w0 A gN gQ1 gA2 gQ2 gA3 gQ3 b1 b2 b3 q1 q0 W) (hb : Below W.heap.size W W') : Kn w0 A gN gQ1 gA2 gQ2 gA3 gQ3 b1 b2 b3 q1 q0 W' :=
  ⟨h.ba.keep hb, h.bb.keep hb, h.bc.keep hb, h.ln.keep hb, h.lq1.keep hb, h.la2.keep hb, h.lq2.keep hb, h.la3.keep hb, h.lq3.keep hb, h.r1.keep hb, h.r2.keep hb, h.r3.keep hb, more h.bel hb, h.lt⟩
theorem Kn.set2 {w0 : World} {A gN gQ1 gA2 gQ2 gA3 gQ3 b1 b2 b3 : Nat} {q0 : Rw} {W : World} (h : Kn w0 A gN gQ1 gA2 gQ2 gA3 gQ3 b1 b2 b3 row1 q0 W) : Kn w0 A gN gQ1 gA2 gQ2 gA3 gQ3 b1 b2 b3 row1' q0 (W.setCell ⟨b2, 5, none⟩ (.int .i64 0)) := by
  have hl := h.lt
  obtain ⟨_, _, _, hb, _⟩ := h.r2.ex
  have hno := noInts_of hb (by decide)
  exact ⟨h.ba.other (blk_ne h.ba hb (by decide)) _ _, h.bb.other (blk_ne h.bb hb (by decide)) _ _, h.bc.other (blk_ne h.bc hb (by decide)) _ _, h.ln.setOther hno _ _, h.lq1.setOther hno _ _, h.la2.setOther hno _ _, h.lq2.setOther hno _ _, h.la3.setOther hno _ _, h.lq3.setOther hno _ _,
    h.r1.other (by omega) hno _ _, h.r2.set5, h.r3.other (by omega) hno _ _, h.bel.setCell (p := ⟨b2, 5, none⟩) (by simp; omega) _, h.lt⟩
theorem Kn.set3 {w0 : World} {A gN gQ1 gA2 gQ2 gA3 gQ3 b1 b2 b3 : Nat} {q1 : Rw} {W : World} (h : Kn w0 A gN gQ1 gA2 gQ2 gA3 gQ3 b1 b2 b3 q1 row0 W) : Kn w0 A gN gQ1 gA2 gQ2 gA3 gQ3 b1 b2 b3 q1 row0' (W.setCell ⟨b3, 0, none⟩ (.int .i64 7)) := by
  have hl := h.lt
  obtain ⟨_, _, _, hb, _⟩ := h.r3.ex
  have hno := noInts_of hb (by decide)
  exact ⟨h.ba.other (blk_ne h.ba hb (by decide)) _ _, h.bb.other (blk_ne h.bb hb (by decide)) _ _, h.bc.other (blk_ne h.bc hb (by decide)) _ _, h.ln.setOther hno _ _, h.lq1.setOther hno _ _, h.la2.setOther hno _ _, h.lq2.setOther hno _ _, h.la3.setOther hno _ _, h.lq3.setOther hno _ _,
    h.r1.other (by omega) hno _ _, h.r2.other (by omega) hno _ _, h.r3.set0, h.bel.setCell (p := ⟨b3, 0, none⟩) (by simp; omega) _, h.lt⟩
def bShort : Blf := { beliefB 1 with X := [1] }
def bEarly : Blf := { beliefB 1 with t := -1 }
/-- .. and two beliefs. -/
structure Kn2 (w0 : World) (A gN gQ1 gA2 gQ2 gA3 gQ3 b1 b2 b3 X : Nat) (x6 : Addr) (cX : Nat) (aP : Option Addr) (cP : Nat) (aY : Option Addr) (cY : Nat) (aR : Option Addr) (cR : Nat) (W : World) : Prop where
  kn : Kn w0 A gN gQ1 gA2 gQ2 gA3 gQ3 b1 b2 b3 row1' row0' W
  bx : Blk W X #[.int .i64 4, .slice (some x6) 1 cX, .slice aP 4 cP, .bool false, .int .i64 0, .int .i64 0] 27
  by_ : Blk W (X + 1) #[.int .i64 (-1), .slice aY 2 cY, .slice aR 4 cR, .bool false, .int .i64 0, .int .i64 0] 27
  lx : LI 0 W (some x6) cX [1]
  lp : LI 0 W aP cP [3, 1, 1, 3]
  ly : LI 0 W aY cY [1, 2]
  lr : LI 0 W aR cR [3, 1, 1, 3]
theorem Kn2.keep {w0 : World} {A gN gQ1 gA2 gQ2 gA3 gQ3 b1 b2 b3 X : Nat} {x6 : Addr} {cX : Nat} {aP : Option Addr} {cP : Nat} {aY : Option Addr} {cY : Nat} {aR : Option Addr} {cR : Nat} {W W' : World} (h : Kn2 w0 A gN gQ1 gA2 gQ2 gA3 gQ3 b1 b2 b3 X x6 cX aP cP aY cY aR cR W) (hb : Below W.heap.size W W') : Kn2 w0 A gN gQ1 gA2 gQ2 gA3 gQ3 b1 b2 b3 X x6 cX aP cP aY cY aR cR W' :=
  ⟨h.kn.keep hb, h.bx.keep hb, h.by_.keep hb, h.lx.keep hb, h.lp.keep hb, h.ly.keep hb, h.lr.keep hb⟩
theorem Kn2.cells {w0 : World} {A gN gQ1 gA2 gQ2 gA3 gQ3 b1 b2 b3 X : Nat} {x6 : Addr} {cX : Nat} {aP : Option Addr} {cP : Nat} {aY : Option Addr} {cY : Nat} {aR : Option Addr} {cR : Nat} {W : World} (h : Kn2 w0 A gN gQ1 gA2 gQ2 gA3 gQ3 b1 b2 b3 X x6 cX aP cP aY cY aR cR W) : Kn2 w0 A gN gQ1 gA2 gQ2 gA3 gQ3 b1 b2 b3 X x6 cX aP cP aY cY aR cR W ∧ (W.cell? ⟨A, 0, none⟩ = some (.int .i64 2) ∧ W.cell? ⟨A, 1, none⟩ = some (.slice (some ⟨gN, 0, none⟩) 4 4) ∧ W.cell? ⟨A, 2, none⟩ = some (.slice (some ⟨gQ1, 0, none⟩) 2 2) ∧ W.cell? ⟨A, 3, none⟩ = some (.int .i64 4294967296) ∧ W.cell? ⟨A, 4, none⟩ = some (.int .i64 38654705664) ∧ W.cell? ⟨A, 5, none⟩ = some (.int .i64 1) ∧ W.cell? ⟨A, 6, none⟩ = some (.slice (some ⟨b1, 0, none⟩) 3 3)) ∧ (W.cell? ⟨A + 1, 0, none⟩ = some (.int .i64 2) ∧ W.cell? ⟨A + 1, 1, none⟩ = some (.slice (some ⟨gA2, 0, none⟩) 4 4) ∧ W.cell? ⟨A + 1, 2, none⟩ = some (.slice (some ⟨gQ2, 0, none⟩) 2 2) ∧ W.cell? ⟨A + 1, 3, none⟩ = some (.int .i64 4294967296) ∧ W.cell? ⟨A + 1, 4, none⟩ = some (.int .i64 38654705664) ∧ W.cell? ⟨A + 1, 5, none⟩ = some (.int .i64 1) ∧ W.cell? ⟨A + 1, 6, none⟩ = some (.slice (some ⟨b2, 0, none⟩) 3 3)) ∧ (W.cell? ⟨A + 1 + 1, 0, none⟩ = some (.int .i64 2) ∧ W.cell? ⟨A + 1 + 1, 1, none⟩ = some (.slice (some ⟨gA3, 0, none⟩) 4 4) ∧ W.cell? ⟨A + 1 + 1, 2, none⟩ = some (.slice (some ⟨gQ3, 0, none⟩) 2 2) ∧ W.cell? ⟨A + 1 + 1, 3, none⟩ = some (.int .i64 4294967296) ∧ W.cell? ⟨A + 1 + 1, 4, none⟩ = some (.int .i64 38654705664) ∧ W.cell? ⟨A + 1 + 1, 5, none⟩ = some (.int .i64 1) ∧ W.cell? ⟨A + 1 + 1, 6, none⟩ = some (.slice (some ⟨b3, 0, none⟩) 3 3)) ∧ (W.cell? ⟨X, 0, none⟩ = some (.int .i64 4) ∧ W.cell? ⟨X, 1, none⟩ = some (.slice (some x6) 1 cX) ∧ W.cell? ⟨X, 2, none⟩ = some (.slice aP 4 cP) ∧ W.cell? ⟨X, 3, none⟩ = some (.bool false) ∧ W.cell? ⟨X, 4, none⟩ = some (.int .i64 0) ∧ W.cell? ⟨X, 5, none⟩ = some (.int .i64 0)) ∧ (W.cell? ⟨X + 1, 0, none⟩ = some (.int .i64 (-1)) ∧ W.cell? ⟨X + 1, 1, none⟩ = some (.slice aY 2 cY) ∧ W.cell? ⟨X + 1, 2, none⟩ = some (.slice aR 4 cR) ∧ W.cell? ⟨X + 1, 3, none⟩ = some (.bool false) ∧ W.cell? ⟨X + 1, 4, none⟩ = some (.int .i64 0) ∧ W.cell? ⟨X + 1, 5, none⟩ = some (.int .i64 0)) :=
  ⟨h, ⟨h.kn.ba.cell 0, h.kn.ba.cell 1, h.kn.ba.cell 2, h.kn.ba.cell 3, h.kn.ba.cell 4, h.kn.ba.cell 5, h.kn.ba.cell 6⟩, ⟨h.kn.bb.cell 0, h.kn.bb.cell 1, h.kn.bb.cell 2, h.kn.bb.cell 3, h.kn.bb.cell 4, h.kn.bb.cell 5, h.kn.bb.cell 6⟩, ⟨h.kn.bc.cell 0, h.kn.bc.cell 1, h.kn.bc.cell 2, h.kn.bc.cell 3, h.kn.bc.cell 4, h.kn.bc.cell 5, h.kn.bc.cell 6⟩, ⟨h.bx.cell 0, h.bx.cell 1, h.bx.cell 2, h.bx.cell 3, h.bx.cell 4, h.bx.cell 5⟩, ⟨h.by_.cell 0, h.by_.cell 1, h.by_.cell 2, h.by_.cell 3, h.by_.cell 4, h.by_.cell 5⟩⟩
theorem Kn2.sx {w0 : World} {A gN gQ1 gA2 gQ2 gA3 gQ3 b1 b2 b3 X : Nat} {x6 : Addr} {cX : Nat} {aP : Option Addr} {cP : Nat} {aY : Option Addr} {cY : Nat} {aR : Option Addr} {cR : Nat} {W : World} (h : Kn2 w0 A gN gQ1 gA2 gQ2 gA3 gQ3 b1 b2 b3 X x6 cX aP cP aY cY aR cR W) : MB 0 W (.agg #[.int .i64 4, .slice (some x6) 1 cX, .slice aP 4 cP, .bool false, .int .i64 0, .int .i64 0]) bShort := ⟨⟨_, _, _, _, rfl, h.lx.mi, h.lp.mi⟩, i64_lit rfl, i64_lit rfl, i64_lit rfl⟩
theorem Kn2.sy {w0 : World} {A gN gQ1 gA2 gQ2 gA3 gQ3 b1 b2 b3 X : Nat} {x6 : Addr} {cX : Nat} {aP : Option Addr} {cP : Nat} {aY : Option Addr} {cY : Nat} {aR : Option Addr} {cR : Nat} {W : World} (h : Kn2 w0 A gN gQ1 gA2 gQ2 gA3 gQ3 b1 b2 b3 X x6 cX aP cP aY cY aR cR W) : MB 0 W (.agg #[.int .i64 (-1), .slice aY 2 cY, .slice aR 4 cR, .bool false, .int .i64 0, .int .i64 0]) bEarly := ⟨⟨_, _, _, _, rfl, h.ly.mi, h.lr.mi⟩, i64_lit rfl, i64_lit rfl, i64_lit rfl⟩
def Ma : Mdl := { twoM with A := [0, 0, 4294967296, 0] }
def Mb : Mdl := { twoM with rows := [row0, row1', row2] }
def Mc : Mdl := { twoM with rows := [row0', row1, row2] }
theorem Kn.ma {w0 : World} {A gN gQ1 gA2 gQ2 gA3 gQ3 b1 b2 b3 : Nat} {W : World} (h : Kn w0 A gN gQ1 gA2 gQ2 gA3 gQ3 b1 b2 b3 row1' row0' W) : MM 0 W (.agg #[.int .i64 2, .slice (some ⟨gN, 0, none⟩) 4 4, .slice (some ⟨gQ1, 0, none⟩) 2 2, .int .i64 4294967296, .int .i64 38654705664, .int .i64 1, .slice (some ⟨b1, 0, none⟩) 3 3]) Ma := ⟨⟨_, _, _, _, _, _, rfl, h.ln.mi, h.lq1.mi, h.r1.mr⟩, i64_lit rfl, i64_lit rfl, i64_lit rfl, i64_lit rfl⟩
theorem Kn.mb {w0 : World} {A gN gQ1 gA2 gQ2 gA3 gQ3 b1 b2 b3 : Nat} {W : World} (h : Kn w0 A gN gQ1 gA2 gQ2 gA3 gQ3 b1 b2 b3 row1' row0' W) : MM 0 W (.agg #[.int .i64 2, .slice (some ⟨gA2, 0, none⟩) 4 4, .slice (some ⟨gQ2, 0, none⟩) 2 2, .int .i64 4294967296, .int .i64 38654705664, .int .i64 1, .slice (some ⟨b2, 0, none⟩) 3 3]) Mb := ⟨⟨_, _, _, _, _, _, rfl, h.la2.mi, h.lq2.mi, h.r2.mr⟩, i64_lit rfl, i64_lit rfl, i64_lit rfl, i64_lit rfl⟩
theorem Kn.mc {w0 : World} {A gN gQ1 gA2 gQ2 gA3 gQ3 b1 b2 b3 : Nat} {W : World} (h : Kn w0 A gN gQ1 gA2 gQ2 gA3 gQ3 b1 b2 b3 row1' row0' W) : MM 0 W (.agg #[.int .i64 2, .slice (some ⟨gA3, 0, none⟩) 4 4, .slice (some ⟨gQ3, 0, none⟩) 2 2, .int .i64 4294967296, .int .i64 38654705664, .int .i64 1, .slice (some ⟨b3, 0, none⟩) 3 3]) Mc := ⟨⟨_, _, _, _, _, _, rfl, h.la3.mi, h.lq3.mi, h.r3.mr⟩, i64_lit rfl, i64_lit rfl, i64_lit rfl, i64_lit rfl⟩
theorem chk_a : chkV Ma = 2 := by
  have : ¬ okM Ma := fun h => h.a.1 2 ⟨by decide, by decide, .inl (by decide)⟩
  unfold chkV; rw [if_neg this]
theorem chk_b : chkV Mb = 2 := by
  have : ¬ okM Mb := fun h => h.r.1 1 ⟨by decide, .inr (.inr (.inr (by decide)))⟩
  unfold chkV; rw [if_neg this]
theorem chk_c : chkV Mc = 2 := by
  have : ¬ okM Mc := fun h => h.r.1 1 ⟨by decide, .inl (by decide)⟩
  unfold chkV; rw [if_neg this]
theorem fits_short : fitsV twoM bShort = 3 := fitsV_3 ok_two (fun h => absurd h.x (by decide))
theorem fits_early : fitsV twoM bEarly = 4 := fitsV_4 ok_two ⟨by decide, by decide⟩ (fun h => absurd h.t.1 (by decide))

set_option maxHeartbeats 8000000 in
set_option maxRecDepth 100000 in
theorem known_is (w : World) : Calls Try.prog 4 #[] w fun e w' => e = .returned (.bool true) ∧ Below w.heap.size w w' := by
  go_enter Try.func4, Try.ntmps4
  go_wp2_with fail
  refine (two_is _).mono ?_
  rintro e w1 ⟨v1, b1, rfl, h1, hB⟩
  go_wp2_with fail
  obtain ⟨_, _, _, hbk1, -⟩ := h1.rows.ex
  have hlt1 := hbk1.lt
  have hge1 := h1.rows.lo
  clear hbk1
  refine (two_is _).mono ?_
  rintro e w2 ⟨v2, b2, rfl, h2, hK⟩
  replace hB := more hB hK
  replace h1 := h1.keep hK
  clear hK
  go_wp2_with fail
  obtain ⟨_, _, _, hbk2, -⟩ := h2.rows.ex
  have hlt2 := hbk2.lt
  have hge2 := h2.rows.lo
  clear hbk2
  refine (two_is _).mono ?_
  rintro e w3 ⟨v3, b3, rfl, h3, hK⟩
  have hlt : w.heap.size ≤ b1 ∧ b1 < b2 ∧ b2 < b3 := by have := h3.rows.lo; omega
  replace hB := more hB hK
  replace h1 := h1.keep hK
  replace h2 := h2.keep hK
  clear hK
  have r1 := h1.rows
  have r2 := h2.rows
  have r3 := h3.rows
  obtain ⟨gA1, gQ1, rfl, hA1, hQ1⟩ := h1.ex
  obtain ⟨gA2, gQ2, rfl, hA2, hQ2⟩ := h2.ex
  obtain ⟨gA3, gQ3, rfl, hA3, hQ3⟩ := h3.ex
  clear h1 h2 h3
  go_upto_region 3 with fail
  have hsz3 := hB.size
  have ba := (((Blk.new w3 #[Value.int .i64 2, .slice (some ⟨w3.heap.size + 1 + 1 + 1, 0, none⟩) 4 4, .slice (some ⟨gQ1, 0, none⟩) 2 2, .int .i64 4294967296, .int .i64 38654705664, .int .i64 1, .slice (some ⟨b1, 0, none⟩) 3 3] 25).alloc (.cells #[Value.int .i64 2, .slice (some ⟨gA2, 0, none⟩) 4 4, .slice (some ⟨gQ2, 0, none⟩) 2 2, .int .i64 4294967296, .int .i64 38654705664, .int .i64 1, .slice (some ⟨b2, 0, none⟩) 3 3] 25)).alloc (.cells #[Value.int .i64 2, .slice (some ⟨gA3, 0, none⟩) 4 4, .slice (some ⟨gQ3, 0, none⟩) 2 2, .int .i64 4294967296, .int .i64 38654705664, .int .i64 1, .slice (some ⟨b3, 0, none⟩) 3 3] 25)).alloc (.cells #[Value.int .i64 0, .int .i64 0, .int .i64 4294967296, .int .i64 0] 3)
  have bb := ((Blk.new (w3.alloc (.cells #[Value.int .i64 2, .slice (some ⟨w3.heap.size + 1 + 1 + 1, 0, none⟩) 4 4, .slice (some ⟨gQ1, 0, none⟩) 2 2, .int .i64 4294967296, .int .i64 38654705664, .int .i64 1, .slice (some ⟨b1, 0, none⟩) 3 3] 25)) #[Value.int .i64 2, .slice (some ⟨gA2, 0, none⟩) 4 4, .slice (some ⟨gQ2, 0, none⟩) 2 2, .int .i64 4294967296, .int .i64 38654705664, .int .i64 1, .slice (some ⟨b2, 0, none⟩) 3 3] 25).alloc (.cells #[Value.int .i64 2, .slice (some ⟨gA3, 0, none⟩) 4 4, .slice (some ⟨gQ3, 0, none⟩) 2 2, .int .i64 4294967296, .int .i64 38654705664, .int .i64 1, .slice (some ⟨b3, 0, none⟩) 3 3] 25)).alloc (.cells #[Value.int .i64 0, .int .i64 0, .int .i64 4294967296, .int .i64 0] 3)
  have bc := (Blk.new ((w3.alloc (.cells #[Value.int .i64 2, .slice (some ⟨w3.heap.size + 1 + 1 + 1, 0, none⟩) 4 4, .slice (some ⟨gQ1, 0, none⟩) 2 2, .int .i64 4294967296, .int .i64 38654705664, .int .i64 1, .slice (some ⟨b1, 0, none⟩) 3 3] 25)).alloc (.cells #[Value.int .i64 2, .slice (some ⟨gA2, 0, none⟩) 4 4, .slice (some ⟨gQ2, 0, none⟩) 2 2, .int .i64 4294967296, .int .i64 38654705664, .int .i64 1, .slice (some ⟨b2, 0, none⟩) 3 3] 25)) #[Value.int .i64 2, .slice (some ⟨gA3, 0, none⟩) 4 4, .slice (some ⟨gQ3, 0, none⟩) 2 2, .int .i64 4294967296, .int .i64 38654705664, .int .i64 1, .slice (some ⟨b3, 0, none⟩) 3 3] 25).alloc (.cells #[Value.int .i64 0, .int .i64 0, .int .i64 4294967296, .int .i64 0] 3)
  have bi := Blk.new (((w3.alloc (.cells #[Value.int .i64 2, .slice (some ⟨w3.heap.size + 1 + 1 + 1, 0, none⟩) 4 4, .slice (some ⟨gQ1, 0, none⟩) 2 2, .int .i64 4294967296, .int .i64 38654705664, .int .i64 1, .slice (some ⟨b1, 0, none⟩) 3 3] 25)).alloc (.cells #[Value.int .i64 2, .slice (some ⟨gA2, 0, none⟩) 4 4, .slice (some ⟨gQ2, 0, none⟩) 2 2, .int .i64 4294967296, .int .i64 38654705664, .int .i64 1, .slice (some ⟨b2, 0, none⟩) 3 3] 25)).alloc (.cells #[Value.int .i64 2, .slice (some ⟨gA3, 0, none⟩) 4 4, .slice (some ⟨gQ3, 0, none⟩) 2 2, .int .i64 4294967296, .int .i64 38654705664, .int .i64 1, .slice (some ⟨b3, 0, none⟩) 3 3] 25)) #[Value.int .i64 0, .int .i64 0, .int .i64 4294967296, .int .i64 0] 3
  simp only [World.size_alloc] at bb bc bi
  have hK : Below w3.heap.size w3 ((((w3.alloc (.cells #[Value.int .i64 2, .slice (some ⟨w3.heap.size + 1 + 1 + 1, 0, none⟩) 4 4, .slice (some ⟨gQ1, 0, none⟩) 2 2, .int .i64 4294967296, .int .i64 38654705664, .int .i64 1, .slice (some ⟨b1, 0, none⟩) 3 3] 25)).alloc (.cells #[Value.int .i64 2, .slice (some ⟨gA2, 0, none⟩) 4 4, .slice (some ⟨gQ2, 0, none⟩) 2 2, .int .i64 4294967296, .int .i64 38654705664, .int .i64 1, .slice (some ⟨b2, 0, none⟩) 3 3] 25)).alloc (.cells #[Value.int .i64 2, .slice (some ⟨gA3, 0, none⟩) 4 4, .slice (some ⟨gQ3, 0, none⟩) 2 2, .int .i64 4294967296, .int .i64 38654705664, .int .i64 1, .slice (some ⟨b3, 0, none⟩) 3 3] 25)).alloc (.cells #[Value.int .i64 0, .int .i64 0, .int .i64 4294967296, .int .i64 0] 3)) := ((((Below.refl _ _).alloc (Nat.le_refl _) _).alloc (by simp) _).alloc (by simp; omega) _).alloc (by simp; omega) _
  generalize (((w3.alloc (.cells #[Value.int .i64 2, .slice (some ⟨w3.heap.size + 1 + 1 + 1, 0, none⟩) 4 4, .slice (some ⟨gQ1, 0, none⟩) 2 2, .int .i64 4294967296, .int .i64 38654705664, .int .i64 1, .slice (some ⟨b1, 0, none⟩) 3 3] 25)).alloc (.cells #[Value.int .i64 2, .slice (some ⟨gA2, 0, none⟩) 4 4, .slice (some ⟨gQ2, 0, none⟩) 2 2, .int .i64 4294967296, .int .i64 38654705664, .int .i64 1, .slice (some ⟨b2, 0, none⟩) 3 3] 25)).alloc (.cells #[Value.int .i64 2, .slice (some ⟨gA3, 0, none⟩) 4 4, .slice (some ⟨gQ3, 0, none⟩) 2 2, .int .i64 4294967296, .int .i64 38654705664, .int .i64 1, .slice (some ⟨b3, 0, none⟩) 3 3] 25)).alloc (.cells #[Value.int .i64 0, .int .i64 0, .int .i64 4294967296, .int .i64 0] 3) = W4 at *
  have hB4 := more hB hK
  have hS : Kn w w3.heap.size (w3.heap.size + 1 + 1 + 1) gQ1 gA2 gQ2 gA3 gQ3 b1 b2 b3 row1 row0 W4 := ⟨ba, bb, bc, LI.of_blk (zs := [0, 0, 4294967296, 0]) bi (by omega) (all_i64 (by decide)) (by simp), (hQ1.keep hK).zero, (hA2.keep hK).zero, (hQ2.keep hK).zero, (hA3.keep hK).zero, (hQ3.keep hK).zero, (r1.keep hK).zero, (r2.keep hK).zero, (r3.keep hK).zero, hB4, hlt⟩
  clear ba bb bc bi hK hA1 hQ1 hA2 hQ2 hA3 hQ3 r1 r2 r3 hB hB4
  have hS2 := hS.set2
  have hS3 := hS2.set3
  obtain ⟨_, _, _, hb2, -⟩ := hS.r2.ex
  have c5 := hb2.cell 5
  have f5 := hb2.frozen 5
  obtain ⟨_, _, _, hb3, -⟩ := hS2.r3.ex
  have d0 := hb3.cell 0
  have g0 := hb3.frozen 0
  have e6 := hS.bb.cell 6
  have e7 := hS2.bc.cell 6
  simp at c5 d0 e6 e7
  clear hb2 hb3 hS hS2
  go_upto_region 5 with fail
  clear c5 f5 d0 g0 e6 e7
  generalize (W4.setCell ⟨b2, 5, none⟩ (.int .i64 0)).setCell ⟨b3, 0, none⟩ (.int .i64 7) = W5 at *
  go_wp2_with fail
  refine (beliefL_is _ 1 (i64_lit rfl)).mono ?_
  rintro e w6 ⟨v6, rfl, h6, hK⟩
  replace hS3 := hS3.keep hK
  clear hK
  go_wp2_with fail
  refine (beliefL_is _ 1 (i64_lit rfl)).mono ?_
  rintro e w7 ⟨v7, rfl, h7, hK⟩
  replace hS3 := hS3.keep hK
  replace h6 := h6.keep hK
  clear hK
  obtain ⟨aX, cX, aP, cP, rfl, hX, hP⟩ := h6.ex
  obtain ⟨aY, cY, aR, cR, rfl, hY, hR⟩ := h7.ex
  clear h6 h7
  replace hX := hX.zero
  replace hP := hP.zero
  replace hY := hY.zero
  replace hR := hR.zero
  obtain ⟨x6, rfl, _⟩ := hX.mi.cell 0 (by decide)
  have hcX : 2 ≤ cX := hX.mi.cap
  have hcX1 : (1 : Int) ≤ (cX : Int) := by omega
  have hcX2 : 1 ≤ cX := by omega
  simp only [beliefB, List.length_cons, List.length_nil, Nat.zero_add, Nat.reduceAdd]
  go_upto_region 8 with fail
  have hx := (Blk.new w7 #[Value.int .i64 4, .slice (some x6) 1 cX, .slice aP 4 cP, .bool false, .int .i64 0, .int .i64 0] 27).alloc (.cells #[Value.int .i64 (-1), .slice aY 2 cY, .slice aR 4 cR, .bool false, .int .i64 0, .int .i64 0] 27)
  have hy := Blk.new (w7.alloc (.cells #[Value.int .i64 4, .slice (some x6) 1 cX, .slice aP 4 cP, .bool false, .int .i64 0, .int .i64 0] 27)) #[Value.int .i64 (-1), .slice aY 2 cY, .slice aR 4 cR, .bool false, .int .i64 0, .int .i64 0] 27
  rw [World.size_alloc] at hy
  have hK : Below w7.heap.size w7 ((w7.alloc (.cells #[Value.int .i64 4, .slice (some x6) 1 cX, .slice aP 4 cP, .bool false, .int .i64 0, .int .i64 0] 27)).alloc (.cells #[Value.int .i64 (-1), .slice aY 2 cY, .slice aR 4 cR, .bool false, .int .i64 0, .int .i64 0] 27)) := ((Below.refl _ _).alloc (Nat.le_refl _) _).alloc (by simp) _
  generalize (w7.alloc (.cells #[Value.int .i64 4, .slice (some x6) 1 cX, .slice aP 4 cP, .bool false, .int .i64 0, .int .i64 0] 27)).alloc (.cells #[Value.int .i64 (-1), .slice aY 2 cY, .slice aR 4 cR, .bool false, .int .i64 0, .int .i64 0] 27) = W8 at *
  have hS : Kn2 w w3.heap.size (w3.heap.size + 1 + 1 + 1) gQ1 gA2 gQ2 gA3 gQ3 b1 b2 b3 w7.heap.size x6 cX aP cP aY cY aR cR W8 := ⟨hS3.keep hK, hx, hy, (hX.keep hK).take 1 (by decide) (by decide), hP.keep hK, hY.keep hK, hR.keep hK⟩
  clear hS3 hx hy hX hP hY hR hK
  have hS8 := hS.keep (below_drewN W8 1)
  clear hS
  go_region_held3 (fun W => Kn2 w w3.heap.size (w3.heap.size + 1 + 1 + 1) gQ1 gA2 gQ2 gA3 gQ3 b1 b2 b3 w7.heap.size x6 cX aP cP aY cY aR cR W ∧ (W.cell? ⟨w3.heap.size, 0, none⟩ = some (.int .i64 2) ∧ W.cell? ⟨w3.heap.size, 1, none⟩ = some (.slice (some ⟨(w3.heap.size + 1 + 1 + 1), 0, none⟩) 4 4) ∧ W.cell? ⟨w3.heap.size, 2, none⟩ = some (.slice (some ⟨gQ1, 0, none⟩) 2 2) ∧ W.cell? ⟨w3.heap.size, 3, none⟩ = some (.int .i64 4294967296) ∧ W.cell? ⟨w3.heap.size, 4, none⟩ = some (.int .i64 38654705664) ∧ W.cell? ⟨w3.heap.size, 5, none⟩ = some (.int .i64 1) ∧ W.cell? ⟨w3.heap.size, 6, none⟩ = some (.slice (some ⟨b1, 0, none⟩) 3 3)) ∧ (W.cell? ⟨w3.heap.size + 1, 0, none⟩ = some (.int .i64 2) ∧ W.cell? ⟨w3.heap.size + 1, 1, none⟩ = some (.slice (some ⟨gA2, 0, none⟩) 4 4) ∧ W.cell? ⟨w3.heap.size + 1, 2, none⟩ = some (.slice (some ⟨gQ2, 0, none⟩) 2 2) ∧ W.cell? ⟨w3.heap.size + 1, 3, none⟩ = some (.int .i64 4294967296) ∧ W.cell? ⟨w3.heap.size + 1, 4, none⟩ = some (.int .i64 38654705664) ∧ W.cell? ⟨w3.heap.size + 1, 5, none⟩ = some (.int .i64 1) ∧ W.cell? ⟨w3.heap.size + 1, 6, none⟩ = some (.slice (some ⟨b2, 0, none⟩) 3 3)) ∧ (W.cell? ⟨w3.heap.size + 1 + 1, 0, none⟩ = some (.int .i64 2) ∧ W.cell? ⟨w3.heap.size + 1 + 1, 1, none⟩ = some (.slice (some ⟨gA3, 0, none⟩) 4 4) ∧ W.cell? ⟨w3.heap.size + 1 + 1, 2, none⟩ = some (.slice (some ⟨gQ3, 0, none⟩) 2 2) ∧ W.cell? ⟨w3.heap.size + 1 + 1, 3, none⟩ = some (.int .i64 4294967296) ∧ W.cell? ⟨w3.heap.size + 1 + 1, 4, none⟩ = some (.int .i64 38654705664) ∧ W.cell? ⟨w3.heap.size + 1 + 1, 5, none⟩ = some (.int .i64 1) ∧ W.cell? ⟨w3.heap.size + 1 + 1, 6, none⟩ = some (.slice (some ⟨b3, 0, none⟩) 3 3)) ∧ (W.cell? ⟨w7.heap.size, 0, none⟩ = some (.int .i64 4) ∧ W.cell? ⟨w7.heap.size, 1, none⟩ = some (.slice (some x6) 1 cX) ∧ W.cell? ⟨w7.heap.size, 2, none⟩ = some (.slice aP 4 cP) ∧ W.cell? ⟨w7.heap.size, 3, none⟩ = some (.bool false) ∧ W.cell? ⟨w7.heap.size, 4, none⟩ = some (.int .i64 0) ∧ W.cell? ⟨w7.heap.size, 5, none⟩ = some (.int .i64 0)) ∧ (W.cell? ⟨w7.heap.size + 1, 0, none⟩ = some (.int .i64 (-1)) ∧ W.cell? ⟨w7.heap.size + 1, 1, none⟩ = some (.slice aY 2 cY) ∧ W.cell? ⟨w7.heap.size + 1, 2, none⟩ = some (.slice aR 4 cR) ∧ W.cell? ⟨w7.heap.size + 1, 3, none⟩ = some (.bool false) ∧ W.cell? ⟨w7.heap.size + 1, 4, none⟩ = some (.int .i64 0) ∧ W.cell? ⟨w7.heap.size + 1, 5, none⟩ = some (.int .i64 0))) (exact Kn2.cells (by assumption))
    (first
      | (go_at_call 15; refine (awake_is _).mono ?_; rintro e w9 ⟨rfl, hK9⟩; have hS9 := Kn2.keep (by assumption) hK9; clear hK9)
      | (go_at_call 29; refine (two_is _).mono ?_; rintro e w10 ⟨v10, b10, rfl, hT, hK10⟩; have hS10 := Kn2.keep (by assumption) hK10; clear hK10)
      | (go_at_call 24; refine (dim_two_is hT 7 1 (by rw [rows_7]; rfl)).mono ?_; rintro e w11 ⟨rfl, hK11⟩; have hS11 := Kn2.keep (by assumption) hK11; clear hK11)
      | (go_at_call 20; (with_reducible refine (chk_val (Kn.ma (Kn2.kn (by assumption))) (by decide)).mono ?_); rintro e w12 ⟨rfl, hK12⟩; rw [chk_a]; have hS12 := Kn2.keep (by assumption) hK12; clear hK12)
      | (go_at_call 20; (with_reducible refine (chk_val (Kn.mb (Kn2.kn (by assumption))) (by decide)).mono ?_); rintro e w13 ⟨rfl, hK13⟩; rw [chk_b]; have hS13 := Kn2.keep (by assumption) hK13; clear hK13)
      | (go_at_call 20; (with_reducible refine (chk_val (Kn.mc (Kn2.kn (by assumption))) (by decide)).mono ?_); rintro e w14 ⟨rfl, hK14⟩; rw [chk_c]; have hS14 := Kn2.keep (by assumption) hK14; clear hK14)
      | (go_at_call 30; refine (belief_is _ 1 (i64_lit rfl)).mono ?_; rintro e w15 ⟨v15, rfl, hBl, hK15⟩; have hT15 := Two.keep hT hK15; have hS15 := Kn2.keep (by assumption) hK15; clear hK15)
      | (go_at_call 22; (with_reducible refine (fits_val (Two.mm hT15) hBl two_len fits_two0).mono ?_); rintro e w16 ⟨rfl, hK16⟩; have hS16 := Kn2.keep (by assumption) hK16; clear hK16 hT15)
      | (go_at_call 22; (with_reducible refine (fits_val (Two.mm hT) (Kn2.sx (by assumption)) two_len fits_short).mono ?_); rintro e w17 ⟨rfl, hK17⟩; have hS17 := Kn2.keep (by assumption) hK17; clear hK17)
      | (go_at_call 22; (with_reducible refine (fits_val (Two.mm hT) (Kn2.sy (by assumption)) two_len fits_early).mono ?_); rintro e w18 ⟨rfl, hK18⟩; have hS18 := Kn2.keep (by assumption) hK18; clear hK18))
  go_wp2_with fail
  go_ret
  exact ⟨rfl, (Kn2.kn (by assumption)).bel⟩

end Go.Proofs.Ytagakcnhhhlolaa.Base
