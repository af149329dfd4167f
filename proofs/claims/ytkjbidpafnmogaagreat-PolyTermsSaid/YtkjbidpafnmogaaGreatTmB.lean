/- PolyTerms: the walk. -/
import Derived.Test.YtkjbidpafnmogaaGreatTmM
import Derived.Test.YtkjbidpafnmogaaGreatPolP
namespace Go.Proofs.YtkjbidpafnmogaaGreat.Base
open Go.RowKit Go Go.Shelf Go.Deep Go.ChangeShapes Go.WideShapes
set_option linter.unusedVariables false
set_option linter.unusedSimpArgs false

theorem noInts_of' {W : World} {b : Nat} {cs : Array Value} {t : TypeId} (h : Blk W b cs t) (ht : t ≠ 3) : ¬ IntsB W b := fun ⟨cs', q, hc⟩ => by
  have := (show W.heap[b]? = _ from h).symm.trans hc
  simp at this
  exact ht this.2.1
/-- What the law holds by, in any world of its own. -/
structure TmS (W0 : World) (m : Mt) (a : Option Addr) (k b1 b2 inb g kg n nB : Nat) (c1 c2 : Bool) (W : World) : Prop where
  bel : Below W0.heap.size W0 W
  bx : Blk W W0.heap.size #[.int .i64 m.r, .int .i64 m.c, .slice a n k] 24
  ib : Blk W inb #[.int .i64 m.r, .int .i64 m.c, .slice (some ⟨g, 0, none⟩) n kg] 24
  oi : OI (b2 + 1) W g kg m.v
  up : UP W b1 c1
  ur : UR W b2 c2
  l1 : W0.heap.size < b1
  l2 : b1 < b2
  l3 : b2 < inb
  l4 : inb < nB
  l5 : g < nB
theorem TmS.keep {W0 W W' : World} {m : Mt} {a : Option Addr} {k b1 b2 inb g kg n nB : Nat} {c1 c2 : Bool} (h : TmS W0 m a k b1 b2 inb g kg n nB c1 c2 W) (hb : Below W.heap.size W W') : TmS W0 m a k b1 b2 inb g kg n nB c1 c2 W' :=
  ⟨more h.bel hb, h.bx.keep hb, h.ib.keep hb, h.oi.keep hb, h.up.keep hb, h.ur.keep hb, h.l1, h.l2, h.l3, h.l4, h.l5⟩
theorem TmS.stepP {W0 W W' : World} {m : Mt} {a : Option Addr} {k b1 b2 inb g kg n nB : Nat} {c1 c1' c2 : Bool} (h : TmS W0 m a k b1 b2 inb g kg n nB c1 c2 W) (hb : But b1 W W') (hu : UP W' b1 c1') : TmS W0 m a k b1 b2 inb g kg n nB c1' c2 W' := by
  have h1 := h.l1
  have h2 := h.l2
  have h3 := h.l3
  have h4 := h.oi.lo
  exact ⟨h.bel.trans (hb.below (by omega) h.bel.size), hb.blk h.bx (by omega), hb.blk h.ib (by omega), h.oi.eff0 (but_eff hb) (by omega), hu, h.ur.but hb (by omega), h.l1, h.l2, h.l3, h.l4, h.l5⟩
theorem TmS.stepR {W0 W W' : World} {m : Mt} {a : Option Addr} {k b1 b2 inb g kg n nB : Nat} {c1 c2 c2' : Bool} (h : TmS W0 m a k b1 b2 inb g kg n nB c1 c2 W) (hb : But b2 W W') (hu : UR W' b2 c2') : TmS W0 m a k b1 b2 inb g kg n nB c1 c2' W' := by
  have h1 := h.l1
  have h2 := h.l2
  have h3 := h.l3
  have h4 := h.oi.lo
  exact ⟨h.bel.trans (hb.below (by omega) h.bel.size), hb.blk h.bx (by omega), hb.blk h.ib (by omega), h.oi.eff0 (but_eff hb) (by omega), h.up.but hb (by omega), hu, h.l1, h.l2, h.l3, h.l4, h.l5⟩
theorem TmS.wrote {W0 W W' : World} {m : Mt} {a : Option Addr} {k b1 b2 inb g kg n nB : Nat} {c1 c2 : Bool} (h : TmS W0 m a k b1 b2 inb g kg n nB c1 c2 W) (hw : Wrote nB W W') : TmS W0 m a k b1 b2 inb g kg n nB c1 c2 W' := by
  have h1 := h.l1
  have h2 := h.l2
  have h3 := h.l3
  have h4 := h.l4
  have h5 := h.l5
  obtain ⟨cur, hc, hs, hx⟩ := h.oi.ex
  obtain ⟨m1, u1⟩ := h.up
  obtain ⟨m2, u2⟩ := h.ur
  exact ⟨h.bel.trans ((hw.mono (B' := W0.heap.size) (by omega)).below), hw.blk h.bx (by decide), hw.blk h.ib (by decide), ⟨⟨cur, (hw.old g h5).trans hc, hs, hx⟩, h.oi.rng, h.oi.fit, h.oi.len, h.oi.lo⟩, ⟨m1, hw.blk u1 (by decide)⟩, ⟨m2, hw.blk u2 (by decide)⟩, h.l1, h.l2, h.l3, h.l4, h.l5⟩
theorem TmS.tyP {W0 W : World} {m : Mt} {a : Option Addr} {k b1 b2 inb g kg n nB : Nat} {c1 c2 : Bool} (h : TmS W0 m a k b1 b2 inb g kg n nB c1 c2 W) : ¬ Ty W b1 3 := fun ht => by
  obtain ⟨mm, hm⟩ := h.up
  exact absurd (ht.inj hm.ty) (by decide)
theorem TmS.tyR {W0 W : World} {m : Mt} {a : Option Addr} {k b1 b2 inb g kg n nB : Nat} {c1 c2 : Bool} (h : TmS W0 m a k b1 b2 inb g kg n nB c1 c2 W) : ¬ Ty W b2 3 := fun ht => by
  obtain ⟨mm, hm⟩ := h.ur
  exact absurd (ht.inj hm.ty) (by decide)
theorem OMs.step {b B : Nat} {W W' : World} {v : Value} {ms : List Mt} (h : OMs B W v ms) (k : But b W W') (hb : b < B) (ht : ¬ Ty W b 3) : OMs B W' v ms :=
  h.eff (but_eff k) (fun k hk ht' => by subst hk; exact ht ht') (fun k hk e => by have := (h.own k hk).2; omega)
theorem MO.step {b B : Nat} {W W' : World} {v : Value} {m : Mt} (h : MO B W v m) (k : But b W W') (ht : ¬ Ty W b 3) : MO B W' v m :=
  h.eff (but_eff k) (fun k hk ht' => by subst hk; exact ht ht')
theorem ml_old {W0 W : World} {b : Nat} {a : Option Addr} {k : Nat} {zs : List Int} (h : MI 0 W0 a k zs) (hB : Below W0.heap.size W0 W) (hb : W0.heap.size ≤ b) : ML b W a k zs :=
  ⟨h.keep hB, fun x hx h0 => by
    obtain ⟨y, hy, hc⟩ := h.cell 0 h0
    rw [hx] at hy
    cases hy
    have := World.block_lt_of_cell? W0 _ hc
    rw [add_block] at this
    omega⟩
/-- A list of matrices whose lists may be written over. -/
structure XW (B : Nat) (W : World) (y : Addr) (ms : List Mt) : Prop where
  at_ : ∀ j, (h : j < ms.length) → ∃ a k, W.cell? ⟨(y.add (j * 3)).block, (y.add (j * 3)).off + 2, none⟩ = some (.slice a ms[j].v.length k) ∧ WJ B W a ms[j].v.length
  ty : ¬ IntsB W y.block
theorem XW.wrote {B B' : Nat} {W W' : World} {y : Addr} {ms : List Mt} (h : XW B W y ms) (hw : Wrote B' W W') : XW B W' y ms := by
  refine ⟨fun j hj => ?_, fun hi => ?_⟩
  · obtain ⟨a, k, h1, h2⟩ := h.at_ j hj
    exact ⟨a, k, (World.cell?_of_block (w := W) (by rw [add_block]; exact hw.other _ h.ty)).trans h1, hw.wj h2⟩
  · obtain ⟨cs, q, hc⟩ := hi
    rw [hw.other _ h.ty] at hc
    exact h.ty ⟨cs, q, hc⟩
theorem OMs.xw {B : Nat} {W : World} {v : Value} {ms : List Mt} (h : OMs B W v ms) : ∃ a k, v = .slice a ms.length k ∧ (0 < ms.length → ∃ y, a = some y ∧ XW B W y ms) := by
  obtain ⟨vs, ho, hr⟩ := h.ex
  have hni := row_noInts ho (by decide)
  obtain ⟨hl2, ⟨rfl, h0⟩ | ⟨g, cap, cur, rfl, hB, hh, hn, hm, hs, ht⟩⟩ := ho
  · exact ⟨none, 0, by rw [h0], fun h => absurd h (by omega)⟩
  · refine ⟨some ⟨g, 0, none⟩, cap, rfl, fun _ => ⟨_, rfl, ⟨fun j hj => ?_, hni g (by simp [Value.ownBlock])⟩⟩⟩
    obtain ⟨a, c, e0, e1, e2, e3⟩ := (hr j hj).ex
    have := (World.ownsRow.cells ⟨hl2, .inr ⟨g, cap, cur, rfl, hB, hh, hn, hm, hs, ht⟩⟩ (g := g) (by simp [Value.ownBlock])) _ _ e2
    rw [Addr.add_lit, Nat.zero_add] at this
    exact ⟨a, c, by rw [Addr.add_lit, Nat.zero_add]; exact this, e3.wj⟩
/-- Ahead of the comparison. -/
structure TmR (W0 : World) (m : Mt) (a : Option Addr) (k b1 b2 inb g kg n nB : Nat) (cc : Bool) (vx vy : Value) (tl : List Mt) (fm : Mt) (pb qb ln : Nat) (ap aq : Option Addr) (kp kq : Nat) (W : World) : Prop where
  s : TmS W0 m a k b1 b2 inb g kg n nB cc cc W
  x : OMs nB W vx tl
  y : OMs nB W vy tl
  pb : Blk W pb #[.int .i64 fm.r, .int .i64 fm.c, .slice ap ln kp] 24
  qb : Blk W qb #[.int .i64 fm.r, .int .i64 fm.c, .slice aq ln kq] 24
  pl : LI nB W ap kp fm.v
  ql : LI nB W aq kq fm.v
theorem TmR.keep {W0 W W' : World} {m : Mt} {a : Option Addr} {k b1 b2 inb g kg n nB : Nat} {cc : Bool} {vx vy : Value} {tl : List Mt} {fm : Mt} {pb qb ln : Nat} {ap aq : Option Addr} {kp kq : Nat} (h : TmR W0 m a k b1 b2 inb g kg n nB cc vx vy tl fm pb qb ln ap aq kp kq W) (hb : Below W.heap.size W W') : TmR W0 m a k b1 b2 inb g kg n nB cc vx vy tl fm pb qb ln ap aq kp kq W' :=
  ⟨h.s.keep hb, h.x.keep hb, h.y.keep hb, h.pb.keep hb, h.qb.keep hb, h.pl.keep hb, h.ql.keep hb⟩

set_option maxHeartbeats 16000000 in
set_option maxRecDepth 100000 in
theorem pterms_walk (v : Value) (m : Mt) (n t : Int) (W : World) (hm : MV W v m) (wn : (Lit.int .i64 n).wf = true) (wt : (Lit.int .i64 t).wf = true) :
    Calls Tryz.prog 3 #[v, .int .i64 n, .int .i64 t] W fun e w' => e = .returned (.bool true) ∧ Below W.heap.size W w' := by
  obtain ⟨a, k, rfl, hmi⟩ := hm.ex
  have ht64 := bounds_i64 wt
  have hr64 := hm.r
  have hc64 := hm.c
  clear hm wn wt
  have hlm := hmi.len
  unfold maxLen at hlm
  have HL := Lib.hid hmi
  have hB := upA (upR W) (Obj.cells #[.int .i64 m.r, .int .i64 m.c, .slice a m.v.length k] 24)
  have g0 := Blk.new W #[.int .i64 m.r, .int .i64 m.c, .slice a m.v.length k] 24
  have hCM := fun (w : World) (hB : Below W.heap.size W w) (hl : m.v.length ≤ 100000) => copyMat_is (m := m) (hmi.keep hB) hl
  have hUP := fun (w : World) (a' : Option Addr) (k' : Nat) (h : MI 0 w a' k' m.v) => upper_is (m := m) h
  have hUR := fun (w : World) (a' : Option Addr) (k' : Nat) (h : MI 0 w a' k' m.v) => upperR_is (m := m) h
  have hTP := fun (w : World) (b : Nat) (c : Bool) (hU : UP w b c) (a' : Option Addr) (k' : Nat) (h : ML b w a' k' m.v) => terms_all hU h n
  have hTR := fun (w : World) (b : Nat) (c : Bool) (hU : UR w b c) (a' : Option Addr) (k' : Nat) (h : ML b w a' k' m.v) => termsR_all hU h n
  have hFP := fun (w : World) (b : Nat) (c : Bool) (hU : UP w b c) (a' : Option Addr) (k' : Nat) (h : ML b w a' k' m.v) => flow_all hU h t ht64
  have hFR := fun (w : World) (b : Nat) (c : Bool) (hU : UR w b c) (a' : Option Addr) (k' : Nat) (h : ML b w a' k' m.v) => flowR_all hU h t ht64
  have hSM := fun (w : World) (a1 a2 : Option Addr) (k1 k2 : Nat) (h1 : MI 0 w a1 k1 m.v) (h2 : MI 0 w a2 k2 m.v) => same_mm (m := m) h1 h2
  generalize decide (upM m) = up at hUP hUR
  obtain ⟨ln, hln⟩ : ∃ ln, m.v.length = ln := ⟨_, rfl⟩
  rw [hln] at hlm hB g0 hCM hUP hUR hTP hTR hFP hFR hSM ⊢
  have htln : (tAll m n).1.length ≤ 1000 := by
    unfold tAll
    split
    · rw [termsL_len]; omega
    · simp
  generalize tAll m n = tq at *
  generalize fAll m t = fq at *
  obtain ⟨tl, e1, tc⟩ := tq
  obtain ⟨fm, e2, fc⟩ := fq
  dsimp only at hTP hTR hFP hFR htln
  have HTLN := Lib.hid htln
  clear htln
  have HTP := Lib.hid hTP
  have HTR := Lib.hid hTR
  have HFP := Lib.hid hFP
  have HFR := Lib.hid hFR
  have HUP := Lib.hid hUP
  have HUR := Lib.hid hUR
  have HSM := Lib.hid hSM
  have HCM := Lib.hid hCM
  have HLN := Lib.hid hln
  clear hTP hTR hFP hFR hUP hUR hSM hCM hln hmi
  go_enter Tryz.func3, Tryz.ntmps3
  go_wp2_with fail
  refine (uNew_is _).mono ?_
  rintro e w1 ⟨rfl, hU, hK⟩
  simp only [World.size_alloc] at hU hK ⊢
  have hK' : Below (W.alloc (Obj.cells #[.int .i64 m.r, .int .i64 m.c, .slice a ln k] 24)).heap.size (W.alloc (Obj.cells #[.int .i64 m.r, .int .i64 m.c, .slice a ln k] 24)) w1 := by rw [World.size_alloc]; exact hK
  replace hB := more hB hK'
  replace g0 := g0.keep hK'
  clear hK hK'
  go_wp2_with fail
  refine (uNewR_is _).mono ?_
  rintro e w2 ⟨rfl, hR, hK⟩
  have hl1 := hU.lt
  replace hB := more hB hK
  replace g0 := g0.keep hK
  replace hU := hU.keep hK
  obtain ⟨b1, hb1⟩ : ∃ b1, W.heap.size + 1 = b1 := ⟨_, rfl⟩
  obtain ⟨b2, hb2⟩ : ∃ b2, w1.heap.size = b2 := ⟨_, rfl⟩
  rw [hb1] at hU hl1 ⊢
  rw [hb2] at hR hl1 ⊢
  have l1 : W.heap.size < b1 := by omega
  clear hK hb1 hb2
  have d0 := g0.cell
  by_cases hlen : ln ≤ 160
  · have hlen' : ¬ ((160 : Int) < (ln : Int)) := by omega
    go_wp2_with fail
    refine (HCM.out _ hB (by omega)).mono ?_
    rintro e w3 ⟨g, kg, rfl, hOI, hK⟩
    have hrl := hR.lt
    replace hOI := hOI.mono (show b2 + 1 ≤ w2.heap.size from hrl)
    replace hB := more hB hK
    replace g0 := g0.keep hK
    replace hU := hU.keep hK
    replace hR := hR.keep hK
    have hrl3 := hR.lt
    clear hK d0
    have gm := Blk.new w3 #[.int .i64 0, .int .i64 0, .slice none 0 0] 24
    have hK1 : Below w3.heap.size w3 (w3.alloc (.cells #[.int .i64 0, .int .i64 0, .slice none 0 0] 24)) := upA (upR w3) _
    go_wp2_with ((with_reducible refine at_st (p := 9) (q := 36) rfl ?_); refine ev_store rfl 24 _ _ rfl rfl gm 0 rfl rfl [.int .i64 m.r, .int .i64 m.c, .slice (some ⟨g, 0, none⟩) ln kg] rfl (by kernel_rfl) rfl rfl #[.int .i64 m.r, .int .i64 m.c, .slice (some ⟨g, 0, none⟩) ln kg] rfl ?_; intro w4 g6 ef hz6; have d6 := g6.cell)
    have hgl := hOI.inW
    have hS : TmS W m a k b1 b2 w3.heap.size g kg ln w4.heap.size false false w4 := by
      have hg0 := g0.lt
      obtain ⟨m1, u1⟩ := hU
      obtain ⟨m2, u2⟩ := hR
      refine ⟨ef.below (more hB hK1) (fun k hk => by have := hB.size; omega), ef.blk (g0.keep hK1) (by omega), g6, (hOI.keep hK1).eff0 ef (by omega), ⟨m1, ef.blk (u1.keep hK1) (by omega)⟩, ⟨m2, ef.blk (u2.keep hK1) (by omega)⟩, l1, hl1, hrl3, g6.lt, by have := g6.lt; omega⟩
    obtain ⟨nB, hnB⟩ : ∃ nB, w4.heap.size = nB := ⟨_, rfl⟩
    have hnB4 : nB ≤ w4.heap.size := by omega
    rw [hnB] at hS
    clear gm hK1 ef hz6 g6 hnB hB g0 hU hR hOI hgl hrl hrl3
    generalize w3.heap.size = inb at *
    have hx4 := HTP.out w4 b1 false hS.up _ _ (hS.oi.li.ml hS.up)
    clear HTP
    go_wp2_with fail
    refine hx4.mono ?_
    rintro e w5 ⟨vx, rfl, hX, hU5, hB5⟩
    clear hx4 d6
    replace hX := hX.mono hnB4
    replace hS := hS.stepP hB5 hU5
    have hnB5 := Nat.le_trans hnB4 hB5.size
    clear hU5 hB5 hnB4
    have d0 := hS.bx.cell
    have hx5 := HTR.out w5 b2 false hS.ur _ _ (ml_old HL.out hS.bel (by have := hS.l2; omega))
    clear HTR
    go_wp2_with fail
    refine hx5.mono ?_
    rintro e w6 ⟨vy, rfl, hY, hU6, hB6⟩
    clear hx5 d0
    have hlB : b2 < nB := by have := hS.l3; have := hS.l4; omega
    replace hY := hY.mono hnB5
    replace hX := hX.step hB6 hlB hS.tyR
    replace hS := hS.stepR hB6 hU6
    have hnB6 := Nat.le_trans hnB5 hB6.size
    clear hU6 hB6 hnB5
    have d1 := hS.ib.cell
    have hx6 := HFP.out w6 b1 _ hS.up _ _ (hS.oi.li.ml hS.up)
    clear HFP
    go_wp2_with fail
    refine hx6.mono ?_
    rintro e w7 ⟨vp, rfl, hP, hU7, hB7⟩
    clear hx6 d1
    have hlB1 : b1 < nB := by omega
    replace hP := hP.mono hnB6
    replace hX := hX.step hB7 hlB1 hS.tyP
    replace hY := hY.step hB7 hlB1 hS.tyP
    replace hS := hS.stepP hB7 hU7
    have hnB7 := Nat.le_trans hnB6 hB7.size
    clear hU7 hB7 hnB6
    obtain ⟨ap, kp, rfl, hPl⟩ := hP.ex
    have hf1 := hP.r
    have hf2 := hP.c
    clear hP
    obtain ⟨fl, hfl⟩ : ∃ fl, fm.v.length = fl := ⟨_, rfl⟩
    rw [hfl]
    have gm := Blk.new w7 #[.int .i64 0, .int .i64 0, .slice none 0 0] 24
    have hK1 : Below w7.heap.size w7 (w7.alloc (.cells #[.int .i64 0, .int .i64 0, .slice none 0 0] 24)) := upA (upR w7) _
    go_wp2_with ((with_reducible refine at_st (p := 14) (q := 56) rfl ?_); refine ev_store rfl 24 _ _ rfl rfl gm 0 rfl rfl [.int .i64 fm.r, .int .i64 fm.c, .slice ap fl kp] rfl (by kernel_rfl) rfl rfl #[.int .i64 fm.r, .int .i64 fm.c, .slice ap fl kp] rfl ?_; intro w8 g8 ef hz8; have hK8 : Below w7.heap.size w7 w8 := ef.below hK1 (fun k hk => by omega); have d0 := (hS.keep hK8).bx.cell)
    obtain ⟨pb, hpb⟩ : ∃ pb, w7.heap.size = pb := ⟨_, rfl⟩
    rw [hpb] at g8 ef hnB7 gm ⊢
    replace hX := hX.keep hK8
    replace hY := hY.keep hK8
    replace hS := hS.keep hK8
    replace hPl := hPl.keep hK8
    have hnB8 : nB ≤ w8.heap.size := by have := hK8.size; omega
    clear gm hK1 ef hz8 hK8 hpb
    have hx8 := HFR.out w8 b2 _ hS.ur _ _ (ml_old HL.out hS.bel (by have := hS.l2; omega))
    clear HFR
    refine hx8.mono ?_
    rintro e w9 ⟨vq, rfl, hQ, hU9, hB9⟩
    clear hx8 d0
    replace hQ := hQ.mono hnB8
    replace hX := hX.step hB9 hlB hS.tyR
    replace hY := hY.step hB9 hlB hS.tyR
    have hPl9 : LI nB w9 ap kp fm.v := hPl.eff (but_eff hB9) (fun k hk ht => by subst hk; exact hS.tyR ht)
    have g9 := hB9.blk g8 (by omega)
    replace hS := hS.stepR hB9 hU9
    have hnB9 := Nat.le_trans hnB8 hB9.size
    clear hU9 hB9 hnB8 hPl g8
    obtain ⟨aq, kq, rfl, hQl⟩ := hQ.ex
    clear hQ
    rw [hfl]
    have gm := Blk.new w9 #[.int .i64 0, .int .i64 0, .slice none 0 0] 24
    have hK1 : Below w9.heap.size w9 (w9.alloc (.cells #[.int .i64 0, .int .i64 0, .slice none 0 0] 24)) := upA (upR w9) _
    go_wp2_with ((with_reducible refine at_st (p := 16) (q := 63) rfl ?_); refine ev_store rfl 24 _ _ rfl rfl gm 0 rfl rfl [.int .i64 fm.r, .int .i64 fm.c, .slice aq fl kq] rfl (by kernel_rfl) rfl rfl #[.int .i64 fm.r, .int .i64 fm.c, .slice aq fl kq] rfl ?_; intro w10 g10 ef hz10)
    have hK10 : Below w9.heap.size w9 w10 := ef.below hK1 (fun k hk => by omega)
    obtain ⟨qb, hqb⟩ : ∃ qb, w9.heap.size = qb := ⟨_, rfl⟩
    rw [hqb] at g10 ef hnB9 gm ⊢
    have hT : TmR W m a k b1 b2 inb g kg ln nB (false || tc || fc) vx vy tl fm pb qb fl ap aq kp kq w10 := ⟨hS.keep hK10, hX.keep hK10, hY.keep hK10, g9.keep hK10, g10, hPl9.keep hK10, hQl.keep hK10⟩
    generalize (false || tc || fc) = cc at *
    clear hX hY hS hPl9 hQl gm hK1 ef hz10 hK10 hqb g10 g9 hnB9 hnB7
    have hTd := hT.keep (upD (upR _))
    clear hT
    have HT := Lib.hid hf1
    have HT2 := Lib.hid hf2
    have HFL := Lib.hid hfl
    clear hf1 hf2 hfl hlm
    go_wp2_with fail
    refine region_fp [some 65, some 66, some 67, some 68, some 69, some 70, some 71, some 72, some 73, some 74, some 75, some 76, some 77, some 78, some 79, some 80, some 81, some 82, some 83, some 84, some 85, some 86, some 87, some 88, some 89, some 90, some 91, some 92, some 93, some 94, some 95, some 96, some 97, some 98, some 18] [] [some (vx), some (vy), some (Value.bool true), some (Value.bool true), some (Value.int .i64 e1), some (Value.int .i64 e1), some (Value.bool true), some (Value.bool true), some (Value.bool true), some (Value.agg #[.int .i64 fm.r, .int .i64 fm.c, .slice ap fl kp]), some (Value.agg #[.int .i64 fm.r, .int .i64 fm.c, .slice aq fl kq]), some (Value.bool true), some (Value.bool true), some (Value.bool true), some (Value.int .i64 e2), some (Value.int .i64 e2), some (Value.bool true), some (Value.bool true), some (Value.bool true), some (Value.pointer (some ⟨b1, 0, none⟩)), some (Value.pointer (some ⟨b1, 0, none⟩)), some (Value.pointer (some ⟨b1, 0, none⟩)), some (Value.bool cc), some (Value.pointer (some ⟨b2, 0, none⟩)), some (Value.bool cc), some (Value.bool true), some (Value.bool true), some (Value.bool true), some (Value.agg #[.int .i64 m.r, .int .i64 m.c, .slice (some ⟨g, 0, none⟩) ln kg]), some (Value.bool up), some (Value.agg #[.int .i64 m.r, .int .i64 m.c, .slice a ln k]), some (Value.bool up), some (Value.bool true), some (Value.bool true), some (Value.bool true)]
      (fun _ _ _ => True) (fun W W' => Below W.heap.size W W') (fun _ _ w => TmR W m a k b1 b2 inb g kg ln nB cc vx vy tl fm pb qb fl ap aq kp kq w)
      (by kernel_rfl) (by kernel_rfl) (by kernel_rfl) (by kernel_rfl) (by kernel_rfl) (fun _ => Below.refl _ _) (fun _ _ _ _ h _ => h) (fun _ _ _ _ _ _ h => h) hTd ?_ ?_
    · intro i hi b' L f W9 hSW hL hdep hsh he hsv hsl hFF K hK1 hK2
      replace hi : i < 35 := hi
      have hcs : i = 0 ∨ i = 1 ∨ i = 2 ∨ i = 3 ∨ i = 4 ∨ i = 5 ∨ i = 6 ∨ i = 7 ∨ i = 8 ∨ i = 9 ∨ i = 10 ∨ i = 11 ∨ i = 12 ∨ i = 13 ∨ i = 14 ∨ i = 15 ∨ i = 16 ∨ i = 17 ∨ i = 18 ∨ i = 19 ∨ i = 20 ∨ i = 21 ∨ i = 22 ∨ i = 23 ∨ i = 24 ∨ i = 25 ∨ i = 26 ∨ i = 27 ∨ i = 28 ∨ i = 29 ∨ i = 30 ∨ i = 31 ∨ i = 32 ∨ i = 33 ∨ i = 34 := by omega
      clear hi
      rcases hcs with rfl | rfl | rfl | rfl | rfl | rfl | rfl | rfl | rfl | rfl | rfl | rfl | rfl | rfl | rfl | rfl | rfl | rfl | rfl | rfl | rfl | rfl | rfl | rfl | rfl | rfl | rfl | rfl | rfl | rfl | rfl | rfl | rfl | rfl | rfl
      · refine wpOpS_go rfl rfl ?_
        have t10 : b'.tmps[10]?.getD undef = vx := he 10 (by kernel_rfl)
        have HK := Lib.hid hK1
        clear hK1 hK2 hdep hsh he hsv hsl hFF hL hSW
        go_simp
        exact HK.out rfl _ (fp_mk rfl rfl trivial)
      · refine wpOpS_go rfl rfl ?_
        have t12 : b'.tmps[12]?.getD undef = vy := he 12 (by kernel_rfl)
        have HK := Lib.hid hK1
        clear hK1 hK2 hdep hsh he hsv hsl hFF hL hSW
        go_simp
        exact HK.out rfl _ (fp_mk rfl rfl trivial)
      · refine wpOpS_go rfl rfl ?_
        have t65 : b'.tmps[65]?.getD undef = vx := hsv 0 65 _ (by kernel_rfl) (by kernel_rfl) rfl
        have t66 : b'.tmps[66]?.getD undef = vy := hsv 1 66 _ (by kernel_rfl) (by kernel_rfl) rfl
        replace hSW : TmR W m a k b1 b2 inb g kg ln nB cc vx vy tl fm pb qb fl ap aq kp kq W9 := hSW
        have hA := same09_is hSW.x.msv hSW.y.msv HTLN.out
        have HK := Lib.hid hK2
        clear hK1 hK2 hdep hsh he hsv hsl hFF hL
        go_simp
        refine hA.mono ?_
        rintro e w6 ⟨rfl, hK⟩
        exact HK.out _ _ (fp_mk rfl rfl trivial) hK (TmR.keep hSW hK)
      · refine wpOpS_go rfl rfl ?_
        have t67 : b'.tmps[67]?.getD undef = Value.bool true := hsv 2 67 _ (by kernel_rfl) (by kernel_rfl) rfl
        have HK := Lib.hid hK1
        clear hK1 hK2 hdep hsh he hsv hsl hFF hL hSW
        go_simp
        exact HK.out rfl _ (fp_mk rfl rfl trivial)
      · refine wpOpS_guard (dg := 68) rfl rfl rfl rfl (hsv 3 68 _ (by kernel_rfl) (by kernel_rfl) rfl) ?_
        rw [if_pos rfl]
        have t11 : b'.tmps[11]?.getD undef = Value.int .i64 e1 := he 11 (by kernel_rfl)
        have HK := Lib.hid hK1
        clear hK1 hK2 hdep hsh he hsv hsl hFF hL hSW
        go_simp
        exact HK.out rfl _ (fp_mk rfl rfl trivial)
      · refine wpOpS_guard (dg := 68) rfl rfl rfl rfl (hsv 3 68 _ (by kernel_rfl) (by kernel_rfl) rfl) ?_
        rw [if_pos rfl]
        have t13 : b'.tmps[13]?.getD undef = Value.int .i64 e1 := he 13 (by kernel_rfl)
        have HK := Lib.hid hK1
        clear hK1 hK2 hdep hsh he hsv hsl hFF hL hSW
        go_simp
        exact HK.out rfl _ (fp_mk rfl rfl trivial)
      · refine wpOpS_guard (dg := 68) rfl rfl rfl rfl (hsv 3 68 _ (by kernel_rfl) (by kernel_rfl) rfl) ?_
        rw [if_pos rfl]
        have t69 : b'.tmps[69]?.getD undef = Value.int .i64 e1 := hsv 4 69 _ (by kernel_rfl) (by kernel_rfl) rfl
        have t70 : b'.tmps[70]?.getD undef = Value.int .i64 e1 := hsv 5 70 _ (by kernel_rfl) (by kernel_rfl) rfl
        have HK := Lib.hid hK1
        clear hK1 hK2 hdep hsh he hsv hsl hFF hL hSW
        go_simp
        exact HK.out rfl _ (fp_mk rfl rfl trivial)
      · refine wpOpS_go rfl rfl ?_
        have t68 : b'.tmps[68]?.getD undef = Value.bool true := hsv 3 68 _ (by kernel_rfl) (by kernel_rfl) rfl
        have t71 : b'.tmps[71]?.getD undef = Value.bool true := hsv 6 71 _ (by kernel_rfl) (by kernel_rfl) rfl
        have HK := Lib.hid hK1
        clear hK1 hK2 hdep hsh he hsv hsl hFF hL hSW
        go_simp
        exact HK.out rfl _ (fp_mk rfl rfl trivial)
      · refine wpOpS_go rfl rfl ?_
        have t72 : b'.tmps[72]?.getD undef = Value.bool true := hsv 7 72 _ (by kernel_rfl) (by kernel_rfl) rfl
        have HK := Lib.hid hK1
        clear hK1 hK2 hdep hsh he hsv hsl hFF hL hSW
        go_simp
        exact HK.out rfl _ (fp_mk rfl rfl trivial)
      · refine wpOpS_guard (dg := 73) rfl rfl rfl rfl (hsv 8 73 _ (by kernel_rfl) (by kernel_rfl) rfl) ?_
        rw [if_pos rfl]
        have t14 : b'.tmps[14]?.getD undef = Value.pointer (some ⟨pb, 0, none⟩) := he 14 (by kernel_rfl)
        replace hSW : TmR W m a k b1 b2 inb g kg ln nB cc vx vy tl fm pb qb fl ap aq kp kq W9 := hSW
        have c0 := hSW.pb.cell
        clear hSW
        have HK := Lib.hid hK1
        clear hK1 hK2 hdep hsh he hsv hsl hFF hL
        go_simp
        exact HK.out rfl _ (fp_mk rfl rfl trivial)
      · refine wpOpS_guard (dg := 73) rfl rfl rfl rfl (hsv 8 73 _ (by kernel_rfl) (by kernel_rfl) rfl) ?_
        rw [if_pos rfl]
        have t16 : b'.tmps[16]?.getD undef = Value.pointer (some ⟨qb, 0, none⟩) := he 16 (by kernel_rfl)
        replace hSW : TmR W m a k b1 b2 inb g kg ln nB cc vx vy tl fm pb qb fl ap aq kp kq W9 := hSW
        have c0 := hSW.qb.cell
        clear hSW
        have HK := Lib.hid hK1
        clear hK1 hK2 hdep hsh he hsv hsl hFF hL
        go_simp
        exact HK.out rfl _ (fp_mk rfl rfl trivial)
      · refine wpOpS_guard (dg := 73) rfl rfl rfl rfl (hsv 8 73 _ (by kernel_rfl) (by kernel_rfl) rfl) ?_
        rw [if_pos rfl]
        have t74 : b'.tmps[74]?.getD undef = Value.agg #[.int .i64 fm.r, .int .i64 fm.c, .slice ap fl kp] := hsv 9 74 _ (by kernel_rfl) (by kernel_rfl) rfl
        have t75 : b'.tmps[75]?.getD undef = Value.agg #[.int .i64 fm.r, .int .i64 fm.c, .slice aq fl kq] := hsv 10 75 _ (by kernel_rfl) (by kernel_rfl) rfl
        replace hSW : TmR W m a k b1 b2 inb g kg ln nB cc vx vy tl fm pb qb fl ap aq kp kq W9 := hSW
        have hA := same_mm (m := fm) (hSW.pl.mi.mono (Nat.zero_le _)) (hSW.ql.mi.mono (Nat.zero_le _))
        rw [HFL.out] at hA
        have HK := Lib.hid hK2
        clear hK1 hK2 hdep hsh he hsv hsl hFF hL
        go_simp
        refine hA.mono ?_
        rintro e w6 ⟨rfl, hK⟩
        exact HK.out _ _ (fp_mk rfl rfl trivial) hK (TmR.keep hSW hK)
      · refine wpOpS_go rfl rfl ?_
        have t73 : b'.tmps[73]?.getD undef = Value.bool true := hsv 8 73 _ (by kernel_rfl) (by kernel_rfl) rfl
        have t76 : b'.tmps[76]?.getD undef = Value.bool true := hsv 11 76 _ (by kernel_rfl) (by kernel_rfl) rfl
        have HK := Lib.hid hK1
        clear hK1 hK2 hdep hsh he hsv hsl hFF hL hSW
        go_simp
        exact HK.out rfl _ (fp_mk rfl rfl trivial)
      · refine wpOpS_go rfl rfl ?_
        have t77 : b'.tmps[77]?.getD undef = Value.bool true := hsv 12 77 _ (by kernel_rfl) (by kernel_rfl) rfl
        have HK := Lib.hid hK1
        clear hK1 hK2 hdep hsh he hsv hsl hFF hL hSW
        go_simp
        exact HK.out rfl _ (fp_mk rfl rfl trivial)
      · refine wpOpS_guard (dg := 78) rfl rfl rfl rfl (hsv 13 78 _ (by kernel_rfl) (by kernel_rfl) rfl) ?_
        rw [if_pos rfl]
        have t15 : b'.tmps[15]?.getD undef = Value.int .i64 e2 := he 15 (by kernel_rfl)
        have HK := Lib.hid hK1
        clear hK1 hK2 hdep hsh he hsv hsl hFF hL hSW
        go_simp
        exact HK.out rfl _ (fp_mk rfl rfl trivial)
      · refine wpOpS_guard (dg := 78) rfl rfl rfl rfl (hsv 13 78 _ (by kernel_rfl) (by kernel_rfl) rfl) ?_
        rw [if_pos rfl]
        have t17 : b'.tmps[17]?.getD undef = Value.int .i64 e2 := he 17 (by kernel_rfl)
        have HK := Lib.hid hK1
        clear hK1 hK2 hdep hsh he hsv hsl hFF hL hSW
        go_simp
        exact HK.out rfl _ (fp_mk rfl rfl trivial)
      · refine wpOpS_guard (dg := 78) rfl rfl rfl rfl (hsv 13 78 _ (by kernel_rfl) (by kernel_rfl) rfl) ?_
        rw [if_pos rfl]
        have t79 : b'.tmps[79]?.getD undef = Value.int .i64 e2 := hsv 14 79 _ (by kernel_rfl) (by kernel_rfl) rfl
        have t80 : b'.tmps[80]?.getD undef = Value.int .i64 e2 := hsv 15 80 _ (by kernel_rfl) (by kernel_rfl) rfl
        have HK := Lib.hid hK1
        clear hK1 hK2 hdep hsh he hsv hsl hFF hL hSW
        go_simp
        exact HK.out rfl _ (fp_mk rfl rfl trivial)
      · refine wpOpS_go rfl rfl ?_
        have t78 : b'.tmps[78]?.getD undef = Value.bool true := hsv 13 78 _ (by kernel_rfl) (by kernel_rfl) rfl
        have t81 : b'.tmps[81]?.getD undef = Value.bool true := hsv 16 81 _ (by kernel_rfl) (by kernel_rfl) rfl
        have HK := Lib.hid hK1
        clear hK1 hK2 hdep hsh he hsv hsl hFF hL hSW
        go_simp
        exact HK.out rfl _ (fp_mk rfl rfl trivial)
      · refine wpOpS_go rfl rfl ?_
        have t82 : b'.tmps[82]?.getD undef = Value.bool true := hsv 17 82 _ (by kernel_rfl) (by kernel_rfl) rfl
        have HK := Lib.hid hK1
        clear hK1 hK2 hdep hsh he hsv hsl hFF hL hSW
        go_simp
        exact HK.out rfl _ (fp_mk rfl rfl trivial)
      · refine wpOpS_guard (dg := 83) rfl rfl rfl rfl (hsv 18 83 _ (by kernel_rfl) (by kernel_rfl) rfl) ?_
        rw [if_pos rfl]
        have t7 : b'.tmps[7]?.getD undef = Value.pointer (some ⟨b1, 0, none⟩) := he 7 (by kernel_rfl)
        have HK := Lib.hid hK1
        clear hK1 hK2 hdep hsh he hsv hsl hFF hL hSW
        go_simp
        exact HK.out rfl _ (fp_mk rfl rfl trivial)
      · refine wpOpS_guard (dg := 83) rfl rfl rfl rfl (hsv 18 83 _ (by kernel_rfl) (by kernel_rfl) rfl) ?_
        rw [if_pos rfl]
        have t84 : b'.tmps[84]?.getD undef = Value.pointer (some ⟨b1, 0, none⟩) := hsv 19 84 _ (by kernel_rfl) (by kernel_rfl) rfl
        have HK := Lib.hid hK1
        clear hK1 hK2 hdep hsh he hsv hsl hFF hL hSW
        go_simp
        exact HK.out rfl _ (fp_mk rfl rfl trivial)
      · refine wpOpS_guard (dg := 83) rfl rfl rfl rfl (hsv 18 83 _ (by kernel_rfl) (by kernel_rfl) rfl) ?_
        rw [if_pos rfl]
        have t85 : b'.tmps[85]?.getD undef = Value.pointer (some ⟨b1, 0, none⟩) := hsv 20 85 _ (by kernel_rfl) (by kernel_rfl) rfl
        have HK := Lib.hid hK1
        clear hK1 hK2 hdep hsh he hsv hsl hFF hL hSW
        go_simp
        exact HK.out rfl _ (fp_mk rfl rfl trivial)
      · refine wpOpS_guard (dg := 83) rfl rfl rfl rfl (hsv 18 83 _ (by kernel_rfl) (by kernel_rfl) rfl) ?_
        rw [if_pos rfl]
        have t86 : b'.tmps[86]?.getD undef = Value.pointer (some ⟨b1, 0, none⟩) := hsv 21 86 _ (by kernel_rfl) (by kernel_rfl) rfl
        replace hSW : TmR W m a k b1 b2 inb g kg ln nB cc vx vy tl fm pb qb fl ap aq kp kq W9 := hSW
        have hA := uCut_is hSW.s.up
        have HK := Lib.hid hK2
        clear hK1 hK2 hdep hsh he hsv hsl hFF hL
        go_simp
        refine hA.mono ?_
        rintro e w6 ⟨rfl, rfl⟩
        exact HK.out _ _ (fp_mk rfl rfl trivial) (Below.refl _ _) hSW
      · refine wpOpS_guard (dg := 83) rfl rfl rfl rfl (hsv 18 83 _ (by kernel_rfl) (by kernel_rfl) rfl) ?_
        rw [if_pos rfl]
        have t8 : b'.tmps[8]?.getD undef = Value.pointer (some ⟨b2, 0, none⟩) := he 8 (by kernel_rfl)
        have HK := Lib.hid hK1
        clear hK1 hK2 hdep hsh he hsv hsl hFF hL hSW
        go_simp
        exact HK.out rfl _ (fp_mk rfl rfl trivial)
      · refine wpOpS_guard (dg := 83) rfl rfl rfl rfl (hsv 18 83 _ (by kernel_rfl) (by kernel_rfl) rfl) ?_
        rw [if_pos rfl]
        have t88 : b'.tmps[88]?.getD undef = Value.pointer (some ⟨b2, 0, none⟩) := hsv 23 88 _ (by kernel_rfl) (by kernel_rfl) rfl
        replace hSW : TmR W m a k b1 b2 inb g kg ln nB cc vx vy tl fm pb qb fl ap aq kp kq W9 := hSW
        have hA := uCutR_is hSW.s.ur
        have HK := Lib.hid hK2
        clear hK1 hK2 hdep hsh he hsv hsl hFF hL
        go_simp
        refine hA.mono ?_
        rintro e w6 ⟨rfl, rfl⟩
        exact HK.out _ _ (fp_mk rfl rfl trivial) (Below.refl _ _) hSW
      · refine wpOpS_guard (dg := 83) rfl rfl rfl rfl (hsv 18 83 _ (by kernel_rfl) (by kernel_rfl) rfl) ?_
        rw [if_pos rfl]
        have t87 : b'.tmps[87]?.getD undef = Value.bool cc := hsv 22 87 _ (by kernel_rfl) (by kernel_rfl) rfl
        have t89 : b'.tmps[89]?.getD undef = Value.bool cc := hsv 24 89 _ (by kernel_rfl) (by kernel_rfl) rfl
        have HK := Lib.hid hK1
        clear hK1 hK2 hdep hsh he hsv hsl hFF hL hSW
        go_simp
        exact HK.out rfl _ (fp_mk rfl rfl trivial)
      · refine wpOpS_go rfl rfl ?_
        have t83 : b'.tmps[83]?.getD undef = Value.bool true := hsv 18 83 _ (by kernel_rfl) (by kernel_rfl) rfl
        have t90 : b'.tmps[90]?.getD undef = Value.bool true := hsv 25 90 _ (by kernel_rfl) (by kernel_rfl) rfl
        have HK := Lib.hid hK1
        clear hK1 hK2 hdep hsh he hsv hsl hFF hL hSW
        go_simp
        exact HK.out rfl _ (fp_mk rfl rfl trivial)
      · refine wpOpS_go rfl rfl ?_
        have t91 : b'.tmps[91]?.getD undef = Value.bool true := hsv 26 91 _ (by kernel_rfl) (by kernel_rfl) rfl
        have HK := Lib.hid hK1
        clear hK1 hK2 hdep hsh he hsv hsl hFF hL hSW
        go_simp
        exact HK.out rfl _ (fp_mk rfl rfl trivial)
      · refine wpOpS_guard (dg := 92) rfl rfl rfl rfl (hsv 27 92 _ (by kernel_rfl) (by kernel_rfl) rfl) ?_
        rw [if_pos rfl]
        have t9 : b'.tmps[9]?.getD undef = Value.pointer (some ⟨inb, 0, none⟩) := he 9 (by kernel_rfl)
        replace hSW : TmR W m a k b1 b2 inb g kg ln nB cc vx vy tl fm pb qb fl ap aq kp kq W9 := hSW
        have c0 := hSW.s.ib.cell
        clear hSW
        have HK := Lib.hid hK1
        clear hK1 hK2 hdep hsh he hsv hsl hFF hL
        go_simp
        exact HK.out rfl _ (fp_mk rfl rfl trivial)
      · refine wpOpS_guard (dg := 92) rfl rfl rfl rfl (hsv 27 92 _ (by kernel_rfl) (by kernel_rfl) rfl) ?_
        rw [if_pos rfl]
        have t93 : b'.tmps[93]?.getD undef = Value.agg #[.int .i64 m.r, .int .i64 m.c, .slice (some ⟨g, 0, none⟩) ln kg] := hsv 28 93 _ (by kernel_rfl) (by kernel_rfl) rfl
        replace hSW : TmR W m a k b1 b2 inb g kg ln nB cc vx vy tl fm pb qb fl ap aq kp kq W9 := hSW
        have hA := HUP.out _ _ _ (hSW.s.oi.mi.mono (Nat.zero_le _))
        have HK := Lib.hid hK2
        clear hK1 hK2 hdep hsh he hsv hsl hFF hL
        go_simp
        refine hA.mono ?_
        rintro e w6 ⟨rfl, hK⟩
        exact HK.out _ _ (fp_mk rfl rfl trivial) hK (TmR.keep hSW hK)
      · refine wpOpS_guard (dg := 92) rfl rfl rfl rfl (hsv 27 92 _ (by kernel_rfl) (by kernel_rfl) rfl) ?_
        rw [if_pos rfl]
        have t3 : b'.tmps[3]?.getD undef = Value.pointer (some ⟨W.heap.size, 0, none⟩) := he 3 (by kernel_rfl)
        replace hSW : TmR W m a k b1 b2 inb g kg ln nB cc vx vy tl fm pb qb fl ap aq kp kq W9 := hSW
        have c0 := hSW.s.bx.cell
        clear hSW
        have HK := Lib.hid hK1
        clear hK1 hK2 hdep hsh he hsv hsl hFF hL
        go_simp
        exact HK.out rfl _ (fp_mk rfl rfl trivial)
      · refine wpOpS_guard (dg := 92) rfl rfl rfl rfl (hsv 27 92 _ (by kernel_rfl) (by kernel_rfl) rfl) ?_
        rw [if_pos rfl]
        have t95 : b'.tmps[95]?.getD undef = Value.agg #[.int .i64 m.r, .int .i64 m.c, .slice a ln k] := hsv 30 95 _ (by kernel_rfl) (by kernel_rfl) rfl
        replace hSW : TmR W m a k b1 b2 inb g kg ln nB cc vx vy tl fm pb qb fl ap aq kp kq W9 := hSW
        have hA := HUR.out _ _ _ (HL.out.keep hSW.s.bel)
        have HK := Lib.hid hK2
        clear hK1 hK2 hdep hsh he hsv hsl hFF hL
        go_simp
        refine hA.mono ?_
        rintro e w6 ⟨rfl, hK⟩
        exact HK.out _ _ (fp_mk rfl rfl trivial) hK (TmR.keep hSW hK)
      · refine wpOpS_guard (dg := 92) rfl rfl rfl rfl (hsv 27 92 _ (by kernel_rfl) (by kernel_rfl) rfl) ?_
        rw [if_pos rfl]
        have t94 : b'.tmps[94]?.getD undef = Value.bool up := hsv 29 94 _ (by kernel_rfl) (by kernel_rfl) rfl
        have t96 : b'.tmps[96]?.getD undef = Value.bool up := hsv 31 96 _ (by kernel_rfl) (by kernel_rfl) rfl
        have HK := Lib.hid hK1
        clear hK1 hK2 hdep hsh he hsv hsl hFF hL hSW
        go_simp
        exact HK.out rfl _ (fp_mk rfl rfl trivial)
      · refine wpOpS_go rfl rfl ?_
        have t92 : b'.tmps[92]?.getD undef = Value.bool true := hsv 27 92 _ (by kernel_rfl) (by kernel_rfl) rfl
        have t97 : b'.tmps[97]?.getD undef = Value.bool true := hsv 32 97 _ (by kernel_rfl) (by kernel_rfl) rfl
        have HK := Lib.hid hK1
        clear hK1 hK2 hdep hsh he hsv hsl hFF hL hSW
        go_simp
        exact HK.out rfl _ (fp_mk rfl rfl trivial)
      · refine wpOpS_go rfl rfl ?_
        have t98 : b'.tmps[98]?.getD undef = Value.bool true := hsv 33 98 _ (by kernel_rfl) (by kernel_rfl) rfl
        have HK := Lib.hid hK1
        clear hK1 hK2 hdep hsh he hsv hsl hFF hL hSW
        go_simp
        exact HK.out rfl _ (fp_mk rfl rfl trivial)
    · intro f W9 hf L hL hS
      have e_0 : f 0 = vx := (hf 0 (by decide)).1 _ rfl
      have e_1 : f 1 = vy := (hf 1 (by decide)).1 _ rfl
      have e_2 : f 2 = Value.bool true := (hf 2 (by decide)).1 _ rfl
      have e_3 : f 3 = Value.bool true := (hf 3 (by decide)).1 _ rfl
      have e_4 : f 4 = Value.int .i64 e1 := (hf 4 (by decide)).1 _ rfl
      have e_5 : f 5 = Value.int .i64 e1 := (hf 5 (by decide)).1 _ rfl
      have e_6 : f 6 = Value.bool true := (hf 6 (by decide)).1 _ rfl
      have e_7 : f 7 = Value.bool true := (hf 7 (by decide)).1 _ rfl
      have e_8 : f 8 = Value.bool true := (hf 8 (by decide)).1 _ rfl
      have e_9 : f 9 = Value.agg #[.int .i64 fm.r, .int .i64 fm.c, .slice ap fl kp] := (hf 9 (by decide)).1 _ rfl
      have e_10 : f 10 = Value.agg #[.int .i64 fm.r, .int .i64 fm.c, .slice aq fl kq] := (hf 10 (by decide)).1 _ rfl
      have e_11 : f 11 = Value.bool true := (hf 11 (by decide)).1 _ rfl
      have e_12 : f 12 = Value.bool true := (hf 12 (by decide)).1 _ rfl
      have e_13 : f 13 = Value.bool true := (hf 13 (by decide)).1 _ rfl
      have e_14 : f 14 = Value.int .i64 e2 := (hf 14 (by decide)).1 _ rfl
      have e_15 : f 15 = Value.int .i64 e2 := (hf 15 (by decide)).1 _ rfl
      have e_16 : f 16 = Value.bool true := (hf 16 (by decide)).1 _ rfl
      have e_17 : f 17 = Value.bool true := (hf 17 (by decide)).1 _ rfl
      have e_18 : f 18 = Value.bool true := (hf 18 (by decide)).1 _ rfl
      have e_19 : f 19 = Value.pointer (some ⟨b1, 0, none⟩) := (hf 19 (by decide)).1 _ rfl
      have e_20 : f 20 = Value.pointer (some ⟨b1, 0, none⟩) := (hf 20 (by decide)).1 _ rfl
      have e_21 : f 21 = Value.pointer (some ⟨b1, 0, none⟩) := (hf 21 (by decide)).1 _ rfl
      have e_22 : f 22 = Value.bool cc := (hf 22 (by decide)).1 _ rfl
      have e_23 : f 23 = Value.pointer (some ⟨b2, 0, none⟩) := (hf 23 (by decide)).1 _ rfl
      have e_24 : f 24 = Value.bool cc := (hf 24 (by decide)).1 _ rfl
      have e_25 : f 25 = Value.bool true := (hf 25 (by decide)).1 _ rfl
      have e_26 : f 26 = Value.bool true := (hf 26 (by decide)).1 _ rfl
      have e_27 : f 27 = Value.bool true := (hf 27 (by decide)).1 _ rfl
      have e_28 : f 28 = Value.agg #[.int .i64 m.r, .int .i64 m.c, .slice (some ⟨g, 0, none⟩) ln kg] := (hf 28 (by decide)).1 _ rfl
      have e_29 : f 29 = Value.bool up := (hf 29 (by decide)).1 _ rfl
      have e_30 : f 30 = Value.agg #[.int .i64 m.r, .int .i64 m.c, .slice a ln k] := (hf 30 (by decide)).1 _ rfl
      have e_31 : f 31 = Value.bool up := (hf 31 (by decide)).1 _ rfl
      have e_32 : f 32 = Value.bool true := (hf 32 (by decide)).1 _ rfl
      have e_33 : f 33 = Value.bool true := (hf 33 (by decide)).1 _ rfl
      have e_34 : f 34 = Value.bool true := (hf 34 (by decide)).1 _ rfl
      clear hf hL
      simp only [puts2, Act.put, e_0, e_1, e_2, e_3, e_4, e_5, e_6, e_7, e_8, e_9, e_10, e_11, e_12, e_13, e_14, e_15, e_16, e_17, e_18, e_19, e_20, e_21, e_22, e_23, e_24, e_25, e_26, e_27, e_28, e_29, e_30, e_31, e_32, e_33, e_34]
      try simp only [List.setIfInBounds_toArray, List.set_cons_zero, List.set_cons_succ]
      clear e_0 e_1 e_2 e_3 e_4 e_5 e_6 e_7 e_8 e_9 e_10 e_11 e_12 e_13 e_14 e_15 e_16 e_17 e_18 e_19 e_20 e_21 e_22 e_23 e_24 e_25 e_26 e_27 e_28 e_29 e_30 e_31 e_32 e_33 e_34
      have hT : TmR W m a k b1 b2 inb g kg ln nB cc vx vy tl fm pb qb fl ap aq kp kq W9 := hS
      clear hS hTd
      obtain ⟨ax, kx, rfl, hxw⟩ := hT.x.xw
      have hS := hT.s
      have hPw := hT.pl.wj
      have hPb := hT.pb
      clear hT
      go_wp2_with fail
      go_loopw [19] (fun i wr => ∃ j : Nat, j ≤ tl.length ∧ i = .int .i64 j ∧ TmS W m a k b1 b2 inb g kg ln nB cc cc wr ∧ (0 < tl.length → ∃ y, ax = some y ∧ XW nB wr y tl) ∧ WJ nB wr ap fm.v.length ∧ Blk wr pb #[.int .i64 fm.r, .int .i64 fm.c, .slice ap fl kp] 24) (fun i _ => tl.length - (intOf i).toNat)
      case atStart => exact ⟨0, Nat.zero_le _, rfl, hS, hxw, hPw, hPb⟩
      case round =>
        clear hS hxw hPw hPb
        obtain ⟨j, hj, rfl, hS, hxw, hPw, hPb⟩ := hrel
        by_cases hjl : j < tl.length
        · have hjl' : (j : Int) < (tl.length : Int) := by omega
          have hj0 : (0 : Int) ≤ (j : Int) := by omega
          obtain ⟨y, rfl, hx⟩ := hxw (by omega)
          obtain ⟨aj, kj, hc, hwj⟩ := hx.at_ j hjl
          have hOV := over_is (c := kj) hwj
          clear hxw
          obtain ⟨lj, hlj⟩ : ∃ lj, tl[j].v.length = lj := ⟨_, rfl⟩
          rw [hlj] at hc hOV
          obtain ⟨tn, htn⟩ : ∃ tn, tl.length = tn := ⟨_, rfl⟩
          have HTN := Lib.hid htn
          rw [htn] at hjl' ⊢
          clear hlj htn hwj
          go_wp2_with fail
          refine hOV.mono ?_
          rintro e w11 ⟨rfl, hW⟩
          clear hc hOV
          have hS2 := hS.wrote hW
          have hx2 := hx.wrote hW
          have hP2 := hW.wj hPw
          have hb2' := hW.blk hPb (by decide)
          clear hS hx hPw hPb hW
          have hj9 : (j : Int) + 1 ≤ 1001 := by have := HTLN.out; omega
          have hw9 : wrap64 ((j : Int) + 1) = (j : Int) + 1 := by unfold wrap64; omega
          go_wp2_with fail
          have hj8 : tl.length = tn := HTN.out
          go_roundw
          case rel => exact ⟨j + 1, by omega, by go_num, hS2, fun _ => ⟨y, rfl, hx2⟩, hP2, hb2'⟩
          case measure => simp [intOf]; omega
        · have hge : ¬ ((j : Int) < (tl.length : Int)) := by omega
          have d8 := hPb.cell
          have hOV := over_is (c := kp) hPw
          rw [HFL.out] at hOV
          clear hxw hPw
          generalize tl.length = tn at *
          go_wp2_with fail
          refine hOV.mono ?_
          rintro e w11 ⟨rfl, hW⟩
          have hS2 := hS.wrote hW
          clear hS hW hOV d8 hPb
          have d0 := hS2.bx.cell
          have d1 := hS2.ib.cell
          have hSX := HSM.out _ _ _ _ _ (hS2.oi.mi.mono (Nat.zero_le _)) (HL.out.keep hS2.bel)
          go_wp2_with fail
          refine hSX.mono ?_
          rintro e w12 ⟨rfl, hK⟩
          have hB2 := more hS2.bel hK
          clear hSX hS2 d0 d1 hK
          go_wp2_with fail
          refine (awake09_is _).mono ?_
          rintro e w13 ⟨rfl, hK⟩
          have hB3 := more hB2 hK
          clear hB2 hK
          go_wp2_with fail
          go_ret
          exact ⟨rfl, hB3⟩
  · have hlen' : (160 : Int) < (ln : Int) := by omega
    go_wp2_with fail
    refine (awake09_is _).mono ?_
    rintro e w3 ⟨rfl, hK⟩
    replace hB := more hB hK
    clear hK d0 g0 hU hR
    go_wp2_with fail
    go_ret
    exact ⟨rfl, hB⟩
