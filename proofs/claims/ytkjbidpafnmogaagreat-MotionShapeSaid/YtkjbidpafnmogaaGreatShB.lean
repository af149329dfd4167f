/- binnaclelaw11: MotionShape. -/
import Derived.Test.YtkjbidpafnmogaaGreatShM
import Derived.Test.YtkjbidpafnmogaaGreatMotJ
import Derived.Test.YtkjbidpafnmogaaGreatKitC
import Derived.Test.YtkjbidpafnmogaaGreatPick
namespace Go.Proofs.YtkjbidpafnmogaaGreat.Base
open Go.RowKit Go Go.Shelf Go.Deep
set_option linter.unusedVariables false
set_option linter.unusedSimpArgs false

theorem pick_big (x n : Int) (h : 0 < n) (hn : n ≤ 4398046511104) (W : World) : Calls Tryz.prog 28 #[.int .i64 x, .int .i64 n] W fun e w' => e = .returned (.int .i64 (pickI x n)) ∧ W = w' := by
  have hp := pickI_bd (x := x) h
  have hn0 : ¬ n ≤ 0 := by omega
  have hn1 : ¬ n = 0 := by omega
  rcases pick_tmod (x := x) h with ⟨h1, h2⟩ | ⟨h1, h2⟩
  · have hw : IntKind.i64.wrap (x.tmod n) = x.tmod n := IntWalk.i64_in _ (by omega)
    have HP := Lib.hid h2
    have h3 : ¬ x.tmod n < 0 := by omega
    clear h2 hp
    go_enter Tryz.func28, Tryz.ntmps28
    go_wp2_with fail
    go_ret
    exact ⟨by rw [← HP.out]; rfl, rfl⟩
  · have hw : IntKind.i64.wrap (x.tmod n) = x.tmod n := IntWalk.i64_in _ (by omega)
    have hw2 : IntKind.i64.wrap (x.tmod n + n) = x.tmod n + n := IntWalk.i64_in _ (by omega)
    have HP := Lib.hid h2
    clear h2 hp
    go_enter Tryz.func28, Tryz.ntmps28
    go_wp2_with fail
    go_ret
    exact ⟨by rw [← HP.out]; rfl, rfl⟩
/-- A square matrix, boxed. -/
structure BxQ (b g : Nat) (n nn : Nat) (a : Option Addr) (k : Nat) (m : Mt) (W : World) : Prop where
  bk : Blk W g #[.int .i64 (n : Int), .int .i64 (n : Int), .slice a nn k] 24
  l : ML b W a k m.v
  ne : g ≠ b
theorem BxQ.but {b g n nn : Nat} {a : Option Addr} {k : Nat} {m : Mt} {W W' : World} (h : BxQ b g n nn a k m W) (hb : But b W W') : BxQ b g n nn a k m W' := ⟨hb.blk h.bk h.ne, h.l.but hb, h.ne⟩
theorem BxQ.keep {b g n nn : Nat} {a : Option Addr} {k : Nat} {m : Mt} {W W' : World} (h : BxQ b g n nn a k m W) (hb : Below W.heap.size W W') : BxQ b g n nn a k m W' := h.but (But.of hb)
theorem Sh.ok {n : Nat} {m : Mt} (h : Sh n m) (h1 : 1 ≤ n) (h2 : n ≤ 12) : okMt m :=
  ⟨⟨by rw [h.r]; omega, by rw [h.r]; omega⟩, ⟨by rw [h.c]; omega, by rw [h.c]; omega⟩, by rw [h.r, h.c, h.l, Int.natCast_mul]⟩
theorem MO.lits {B : Nat} {W : World} {v : Value} {m : Mt} {n nn : Nat} (h : MO B W v m) (hs : Sh n m) (hnn : n * n = nn) : ∃ a k, v = .agg #[.int .i64 (n : Int), .int .i64 (n : Int), .slice a nn k] ∧ LI B W a k m.v := by
  obtain ⟨a, k, h1, h2⟩ := h.ex
  rw [hs.r, hs.c, hs.l, hnn] at h1
  exact ⟨a, k, h1, h2⟩
theorem same_q {W : World} {m : Mt} {n nn : Nat} (hs : Sh n m) (hnn : n * n = nn) {a1 a2 : Option Addr} {k1 k2 : Nat} (h1 : MI 0 W a1 k1 m.v) (h2 : MI 0 W a2 k2 m.v) :
    Calls Tryz.prog 19 #[.agg #[.int .i64 (n : Int), .int .i64 (n : Int), .slice a1 nn k1], .agg #[.int .i64 (n : Int), .int .i64 (n : Int), .slice a2 nn k2]] W fun e w' => e = .returned (.bool true) ∧ Below W.heap.size W w' := by
  have h := sameMat_is h1 h2
  rwa [decide_eq_true ⟨rfl, rfl, rfl⟩, hs.r, hs.c, hs.l, hnn] at h
theorem ml_cell {b : Nat} {W : World} {a : Option Addr} {k : Nat} {vs : List Int} (h : ML b W a k vs) {i : Nat} (hi : i < vs.length) : ∃ y, a = some y ∧ W.cell? (y.add i) = some (.int .i64 (vs.getD i 0)) := by
  obtain ⟨y, hy, hc⟩ := h.mi.cell i hi
  exact ⟨y, hy, by rw [hc, List.getD_eq_getElem?_getD, List.getElem?_eq_getElem hi, Option.getD_some]⟩
theorem cell_kp0 {w w' : World} {p : Addr} {v : Value} (hc : w.cell? p = some v) (h : Below w.heap.size w w') : w'.cell? p = some v := (h.cell (World.block_lt_of_cell? w _ hc)).trans hc
def mdC (n : Nat) (tk gt rm : Int) (aA : Option Addr) (cA : Nat) (aQ : Option Addr) (cQ : Nat) (aR : Option Addr) (cR la lq lr : Nat) : Array Value := #[.int .i64 (n : Int), .slice aA la cA, .slice aQ lq cQ, .int .i64 tk, .int .i64 gt, .int .i64 rm, .slice aR lr cR]
/-- What the first loop keeps. -/
structure ShS (w0 : World) (b n nn mb : Nat) (mv : Array Value) (V : Value) (M : Mdl) (c : Bool) (gN : Nat) (aN : Option Addr) (kN : Nat) (mN : Mt) (gE : Nat) (aE : Option Addr) (kE : Nat) (W : World) : Prop where
  bm : Blk W mb mv 54
  mw : MW b W V M
  up : UP W b c
  bN : BxQ b gN n nn aN kN mN W
  bE : BxQ b gE n nn aE kE (eyeM n) W
  bel : Below w0.heap.size w0 W
theorem ShS.keep {w0 : World} {b n nn mb : Nat} {mv : Array Value} {V : Value} {M : Mdl} {c : Bool} {gN : Nat} {aN : Option Addr} {kN : Nat} {mN : Mt} {gE : Nat} {aE : Option Addr} {kE : Nat} {W W' : World} (h : ShS w0 b n nn mb mv V M c gN aN kN mN gE aE kE W) (k : Below W.heap.size W W') : ShS w0 b n nn mb mv V M c gN aN kN mN gE aE kE W' :=
  ⟨h.bm.keep k, h.mw.keep k, h.up.keep k, h.bN.keep k, h.bE.keep k, more h.bel k⟩
/-- What the other loops keep. -/
structure ShT (w0 : World) (b n nn mb : Nat) (mv : Array Value) (gF : Nat) (aF : Option Addr) (kF : Nat) (mF : Mt) (gE : Nat) (aE : Option Addr) (kE : Nat) (W : World) : Prop where
  bm : Blk W mb mv 54
  bF : BxQ b gF n nn aF kF mF W
  bE : BxQ b gE n nn aE kE (eyeM n) W
  bel : Below w0.heap.size w0 W
theorem ShT.keep {w0 : World} {b n nn mb : Nat} {mv : Array Value} {gF : Nat} {aF : Option Addr} {kF : Nat} {mF : Mt} {gE : Nat} {aE : Option Addr} {kE : Nat} {W W' : World} (h : ShT w0 b n nn mb mv gF aF kF mF gE aE kE W) (k : Below W.heap.size W W') : ShT w0 b n nn mb mv gF aF kF mF gE aE kE W' :=
  ⟨h.bm.keep k, h.bF.keep k, h.bE.keep k, more h.bel k⟩
/-- The same, with the two cells that are looked at. -/
structure ShW (w0 : World) (b n nn mb : Nat) (mv : Array Value) (gF : Nat) (yF : Addr) (kF : Nat) (mF : Mt) (gE : Nat) (yE : Addr) (kE : Nat) (idx : Nat) (z : Int) (W : World) : Prop where
  t : ShT w0 b n nn mb mv gF (some yF) kF mF gE (some yE) kE W
  cF : W.cell? (yF.add idx) = some (.int .i64 z)
  cE : W.cell? (yE.add idx) = some (.int .i64 z)

set_option maxHeartbeats 16000000 in
set_option maxRecDepth 100000 in
theorem shape_walk (v : Value) (M : Mdl) (t0 : Int) (w0 : World) (hM : MM 0 w0 v M) (ht : (Lit.int .i64 t0).wf = true) :
    Calls Tryz.prog 8 #[v, .int .i64 t0] w0 fun e w' => e = .returned (.bool true) ∧ Below w0.heap.size w0 w' := by
  clear ht
  have hM0 := hM
  obtain ⟨aA, cA, aQ, cQ, aR, cR, rfl, _⟩ := hM.ex
  clear hM
  obtain ⟨la, hla⟩ : ∃ n, M.A.length = n := ⟨_, rfl⟩
  obtain ⟨lq, hlq⟩ : ∃ n, M.Q.length = n := ⟨_, rfl⟩
  obtain ⟨lr, hlr⟩ : ∃ n, M.rows.length = n := ⟨_, rfl⟩
  rw [hla, hlq, hlr] at hM0 ⊢
  clear hla hlq hlr
  obtain ⟨nM, hnM⟩ : ∃ n, M.n = n := ⟨_, rfl⟩
  obtain ⟨tk, htk⟩ : ∃ n, M.tick = n := ⟨_, rfl⟩
  obtain ⟨gt, hgt⟩ : ∃ n, M.gate = n := ⟨_, rfl⟩
  obtain ⟨rm, hrm⟩ : ∃ n, M.rmin = n := ⟨_, rfl⟩
  rw [hnM, htk, hgt, hrm] at hM0 ⊢
  have HNM := Lib.hid hnM
  clear htk hgt hrm hnM
  have hB := upA (upR w0) (Obj.cells #[.int .i64 nM, .slice aA la cA, .slice aQ lq cQ, .int .i64 tk, .int .i64 gt, .int .i64 rm, .slice aR lr cR] 54)
  have gm := Blk.new w0 #[.int .i64 nM, .slice aA la cA, .slice aQ lq cQ, .int .i64 tk, .int .i64 gt, .int .i64 rm, .slice aR lr cR] 54
  have hM1 := hM0.keep hB
  go_enter Tryz.func8, Tryz.ntmps8
  go_wp2_with fail
  generalize w0.alloc (Obj.cells #[.int .i64 nM, .slice aA la cA, .slice aQ lq cQ, .int .i64 tk, .int .i64 gt, .int .i64 rm, .slice aR lr cR] 54) = w1 at *
  obtain ⟨mb, hmb⟩ : ∃ g, w0.heap.size = g := ⟨_, rfl⟩
  rw [hmb] at gm ⊢
  have HMB := Lib.hid hmb
  clear hmb hM0
  refine (known11_is w1).mono ?_
  rintro e w2 ⟨rfl, hK⟩
  replace hB := more hB hK
  replace gm := gm.keep hK
  replace hM1 := hM1.keep hK
  have d0 := gm.cell
  clear hK
  go_wp2_with fail
  clear d0
  refine (longModel_is hM1).mono ?_
  rintro e w3 ⟨⟨hm, rfl⟩ | ⟨hm, rfl⟩, hK⟩
  · replace hB := more hB hK
    clear hm
    go_wp2_with fail
    go_ret
    exact ⟨rfl, hB⟩
  have hMod : Mod M := Classical.not_not.1 hm
  have hrl : M.rows.length ≤ 1000 := by have := hMod.r; omega
  have HRL := Lib.hid hrl
  replace hB := more hB hK
  replace gm := gm.keep hK
  replace hM1 := hM1.keep hK
  have d0 := gm.cell
  clear hK hm hMod hrl
  go_wp2_with fail
  clear d0
  refine (check_is hM1 HRL.out).mono ?_
  rintro e w4 ⟨he, hK⟩
  replace hB := more hB hK
  replace gm := gm.keep hK
  replace hM1 := hM1.keep hK
  clear hK
  by_cases hok : okM M
  case neg =>
    rw [tellsC_no he hok]
    clear he
    go_wp2_with fail
    go_ret
    exact ⟨rfl, hB⟩
  rw [tellsC_ok he hok]
  clear he
  obtain ⟨n, nn, hn, hn1, hn6, hnn, _⟩ := hok.nat
  have hnm : nM = (n : Int) := by rw [← HNM.out]; exact hn
  subst hnm
  have HSL := Lib.hid (shape_law hok hn hnn hn1)
  have HOK := Lib.hid hok
  have HNN := Lib.hid hnn
  have hnn36 : nn ≤ 36 := by rw [← hnn]; exact Nat.mul_le_mul hn6 hn6
  have hnn1 : 1 ≤ nn := by rw [← hnn]; exact Nat.mul_le_mul hn1 hn1
  have hwq : IntKind.i64.wrap ((n : Int) * (n : Int)) = ((nn : Nat) : Int) := by rw [← Int.natCast_mul, hnn]; exact IntWalk.i64_in _ (by omega)
  obtain ⟨tc, htc⟩ : ∃ t, pickI t0 1099511627777 = t := ⟨_, rfl⟩
  have htb : 0 ≤ tc ∧ tc ≤ 1099511627776 := by have := pickI_bd (x := t0) (n := 1099511627777) (by decide); omega
  have PT := Lib.hid (fun W => pick_big t0 1099511627777 (by decide) (by decide) W)
  rw [htc] at PT
  clear hok hn hnn htc HNM
  go_wp2_with fail
  refine (uNew_is w4).mono ?_
  rintro e w5 ⟨rfl, hU, hK⟩
  have hMW := hM1.mw hK (Nat.le_refl _)
  have nem : mb ≠ w4.heap.size := Nat.ne_of_lt gm.lt
  have hub : w0.heap.size ≤ w4.heap.size := hB.size
  replace gm := gm.keep hK
  replace hB := more hB hK
  obtain ⟨b, hbb⟩ : ∃ b, w4.heap.size = b := ⟨_, rfl⟩
  rw [hbb] at hU hMW nem hub ⊢
  clear hbb hK hM1
  go_wp2_with fail
  refine (PT.out _).mono ?_
  rintro e wq ⟨rfl, hw⟩
  rw [← hw]
  clear hw wq
  have d0 := gm.cell
  go_wp2_with fail
  clear d0
  refine (eye_is n hn1 (by omega) _).mono ?_
  rintro e W ⟨v, rfl, hmo, hK⟩
  obtain ⟨aE, kE, rfl, hLE⟩ := hmo.lits (eye_sh n) HNN.out
  replace hU := hU.keep hK
  replace hMW := hMW.keep hK
  replace gm := gm.keep hK
  replace hB := more hB hK
  have hl := hLE.ml hU
  have hlt := hU.lt
  have hBA := upA (upR W) (Obj.cells #[Value.int .i64 (n : Int), .int .i64 (n : Int), .slice aE nn kE] 24)
  have bE : BxQ b W.heap.size n nn aE kE (eyeM n) _ := ⟨Blk.new W #[Value.int .i64 (n : Int), .int .i64 (n : Int), .slice aE nn kE] 24, hl.keep hBA, Nat.ne_of_gt hlt⟩
  replace hU := hU.keep hBA
  replace hMW := hMW.keep hBA
  replace gm := gm.keep hBA
  replace hB := more hB hBA
  have d0 := gm.cell
  clear hK hmo hLE hl hlt hBA
  go_wp2_with fail
  clear d0
  obtain ⟨gE, hg⟩ : ∃ g, W.heap.size = g := ⟨_, rfl⟩
  rw [hg] at bE ⊢
  generalize W.alloc (Obj.cells #[Value.int .i64 (n : Int), .int .i64 (n : Int), .slice aE nn kE] 24) = w6 at *
  clear hg W
  refine (mFlow_is hU hMW HRL.out HOK.out 0 (by decide) (by decide)).mono ?_
  rintro e W ⟨v, rfl, hmo, hU', hK⟩
  rw [HSL.out.f0] at hmo
  obtain ⟨aS, kS, rfl, hL⟩ := hmo.lits (eye_sh n) HNN.out
  replace bE := bE.but hK
  replace gm := hK.blk gm nem
  replace hMW := hMW.but hK
  replace hB := hB.trans (hK.below hub hB.size)
  have hl := hL.ml hU'
  have hlt := hU'.lt
  have hBA := upA (upR W) (Obj.cells #[Value.int .i64 (n : Int), .int .i64 (n : Int), .slice aS nn kS] 24)
  have bS : BxQ b W.heap.size n nn aS kS (eyeM n) _ := ⟨Blk.new W #[Value.int .i64 (n : Int), .int .i64 (n : Int), .slice aS nn kS] 24, hl.keep hBA, Nat.ne_of_gt hlt⟩
  replace bE := bE.keep hBA
  replace gm := gm.keep hBA
  replace hMW := hMW.keep hBA
  replace hU := hU'.keep hBA
  replace hB := more hB hBA
  have d0 := gm.cell
  clear hK hmo hL hl hlt hBA hU'
  go_wp2_with fail
  clear d0
  obtain ⟨gS, hg⟩ : ∃ g, W.heap.size = g := ⟨_, rfl⟩
  rw [hg] at bS ⊢
  generalize W.alloc (Obj.cells #[Value.int .i64 (n : Int), .int .i64 (n : Int), .slice aS nn kS] 24) = wS at *
  clear hg W
  refine (mNoise_is hU hMW HRL.out HOK.out 0 (by decide) (by decide)).mono ?_
  rintro e W ⟨v, rfl, hmo, hU', hK⟩
  obtain ⟨aN, kN, rfl, hL⟩ := hmo.lits (HSL.out.ns 0) HNN.out
  replace bE := bE.but hK
  replace bS := bS.but hK
  replace gm := hK.blk gm nem
  replace hMW := hMW.but hK
  replace hB := hB.trans (hK.below hub hB.size)
  have hl := hL.ml hU'
  have hlt := hU'.lt
  have hBA := upA (upR W) (Obj.cells #[Value.int .i64 (n : Int), .int .i64 (n : Int), .slice aN nn kN] 24)
  have bN : BxQ b W.heap.size n nn aN kN (noiseM M 0).1 _ := ⟨Blk.new W #[Value.int .i64 (n : Int), .int .i64 (n : Int), .slice aN nn kN] 24, hl.keep hBA, Nat.ne_of_gt hlt⟩
  replace bE := bE.keep hBA
  replace bS := bS.keep hBA
  replace gm := gm.keep hBA
  replace hMW := hMW.keep hBA
  replace hU := hU'.keep hBA
  replace hB := more hB hBA
  have d0 := bS.bk.cell
  have d1 := bE.bk.cell
  clear hK hmo hL hl hlt hBA hU'
  go_wp2_with fail
  clear d0 d1
  obtain ⟨gN, hg⟩ : ∃ g, W.heap.size = g := ⟨_, rfl⟩
  rw [hg] at bN ⊢
  generalize W.alloc (Obj.cells #[Value.int .i64 (n : Int), .int .i64 (n : Int), .slice aN nn kN] 24) = wN at *
  clear hg W
  obtain ⟨cc, hU⟩ : ∃ c, UP _ b c := ⟨_, hU⟩
  have hsS : Sh n (eyeM n) := eye_sh n
  refine (same_q hsS HNN.out bS.l.mi bE.l.mi).mono ?_
  rintro e W ⟨rfl, hK⟩
  have hST : ShS w0 b n nn mb #[.int .i64 (n : Int), .slice aA la cA, .slice aQ lq cQ, .int .i64 tk, .int .i64 gt, .int .i64 rm, .slice aR lr cR] (.agg #[.int .i64 (n : Int), .slice aA la cA, .slice aQ lq cQ, .int .i64 tk, .int .i64 gt, .int .i64 rm, .slice aR lr cR]) M cc gN aN kN (noiseM M 0).1 gE aE kE W := ⟨gm.keep hK, hMW.keep hK, hU.keep hK, bN.keep hK, bE.keep hK, more hB hK⟩
  have d0 := (bN.keep hK).bk.cell
  have d1 := (gm.keep hK).cell
  clear hK bS bE bN gm hMW hU hB hsS
  go_wp2_with fail
  clear d0 d1
  go_loopw [13] (fun i wr => ∃ j : Nat, j ≤ nn ∧ i = .int .i64 j ∧ ShS w0 b n nn mb #[.int .i64 (n : Int), .slice aA la cA, .slice aQ lq cQ, .int .i64 tk, .int .i64 gt, .int .i64 rm, .slice aR lr cR] (.agg #[.int .i64 (n : Int), .slice aA la cA, .slice aQ lq cQ, .int .i64 tk, .int .i64 gt, .int .i64 rm, .slice aR lr cR]) M cc gN aN kN (noiseM M 0).1 gE aE kE wr) (fun i _ => nn - (intOf i).toNat)
  case atStart => exact ⟨0, Nat.zero_le _, rfl, hST⟩
  case round =>
    clear hST
    obtain ⟨j, hj, rfl, hST⟩ := hrel
    have d0 := hST.bN.bk.cell
    by_cases hlt : j < nn
    · have hlt' : (j : Int) < (nn : Int) := by omega
      have hj0 : (0 : Int) ≤ (j : Int) := by omega
      have hwj : IntKind.i64.wrap ((j : Int) + 1) = (j : Int) + 1 := IntWalk.i64_in _ (by omega)
      obtain ⟨y, rfl, hc⟩ := ml_cell hST.bN.l (i := j) (by rw [(HSL.out.ns 0).l, HNN.out]; exact hlt)
      rw [HSL.out.n0 j hlt] at hc
      go_wp2_with fail
      go_roundw
      case rel => exact ⟨j + 1, by omega, by go_num, hST⟩
      case measure => simp [intOf]; omega
    · have hge : ¬ (j : Int) < (nn : Int) := by omega
      obtain ⟨gm, hMW, hU, _, bE, hB⟩ := hST
      have d1 := gm.cell
      go_wp2_with fail
      clear d0 d1
      refine (mFlow_is hU hMW HRL.out HOK.out tc (by omega) (by omega)).mono ?_
      rintro e W ⟨v, rfl, hmo, hU', hK⟩
      obtain ⟨aF, kF, rfl, hL⟩ := hmo.lits (HSL.out.fs tc).1 HNN.out
      replace bE := bE.but hK
      replace gm := hK.blk gm nem
      replace hMW := hMW.but hK
      replace hB := hB.trans (hK.below hub hB.size)
      have hl := hL.ml hU'
      have hlt := hU'.lt
      have hBA := upA (upR W) (Obj.cells #[Value.int .i64 (n : Int), .int .i64 (n : Int), .slice aF nn kF] 24)
      have bF : BxQ b W.heap.size n nn aF kF (mflowM M tc).1 _ := ⟨Blk.new W #[Value.int .i64 (n : Int), .int .i64 (n : Int), .slice aF nn kF] 24, hl.keep hBA, Nat.ne_of_gt hlt⟩
      replace bE := bE.keep hBA
      replace gm := gm.keep hBA
      replace hMW := hMW.keep hBA
      replace hU := hU'.keep hBA
      replace hB := more hB hBA
      have d0 := gm.cell
      clear hK hmo hL hl hlt hBA hU'
      go_wp2_with fail
      clear d0
      obtain ⟨gF, hg⟩ : ∃ g, W.heap.size = g := ⟨_, rfl⟩
      rw [hg] at bF ⊢
      generalize W.alloc (Obj.cells #[Value.int .i64 (n : Int), .int .i64 (n : Int), .slice aF nn kF] 24) = wF at *
      clear hg W
      refine (mNoise_is hU hMW HRL.out HOK.out tc htb.1 htb.2).mono ?_
      rintro e W ⟨v, rfl, hmo, hU', hK⟩
      obtain ⟨aY, kY, rfl, hL⟩ := hmo.lits (HSL.out.ns tc) HNN.out
      replace bE := bE.but hK
      replace bF := bF.but hK
      replace gm := hK.blk gm nem
      replace hMW := hMW.but hK
      replace hB := hB.trans (hK.below hub hB.size)
      have hl := hL.ml hU'
      have hlt := hU'.lt
      have hBA := upA (upR W) (Obj.cells #[Value.int .i64 (n : Int), .int .i64 (n : Int), .slice aY nn kY] 24)
      have bY : BxQ b W.heap.size n nn aY kY (noiseM M tc).1 _ := ⟨Blk.new W #[Value.int .i64 (n : Int), .int .i64 (n : Int), .slice aY nn kY] 24, hl.keep hBA, Nat.ne_of_gt hlt⟩
      replace bE := bE.keep hBA
      replace bF := bF.keep hBA
      replace gm := gm.keep hBA
      replace hMW := hMW.keep hBA
      replace hU := hU'.keep hBA
      replace hB := more hB hBA
      have d0 := bY.bk.cell
      clear hK hmo hL hl hlt hBA hU'
      go_wp2_with fail
      clear d0
      obtain ⟨gY, hg⟩ : ∃ g, W.heap.size = g := ⟨_, rfl⟩
      rw [hg] at bY ⊢
      generalize W.alloc (Obj.cells #[Value.int .i64 (n : Int), .int .i64 (n : Int), .slice aY nn kY] 24) = wY at *
      clear hg W
      have hTN := turn_is bY.l.mi ((HSL.out.ns tc).ok hn1 (by omega))
      rw [(HSL.out.ns tc).r, (HSL.out.ns tc).c, (HSL.out.ns tc).l, HNN.out] at hTN
      refine (hTN).mono ?_
      rintro e W ⟨v, rfl, hmo, hK⟩
      rw [HSL.out.ny tc] at hmo
      obtain ⟨aT, kT, rfl, hL⟩ := hmo.lits (HSL.out.ns tc) HNN.out
      replace bE := bE.keep hK
      replace bF := bF.keep hK
      replace bY := bY.keep hK
      replace gm := gm.keep hK
      replace hMW := hMW.keep hK
      have hU' := hU.keep hK
      replace hB := more hB hK
      have hl := hL.ml hU'
      have hlt := hU'.lt
      have hBA := upA (upR W) (Obj.cells #[Value.int .i64 (n : Int), .int .i64 (n : Int), .slice aT nn kT] 24)
      have bT : BxQ b W.heap.size n nn aT kT (noiseM M tc).1 _ := ⟨Blk.new W #[Value.int .i64 (n : Int), .int .i64 (n : Int), .slice aT nn kT] 24, hl.keep hBA, Nat.ne_of_gt hlt⟩
      replace bE := bE.keep hBA
      replace bF := bF.keep hBA
      replace bY := bY.keep hBA
      replace gm := gm.keep hBA
      replace hMW := hMW.keep hBA
      replace hU := hU'.keep hBA
      replace hB := more hB hBA
      have d0 := bT.bk.cell
      have d1 := bY.bk.cell
      clear hK hmo hL hl hlt hBA hU'
      go_wp2_with fail
      clear d0 d1
      obtain ⟨gT, hg⟩ : ∃ g, W.heap.size = g := ⟨_, rfl⟩
      rw [hg] at bT ⊢
      generalize W.alloc (Obj.cells #[Value.int .i64 (n : Int), .int .i64 (n : Int), .slice aT nn kT] 24) = wT at *
      clear hg W
      clear hTN
      refine (same_q (HSL.out.ns tc) HNN.out bT.l.mi bY.l.mi).mono ?_
      rintro e W ⟨rfl, hK⟩
      have hST : ShT w0 b n nn mb #[.int .i64 (n : Int), .slice aA la cA, .slice aQ lq cQ, .int .i64 tk, .int .i64 gt, .int .i64 rm, .slice aR lr cR] gF aF kF (mflowM M tc).1 gE aE kE W := ⟨gm.keep hK, bF.keep hK, bE.keep hK, more hB hK⟩
      have d0 := (bF.keep hK).bk.cell
      have d1 := (gm.keep hK).cell
      clear hK bT bY bF bE gm hMW hU hB hlt hj hge
      go_wp2_with fail
      clear d0 d1
      go_loopw [20] (fun v20 wr => ∃ i : Nat, i ≤ n ∧ v20 = .int .i64 i ∧ ShT w0 b n nn mb #[.int .i64 (n : Int), .slice aA la cA, .slice aQ lq cQ, .int .i64 tk, .int .i64 gt, .int .i64 rm, .slice aR lr cR] gF aF kF (mflowM M tc).1 gE aE kE wr) (fun i _ => n - (intOf i).toNat)
      case atStart => exact ⟨0, Nat.zero_le _, rfl, hST⟩
      case round =>
        clear hST
        obtain ⟨i, hi, rfl, hST⟩ := hrel
        have d1 := hST.bm.cell
        by_cases hin : i < n
        · have hin' : (i : Int) < (n : Int) := by omega
          have hi0 : (0 : Int) ≤ (i : Int) := by omega
          have hwi : IntKind.i64.wrap ((i : Int) + 1) = (i : Int) + 1 := IntWalk.i64_in _ (by omega)
          obtain ⟨p, hp⟩ : ∃ p, i * n = p := ⟨_, rfl⟩
          have hp36 : p ≤ 36 := by rw [← hp]; exact Nat.mul_le_mul (show i ≤ 6 by omega) hn6
          have hwp : IntKind.i64.wrap ((i : Int) * (n : Int)) = ((p : Nat) : Int) := by rw [← Int.natCast_mul, hp]; exact IntWalk.i64_in _ (by omega)
          have HP := Lib.hid hp
          clear hp
          go_wp2_with fail
          clear d1
          go_loopw [21] (fun v21 wr => ∃ k : Nat, k ≤ i + 1 ∧ v21 = .int .i64 k ∧ ShT w0 b n nn mb #[.int .i64 (n : Int), .slice aA la cA, .slice aQ lq cQ, .int .i64 tk, .int .i64 gt, .int .i64 rm, .slice aR lr cR] gF aF kF (mflowM M tc).1 gE aE kE wr) (fun i _ => n + 1 - (intOf i).toNat)
          case atStart => exact ⟨0, Nat.zero_le _, rfl, hST⟩
          case round =>
            clear hST
            obtain ⟨k, hk, rfl, hST⟩ := hrel
            by_cases hki : k ≤ i
            · have hki' : (k : Int) ≤ (i : Int) := by omega
              have hk0 : (0 : Int) ≤ (k : Int) := by omega
              have hwk : IntKind.i64.wrap ((k : Int) + 1) = (k : Int) + 1 := IntWalk.i64_in _ (by omega)
              obtain ⟨idx, hidx⟩ : ∃ idx, p + k = idx := ⟨_, rfl⟩
              have hix : idx < nn := by rw [← hidx, ← HP.out, ← HNN.out]; exact ix_in hin (by omega)
              have hix' : (idx : Int) < (nn : Int) := by omega
              have hix0 : (0 : Int) ≤ (idx : Int) := by omega
              have hwx : IntKind.i64.wrap ((p : Int) + (k : Int)) = (idx : Int) := by rw [IntWalk.i64_in _ (by omega)]; omega
              obtain ⟨hsF, heF⟩ := HSL.out.fs tc
              have hEF := heF i k hin hki
              rw [hsF.ix, (eye_sh n).ix, HP.out, hidx] at hEF
              obtain ⟨yF, rfl, hcF⟩ := ml_cell hST.bF.l (i := idx) (by rw [hsF.l, HNN.out]; exact hix)
              obtain ⟨yE, rfl, hcE⟩ := ml_cell hST.bE.l (i := idx) (by rw [(eye_sh n).l, HNN.out]; exact hix)
              rw [hEF] at hcF
              clear hEF hidx hsF heF
              generalize (eyeM n).v.getD idx 0 = z at hcF hcE
              go_wp2_with fail
              have HS0 := (show ShW w0 b n nn mb #[.int .i64 (n : Int), .slice aA la cA, .slice aQ lq cQ, .int .i64 tk, .int .i64 gt, .int .i64 rm, .slice aR lr cR] gF yF kF (mflowM M tc).1 gE yE kE idx z _ from ⟨hST.keep (upD (upR _)), cell_kp0 hcF (upD (upR _)), cell_kp0 hcE (upD (upR _))⟩)
              clear hST hcF hcE
              refine region_fp [some 145, some 146, some 147, some 148, some 149, some 150, some 151, some 152, some 153, some 154, some 155, some 156, some 157, some 158, some 159, some 160, some 161, some 162, some 163, some 164, some 165] [] [some (Value.pointer (some ⟨gF, 2, none⟩)), some (Value.slice (some yF) nn kF), some (Value.int .i64 (i : Int)), some (Value.pointer (some ⟨mb, 0, none⟩)), some (Value.int .i64 (n : Int)), some (Value.int .i64 (p : Int)), some (Value.int .i64 (k : Int)), some (Value.int .i64 (idx : Int)), some (Value.pointer (some (yF.add idx))), some (Value.int .i64 (z)), some (Value.pointer (some ⟨gE, 2, none⟩)), some (Value.slice (some yE) nn kE), some (Value.int .i64 (i : Int)), some (Value.pointer (some ⟨mb, 0, none⟩)), some (Value.int .i64 (n : Int)), some (Value.int .i64 (p : Int)), some (Value.int .i64 (k : Int)), some (Value.int .i64 (idx : Int)), some (Value.pointer (some (yE.add idx))), some (Value.int .i64 (z)), some (Value.bool false)]
                (fun _ _ _ => True) (fun W W' => True) (fun L f W => ShW w0 b n nn mb #[.int .i64 (n : Int), .slice aA la cA, .slice aQ lq cQ, .int .i64 tk, .int .i64 gt, .int .i64 rm, .slice aR lr cR] gF yF kF (mflowM M tc).1 gE yE kE idx z W)
                (by kernel_rfl) (by kernel_rfl) (by kernel_rfl) (by kernel_rfl) (by kernel_rfl) (fun _ => trivial) (fun _ _ _ _ _ _ => trivial) (fun _ _ _ _ _ _ h => h) HS0 ?_ ?_
              · intro i hi b' L f W hSW hL hdep hsh he hsv hsl hFF K hK1 hK2
                replace hi : i < 21 := hi
                have hcs : i = 0 ∨ i = 1 ∨ i = 2 ∨ i = 3 ∨ i = 4 ∨ i = 5 ∨ i = 6 ∨ i = 7 ∨ i = 8 ∨ i = 9 ∨ i = 10 ∨ i = 11 ∨ i = 12 ∨ i = 13 ∨ i = 14 ∨ i = 15 ∨ i = 16 ∨ i = 17 ∨ i = 18 ∨ i = 19 ∨ i = 20 := by omega
                clear hi
                rcases hcs with rfl | rfl | rfl | rfl | rfl | rfl | rfl | rfl | rfl | rfl | rfl | rfl | rfl | rfl | rfl | rfl | rfl | rfl | rfl | rfl | rfl
                · refine wpOpS_go rfl rfl ?_
                  have t14 : b'.tmps[14]?.getD undef = Value.pointer (some ⟨gF, 0, none⟩) := he 14 (by kernel_rfl)
                  have HK := Lib.hid hK1
                  clear hK1 hK2 hdep hsh he hsv hsl hFF hL hSW
                  go_simp
                  exact HK.out rfl _ (fp_mk rfl rfl trivial)
                · refine wpOpS_go rfl rfl ?_
                  have t145 : b'.tmps[145]?.getD undef = Value.pointer (some ⟨gF, 2, none⟩) := hsv 0 145 _ (by kernel_rfl) (by kernel_rfl) rfl
                  have c0 := hSW.t.bF.bk.cell
                  have HK := Lib.hid hK1
                  clear hK1 hK2 hdep hsh he hsv hsl hFF hL
                  clear hSW
                  go_simp
                  exact HK.out rfl _ (fp_mk rfl rfl trivial)
                · refine wpOpS_go rfl rfl ?_
                  have t20 : b'.tmps[20]?.getD undef = Value.int .i64 (i : Int) := he 20 (by kernel_rfl)
                  have HK := Lib.hid hK1
                  clear hK1 hK2 hdep hsh he hsv hsl hFF hL hSW
                  go_simp
                  exact HK.out rfl _ (fp_mk rfl rfl trivial)
                · refine wpOpS_go rfl rfl ?_
                  have t2 : b'.tmps[2]?.getD undef = Value.pointer (some ⟨mb, 0, none⟩) := he 2 (by kernel_rfl)
                  have HK := Lib.hid hK1
                  clear hK1 hK2 hdep hsh he hsv hsl hFF hL hSW
                  go_simp
                  exact HK.out rfl _ (fp_mk rfl rfl trivial)
                · refine wpOpS_go rfl rfl ?_
                  have t148 : b'.tmps[148]?.getD undef = Value.pointer (some ⟨mb, 0, none⟩) := hsv 3 148 _ (by kernel_rfl) (by kernel_rfl) rfl
                  have c0 := hSW.t.bm.cell
                  have HK := Lib.hid hK1
                  clear hK1 hK2 hdep hsh he hsv hsl hFF hL
                  clear hSW
                  go_simp
                  exact HK.out rfl _ (fp_mk rfl rfl trivial)
                · refine wpOpS_go rfl rfl ?_
                  have t147 : b'.tmps[147]?.getD undef = Value.int .i64 (i : Int) := hsv 2 147 _ (by kernel_rfl) (by kernel_rfl) rfl
                  have t149 : b'.tmps[149]?.getD undef = Value.int .i64 (n : Int) := hsv 4 149 _ (by kernel_rfl) (by kernel_rfl) rfl
                  have HK := Lib.hid hK1
                  clear hK1 hK2 hdep hsh he hsv hsl hFF hL hSW
                  go_simp
                  exact HK.out rfl _ (fp_mk rfl rfl trivial)
                · refine wpOpS_go rfl rfl ?_
                  have t21 : b'.tmps[21]?.getD undef = Value.int .i64 (k : Int) := he 21 (by kernel_rfl)
                  have HK := Lib.hid hK1
                  clear hK1 hK2 hdep hsh he hsv hsl hFF hL hSW
                  go_simp
                  exact HK.out rfl _ (fp_mk rfl rfl trivial)
                · refine wpOpS_go rfl rfl ?_
                  have t150 : b'.tmps[150]?.getD undef = Value.int .i64 (p : Int) := hsv 5 150 _ (by kernel_rfl) (by kernel_rfl) rfl
                  have t151 : b'.tmps[151]?.getD undef = Value.int .i64 (k : Int) := hsv 6 151 _ (by kernel_rfl) (by kernel_rfl) rfl
                  have HK := Lib.hid hK1
                  clear hK1 hK2 hdep hsh he hsv hsl hFF hL hSW
                  go_simp
                  exact HK.out rfl _ (fp_mk rfl rfl trivial)
                · refine wpOpS_go rfl rfl ?_
                  have t146 : b'.tmps[146]?.getD undef = Value.slice (some yF) nn kF := hsv 1 146 _ (by kernel_rfl) (by kernel_rfl) rfl
                  have t152 : b'.tmps[152]?.getD undef = Value.int .i64 (idx : Int) := hsv 7 152 _ (by kernel_rfl) (by kernel_rfl) rfl
                  have HK := Lib.hid hK1
                  clear hK1 hK2 hdep hsh he hsv hsl hFF hL hSW
                  go_simp
                  exact HK.out rfl _ (fp_mk rfl rfl trivial)
                · refine wpOpS_go rfl rfl ?_
                  have t153 : b'.tmps[153]?.getD undef = Value.pointer (some (yF.add idx)) := hsv 8 153 _ (by kernel_rfl) (by kernel_rfl) rfl
                  have c0 := hSW.cF
                  have HK := Lib.hid hK1
                  clear hK1 hK2 hdep hsh he hsv hsl hFF hL
                  clear hSW
                  go_simp
                  exact HK.out rfl _ (fp_mk rfl rfl trivial)
                · refine wpOpS_go rfl rfl ?_
                  have t7 : b'.tmps[7]?.getD undef = Value.pointer (some ⟨gE, 0, none⟩) := he 7 (by kernel_rfl)
                  have HK := Lib.hid hK1
                  clear hK1 hK2 hdep hsh he hsv hsl hFF hL hSW
                  go_simp
                  exact HK.out rfl _ (fp_mk rfl rfl trivial)
                · refine wpOpS_go rfl rfl ?_
                  have t155 : b'.tmps[155]?.getD undef = Value.pointer (some ⟨gE, 2, none⟩) := hsv 10 155 _ (by kernel_rfl) (by kernel_rfl) rfl
                  have c0 := hSW.t.bE.bk.cell
                  have HK := Lib.hid hK1
                  clear hK1 hK2 hdep hsh he hsv hsl hFF hL
                  clear hSW
                  go_simp
                  exact HK.out rfl _ (fp_mk rfl rfl trivial)
                · refine wpOpS_go rfl rfl ?_
                  have t20 : b'.tmps[20]?.getD undef = Value.int .i64 (i : Int) := he 20 (by kernel_rfl)
                  have HK := Lib.hid hK1
                  clear hK1 hK2 hdep hsh he hsv hsl hFF hL hSW
                  go_simp
                  exact HK.out rfl _ (fp_mk rfl rfl trivial)
                · refine wpOpS_go rfl rfl ?_
                  have t2 : b'.tmps[2]?.getD undef = Value.pointer (some ⟨mb, 0, none⟩) := he 2 (by kernel_rfl)
                  have HK := Lib.hid hK1
                  clear hK1 hK2 hdep hsh he hsv hsl hFF hL hSW
                  go_simp
                  exact HK.out rfl _ (fp_mk rfl rfl trivial)
                · refine wpOpS_go rfl rfl ?_
                  have t158 : b'.tmps[158]?.getD undef = Value.pointer (some ⟨mb, 0, none⟩) := hsv 13 158 _ (by kernel_rfl) (by kernel_rfl) rfl
                  have c0 := hSW.t.bm.cell
                  have HK := Lib.hid hK1
                  clear hK1 hK2 hdep hsh he hsv hsl hFF hL
                  clear hSW
                  go_simp
                  exact HK.out rfl _ (fp_mk rfl rfl trivial)
                · refine wpOpS_go rfl rfl ?_
                  have t157 : b'.tmps[157]?.getD undef = Value.int .i64 (i : Int) := hsv 12 157 _ (by kernel_rfl) (by kernel_rfl) rfl
                  have t159 : b'.tmps[159]?.getD undef = Value.int .i64 (n : Int) := hsv 14 159 _ (by kernel_rfl) (by kernel_rfl) rfl
                  have HK := Lib.hid hK1
                  clear hK1 hK2 hdep hsh he hsv hsl hFF hL hSW
                  go_simp
                  exact HK.out rfl _ (fp_mk rfl rfl trivial)
                · refine wpOpS_go rfl rfl ?_
                  have t21 : b'.tmps[21]?.getD undef = Value.int .i64 (k : Int) := he 21 (by kernel_rfl)
                  have HK := Lib.hid hK1
                  clear hK1 hK2 hdep hsh he hsv hsl hFF hL hSW
                  go_simp
                  exact HK.out rfl _ (fp_mk rfl rfl trivial)
                · refine wpOpS_go rfl rfl ?_
                  have t160 : b'.tmps[160]?.getD undef = Value.int .i64 (p : Int) := hsv 15 160 _ (by kernel_rfl) (by kernel_rfl) rfl
                  have t161 : b'.tmps[161]?.getD undef = Value.int .i64 (k : Int) := hsv 16 161 _ (by kernel_rfl) (by kernel_rfl) rfl
                  have HK := Lib.hid hK1
                  clear hK1 hK2 hdep hsh he hsv hsl hFF hL hSW
                  go_simp
                  exact HK.out rfl _ (fp_mk rfl rfl trivial)
                · refine wpOpS_go rfl rfl ?_
                  have t156 : b'.tmps[156]?.getD undef = Value.slice (some yE) nn kE := hsv 11 156 _ (by kernel_rfl) (by kernel_rfl) rfl
                  have t162 : b'.tmps[162]?.getD undef = Value.int .i64 (idx : Int) := hsv 17 162 _ (by kernel_rfl) (by kernel_rfl) rfl
                  have HK := Lib.hid hK1
                  clear hK1 hK2 hdep hsh he hsv hsl hFF hL hSW
                  go_simp
                  exact HK.out rfl _ (fp_mk rfl rfl trivial)
                · refine wpOpS_go rfl rfl ?_
                  have t163 : b'.tmps[163]?.getD undef = Value.pointer (some (yE.add idx)) := hsv 18 163 _ (by kernel_rfl) (by kernel_rfl) rfl
                  have c0 := hSW.cE
                  have HK := Lib.hid hK1
                  clear hK1 hK2 hdep hsh he hsv hsl hFF hL
                  clear hSW
                  go_simp
                  exact HK.out rfl _ (fp_mk rfl rfl trivial)
                · refine wpOpS_go rfl rfl ?_
                  have t154 : b'.tmps[154]?.getD undef = Value.int .i64 (z) := hsv 9 154 _ (by kernel_rfl) (by kernel_rfl) rfl
                  have t164 : b'.tmps[164]?.getD undef = Value.int .i64 (z) := hsv 19 164 _ (by kernel_rfl) (by kernel_rfl) rfl
                  have HK := Lib.hid hK1
                  clear hK1 hK2 hdep hsh he hsv hsl hFF hL hSW
                  go_simp
                  exact HK.out rfl _ (fp_mk rfl rfl trivial)
              · intro f W hf L hL hS
                have e9 : f 20 = Value.bool false := (hf 20 (by decide)).1 _ rfl
                have hST := hS.t
                clear hf hL hS
                simp only [puts2, Act.put]
                generalize f 0 = y0, f 1 = y1, f 2 = y2, f 3 = y3, f 4 = y4, f 5 = y5, f 6 = y6, f 7 = y7, f 8 = y8, f 9 = y9, f 10 = y10, f 11 = y11, f 12 = y12, f 13 = y13, f 14 = y14, f 15 = y15, f 16 = y16, f 17 = y17, f 18 = y18, f 19 = y19
                rw [e9]
                try simp only [List.setIfInBounds_toArray, List.set_cons_zero, List.set_cons_succ]
                go_wp2_with fail
                go_roundw
                case rel => exact ⟨k + 1, by omega, by go_num, hST⟩
                case measure => simp [intOf]; omega
            · have hge : ¬ (k : Int) ≤ (i : Int) := by omega
              go_wp2_with fail
              go_roundw
              case rel => exact ⟨i + 1, by omega, by go_num, hST⟩
              case measure => simp [intOf]; omega
        · have hge : ¬ (i : Int) < (n : Int) := by omega
          have hB := hST.bel
          go_wp2_with fail
          go_ret
          exact ⟨rfl, hB⟩

end Go.Proofs.YtkjbidpafnmogaaGreat.Base
