/- binnaclelaw09: PolyGroup (the plain seat of r3). -/
import Derived.Test.YtkjbidpafnmogaaGrM
namespace Go.Proofs.Ytkjbidpafnmogaa.Base
open Go.RowKit Go
set_option linter.unusedVariables false
set_option linter.unusedSimpArgs false

/-- A square matrix, boxed. -/
structure BxG (b g : Nat) (n nn : Nat) (a : Option Addr) (k : Nat) (vs : List Int) (W : World) : Prop where
  bk : Blk W g #[.int .i64 (n : Int), .int .i64 (n : Int), .slice a nn k] 26
  l : ML b W a k vs
  ne : g ≠ b
theorem BxG.but {b g n nn : Nat} {a : Option Addr} {k : Nat} {vs : List Int} {W W' : World} (h : BxG b g n nn a k vs W) (hb : But b W W') : BxG b g n nn a k vs W' := ⟨hb.blk h.bk h.ne, h.l.but hb, h.ne⟩
theorem BxG.keep {b g n nn : Nat} {a : Option Addr} {k : Nat} {vs : List Int} {W W' : World} (h : BxG b g n nn a k vs W) (hb : Below W.heap.size W W') : BxG b g n nn a k vs W' := h.but (But.of hb)
theorem MO.lit {B : Nat} {W : World} {v : Value} {m : Mt} {n nn : Nat} (h : MO B W v m) (hr : m.r = n) (hc : m.c = n) (hl : m.v.length = nn) : ∃ a k, v = .agg #[.int .i64 (n : Int), .int .i64 (n : Int), .slice a nn k] ∧ LI B W a k m.v := by
  obtain ⟨a, k, h1, h2⟩ := h.ex
  rw [hr, hc, hl] at h1
  exact ⟨a, k, h1, h2⟩
def RetG (w : World) (b n nn : Nat) (vs : List Int) (e : Ending) (w' : World) : Prop := ∃ a k, e = .returned (.tuple #[.agg #[.int .i64 (n : Int), .int .i64 (n : Int), .slice a nn k], .int .i64 0]) ∧ ML b w' a k vs ∧ UP w' b false ∧ But b w w'
theorem Flow_grp {w : World} {b n nn : Nat} {vs : List Int} {F : Int → Mt} {a : Option Addr} {k : Nat} (hU : UP w b false) (hG : Grp n ⟨n, n, vs⟩ F) (hup : upM ⟨n, n, vs⟩) (hnn : n * n = nn) (hvl : vs.length = nn) (hl : ML b w a k vs) (r : Int) (hr : r.natAbs ≤ 200) :
    Calls Try.prog 12 #[.pointer (some ⟨b, 0, none⟩), .agg #[.int .i64 (n : Int), .int .i64 (n : Int), .slice a nn k], .int .i64 (r * 4294967296)] w (RetG w b n nn (F r).v) := by
  subst hvl
  refine (Flow_is hU (m := ⟨n, n, vs⟩) hl hup (r * 4294967296) (by unfold I64; omega)).mono ?_
  rintro e w' ⟨v, h1, h2, h3, h4⟩
  rw [hG.fl r hr] at h2 h3
  obtain ⟨_, o2, o3, o4⟩ := hG.ok r
  obtain ⟨a', k', e1, e2⟩ := h2.lit o2 o3 (o4.trans hnn)
  exact ⟨a', k', by rw [h1, e1], e2.ml h3, h3, h4⟩
theorem Mul_grp {w : World} {b n nn : Nat} {m : Mt} {F : Int → Mt} {a1 a2 : Option Addr} {k1 k2 : Nat} (hU : UP w b false) (hG : Grp n m F) (hnn : n * n = nn) (s t : Int) (hs : s.natAbs ≤ 100) (ht : t.natAbs ≤ 100) (h1 : ML b w a1 k1 (F s).v) (h2 : ML b w a2 k2 (F t).v) :
    Calls Try.prog 19 #[.pointer (some ⟨b, 0, none⟩), .agg #[.int .i64 (n : Int), .int .i64 (n : Int), .slice a1 nn k1], .agg #[.int .i64 (n : Int), .int .i64 (n : Int), .slice a2 nn k2]] w (RetG w b n nn (F (s + t)).v) := by
  obtain ⟨p1, p2, p3, p4⟩ := hG.ok s
  obtain ⟨q1, q2, q3, q4⟩ := hG.ok t
  have h := mmul_is hU (m1 := F s) (m2 := F t) h1 h2 p1 q1 (p3.trans q2.symm)
  rw [p2, p3, p4, q2, q3, q4, hnn, hG.mul s t hs ht] at h
  refine h.mono ?_
  rintro e w' ⟨v, h1, h2, h3, h4⟩
  obtain ⟨_, o2, o3, o4⟩ := hG.ok (s + t)
  obtain ⟨a', k', e1, e2⟩ := h2.lit o2 o3 (o4.trans hnn)
  exact ⟨a', k', by rw [h1, e1], e2.ml h3, h3, h4⟩
theorem Eye_grp {w : World} {b n nn : Nat} {m : Mt} {F : Int → Mt} {c : Bool} (hU : UP w b c) (hG : Grp n m F) (hnn : n * n = nn) (h1 : 1 ≤ n) (h12 : n ≤ 12) :
    Calls Try.prog 8 #[.int .i64 (n : Int)] w fun e w' => ∃ a k, e = .returned (.tuple #[.agg #[.int .i64 (n : Int), .int .i64 (n : Int), .slice a nn k], .int .i64 0]) ∧ ML b w' a k (F 0).v ∧ Below w.heap.size w w' := by
  refine (eye_is n h1 h12 w).mono ?_
  rintro e w' ⟨v, h1, h2, h3⟩
  rw [← hG.one] at h2
  obtain ⟨_, o2, o3, o4⟩ := hG.ok 0
  obtain ⟨a', k', e1, e2⟩ := h2.lit o2 o3 (o4.trans hnn)
  exact ⟨a', k', by rw [h1, e1], e2.ml (hU.keep h3), h3⟩
theorem same_grp {W : World} {n nn : Nat} {vs : List Int} (hl : vs.length = nn) {a1 a2 : Option Addr} {k1 k2 : Nat} (h1 : MI 0 W a1 k1 vs) (h2 : MI 0 W a2 k2 vs) :
    Calls Try.prog 16 #[.agg #[.int .i64 (n : Int), .int .i64 (n : Int), .slice a1 nn k1], .agg #[.int .i64 (n : Int), .int .i64 (n : Int), .slice a2 nn k2]] W fun e w' => e = .returned (.bool true) ∧ Below W.heap.size W w' := by
  subst hl
  have h := sameMat_is (m1 := ⟨n, n, vs⟩) (m2 := ⟨n, n, vs⟩) h1 h2
  rwa [decide_eq_true ⟨rfl, rfl, rfl⟩] at h

set_option maxHeartbeats 8000000 in
set_option maxRecDepth 100000 in
theorem group_walk (n0 : Int) (a : Option Addr) (c : Nat) (zs : List Int) (s0 t0 : Int) (w0 : World) (hn0 : (Lit.int .i64 n0).wf = true) (hz : MI 0 w0 a c zs) (hs0 : (Lit.int .i64 s0).wf = true) (ht0 : (Lit.int .i64 t0).wf = true) :
    Calls Try.prog 6 #[.int .i64 n0, .slice a zs.length c, .int .i64 s0, .int .i64 t0] w0 fun e w' => e = .returned (.bool true) ∧ Below w0.heap.size w0 w' := by
  obtain ⟨n, hn, hn1, hn3⟩ : ∃ n : Nat, 1 + pickI n0 3 = (n : Int) ∧ 1 ≤ n ∧ n ≤ 3 := by
    have := pickI_bd (x := n0) (n := 3) (by decide)
    exact ⟨(1 + pickI n0 3).toNat, by omega, by omega, by omega⟩
  have hwn : IntKind.i64.wrap (1 + pickI n0 3) = (n : Int) := by rw [hn]; exact IntWalk.i64_in _ (by omega)
  obtain ⟨s, hs⟩ : ∃ s, pickI s0 201 - 100 = s := ⟨_, rfl⟩
  have hsb : s.natAbs ≤ 100 := by rw [← hs]; exact pick_bd0 (m := 100) (by decide)
  have hws : IntKind.i64.wrap (pickI s0 201 - 100) = s := by rw [hs]; exact IntWalk.i64_in _ (by omega)
  obtain ⟨t, ht⟩ : ∃ t, pickI t0 201 - 100 = t := ⟨_, rfl⟩
  have htb : t.natAbs ≤ 100 := by rw [← ht]; exact pick_bd0 (m := 100) (by decide)
  have hwt : IntKind.i64.wrap (pickI t0 201 - 100) = t := by rw [ht]; exact IntWalk.i64_in _ (by omega)
  have hw1 : IntKind.i64.wrap (s * 4294967296) = s * 4294967296 := IntWalk.i64_in _ (by omega)
  have hw2 : IntKind.i64.wrap (t * 4294967296) = t * 4294967296 := IntWalk.i64_in _ (by omega)
  have hw3 : IntKind.i64.wrap (s * 4294967296 + t * 4294967296) = (s + t) * 4294967296 := by rw [IntWalk.i64_in _ (by omega)]; omega
  have hw4 : IntKind.i64.wrap (-(s * 4294967296)) = (-s) * 4294967296 := by rw [IntWalk.i64_in _ (by omega)]; omega
  clear hn hs ht
  have HZ := Lib.hid hz
  clear hz
  go_enter Try.func6, Try.ntmps6
  go_wp2_with fail
  refine (awake09_is w0).mono ?_
  rintro e w1 ⟨rfl, hB⟩
  have hz1 := HZ.out.keep hB
  go_wp2_with fail
  refine (pick_is n0 3 (by decide) (by decide) _).mono ?_
  rintro e w2 ⟨rfl, hw⟩
  rw [← hw]; clear hw w2
  go_wp2_with fail
  refine (pick_is s0 201 (by decide) (by decide) _).mono ?_
  rintro e w2 ⟨rfl, hw⟩
  rw [← hw]; clear hw w2
  go_wp2_with fail
  refine (pick_is t0 201 (by decide) (by decide) _).mono ?_
  rintro e w2 ⟨rfl, hw⟩
  rw [← hw]; clear hw w2
  have HUP := Lib.hid (kupper_is hz1 n hn1 (by omega) 9 (by decide) (by decide))
  clear hz1
  go_wp2_with fail
  refine HUP.out.mono ?_
  rintro e w2 ⟨v, vs, rfl, hmo, hV, hK⟩
  obtain ⟨F, hG⟩ := group_law hn1 hn3 hV
  have hup := hV.up hn1 (by omega)
  obtain ⟨nn, hnn⟩ : ∃ nn, n * n = nn := ⟨_, rfl⟩
  have hvl : vs.length = nn := hV.1.trans hnn
  obtain ⟨aA, kA, rfl, hLA⟩ := hmo.lit (n := n) (nn := nn) rfl rfl hvl
  have hLM := hLA.mono (Nat.zero_le _)
  replace hB := more hB hK
  clear hmo hLA HUP hK
  have HG := Lib.hid hG
  have HUPM := Lib.hid hup
  have HNN := Lib.hid hnn
  have HVL := Lib.hid hvl
  clear hG hup hnn hvl hV
  have hBA := upA (upR w2) (Obj.cells #[Value.int .i64 (n : Int), .int .i64 (n : Int), .slice aA nn kA] 26)
  have gA := Blk.new w2 #[Value.int .i64 (n : Int), .int .i64 (n : Int), .slice aA nn kA] 26
  replace hLM := hLM.keep hBA
  replace hB := more hB hBA
  go_wp2_with fail
  generalize w2.alloc (Obj.cells #[Value.int .i64 (n : Int), .int .i64 (n : Int), .slice aA nn kA] 26) = w3 at *
  obtain ⟨ga, hga⟩ : ∃ g, w2.heap.size = g := ⟨_, rfl⟩
  rw [hga] at gA ⊢
  clear hBA hga
  refine (uNew_is _).mono ?_
  rintro e w4 ⟨rfl, hU, hK⟩
  have hgl : ga < w3.heap.size := gA.lt
  have hub : w0.heap.size ≤ w3.heap.size := hB.size
  obtain ⟨b, hbb⟩ : ∃ b, w3.heap.size = b := ⟨_, rfl⟩
  have bA : BxG w3.heap.size ga n nn aA kA vs w4 := ⟨gA.keep hK, (hLM.keep hK).ml hU, by omega⟩
  replace hB := more hB hK
  rw [hbb] at hU bA hub ⊢
  clear hbb hK gA hLM hgl
  have d0 := bA.bk.cell
  go_wp2_with fail
  clear d0
  have hC := Flow_grp hU HG.out HUPM.out HNN.out HVL.out bA.l s (by omega)
  refine hC.mono ?_
  clear hC
  rintro e W ⟨ax, kx, rfl, hl, hU', hK⟩
  replace bA := bA.but hK
  replace hB := hB.trans (hK.below hub hB.size)
  have hlt := hU'.lt
  clear hK hU
  have hBA := (upA (upR W) (Obj.cells #[Value.int .i64 (n : Int), .int .i64 (n : Int), .slice ax nn kx] 26))
  have bx : BxG b W.heap.size n nn ax kx (F s).v _ := ⟨(Blk.new W #[Value.int .i64 (n : Int), .int .i64 (n : Int), .slice ax nn kx] 26), hl.keep hBA, by omega⟩
  replace bA := bA.keep hBA
  have hU := hU'.keep hBA
  replace hB := more hB hBA
  have d0 := bA.bk.cell
  clear hBA hl hlt hU'
  go_wp2_with fail
  clear d0
  obtain ⟨gx, hg⟩ : ∃ g, W.heap.size = g := ⟨_, rfl⟩
  rw [hg] at bx ⊢
  generalize W.alloc (Obj.cells #[Value.int .i64 (n : Int), .int .i64 (n : Int), .slice ax nn kx] 26) = wx at *
  clear hg
  have hC := Flow_grp hU HG.out HUPM.out HNN.out HVL.out bA.l t (by omega)
  refine hC.mono ?_
  clear hC
  rintro e W ⟨ay, ky, rfl, hl, hU', hK⟩
  replace bA := bA.but hK
  replace bx := bx.but hK
  replace hB := hB.trans (hK.below hub hB.size)
  have hlt := hU'.lt
  clear hK hU
  have hBA := (upA (upR W) (Obj.cells #[Value.int .i64 (n : Int), .int .i64 (n : Int), .slice ay nn ky] 26))
  have by_ : BxG b W.heap.size n nn ay ky (F t).v _ := ⟨(Blk.new W #[Value.int .i64 (n : Int), .int .i64 (n : Int), .slice ay nn ky] 26), hl.keep hBA, by omega⟩
  replace bA := bA.keep hBA
  replace bx := bx.keep hBA
  have hU := hU'.keep hBA
  replace hB := more hB hBA
  have d0 := bA.bk.cell
  clear hBA hl hlt hU'
  go_wp2_with fail
  clear d0
  obtain ⟨gy, hg⟩ : ∃ g, W.heap.size = g := ⟨_, rfl⟩
  rw [hg] at by_ ⊢
  generalize W.alloc (Obj.cells #[Value.int .i64 (n : Int), .int .i64 (n : Int), .slice ay nn ky] 26) = wy at *
  clear hg
  have hC := Flow_grp hU HG.out HUPM.out HNN.out HVL.out bA.l (s + t) (by omega)
  refine hC.mono ?_
  clear hC
  rintro e W ⟨az, kz, rfl, hl, hU', hK⟩
  replace bA := bA.but hK
  replace bx := bx.but hK
  replace by_ := by_.but hK
  replace hB := hB.trans (hK.below hub hB.size)
  have hlt := hU'.lt
  clear hK hU
  have hBA := (upA (upR W) (Obj.cells #[Value.int .i64 (n : Int), .int .i64 (n : Int), .slice az nn kz] 26))
  have bz : BxG b W.heap.size n nn az kz (F (s + t)).v _ := ⟨(Blk.new W #[Value.int .i64 (n : Int), .int .i64 (n : Int), .slice az nn kz] 26), hl.keep hBA, by omega⟩
  replace bA := bA.keep hBA
  replace bx := bx.keep hBA
  replace by_ := by_.keep hBA
  have hU := hU'.keep hBA
  replace hB := more hB hBA
  have d0 := bx.bk.cell
  have d1 := by_.bk.cell
  clear hBA hl hlt hU'
  go_wp2_with fail
  clear d0
  clear d1
  obtain ⟨gz, hg⟩ : ∃ g, W.heap.size = g := ⟨_, rfl⟩
  rw [hg] at bz ⊢
  generalize W.alloc (Obj.cells #[Value.int .i64 (n : Int), .int .i64 (n : Int), .slice az nn kz] 26) = wz at *
  clear hg
  have hC := Mul_grp hU HG.out HNN.out s t hsb htb bx.l by_.l
  refine hC.mono ?_
  clear hC
  rintro e W ⟨ap, kp, rfl, hl, hU', hK⟩
  replace bA := bA.but hK
  replace bx := bx.but hK
  replace by_ := by_.but hK
  replace bz := bz.but hK
  replace hB := hB.trans (hK.below hub hB.size)
  have hlt := hU'.lt
  clear hK hU
  have hBA := (upA (upR W) (Obj.cells #[Value.int .i64 (n : Int), .int .i64 (n : Int), .slice ap nn kp] 26))
  have bp : BxG b W.heap.size n nn ap kp (F (s + t)).v _ := ⟨(Blk.new W #[Value.int .i64 (n : Int), .int .i64 (n : Int), .slice ap nn kp] 26), hl.keep hBA, by omega⟩
  replace bA := bA.keep hBA
  replace bx := bx.keep hBA
  replace by_ := by_.keep hBA
  replace bz := bz.keep hBA
  have hU := hU'.keep hBA
  replace hB := more hB hBA
  have d0 := bA.bk.cell
  clear hBA hl hlt hU'
  go_wp2_with fail
  clear d0
  obtain ⟨gp, hg⟩ : ∃ g, W.heap.size = g := ⟨_, rfl⟩
  rw [hg] at bp ⊢
  generalize W.alloc (Obj.cells #[Value.int .i64 (n : Int), .int .i64 (n : Int), .slice ap nn kp] 26) = wp at *
  clear hg
  have hC := Flow_grp hU HG.out HUPM.out HNN.out HVL.out bA.l (-s) (by omega)
  refine hC.mono ?_
  clear hC
  rintro e W ⟨ar, kr, rfl, hl, hU', hK⟩
  replace bA := bA.but hK
  replace bx := bx.but hK
  replace by_ := by_.but hK
  replace bz := bz.but hK
  replace bp := bp.but hK
  replace hB := hB.trans (hK.below hub hB.size)
  have hlt := hU'.lt
  clear hK hU
  have hBA := (upA (upR W) (Obj.cells #[Value.int .i64 (n : Int), .int .i64 (n : Int), .slice ar nn kr] 26))
  have br : BxG b W.heap.size n nn ar kr (F (-s)).v _ := ⟨(Blk.new W #[Value.int .i64 (n : Int), .int .i64 (n : Int), .slice ar nn kr] 26), hl.keep hBA, by omega⟩
  replace bA := bA.keep hBA
  replace bx := bx.keep hBA
  replace by_ := by_.keep hBA
  replace bz := bz.keep hBA
  replace bp := bp.keep hBA
  have hU := hU'.keep hBA
  replace hB := more hB hBA
  have d0 := br.bk.cell
  have d1 := bx.bk.cell
  clear hBA hl hlt hU'
  go_wp2_with fail
  clear d0
  clear d1
  obtain ⟨gr, hg⟩ : ∃ g, W.heap.size = g := ⟨_, rfl⟩
  rw [hg] at br ⊢
  generalize W.alloc (Obj.cells #[Value.int .i64 (n : Int), .int .i64 (n : Int), .slice ar nn kr] 26) = wr at *
  clear hg
  have hC := Mul_grp hU HG.out HNN.out (-s) s (by omega) hsb br.l bx.l
  rw [show -s + s = 0 by omega] at hC
  refine hC.mono ?_
  clear hC
  rintro e W ⟨aq, kq, rfl, hl, hU', hK⟩
  replace bA := bA.but hK
  replace bx := bx.but hK
  replace by_ := by_.but hK
  replace bz := bz.but hK
  replace bp := bp.but hK
  replace br := br.but hK
  replace hB := hB.trans (hK.below hub hB.size)
  have hlt := hU'.lt
  clear hK hU
  have hBA := (upA (upR W) (Obj.cells #[Value.int .i64 (n : Int), .int .i64 (n : Int), .slice aq nn kq] 26))
  have bq : BxG b W.heap.size n nn aq kq (F 0).v _ := ⟨(Blk.new W #[Value.int .i64 (n : Int), .int .i64 (n : Int), .slice aq nn kq] 26), hl.keep hBA, by omega⟩
  replace bA := bA.keep hBA
  replace bx := bx.keep hBA
  replace by_ := by_.keep hBA
  replace bz := bz.keep hBA
  replace bp := bp.keep hBA
  replace br := br.keep hBA
  have hU := hU'.keep hBA
  replace hB := more hB hBA
  clear hBA hl hlt hU'
  go_wp2_with fail
  obtain ⟨gq, hg⟩ : ∃ g, W.heap.size = g := ⟨_, rfl⟩
  rw [hg] at bq ⊢
  generalize W.alloc (Obj.cells #[Value.int .i64 (n : Int), .int .i64 (n : Int), .slice aq nn kq] 26) = wq at *
  clear hg
  have hC := Eye_grp hU HG.out HNN.out hn1 (by omega)
  refine hC.mono ?_
  clear hC
  rintro e W ⟨ae, ke, rfl, hl, hK⟩
  replace bA := bA.keep hK
  replace bx := bx.keep hK
  replace by_ := by_.keep hK
  replace bz := bz.keep hK
  replace bp := bp.keep hK
  replace br := br.keep hK
  replace bq := bq.keep hK
  have hU' := hU.keep hK
  replace hB := more hB hK
  have hlt := hU'.lt
  clear hK hU
  have hBA := (upA (upR W) (Obj.cells #[Value.int .i64 (n : Int), .int .i64 (n : Int), .slice ae nn ke] 26))
  have be : BxG b W.heap.size n nn ae ke (F 0).v _ := ⟨(Blk.new W #[Value.int .i64 (n : Int), .int .i64 (n : Int), .slice ae nn ke] 26), hl.keep hBA, by omega⟩
  replace bA := bA.keep hBA
  replace bx := bx.keep hBA
  replace by_ := by_.keep hBA
  replace bz := bz.keep hBA
  replace bp := bp.keep hBA
  replace br := br.keep hBA
  replace bq := bq.keep hBA
  have hU := hU'.keep hBA
  replace hB := more hB hBA
  have d0 := bp.bk.cell
  have d1 := bz.bk.cell
  clear hBA hl hlt hU'
  go_wp2_with fail
  clear d0
  clear d1
  obtain ⟨ge, hg⟩ : ∃ g, W.heap.size = g := ⟨_, rfl⟩
  rw [hg] at be ⊢
  clear hg
  generalize W.alloc (Obj.cells #[Value.int .i64 (n : Int), .int .i64 (n : Int), .slice ae nn ke] 26) = we at *
  have lz := (HG.out.ok (s + t)).2.2.2.trans HNN.out
  have le := (HG.out.ok 0).2.2.2.trans HNN.out
  refine (same_grp (n := n) lz bp.l.mi bz.l.mi).mono ?_
  rintro e W1 ⟨rfl, hK⟩
  replace hB := more hB hK
  replace bq := bq.keep hK
  replace be := be.keep hK
  replace hU := hU.keep hK
  clear hK bp bz bA bx by_ br
  have d0 := bq.bk.cell
  have d1 := be.bk.cell
  have LE := Lib.hid le
  clear lz le
  go_wp2_with fail
  clear d0 d1
  refine (same_grp (n := n) LE.out bq.l.mi be.l.mi).mono ?_
  rintro e W2 ⟨rfl, hK⟩
  replace hB := more hB hK
  replace hU := hU.keep hK
  clear hK bq be
  go_wp2_with fail
  refine (uCut_is hU).mono ?_
  rintro e W3 ⟨rfl, hw⟩
  rw [hw] at hB
  go_wp2_with fail
  go_ret
  exact ⟨rfl, hB⟩

end Go.Proofs.Ytkjbidpafnmogaa.Base
