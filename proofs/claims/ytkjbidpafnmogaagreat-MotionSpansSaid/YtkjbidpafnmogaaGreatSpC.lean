/- binnaclelaw11: MotionSpans. -/
import Derived.Test.YtkjbidpafnmogaaGreatSpB
import Derived.Test.YtkjbidpafnmogaaGreatPick
namespace Go.Proofs.YtkjbidpafnmogaaGreat.Base
open Go.RowKit Go Go.Shelf Go.Deep
set_option linter.unusedVariables false
set_option linter.unusedSimpArgs false

set_option maxHeartbeats 2000000 in
set_option maxRecDepth 100000 in
theorem two11_mm {w0 : World} (mv a q : Int) (hm : mv.natAbs ≤ 1000) (ha : a.natAbs ≤ 1000) (hq : q.natAbs ≤ 1000) :
    Calls Tryz.prog 29 #[.int .i64 mv, .int .i64 a, .int .i64 q] w0 fun e w' => ∃ aA cA aQ cQ aR cR, e = .returned (.agg #[.int .i64 2, .slice aA 4 cA, .slice aQ 2 cQ, .int .i64 4294967296, .int .i64 1, .int .i64 1, .slice aR 0 cR]) ∧ MM 0 w' (.agg #[.int .i64 2, .slice aA 4 cA, .slice aQ 2 cQ, .int .i64 4294967296, .int .i64 1, .int .i64 1, .slice aR 0 cR]) (twoM mv a q) ∧ Below w0.heap.size w0 w' := by
  have hw1 : IntKind.i64.wrap (mv * 4294967296) = mv * 4294967296 := IntWalk.i64_in _ (by omega)
  have hw2 : IntKind.i64.wrap (a * 4294967296) = a * 4294967296 := IntWalk.i64_in _ (by omega)
  have hw3 : IntKind.i64.wrap (q * 4294967296) = q * 4294967296 := IntWalk.i64_in _ (by omega)
  go_enter Tryz.func29, Tryz.ntmps29
  go_wp2_with fail
  have hB := below_allocs w0 [Obj.cells #[Value.int .i64 2, .slice (some ⟨w0.heap.size + 1, 0, none⟩) 4 4, .slice (some ⟨w0.heap.size + 1 + 1, 0, none⟩) 2 2, .int .i64 4294967296, .int .i64 1, .int .i64 1, .slice none 0 0] 54, Obj.cells #[Value.int .i64 0, .int .i64 (mv * 4294967296), .int .i64 0, .int .i64 0] 3, Obj.cells #[Value.int .i64 (a * 4294967296), .int .i64 (q * 4294967296)] 3]
  have g0 := blk_at w0 [Obj.cells #[Value.int .i64 2, .slice (some ⟨w0.heap.size + 1, 0, none⟩) 4 4, .slice (some ⟨w0.heap.size + 1 + 1, 0, none⟩) 2 2, .int .i64 4294967296, .int .i64 1, .int .i64 1, .slice none 0 0] 54, Obj.cells #[Value.int .i64 0, .int .i64 (mv * 4294967296), .int .i64 0, .int .i64 0] 3, Obj.cells #[Value.int .i64 (a * 4294967296), .int .i64 (q * 4294967296)] 3] 0 _ _ rfl
  have g1 := blk_at w0 [Obj.cells #[Value.int .i64 2, .slice (some ⟨w0.heap.size + 1, 0, none⟩) 4 4, .slice (some ⟨w0.heap.size + 1 + 1, 0, none⟩) 2 2, .int .i64 4294967296, .int .i64 1, .int .i64 1, .slice none 0 0] 54, Obj.cells #[Value.int .i64 0, .int .i64 (mv * 4294967296), .int .i64 0, .int .i64 0] 3, Obj.cells #[Value.int .i64 (a * 4294967296), .int .i64 (q * 4294967296)] 3] 1 _ _ rfl
  have g2 := blk_at w0 [Obj.cells #[Value.int .i64 2, .slice (some ⟨w0.heap.size + 1, 0, none⟩) 4 4, .slice (some ⟨w0.heap.size + 1 + 1, 0, none⟩) 2 2, .int .i64 4294967296, .int .i64 1, .int .i64 1, .slice none 0 0] 54, Obj.cells #[Value.int .i64 0, .int .i64 (mv * 4294967296), .int .i64 0, .int .i64 0] 3, Obj.cells #[Value.int .i64 (a * 4294967296), .int .i64 (q * 4294967296)] 3] 2 _ _ rfl
  simp only [List.foldl_cons, List.foldl_nil, Nat.add_zero] at hB g0 g1 g2
  replace hB := hB.1
  have hA : MI 0 _ (some ⟨w0.heap.size + 1, 0, none⟩) 4 [0, mv * 4294967296, 0, 0] := MI.of_blk (zs := [0, mv * 4294967296, 0, 0]) g1 (Nat.zero_le _) (fun z hz => by simp at hz; unfold I64; omega) (show (4 : Nat) ≤ 1000 by decide)
  have hQ : MI 0 _ (some ⟨w0.heap.size + 2, 0, none⟩) 2 [a * 4294967296, q * 4294967296] := MI.of_blk (zs := [a * 4294967296, q * 4294967296]) g2 (Nat.zero_le _) (fun z hz => by simp at hz; unfold I64; omega) (show (2 : Nat) ≤ 1000 by decide)
  refine bodyPost_ret (results_cell_row rfl _ _ _ 54 #[Value.int .i64 2, .slice (some ⟨w0.heap.size + 1, 0, none⟩) 4 4, .slice (some ⟨w0.heap.size + 1 + 1, 0, none⟩) 2 2, .int .i64 4294967296, .int .i64 1, .int .i64 1, .slice none 0 0] (0, 0) _ rfl g0 Tryz.underlying54 rfl (by kernel_rfl)) rfl ?_
  exact ⟨_, _, _, _, _, _, rfl, ⟨⟨_, _, _, _, none, 0, rfl, hA, hQ, MR.nil _⟩, i64_lit (z := 2) (by decide), i64_lit (z := 4294967296) (by decide), i64_lit (z := 1) (by decide), i64_lit (z := 1) (by decide)⟩, hB⟩
/-- A matrix of two rows, by its entries. -/
def IsG (m : Mt) : Prop := ∃ a b c d, m = G a b c d
theorem IsG.sq {m : Mt} (h : IsG m) : Sq 2 4 m := by
  obtain ⟨a, b, c, d, rfl⟩ := h
  exact Sq.of (by decide) (by decide) rfl rfl rfl rfl
def RetM (w : World) (b : Nat) (m : Mt) (e : Ending) (w' : World) : Prop := ∃ a k, e = .returned (.tuple #[.agg #[.int .i64 2, .int .i64 2, .slice a 4 k], .int .i64 0]) ∧ ML b w' a k m.v ∧ UP w' b false ∧ But b w w'
theorem cNoise {w : World} {b : Nat} (hU : UP w b false) {v : Value} {m a p t : Int} (hM : MW b w v (twoM m a (3 * p))) (hm : m.natAbs ≤ 4) (ha : 0 ≤ a ∧ a ≤ 16) (hp : 0 ≤ p ∧ p ≤ 5) (ht : 0 ≤ t ∧ t ≤ 80) :
    Calls Tryz.prog 30 #[.pointer (some ⟨b, 0, none⟩), v, .int .i64 t] w (RetM w b (noiG (m * (m * p)) (m * p) a p t)) := by
  refine (mNoise_is hU hM (Nat.zero_le _) (okM_two (by omega) ha ⟨by omega, by omega⟩) t ht.1 (by omega)).mono ?_
  rintro e w' ⟨v', rfl, hmo, hU', hB⟩
  rw [noise_two (nums_of hm (by omega) (by omega)) (show t.natAbs ≤ 80 by omega)] at hmo hU'
  obtain ⟨a', k', rfl, hL⟩ := hmo.litq (n := 2) (nn := 4) (IsG.sq ⟨_, _, _, _, rfl⟩)
  exact ⟨a', k', rfl, hL.ml hU', hU', hB⟩
theorem cFlow {w : World} {b : Nat} (hU : UP w b false) {v : Value} {m a p t : Int} (hM : MW b w v (twoM m a (3 * p))) (hm : m.natAbs ≤ 4) (ha : 0 ≤ a ∧ a ≤ 16) (hp : 0 ≤ p ∧ p ≤ 5) (ht : 0 ≤ t ∧ t ≤ 80) :
    Calls Tryz.prog 31 #[.pointer (some ⟨b, 0, none⟩), v, .int .i64 t] w (RetM w b (floG m t)) := by
  refine (mFlow_is hU hM (Nat.zero_le _) (okM_two (by omega) ha ⟨by omega, by omega⟩) t (by omega) (by omega)).mono ?_
  rintro e w' ⟨v', rfl, hmo, hU', hB⟩
  rw [flow_two hm (show t.natAbs ≤ 80 by omega)] at hmo hU'
  obtain ⟨a', k', rfl, hL⟩ := hmo.litq (n := 2) (nn := 4) (IsG.sq ⟨_, _, _, _, rfl⟩)
  exact ⟨a', k', rfl, hL.ml hU', hU', hB⟩
theorem cMul {w : World} {b : Nat} (hU : UP w b false) {m1 m2 m3 : Mt} (g1 : IsG m1) (g2 : IsG m2) (g3 : IsG m3) (hm : mulM m1 m2 = (m3, false)) {a1 a2 : Option Addr} {k1 k2 : Nat} (h1 : ML b w a1 k1 m1.v) (h2 : ML b w a2 k2 m2.v) :
    Calls Tryz.prog 33 #[.pointer (some ⟨b, 0, none⟩), .agg #[.int .i64 2, .int .i64 2, .slice a1 4 k1], .agg #[.int .i64 2, .int .i64 2, .slice a2 4 k2]] w (RetM w b m3) := by
  have q1 := g1.sq
  have q2 := g2.sq
  have h := mmul_is hU h1 h2 q1.ok q2.ok (q1.c.trans q2.r.symm)
  rw [q1.r, q1.c, q1.l, q2.r, q2.c, q2.l, hm] at h
  refine h.mono ?_
  rintro e w' ⟨v', rfl, hmo, hU', hB⟩
  obtain ⟨a', k', rfl, hL⟩ := hmo.litq g3.sq
  exact ⟨a', k', rfl, hL.ml hU', hU', hB⟩
theorem cSum {w : World} {b : Nat} (hU : UP w b false) {m1 m2 m3 : Mt} (g1 : IsG m1) (g2 : IsG m2) (g3 : IsG m3) (hm : sumM m1 m2 = (m3, false)) {a1 a2 : Option Addr} {k1 k2 : Nat} (h1 : ML b w a1 k1 m1.v) (h2 : ML b w a2 k2 m2.v) :
    Calls Tryz.prog 34 #[.pointer (some ⟨b, 0, none⟩), .agg #[.int .i64 2, .int .i64 2, .slice a1 4 k1], .agg #[.int .i64 2, .int .i64 2, .slice a2 4 k2]] w (RetM w b m3) := by
  have q1 := g1.sq
  have q2 := g2.sq
  have h := msum_is hU h1 h2 q1.ok q2.ok (q1.r.trans q2.r.symm) (q1.c.trans q2.c.symm)
  rw [q1.r, q1.c, q1.l, q2.r, q2.c, q2.l, hm] at h
  refine h.mono ?_
  rintro e w' ⟨v', rfl, hmo, hU', hB⟩
  obtain ⟨a', k', rfl, hL⟩ := hmo.litq g3.sq
  exact ⟨a', k', rfl, hL.ml hU', hU', hB⟩
theorem cTurn {w : World} {b : Nat} (hU : UP w b false) {m1 : Mt} (g1 : IsG m1) {a1 : Option Addr} {k1 : Nat} (h1 : ML b w a1 k1 m1.v) :
    Calls Tryz.prog 32 #[.agg #[.int .i64 2, .int .i64 2, .slice a1 4 k1]] w (RetM w b (turnM m1)) := by
  have q1 := g1.sq
  have h := turn_is h1.mi q1.ok
  rw [q1.r, q1.c, q1.l] at h
  refine h.mono ?_
  rintro e w' ⟨v', rfl, hmo, hB⟩
  obtain ⟨a', k', rfl, hL⟩ := hmo.litq (sq_turn (by decide) (by decide) rfl q1)
  exact ⟨a', k', rfl, hL.ml (hU.keep hB), hU.keep hB, But.of hB⟩
theorem same_m {W : World} {m : Mt} (g : IsG m) {a1 a2 : Option Addr} {k1 k2 : Nat} (h1 : MI 0 W a1 k1 m.v) (h2 : MI 0 W a2 k2 m.v) :
    Calls Tryz.prog 19 #[.agg #[.int .i64 2, .int .i64 2, .slice a1 4 k1], .agg #[.int .i64 2, .int .i64 2, .slice a2 4 k2]] W fun e w' => e = .returned (.bool true) ∧ Below W.heap.size W w' := by
  have h := sameMat_is h1 h2
  have q := g.sq
  rwa [decide_eq_true ⟨rfl, rfl, rfl⟩, q.r, q.c, q.l] at h
/-- A matrix of two rows, boxed. -/
structure BxM (b g : Nat) (a : Option Addr) (k : Nat) (m : Mt) (W : World) : Prop where
  bk : Blk W g #[.int .i64 2, .int .i64 2, .slice a 4 k] 24
  l : ML b W a k m.v
  ne : g ≠ b
theorem BxM.but {b g : Nat} {a : Option Addr} {k : Nat} {m : Mt} {W W' : World} (h : BxM b g a k m W) (hb : But b W W') : BxM b g a k m W' := ⟨hb.blk h.bk h.ne, h.l.but hb, h.ne⟩
theorem BxM.keep {b g : Nat} {a : Option Addr} {k : Nat} {m : Mt} {W W' : World} (h : BxM b g a k m W) (hb : Below W.heap.size W W') : BxM b g a k m W' := h.but (But.of hb)

set_option maxHeartbeats 16000000 in
set_option maxRecDepth 100000 in
theorem spans_walk (mv0 f0 q0 s0 t0 : Int) (w0 : World) (h1 : (Lit.int .i64 mv0).wf = true) (h2 : (Lit.int .i64 f0).wf = true) (h3 : (Lit.int .i64 q0).wf = true) (h4 : (Lit.int .i64 s0).wf = true) (h5 : (Lit.int .i64 t0).wf = true) :
    Calls Tryz.prog 5 #[.int .i64 mv0, .int .i64 f0, .int .i64 q0, .int .i64 s0, .int .i64 t0] w0 fun e w' => e = .returned (.bool true) ∧ Below w0.heap.size w0 w' := by
  clear h1 h2 h3 h4 h5
  obtain ⟨s, hs⟩ : ∃ s, pickI s0 41 = s := ⟨_, rfl⟩
  have hsb : 0 ≤ s ∧ s ≤ 40 := by have := pickI_bd (x := s0) (n := 41) (by decide); omega
  obtain ⟨t, ht⟩ : ∃ t, pickI t0 41 = t := ⟨_, rfl⟩
  have htb : 0 ≤ t ∧ t ≤ 40 := by have := pickI_bd (x := t0) (n := 41) (by decide); omega
  obtain ⟨m, hm⟩ : ∃ m, pickI mv0 9 - 4 = m := ⟨_, rfl⟩
  have hmb : m.natAbs ≤ 4 := by have := pickI_bd (x := mv0) (n := 9) (by decide); omega
  obtain ⟨a, ha⟩ : ∃ a, pickI f0 17 = a := ⟨_, rfl⟩
  have hab : 0 ≤ a ∧ a ≤ 16 := by have := pickI_bd (x := f0) (n := 17) (by decide); omega
  obtain ⟨p, hp⟩ : ∃ p, pickI q0 6 = p := ⟨_, rfl⟩
  have hpb : 0 ≤ p ∧ p ≤ 5 := by have := pickI_bd (x := q0) (n := 6) (by decide); omega
  have PS := Lib.hid (fun W => (pick_is s0 41 (by decide) (by decide) W))
  have PT := Lib.hid (fun W => (pick_is t0 41 (by decide) (by decide) W))
  have PM := Lib.hid (fun W => (pick_is mv0 9 (by decide) (by decide) W))
  have PA := Lib.hid (fun W => (pick_is f0 17 (by decide) (by decide) W))
  have PP := Lib.hid (fun W => (pick_is q0 6 (by decide) (by decide) W))
  rw [hs] at PS
  rw [ht] at PT
  rw [ha] at PA
  rw [hp] at PP
  have hw1 : IntKind.i64.wrap (pickI mv0 9 - 4) = m := by rw [hm]; exact IntWalk.i64_in _ (by omega)
  have hw2 : IntKind.i64.wrap (3 * p) = 3 * p := IntWalk.i64_in _ (by omega)
  have hw3 : IntKind.i64.wrap (s + t) = s + t := IntWalk.i64_in _ (by omega)
  have HSL := Lib.hid (span_law (m := m) (a := a) (p := p) (s := s) (t := t) hmb (by omega) (by omega) (by omega) (by omega))
  have HBL := Lib.hid (both_law (m := m) (s := s) (t := t) hmb (by omega) (by omega))
  clear hs ht hm ha hp
  go_enter Tryz.func5, Tryz.ntmps5
  go_wp2_with fail
  refine (awake11_is w0).mono ?_
  rintro e w1 ⟨rfl, hB⟩
  go_wp2_with fail
  refine (PS.out _).mono ?_
  rintro e wq ⟨rfl, hw⟩
  rw [← hw]
  clear hw wq
  go_wp2_with fail
  refine (PT.out _).mono ?_
  rintro e wq ⟨rfl, hw⟩
  rw [← hw]
  clear hw wq
  go_wp2_with fail
  refine (PM.out _).mono ?_
  rintro e wq ⟨rfl, hw⟩
  rw [← hw]
  clear hw wq
  go_wp2_with fail
  refine (PA.out _).mono ?_
  rintro e wq ⟨rfl, hw⟩
  rw [← hw]
  clear hw wq
  go_wp2_with fail
  refine (PP.out _).mono ?_
  rintro e wq ⟨rfl, hw⟩
  rw [← hw]
  clear hw wq
  have HTW := Lib.hid (two11_mm (w0 := w1) m a (3 * p) (by omega) (by omega) (by omega))
  go_wp2_with fail
  refine HTW.out.mono ?_
  rintro e w2 ⟨aA, cA, aQ, cQ, aR, cR, rfl, hMM, hK⟩
  replace hB := more hB hK
  have hBA := upA (upR w2) (Obj.cells #[Value.int .i64 2, .slice aA 4 cA, .slice aQ 2 cQ, .int .i64 4294967296, .int .i64 1, .int .i64 1, .slice aR 0 cR] 54)
  have gm := Blk.new w2 #[Value.int .i64 2, .slice aA 4 cA, .slice aQ 2 cQ, .int .i64 4294967296, .int .i64 1, .int .i64 1, .slice aR 0 cR] 54
  replace hMM := hMM.keep hBA
  replace hB := more hB hBA
  clear hK HTW
  go_wp2_with fail
  generalize w2.alloc (Obj.cells #[Value.int .i64 2, .slice aA 4 cA, .slice aQ 2 cQ, .int .i64 4294967296, .int .i64 1, .int .i64 1, .slice aR 0 cR] 54) = w3 at *
  obtain ⟨mb, hmb'⟩ : ∃ g, w2.heap.size = g := ⟨_, rfl⟩
  rw [hmb'] at gm ⊢
  clear hBA hmb'
  refine (uNew_is w3).mono ?_
  rintro e w4 ⟨rfl, hU, hK⟩
  have hMW := hMM.mw hK (Nat.le_refl _)
  have nem : mb ≠ w3.heap.size := Nat.ne_of_lt gm.lt
  have hub : w0.heap.size ≤ w3.heap.size := hB.size
  replace gm := gm.keep hK
  replace hB := more hB hK
  obtain ⟨b, hbb⟩ : ∃ b, w3.heap.size = b := ⟨_, rfl⟩
  rw [hbb] at hU hMW nem hub ⊢
  clear hbb hK hMM
  obtain ⟨L, Mv, hL1⟩ := HSL.out
  have HL := Lib.hid hL1
  clear hL1 HSL
  have d0 := gm.cell
  go_wp2_with fail
  clear d0
  refine (cNoise hU hMW hmb hab hpb ⟨hsb.1, by omega⟩).mono ?_
  rintro e W ⟨aqs, kqs, rfl, hl, hU', hK⟩
  replace gm := hK.blk gm nem
  replace hMW := hMW.but hK
  replace hB := hB.trans (hK.below hub hB.size)
  have hlt := hU'.lt
  clear hK hU
  have hBA := upA (upR W) (Obj.cells #[Value.int .i64 2, .int .i64 2, .slice aqs 4 kqs] 24)
  have bqs : BxM b W.heap.size aqs kqs (noiG (m * (m * p)) (m * p) a p s) _ := ⟨Blk.new W #[Value.int .i64 2, .int .i64 2, .slice aqs 4 kqs] 24, hl.keep hBA, Nat.ne_of_gt hlt⟩
  replace gm := gm.keep hBA
  replace hMW := hMW.keep hBA
  have hU := hU'.keep hBA
  replace hB := more hB hBA
  have d0 := gm.cell
  clear hBA hl hlt hU'
  go_wp2_with fail
  clear d0
  obtain ⟨gqs, hg⟩ : ∃ g, W.heap.size = g := ⟨_, rfl⟩
  rw [hg] at bqs ⊢
  generalize W.alloc (Obj.cells #[Value.int .i64 2, .int .i64 2, .slice aqs 4 kqs] 24) = wqs at *
  clear hg W
  refine (cNoise hU hMW hmb hab hpb ⟨htb.1, by omega⟩).mono ?_
  rintro e W ⟨aqt, kqt, rfl, hl, hU', hK⟩
  replace bqs := bqs.but hK
  replace gm := hK.blk gm nem
  replace hMW := hMW.but hK
  replace hB := hB.trans (hK.below hub hB.size)
  have hlt := hU'.lt
  clear hK hU
  have hBA := upA (upR W) (Obj.cells #[Value.int .i64 2, .int .i64 2, .slice aqt 4 kqt] 24)
  have bqt : BxM b W.heap.size aqt kqt (noiG (m * (m * p)) (m * p) a p t) _ := ⟨Blk.new W #[Value.int .i64 2, .int .i64 2, .slice aqt 4 kqt] 24, hl.keep hBA, Nat.ne_of_gt hlt⟩
  replace bqs := bqs.keep hBA
  replace gm := gm.keep hBA
  replace hMW := hMW.keep hBA
  have hU := hU'.keep hBA
  replace hB := more hB hBA
  have d0 := gm.cell
  clear hBA hl hlt hU'
  go_wp2_with fail
  clear d0
  obtain ⟨gqt, hg⟩ : ∃ g, W.heap.size = g := ⟨_, rfl⟩
  rw [hg] at bqt ⊢
  generalize W.alloc (Obj.cells #[Value.int .i64 2, .int .i64 2, .slice aqt 4 kqt] 24) = wqt at *
  clear hg W
  refine (cNoise hU hMW hmb hab hpb ⟨(by omega : 0 ≤ s + t), by omega⟩).mono ?_
  rintro e W ⟨aal, kal, rfl, hl, hU', hK⟩
  replace bqs := bqs.but hK
  replace bqt := bqt.but hK
  replace gm := hK.blk gm nem
  replace hMW := hMW.but hK
  replace hB := hB.trans (hK.below hub hB.size)
  have hlt := hU'.lt
  clear hK hU
  have hBA := upA (upR W) (Obj.cells #[Value.int .i64 2, .int .i64 2, .slice aal 4 kal] 24)
  have bal : BxM b W.heap.size aal kal (noiG (m * (m * p)) (m * p) a p (s + t)) _ := ⟨Blk.new W #[Value.int .i64 2, .int .i64 2, .slice aal 4 kal] 24, hl.keep hBA, Nat.ne_of_gt hlt⟩
  replace bqs := bqs.keep hBA
  replace bqt := bqt.keep hBA
  replace gm := gm.keep hBA
  replace hMW := hMW.keep hBA
  have hU := hU'.keep hBA
  replace hB := more hB hBA
  have d0 := gm.cell
  clear hBA hl hlt hU'
  go_wp2_with fail
  clear d0
  obtain ⟨gal, hg⟩ : ∃ g, W.heap.size = g := ⟨_, rfl⟩
  rw [hg] at bal ⊢
  generalize W.alloc (Obj.cells #[Value.int .i64 2, .int .i64 2, .slice aal 4 kal] 24) = wal at *
  clear hg W
  refine (cFlow hU hMW hmb hab hpb ⟨htb.1, by omega⟩).mono ?_
  rintro e W ⟨aft, kft, rfl, hl, hU', hK⟩
  replace bqs := bqs.but hK
  replace bqt := bqt.but hK
  replace bal := bal.but hK
  replace gm := hK.blk gm nem
  replace hMW := hMW.but hK
  replace hB := hB.trans (hK.below hub hB.size)
  have hlt := hU'.lt
  clear hK hU
  have hBA := upA (upR W) (Obj.cells #[Value.int .i64 2, .int .i64 2, .slice aft 4 kft] 24)
  have bft : BxM b W.heap.size aft kft (floG m t) _ := ⟨Blk.new W #[Value.int .i64 2, .int .i64 2, .slice aft 4 kft] 24, hl.keep hBA, Nat.ne_of_gt hlt⟩
  replace bqs := bqs.keep hBA
  replace bqt := bqt.keep hBA
  replace bal := bal.keep hBA
  replace gm := gm.keep hBA
  replace hMW := hMW.keep hBA
  have hU := hU'.keep hBA
  replace hB := more hB hBA
  have d0 := gm.cell
  clear hBA hl hlt hU'
  go_wp2_with fail
  clear d0
  obtain ⟨gft, hg⟩ : ∃ g, W.heap.size = g := ⟨_, rfl⟩
  rw [hg] at bft ⊢
  generalize W.alloc (Obj.cells #[Value.int .i64 2, .int .i64 2, .slice aft 4 kft] 24) = wft at *
  clear hg W
  refine (cFlow hU hMW hmb hab hpb ⟨hsb.1, by omega⟩).mono ?_
  rintro e W ⟨afs, kfs, rfl, hl, hU', hK⟩
  replace bqs := bqs.but hK
  replace bqt := bqt.but hK
  replace bal := bal.but hK
  replace bft := bft.but hK
  replace gm := hK.blk gm nem
  replace hMW := hMW.but hK
  replace hB := hB.trans (hK.below hub hB.size)
  have hlt := hU'.lt
  clear hK hU
  have hBA := upA (upR W) (Obj.cells #[Value.int .i64 2, .int .i64 2, .slice afs 4 kfs] 24)
  have bfs : BxM b W.heap.size afs kfs (floG m s) _ := ⟨Blk.new W #[Value.int .i64 2, .int .i64 2, .slice afs 4 kfs] 24, hl.keep hBA, Nat.ne_of_gt hlt⟩
  replace bqs := bqs.keep hBA
  replace bqt := bqt.keep hBA
  replace bal := bal.keep hBA
  replace bft := bft.keep hBA
  replace gm := gm.keep hBA
  replace hMW := hMW.keep hBA
  have hU := hU'.keep hBA
  replace hB := more hB hBA
  have d0 := gm.cell
  clear hBA hl hlt hU'
  go_wp2_with fail
  clear d0
  obtain ⟨gfs, hg⟩ : ∃ g, W.heap.size = g := ⟨_, rfl⟩
  rw [hg] at bfs ⊢
  generalize W.alloc (Obj.cells #[Value.int .i64 2, .int .i64 2, .slice afs 4 kfs] 24) = wfs at *
  clear hg W
  refine (cFlow hU hMW hmb hab hpb ⟨(by omega : 0 ≤ s + t), by omega⟩).mono ?_
  rintro e W ⟨awh, kwh, rfl, hl, hU', hK⟩
  replace bqs := bqs.but hK
  replace bqt := bqt.but hK
  replace bal := bal.but hK
  replace bft := bft.but hK
  replace bfs := bfs.but hK
  replace gm := hK.blk gm nem
  replace hMW := hMW.but hK
  replace hB := hB.trans (hK.below hub hB.size)
  have hlt := hU'.lt
  clear hK hU
  have hBA := upA (upR W) (Obj.cells #[Value.int .i64 2, .int .i64 2, .slice awh 4 kwh] 24)
  have bwh : BxM b W.heap.size awh kwh (floG m (s + t)) _ := ⟨Blk.new W #[Value.int .i64 2, .int .i64 2, .slice awh 4 kwh] 24, hl.keep hBA, Nat.ne_of_gt hlt⟩
  replace bqs := bqs.keep hBA
  replace bqt := bqt.keep hBA
  replace bal := bal.keep hBA
  replace bft := bft.keep hBA
  replace bfs := bfs.keep hBA
  replace gm := gm.keep hBA
  replace hMW := hMW.keep hBA
  have hU := hU'.keep hBA
  replace hB := more hB hBA
  have d0 := bft.bk.cell
  clear hBA hl hlt hU'
  go_wp2_with fail
  clear d0
  obtain ⟨gwh, hg⟩ : ∃ g, W.heap.size = g := ⟨_, rfl⟩
  rw [hg] at bwh ⊢
  generalize W.alloc (Obj.cells #[Value.int .i64 2, .int .i64 2, .slice awh 4 kwh] 24) = wwh at *
  clear hg W
  refine (cTurn hU ⟨_, _, _, _, rfl⟩ bft.l).mono ?_
  rintro e W ⟨atu, ktu, rfl, hl, hU', hK⟩
  replace bqs := bqs.but hK
  replace bqt := bqt.but hK
  replace bal := bal.but hK
  replace bft := bft.but hK
  replace bfs := bfs.but hK
  replace bwh := bwh.but hK
  replace gm := hK.blk gm nem
  replace hMW := hMW.but hK
  replace hB := hB.trans (hK.below hub hB.size)
  have hlt := hU'.lt
  clear hK hU
  have hBA := upA (upR W) (Obj.cells #[Value.int .i64 2, .int .i64 2, .slice atu 4 ktu] 24)
  have btu : BxM b W.heap.size atu ktu (turnM (floG m t)) _ := ⟨Blk.new W #[Value.int .i64 2, .int .i64 2, .slice atu 4 ktu] 24, hl.keep hBA, Nat.ne_of_gt hlt⟩
  replace bqs := bqs.keep hBA
  replace bqt := bqt.keep hBA
  replace bal := bal.keep hBA
  replace bft := bft.keep hBA
  replace bfs := bfs.keep hBA
  replace bwh := bwh.keep hBA
  replace gm := gm.keep hBA
  replace hMW := hMW.keep hBA
  have hU := hU'.keep hBA
  replace hB := more hB hBA
  have d0 := bft.bk.cell
  have d1 := bqs.bk.cell
  clear hBA hl hlt hU'
  go_wp2_with fail
  clear d0 d1
  obtain ⟨gtu, hg⟩ : ∃ g, W.heap.size = g := ⟨_, rfl⟩
  rw [hg] at btu ⊢
  generalize W.alloc (Obj.cells #[Value.int .i64 2, .int .i64 2, .slice atu 4 ktu] 24) = wtu at *
  clear hg W
  refine (cMul hU ⟨_, _, _, _, rfl⟩ ⟨_, _, _, _, rfl⟩ HL.out.2.2.2.1 HL.out.1 bft.l bqs.l).mono ?_
  rintro e W ⟨ale, kle, rfl, hl, hU', hK⟩
  replace bqs := bqs.but hK
  replace bqt := bqt.but hK
  replace bal := bal.but hK
  replace bft := bft.but hK
  replace bfs := bfs.but hK
  replace bwh := bwh.but hK
  replace btu := btu.but hK
  replace gm := hK.blk gm nem
  replace hMW := hMW.but hK
  replace hB := hB.trans (hK.below hub hB.size)
  have hlt := hU'.lt
  clear hK hU
  have hBA := upA (upR W) (Obj.cells #[Value.int .i64 2, .int .i64 2, .slice ale 4 kle] 24)
  have ble : BxM b W.heap.size ale kle L _ := ⟨Blk.new W #[Value.int .i64 2, .int .i64 2, .slice ale 4 kle] 24, hl.keep hBA, Nat.ne_of_gt hlt⟩
  replace bqs := bqs.keep hBA
  replace bqt := bqt.keep hBA
  replace bal := bal.keep hBA
  replace bft := bft.keep hBA
  replace bfs := bfs.keep hBA
  replace bwh := bwh.keep hBA
  replace btu := btu.keep hBA
  replace gm := gm.keep hBA
  replace hMW := hMW.keep hBA
  have hU := hU'.keep hBA
  replace hB := more hB hBA
  have d0 := ble.bk.cell
  have d1 := btu.bk.cell
  clear hBA hl hlt hU'
  go_wp2_with fail
  clear d0 d1
  obtain ⟨gle, hg⟩ : ∃ g, W.heap.size = g := ⟨_, rfl⟩
  rw [hg] at ble ⊢
  generalize W.alloc (Obj.cells #[Value.int .i64 2, .int .i64 2, .slice ale 4 kle] 24) = wle at *
  clear hg W
  clear bqs
  refine (cMul hU HL.out.2.2.2.1 ⟨_, _, _, _, turn_g _ _ _ _⟩ HL.out.2.2.2.2 HL.out.2.1 ble.l btu.l).mono ?_
  rintro e W ⟨amo, kmo, rfl, hl, hU', hK⟩
  replace bqt := bqt.but hK
  replace bal := bal.but hK
  replace bft := bft.but hK
  replace bfs := bfs.but hK
  replace bwh := bwh.but hK
  replace btu := btu.but hK
  replace ble := ble.but hK
  replace gm := hK.blk gm nem
  replace hMW := hMW.but hK
  replace hB := hB.trans (hK.below hub hB.size)
  have hlt := hU'.lt
  clear hK hU
  have hBA := upA (upR W) (Obj.cells #[Value.int .i64 2, .int .i64 2, .slice amo 4 kmo] 24)
  have bmo : BxM b W.heap.size amo kmo Mv _ := ⟨Blk.new W #[Value.int .i64 2, .int .i64 2, .slice amo 4 kmo] 24, hl.keep hBA, Nat.ne_of_gt hlt⟩
  replace bqt := bqt.keep hBA
  replace bal := bal.keep hBA
  replace bft := bft.keep hBA
  replace bfs := bfs.keep hBA
  replace bwh := bwh.keep hBA
  replace btu := btu.keep hBA
  replace ble := ble.keep hBA
  replace gm := gm.keep hBA
  replace hMW := hMW.keep hBA
  have hU := hU'.keep hBA
  replace hB := more hB hBA
  have d0 := bmo.bk.cell
  have d1 := bqt.bk.cell
  clear hBA hl hlt hU'
  go_wp2_with fail
  clear d0 d1
  obtain ⟨gmo, hg⟩ : ∃ g, W.heap.size = g := ⟨_, rfl⟩
  rw [hg] at bmo ⊢
  generalize W.alloc (Obj.cells #[Value.int .i64 2, .int .i64 2, .slice amo 4 kmo] 24) = wmo at *
  clear hg W
  clear btu ble
  refine (cSum hU HL.out.2.2.2.2 ⟨_, _, _, _, rfl⟩ ⟨_, _, _, _, rfl⟩ HL.out.2.2.1 bmo.l bqt.l).mono ?_
  rintro e W ⟨asu, ksu, rfl, hl, hU', hK⟩
  replace bqt := bqt.but hK
  replace bal := bal.but hK
  replace bft := bft.but hK
  replace bfs := bfs.but hK
  replace bwh := bwh.but hK
  replace bmo := bmo.but hK
  replace gm := hK.blk gm nem
  replace hMW := hMW.but hK
  replace hB := hB.trans (hK.below hub hB.size)
  have hlt := hU'.lt
  clear hK hU
  have hBA := upA (upR W) (Obj.cells #[Value.int .i64 2, .int .i64 2, .slice asu 4 ksu] 24)
  have bsu : BxM b W.heap.size asu ksu (noiG (m * (m * p)) (m * p) a p (s + t)) _ := ⟨Blk.new W #[Value.int .i64 2, .int .i64 2, .slice asu 4 ksu] 24, hl.keep hBA, Nat.ne_of_gt hlt⟩
  replace bqt := bqt.keep hBA
  replace bal := bal.keep hBA
  replace bft := bft.keep hBA
  replace bfs := bfs.keep hBA
  replace bwh := bwh.keep hBA
  replace bmo := bmo.keep hBA
  replace gm := gm.keep hBA
  replace hMW := hMW.keep hBA
  have hU := hU'.keep hBA
  replace hB := more hB hBA
  have d0 := bft.bk.cell
  have d1 := bfs.bk.cell
  clear hBA hl hlt hU'
  go_wp2_with fail
  clear d0 d1
  obtain ⟨gsu, hg⟩ : ∃ g, W.heap.size = g := ⟨_, rfl⟩
  rw [hg] at bsu ⊢
  generalize W.alloc (Obj.cells #[Value.int .i64 2, .int .i64 2, .slice asu 4 ksu] 24) = wsu at *
  clear hg W
  clear bqt bmo
  refine (cMul hU ⟨_, _, _, _, rfl⟩ ⟨_, _, _, _, rfl⟩ ⟨_, _, _, _, rfl⟩ HBL.out bft.l bfs.l).mono ?_
  rintro e W ⟨abo, kbo, rfl, hl, hU', hK⟩
  replace bal := bal.but hK
  replace bft := bft.but hK
  replace bfs := bfs.but hK
  replace bwh := bwh.but hK
  replace bsu := bsu.but hK
  replace gm := hK.blk gm nem
  replace hMW := hMW.but hK
  replace hB := hB.trans (hK.below hub hB.size)
  have hlt := hU'.lt
  clear hK hU
  have hBA := upA (upR W) (Obj.cells #[Value.int .i64 2, .int .i64 2, .slice abo 4 kbo] 24)
  have bbo : BxM b W.heap.size abo kbo (floG m (s + t)) _ := ⟨Blk.new W #[Value.int .i64 2, .int .i64 2, .slice abo 4 kbo] 24, hl.keep hBA, Nat.ne_of_gt hlt⟩
  replace bal := bal.keep hBA
  replace bft := bft.keep hBA
  replace bfs := bfs.keep hBA
  replace bwh := bwh.keep hBA
  replace bsu := bsu.keep hBA
  replace gm := gm.keep hBA
  replace hMW := hMW.keep hBA
  have hU := hU'.keep hBA
  replace hB := more hB hBA
  have d0 := bsu.bk.cell
  have d1 := bal.bk.cell
  clear hBA hl hlt hU'
  go_wp2_with fail
  clear d0 d1
  obtain ⟨gbo, hg⟩ : ∃ g, W.heap.size = g := ⟨_, rfl⟩
  rw [hg] at bbo ⊢
  generalize W.alloc (Obj.cells #[Value.int .i64 2, .int .i64 2, .slice abo 4 kbo] 24) = wbo at *
  clear hg W
  clear bft bfs
  refine (same_m (m := (noiG (m * (m * p)) (m * p) a p (s + t))) ⟨_, _, _, _, rfl⟩ bsu.l.mi bal.l.mi).mono ?_
  rintro e W ⟨rfl, hK⟩
  replace hB := more hB hK
  replace bbo := bbo.keep hK
  replace bwh := bwh.keep hK
  replace hU := hU.keep hK
  have d0 := bbo.bk.cell
  have d1 := bwh.bk.cell
  clear hK bsu bal gm hMW
  go_wp2_with fail
  clear d0 d1
  refine (same_m (m := floG m (s + t)) ⟨_, _, _, _, rfl⟩ bbo.l.mi bwh.l.mi).mono ?_
  rintro e W2 ⟨rfl, hK⟩
  replace hB := more hB hK
  replace hU := hU.keep hK
  clear hK bbo bwh
  go_wp2_with fail
  refine (uCut_is hU).mono ?_
  rintro e W3 ⟨rfl, hw⟩
  rw [hw] at hB
  go_wp2_with fail
  go_ret
  exact ⟨rfl, hB⟩

end Go.Proofs.YtkjbidpafnmogaaGreat.Base
