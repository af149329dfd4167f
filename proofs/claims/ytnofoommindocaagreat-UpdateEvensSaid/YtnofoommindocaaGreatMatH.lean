/- mat: Sum, Scale. -/
import Derived.Test.YtnofoommindocaaGreatMatG
namespace Go.Proofs.YtnofoommindocaaGreat.Base
open Go.RowKit
set_option linter.unusedVariables false
set_option linter.unusedSimpArgs false

theorem ml_new {W : World} {b e : Nat} {zs : List Int} (h : Blk W e ((zs.map fun z => Value.int .i64 z).toArray) 3) (hn : e ≠ b) (hr : ∀ z ∈ zs, I64 z) (hl : zs.length ≤ 1000) : ML b W (some ⟨e, 0, none⟩) zs.length zs :=
  ⟨MI.of_blk h (Nat.zero_le _) hr hl, fun x hx _ => by cases hx; exact hn⟩
theorem two_i64 {x y : Int} (hx : I64 x) (hy : I64 y) : ∀ z ∈ [x, y], I64 z := fun z hz => by simp at hz; rcases hz with rfl | rfl; exact hx; exact hy

theorem sum1_is {W : World} {b : Nat} {c0 : Bool} (hU : UP W b c0) {ub : Nat} (hub : Blk W ub #[.pointer (some ⟨b, 0, none⟩)] 30) (x y : Int) (hx : I64 x) (hy : I64 y) :
    Calls Tryz.prog 135 #[.int .i64 x, .int .i64 y, .pointer (some ⟨ub, 0, none⟩)] W fun e w' => e = .returned (.int .i64 (plusL [x, y]).1) ∧ UP w' b (c0 || (plusL [x, y]).2) ∧ But b W w' := by
  have d0 := hub.cell
  have hB := upA (upR W) (Obj.cells #[Value.int .i64 x, .int .i64 y] 3)
  have hz := ml_new (b := b) (zs := [x, y]) (Blk.new W #[Value.int .i64 x, .int .i64 y] 3) (by have := hU.lt; omega) (two_i64 hx hy) (by simp)
  have hA := uAdd_is (hU.keep hB) hz
  simp only [List.length_cons, List.length_nil, Nat.zero_add, Nat.reduceAdd] at hA
  clear hz hub
  go_enter Tryz.func135, Tryz.ntmps135
  go_wp2_with fail
  refine hA.mono ?_
  rintro e w2 ⟨rfl, hU2, hB2⟩
  have hB3 := (But.of (b := b) hB).trans hB2
  clear hB hB2 hA d0
  go_wp2_with fail
  go_ret
  exact ⟨rfl, hU2, hB3⟩
theorem scale1_is {W : World} {b : Nat} {c0 : Bool} (hU : UP W b c0) {ub sb : Nat} (hub : Blk W ub #[.pointer (some ⟨b, 0, none⟩)] 30) (s : Int) (hsb : Blk W sb #[.int .i64 s] 3) (x y : Int) (hx : I64 x) (hs : I64 s) :
    Calls Tryz.prog 184 #[.int .i64 x, .int .i64 y, .pointer (some ⟨ub, 0, none⟩), .pointer (some ⟨sb, 0, none⟩)] W fun e w' => e = .returned (.int .i64 (timesL [x, s]).1) ∧ UP w' b (c0 || (timesL [x, s]).2) ∧ But b W w' := by
  have d0 := hub.cell
  have d1 := hsb.cell
  have hB := upA (upR W) (Obj.cells #[Value.int .i64 x, .int .i64 s] 3)
  have hz := ml_new (b := b) (zs := [x, s]) (Blk.new W #[Value.int .i64 x, .int .i64 s] 3) (by have := hU.lt; omega) (two_i64 hx hs) (by simp)
  have hA := uMul_is (hU.keep hB) hz
  simp only [List.length_cons, List.length_nil, Nat.zero_add, Nat.reduceAdd] at hA
  clear hz hub hsb
  go_enter Tryz.func184, Tryz.ntmps184
  go_wp2_with fail
  refine hA.mono ?_
  rintro e w2 ⟨rfl, hU2, hB2⟩
  have hB3 := (But.of (b := b) hB).trans hB2
  clear hB hB2 hA d0 d1
  go_wp2_with fail
  go_ret
  exact ⟨rfl, hU2, hB3⟩
def sumM (a b : Mt) : Mt × Bool := eachM (fun x y => plusL [x, y]) a b
def scaleM (m : Mt) (s : Int) : Mt × Bool := eachM (fun x _ => timesL [x, s]) m m

set_option maxHeartbeats 2000000 in
set_option maxRecDepth 100000 in
theorem msum_is {W : World} {b : Nat} {c0 : Bool} (hU : UP W b c0) {m1 m2 : Mt} {a1 a2 : Option Addr} {k1 k2 : Nat} (h1 : ML b W a1 k1 m1.v) (h2 : ML b W a2 k2 m2.v) (ok1 : okMt m1) (ok2 : okMt m2) (er : m1.r = m2.r) (ec : m1.c = m2.c) :
    Calls Tryz.prog 82 #[.pointer (some ⟨b, 0, none⟩), .agg #[.int .i64 m1.r, .int .i64 m1.c, .slice a1 m1.v.length k1], .agg #[.int .i64 m2.r, .int .i64 m2.c, .slice a2 m2.v.length k2]] W fun e w' => ∃ v, e = .returned (.tuple #[v, .int .i64 0]) ∧ MO W.heap.size w' v (sumM m1 m2).1 ∧ UP w' b (c0 || (sumM m1 m2).2) ∧ But b W w' := by
  have ER := Lib.hid er
  have EC := Lib.hid ec
  clear er ec
  go_enter Tryz.func82, Tryz.ntmps82
  go_wp2_with fail
  have hB := below_allocs W [Obj.cells #[Value.pointer (some ⟨b, 0, none⟩)] 30, Obj.cells #[Value.int .i64 m1.r, .int .i64 m1.c, .slice a1 m1.v.length k1] 78, Obj.cells #[Value.int .i64 m2.r, .int .i64 m2.c, .slice a2 m2.v.length k2] 78, Obj.cells #[Value.int .i64 0, .int .i64 0, .slice none 0 0] 78]
  have g0 := blk_at W [Obj.cells #[Value.pointer (some ⟨b, 0, none⟩)] 30, Obj.cells #[Value.int .i64 m1.r, .int .i64 m1.c, .slice a1 m1.v.length k1] 78, Obj.cells #[Value.int .i64 m2.r, .int .i64 m2.c, .slice a2 m2.v.length k2] 78, Obj.cells #[Value.int .i64 0, .int .i64 0, .slice none 0 0] 78] 0 _ _ rfl
  have g2 := blk_at W [Obj.cells #[Value.pointer (some ⟨b, 0, none⟩)] 30, Obj.cells #[Value.int .i64 m1.r, .int .i64 m1.c, .slice a1 m1.v.length k1] 78, Obj.cells #[Value.int .i64 m2.r, .int .i64 m2.c, .slice a2 m2.v.length k2] 78, Obj.cells #[Value.int .i64 0, .int .i64 0, .slice none 0 0] 78] 2 _ _ rfl
  have g3 := blk_at W [Obj.cells #[Value.pointer (some ⟨b, 0, none⟩)] 30, Obj.cells #[Value.int .i64 m1.r, .int .i64 m1.c, .slice a1 m1.v.length k1] 78, Obj.cells #[Value.int .i64 m2.r, .int .i64 m2.c, .slice a2 m2.v.length k2] 78, Obj.cells #[Value.int .i64 0, .int .i64 0, .slice none 0 0] 78] 3 _ _ rfl
  simp only [List.foldl_cons, List.foldl_nil, Nat.add_zero] at hB g0 g2 g3
  replace hB := hB.1
  have hbW := hU.lt
  refine (each_is (hU.keep hB) 135 (enters_of Tryz.func135 (by kernel_rfl) rfl) #[.pointer (some ⟨W.heap.size, 0, none⟩)] (h1.keep hB) (h2.keep hB) ok1 ok2 ER.out EC.out (fun x y => plusL [x, y]) (fun _ _ => plusL_fx _) (fun x y c1 W1 hx hy hB1 hU1 => sum1_is hU1 (hB1.blk g0 (Nat.ne_of_gt hbW)) x y hx hy)).mono ?_
  rintro e w3 ⟨v, rfl, hmo, hU3, hB3⟩
  obtain ⟨mm, hmm⟩ : ∃ mm, (sumM m1 m2) = mm := ⟨_, rfl⟩
  have hmm' := hmm
  unfold sumM at hmm'
  rw [hmm'] at hmo hU3
  have HMM := Lib.hid hmm
  obtain ⟨av, kv, rfl, hLI⟩ := hmo.ex
  have hsz := hB.size
  have hB4 := (But.of (b := b) hB).trans hB3
  have g5 := hB3.blk g3 (Nat.ne_of_gt (Nat.lt_add_right 3 hbW))
  have HMO := Lib.hid hmo
  clear hLI hmm hmm' hmo hB3 g0 g2 g3 hB
  obtain ⟨⟨rr, cc, vv⟩, fl⟩ := mm
  dsimp only at *
  generalize vv.length = ll at *
  go_wp2_with ((with_reducible refine at_st (p := 6) (q := 13) rfl ?_); refine ev_store rfl 78 _ _ rfl rfl g5 0 rfl rfl [.int .i64 rr, .int .i64 cc, .slice av ll kv] rfl (by kernel_rfl) rfl rfl #[.int .i64 rr, .int .i64 cc, .slice av ll kv] rfl ?_; intro w4 g6 ef hz4)
  have hmo4 := (HMO.out.eff ef (fun k hk ht => by subst hk; exact absurd (ht.inj g5.ty) (by decide))).mono hsz
  have hU4 : UP w4 b (c0 || fl) := by obtain ⟨m, hm⟩ := hU3; exact ⟨m, ef.blk hm (Nat.ne_of_lt (Nat.lt_add_right 3 hbW))⟩
  have hB5 : But b W w4 := ⟨ef.os.trans hB4.os, ef.tape.trans hB4.tape, ef.output.trans hB4.output, Nat.le_trans hB4.size ef.size, fun k hk hn => (ef.block k (Nat.lt_of_lt_of_le hk hB4.size) (fun h => absurd hk (by rw [h]; exact Nat.not_lt.2 (Nat.le_add_right _ _)))).trans (hB4.block k hk hn)⟩
  refine bodyPost_ret (results_ct (g := W.heap.size + 3) (cs := #[.int .i64 rr, .int .i64 cc, .slice av ll kv]) rfl _ _ rfl g6 Tryz.underlying78 rfl (by kernel_rfl)) rfl ?_
  exact ⟨_, rfl, by rw [HMM.out]; exact hmo4, by rw [HMM.out]; exact hU4, hB5⟩

set_option maxHeartbeats 2000000 in
set_option maxRecDepth 100000 in
theorem mscale_is {W : World} {b : Nat} {c0 : Bool} (hU : UP W b c0) {m1 : Mt} {a1 : Option Addr} {k1 : Nat} (h1 : ML b W a1 k1 m1.v) (ok1 : okMt m1) (s : Int) (hs : I64 s) :
    Calls Tryz.prog 129 #[.pointer (some ⟨b, 0, none⟩), .agg #[.int .i64 m1.r, .int .i64 m1.c, .slice a1 m1.v.length k1], .int .i64 s] W fun e w' => ∃ v, e = .returned (.tuple #[v, .int .i64 0]) ∧ MO W.heap.size w' v (scaleM m1 s).1 ∧ UP w' b (c0 || (scaleM m1 s).2) ∧ But b W w' := by
  go_enter Tryz.func129, Tryz.ntmps129
  go_wp2_with fail
  have hB := below_allocs W [Obj.cells #[Value.pointer (some ⟨b, 0, none⟩)] 30, Obj.cells #[Value.int .i64 m1.r, .int .i64 m1.c, .slice a1 m1.v.length k1] 78, Obj.cells #[Value.int .i64 s] 3, Obj.cells #[Value.int .i64 0, .int .i64 0, .slice none 0 0] 78]
  have g0 := blk_at W [Obj.cells #[Value.pointer (some ⟨b, 0, none⟩)] 30, Obj.cells #[Value.int .i64 m1.r, .int .i64 m1.c, .slice a1 m1.v.length k1] 78, Obj.cells #[Value.int .i64 s] 3, Obj.cells #[Value.int .i64 0, .int .i64 0, .slice none 0 0] 78] 0 _ _ rfl
  have g2 := blk_at W [Obj.cells #[Value.pointer (some ⟨b, 0, none⟩)] 30, Obj.cells #[Value.int .i64 m1.r, .int .i64 m1.c, .slice a1 m1.v.length k1] 78, Obj.cells #[Value.int .i64 s] 3, Obj.cells #[Value.int .i64 0, .int .i64 0, .slice none 0 0] 78] 2 _ _ rfl
  have g3 := blk_at W [Obj.cells #[Value.pointer (some ⟨b, 0, none⟩)] 30, Obj.cells #[Value.int .i64 m1.r, .int .i64 m1.c, .slice a1 m1.v.length k1] 78, Obj.cells #[Value.int .i64 s] 3, Obj.cells #[Value.int .i64 0, .int .i64 0, .slice none 0 0] 78] 3 _ _ rfl
  simp only [List.foldl_cons, List.foldl_nil, Nat.add_zero] at hB g0 g2 g3
  replace hB := hB.1
  have hbW := hU.lt
  refine (each_is (hU.keep hB) 184 (enters_of Tryz.func184 (by kernel_rfl) rfl) #[.pointer (some ⟨W.heap.size, 0, none⟩), .pointer (some ⟨W.heap.size + 2, 0, none⟩)] (h1.keep hB) (h1.keep hB) ok1 ok1 rfl rfl (fun x _ => timesL [x, s]) (fun _ _ => timesL_fx _) (fun x y c1 W1 hx hy hB1 hU1 => scale1_is hU1 (hB1.blk g0 (Nat.ne_of_gt hbW)) s (hB1.blk g2 (Nat.ne_of_gt (Nat.lt_add_right 2 hbW))) x y hx hs)).mono ?_
  rintro e w3 ⟨v, rfl, hmo, hU3, hB3⟩
  obtain ⟨mm, hmm⟩ : ∃ mm, (scaleM m1 s) = mm := ⟨_, rfl⟩
  have hmm' := hmm
  unfold scaleM at hmm'
  rw [hmm'] at hmo hU3
  have HMM := Lib.hid hmm
  obtain ⟨av, kv, rfl, hLI⟩ := hmo.ex
  have hsz := hB.size
  have hB4 := (But.of (b := b) hB).trans hB3
  have g5 := hB3.blk g3 (Nat.ne_of_gt (Nat.lt_add_right 3 hbW))
  have HMO := Lib.hid hmo
  clear hLI hmm hmm' hmo hB3 g0 g2 g3 hB
  obtain ⟨⟨rr, cc, vv⟩, fl⟩ := mm
  dsimp only at *
  generalize vv.length = ll at *
  go_wp2_with ((with_reducible refine at_st (p := 6) (q := 13) rfl ?_); refine ev_store rfl 78 _ _ rfl rfl g5 0 rfl rfl [.int .i64 rr, .int .i64 cc, .slice av ll kv] rfl (by kernel_rfl) rfl rfl #[.int .i64 rr, .int .i64 cc, .slice av ll kv] rfl ?_; intro w4 g6 ef hz4)
  have hmo4 := (HMO.out.eff ef (fun k hk ht => by subst hk; exact absurd (ht.inj g5.ty) (by decide))).mono hsz
  have hU4 : UP w4 b (c0 || fl) := by obtain ⟨m, hm⟩ := hU3; exact ⟨m, ef.blk hm (Nat.ne_of_lt (Nat.lt_add_right 3 hbW))⟩
  have hB5 : But b W w4 := ⟨ef.os.trans hB4.os, ef.tape.trans hB4.tape, ef.output.trans hB4.output, Nat.le_trans hB4.size ef.size, fun k hk hn => (ef.block k (Nat.lt_of_lt_of_le hk hB4.size) (fun h => absurd hk (by rw [h]; exact Nat.not_lt.2 (Nat.le_add_right _ _)))).trans (hB4.block k hk hn)⟩
  refine bodyPost_ret (results_ct (g := W.heap.size + 3) (cs := #[.int .i64 rr, .int .i64 cc, .slice av ll kv]) rfl _ _ rfl g6 Tryz.underlying78 rfl (by kernel_rfl)) rfl ?_
  exact ⟨_, rfl, by rw [HMM.out]; exact hmo4, by rw [HMM.out]; exact hU4, hB5⟩

end Go.Proofs.YtnofoommindocaaGreat.Base
