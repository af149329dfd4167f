/- binnaclekit: lists written over; beliefs, models copied and held side by side. -/
import Derived.Test.YtnofoommindocaaGreatKitA
import Derived.Deep.RegionWith
import Derived.Handy
namespace Go.Proofs.YtnofoommindocaaGreat.Base
open Go.RowKit
set_option linter.unusedVariables false
set_option linter.unusedSimpArgs false

theorem sameInts_same {B1 B2 : Nat} {W : World} {a b : Option Addr} {c1 c2 : Nat} {zs : List Int} (h1 : MI B1 W a c1 zs) (h2 : MI B2 W b c2 zs) :
    Calls Tryz.prog 33 #[.slice a zs.length c1, .slice b zs.length c2] W fun e w' => e = .returned (.bool true) ∧ ∃ n, w' = W.drewN n :=
  (sameInts_is h1 h2).mono fun e w' ⟨he, hn⟩ => ⟨by rw [he]; simp, hn⟩

theorem add_block (x : Addr) (k : Nat) : (x.add k).block = x.block := by unfold Addr.add; split <;> rfl
/-- The slice's elements may be written; they lie in none below block B. -/
structure WI (B : Nat) (W : World) (a : Option Addr) (n : Nat) : Prop where
  at_ : ∀ k, k < n → ∃ x : Addr, a = some x ∧ (∃ v, W.cell? (x.add k) = some v) ∧ W.frozen? (x.add k) = false ∧ B ≤ x.block
  len : n ≤ maxLen
theorem OI.wi {B : Nat} {W : World} {g cap : Nat} {zs : List Int} (h : OI B W g cap zs) : WI B W (some ⟨g, 0, none⟩) zs.length := by
  obtain ⟨cur, hb, hs, hc⟩ := h.ex
  refine ⟨fun k hk => ⟨_, rfl, ⟨.int .i64 zs[k], ?_⟩, ?_, h.lo⟩, Nat.le_trans h.fit h.len⟩
  · rw [Addr.add_lit, Nat.zero_add, hb.cell, hc k hk]
  · rw [Addr.add_lit]; exact hb.frozen _
theorem WI.set {B : Nat} {W : World} {a : Option Addr} {n : Nat} (h : WI B W a n) (y : Addr) (v : Value) : WI B (W.setCell y v) a n := by
  refine ⟨fun k hk => ?_, h.len⟩
  obtain ⟨x, hx, ⟨u, hu⟩, hf, hB⟩ := h.at_ k hk
  refine ⟨x, hx, ?_, ?_, hB⟩
  · by_cases e : x.add k = y
    · subst e
      exact ⟨v, World.cell?_setCell_same _ _ _ hu⟩
    · exact ⟨u, (World.cell?_setCell_other _ _ _ _ (Ne.symm e)).trans hu⟩
  · rw [World.frozen?_setCell]; exact hf
theorem WI.keep {B : Nat} {W W' : World} {a : Option Addr} {n : Nat} (h : WI B W a n) (hb : Below W.heap.size W W') : WI B W' a n := by
  refine ⟨fun k hk => ?_, h.len⟩
  obtain ⟨x, hx, ⟨u, hu⟩, hf, hB⟩ := h.at_ k hk
  have hl := World.block_lt_of_cell? W _ hu
  exact ⟨x, hx, ⟨u, (hb.cell hl).trans hu⟩, (World.frozen?_of_block (hb.block _ hl)).trans hf, hB⟩

set_option maxHeartbeats 1000000 in
theorem overInts_is {B : Nat} {W : World} {a : Option Addr} {n c : Nat} (h : WI B W a n) :
    Calls Tryz.prog 31 #[.slice a n c] W fun e w' => e = .returned (.tuple #[]) ∧ Below B W w' := by
  have hl := h.len
  unfold maxLen at hl
  go_enter Tryz.func31, Tryz.ntmps31
  go_wp2_with fail
  go_loopw [2] (fun i wr => ∃ (k : Nat), k ≤ n ∧ i = .int .i64 k ∧ WI B wr a n ∧ Below B W wr) (fun i _ => n - (intOf i).toNat)
  case atStart => exact ⟨0, Nat.zero_le _, rfl, h, Below.refl _ _⟩
  case round =>
    clear h
    obtain ⟨k, hk, rfl, hS, hB⟩ := hrel
    by_cases hkl : k < n
    · have hkl' : (k : Int) < (n : Int) := by omega
      have hk0 : (0 : Int) ≤ (k : Int) := by omega
      obtain ⟨x, rfl, ⟨u, hu⟩, hf, hx⟩ := hS.at_ k hkl
      go_wp2_with fail
      go_roundw
      case rel => exact ⟨k + 1, by omega, by go_num, hS.set _ _, hB.setCell (by rw [add_block]; exact hx) _⟩
      case measure => simp [intOf]; omega
    · have hge : ¬ (k : Int) < (n : Int) := by omega
      go_wp2_with fail
      go_returns
      exact ⟨rfl, hB⟩

set_option maxHeartbeats 2000000 in
theorem sameBelief_same {B1 B2 : Nat} {W : World} {v1 v2 : Value} {b : Blf} (h1 : MB B1 W v1 b) (h2 : MB B2 W v2 b) :
    Calls Tryz.prog 26 #[v1, v2] W fun e w' => e = .returned (.bool true) ∧ Below W.heap.size W w' := by
  obtain ⟨aX, cX, aP, cP, rfl, hX1, hP1⟩ := h1.ex
  obtain ⟨bX, dX, bP, dP, rfl, hX2, hP2⟩ := h2.ex
  obtain ⟨t, X, P, flag, pass, fail⟩ := b
  clear h1 h2
  dsimp only at *
  go_enter Tryz.func26, Tryz.ntmps26
  go_wp2_with fail
  have hB : ∀ o1 o2, Below W.heap.size W ((W.alloc o1).alloc o2) := fun o1 o2 => ((Below.refl _ _).alloc (Nat.le_refl _) _).alloc (by simp) _
  refine (sameInts_same (hX1.keep (hB _ _)) (hX2.keep (hB _ _))).mono ?_
  rintro e w' ⟨rfl, n, rfl⟩
  go_wp2_with fail
  refine (sameInts_same ((hP1.keep (hB _ _)).keep (below_drewN _ _)) ((hP2.keep (hB _ _)).keep (below_drewN _ _))).mono ?_
  rintro e w' ⟨rfl, m, rfl⟩
  go_wp2_with fail
  go_ret
  exact ⟨by first | rfl | simp, more (hB _ _) (below_drewN _ _)⟩

theorem longBelief_is {B : Nat} {W : World} {v : Value} {b : Blf} (h : MB B W v b) :
    Calls Tryz.prog 17 #[v] W fun e w' => e = .returned (.bool (decide (12 < b.X.length) || decide (40 < b.P.length))) ∧ Below W.heap.size W w' := by
  obtain ⟨aX, cX, aP, cP, rfl, hX1, hP1⟩ := h.ex
  have l1 := hX1.len
  have l2 := hP1.len
  unfold maxLen at l1 l2
  generalize b.X.length = n1 at *
  generalize b.P.length = n2 at *
  by_cases g1 : 12 < n1
  · have g1' : (12 : Int) < (n1 : Int) := by omega
    go_enter Tryz.func17, Tryz.ntmps17
    go_wp2
    go_ret
    exact ⟨by simp [g1], (Below.refl _ _).alloc (Nat.le_refl _) _⟩
  · have g1' : ¬ (12 : Int) < (n1 : Int) := by omega
    by_cases g2 : 40 < n2
    · have g2' : (40 : Int) < (n2 : Int) := by omega
      go_enter Tryz.func17, Tryz.ntmps17
      go_wp2
      go_ret
      exact ⟨by simp [g1, g2], (Below.refl _ _).alloc (Nat.le_refl _) _⟩
    · have g2' : ¬ (40 : Int) < (n2 : Int) := by omega
      go_enter Tryz.func17, Tryz.ntmps17
      go_wp2
      go_ret
      exact ⟨by simp [g1, g2], (Below.refl _ _).alloc (Nat.le_refl _) _⟩

theorem OI.other {B : Nat} {W : World} {g cap : Nat} {zs : List Int} (h : OI B W g cap zs) {b : Nat} (hne : g ≠ b) (o : Nat) (v : Value) : OI B (W.setCell ⟨b, o, none⟩ v) g cap zs := by
  obtain ⟨cur, hk, hs, hc⟩ := h.ex
  exact ⟨⟨cur, hk.other hne o v, hs, hc⟩, h.rng, h.fit, h.len, h.lo⟩
theorem OI.mono {B B' : Nat} {W : World} {g cap : Nat} {zs : List Int} (h : OI B W g cap zs) (hB : B' ≤ B) : OI B' W g cap zs := ⟨h.ex, h.rng, h.fit, h.len, Nat.le_trans hB h.lo⟩
/-- A belief in memory of its own. -/
structure OB (B : Nat) (W : World) (v : Value) (b : Blf) : Prop where
  ex : ∃ gX cX gP cP, v = .agg #[.int .i64 b.t, .slice (some ⟨gX, 0, none⟩) b.X.length cX, .slice (some ⟨gP, 0, none⟩) b.P.length cP, .bool b.flag, .int .i64 b.pass, .int .i64 b.fail] ∧ OI B W gX cX b.X ∧ OI B W gP cP b.P ∧ gX ≠ gP
  t : I64 b.t
  pass : I64 b.pass
  fail : I64 b.fail
theorem OB.mb {B : Nat} {W : World} {v : Value} {b : Blf} (h : OB B W v b) : MB B W v b := by
  obtain ⟨gX, cX, gP, cP, hv, h1, h2, _⟩ := h.ex
  exact ⟨⟨_, cX, _, cP, hv, h1.mi, h2.mi⟩, h.t, h.pass, h.fail⟩
theorem OB.keep {B : Nat} {W W' : World} {v : Value} {b : Blf} (h : OB B W v b) (hb : Below W.heap.size W W') : OB B W' v b := by
  obtain ⟨gX, cX, gP, cP, hv, h1, h2, hn⟩ := h.ex
  exact ⟨⟨gX, cX, gP, cP, hv, h1.keep hb, h2.keep hb, hn⟩, h.t, h.pass, h.fail⟩

set_option maxHeartbeats 2000000 in
theorem copyBelief_is {B : Nat} {W : World} {v : Value} {b : Blf} (h : MB B W v b) (h1 : b.X.length ≤ 100000) (h2 : b.P.length ≤ 100000) :
    Calls Tryz.prog 22 #[v] W fun e w' => ∃ v', e = .returned v' ∧ OB W.heap.size w' v' b ∧ Below W.heap.size W w' := by
  obtain ⟨aX, cX, aP, cP, rfl, hX, hP⟩ := h.ex
  obtain ⟨ht, hp, hf⟩ : I64 b.t ∧ I64 b.pass ∧ I64 b.fail := ⟨h.t, h.pass, h.fail⟩
  obtain ⟨t, X, P, flag, pass, fail⟩ := b
  clear h
  dsimp only at *
  have hB : ∀ o1 o2, Below W.heap.size W ((W.alloc o1).alloc o2) := fun o1 o2 => ((Below.refl _ _).alloc (Nat.le_refl _) _).alloc (by simp) _
  go_enter Tryz.func22, Tryz.ntmps22
  go_wp2_with fail
  have b1 := (Blk.new W #[Value.int IntKind.i64 t, Value.slice aX X.length cX, Value.slice aP P.length cP, Value.bool flag, Value.int IntKind.i64 pass, Value.int IntKind.i64 fail] 27).alloc (Obj.cells #[Value.int IntKind.i64 0, Value.slice none 0 0, Value.slice none 0 0, Value.bool false, Value.int IntKind.i64 0, Value.int IntKind.i64 0] 27)
  have b2 := Blk.new (W.alloc (Obj.cells #[Value.int IntKind.i64 t, Value.slice aX X.length cX, Value.slice aP P.length cP, Value.bool flag, Value.int IntKind.i64 pass, Value.int IntKind.i64 fail] 27)) #[Value.int IntKind.i64 0, Value.slice none 0 0, Value.slice none 0 0, Value.bool false, Value.int IntKind.i64 0, Value.int IntKind.i64 0] 27
  rw [World.size_alloc] at b2
  have hB1 := hB (Obj.cells #[Value.int IntKind.i64 t, Value.slice aX X.length cX, Value.slice aP P.length cP, Value.bool flag, Value.int IntKind.i64 pass, Value.int IntKind.i64 fail] 27) (Obj.cells #[Value.int IntKind.i64 0, Value.slice none 0 0, Value.slice none 0 0, Value.bool false, Value.int IntKind.i64 0, Value.int IntKind.i64 0] 27)
  clear hB
  generalize (W.alloc (Obj.cells #[Value.int IntKind.i64 t, Value.slice aX X.length cX, Value.slice aP P.length cP, Value.bool flag, Value.int IntKind.i64 pass, Value.int IntKind.i64 fail] 27)).alloc (Obj.cells #[Value.int IntKind.i64 0, Value.slice none 0 0, Value.slice none 0 0, Value.bool false, Value.int IntKind.i64 0, Value.int IntKind.i64 0] 27) = W1 at *
  refine (copyInts_is (hX.keep hB1) h1).mono ?_
  rintro e w1 ⟨g1, k1, rfl, hO1, hK1⟩
  have hlt1 := b1.lt
  have hlt2 := b2.lt
  replace b1 := b1.keep hK1
  replace b2 := b2.keep hK1
  have hB2 := more hB1 hK1
  have hg1 := hO1.lo
  clear hK1
  have q2 := b1.cell 2
  have q1 := b1.cell 1
  have f1 := b1.frozen 1
  simp only [List.getElem?_toArray, List.getElem?_cons_zero, List.getElem?_cons_succ] at q1 q2
  go_wp2_with fail
  replace b1 := b1.set 1 (.slice (some ⟨g1, 0, none⟩) X.length k1)
  replace b2 := b2.other (c := W.heap.size) (by omega) 1 (.slice (some ⟨g1, 0, none⟩) X.length k1)
  replace hO1 := hO1.other (b := W.heap.size) (by omega) 1 (.slice (some ⟨g1, 0, none⟩) X.length k1)
  have hB3 : Below W.heap.size W (w1.setCell ⟨W.heap.size, 1, none⟩ (.slice (some ⟨g1, 0, none⟩) X.length k1)) := hB2.setCell (Nat.le_refl _) _
  clear q1 q2 f1 hB2
  generalize w1.setCell ⟨W.heap.size, 1, none⟩ (.slice (some ⟨g1, 0, none⟩) X.length k1) = W2 at *
  refine (copyInts_is (hP.keep hB3) h2).mono ?_
  rintro e w2 ⟨g2, k2, rfl, hO2, hK2⟩
  have hg2 := hO2.lo
  have hg3 : g1 < W2.heap.size := by obtain ⟨_, hb, _⟩ := hO1.ex; exact hb.lt
  replace b1 := b1.keep hK2
  replace b2 := b2.keep hK2
  replace hO1 := hO1.keep hK2
  have hl1 := hB1.size
  have hl3 := hB3.size
  have hlb := b1.lt
  have hB4 := more hB3 hK2
  clear hK2 hB3
  have q0 := b1.cell 0
  have q1 := b1.cell 1
  have q2 := b1.cell 2
  have q3 := b1.cell 3
  have q4 := b1.cell 4
  have q5 := b1.cell 5
  have f2 := b1.frozen 2
  have r0 := b2.cell 0
  have r1 := b2.cell 1
  have r2 := b2.cell 2
  have r3 := b2.cell 3
  have r4 := b2.cell 4
  have r5 := b2.cell 5
  have fr := b2.frozen
  simp at q0 q1 q2 q3 q4 q5 r0 r1 r2 r3 r4 r5
  go_wp2_with fail
  have hb := ((((((b2.other (c := W.heap.size) (by omega) 2 (.slice (some ⟨g2, 0, none⟩) P.length k2)).set 0 (.int .i64 t)).set 1 (.slice (some ⟨g1, 0, none⟩) X.length k1)).set 2 (.slice (some ⟨g2, 0, none⟩) P.length k2)).set 3 (.bool flag)).set 4 (.int .i64 pass)).set 5 (.int .i64 fail)
  have o1 := (((((((hO1.other (b := W.heap.size) (by omega) 2 (.slice (some ⟨g2, 0, none⟩) P.length k2)).other (b := W.heap.size + 1) (by omega) 0 (.int .i64 t)).other (b := W.heap.size + 1) (by omega) 1 (.slice (some ⟨g1, 0, none⟩) X.length k1)).other (b := W.heap.size + 1) (by omega) 2 (.slice (some ⟨g2, 0, none⟩) P.length k2)).other (b := W.heap.size + 1) (by omega) 3 (.bool flag)).other (b := W.heap.size + 1) (by omega) 4 (.int .i64 pass)).other (b := W.heap.size + 1) (by omega) 5 (.int .i64 fail)).mono (B' := W.heap.size) (by omega)
  have o2 := (((((((hO2.other (b := W.heap.size) (by omega) 2 (.slice (some ⟨g2, 0, none⟩) P.length k2)).other (b := W.heap.size + 1) (by omega) 0 (.int .i64 t)).other (b := W.heap.size + 1) (by omega) 1 (.slice (some ⟨g1, 0, none⟩) X.length k1)).other (b := W.heap.size + 1) (by omega) 2 (.slice (some ⟨g2, 0, none⟩) P.length k2)).other (b := W.heap.size + 1) (by omega) 3 (.bool flag)).other (b := W.heap.size + 1) (by omega) 4 (.int .i64 pass)).other (b := W.heap.size + 1) (by omega) 5 (.int .i64 fail)).mono (B' := W.heap.size) (by omega)
  have hB5 : Below W.heap.size W (((((((w2.setCell ⟨W.heap.size, 2, none⟩ (.slice (some ⟨g2, 0, none⟩) P.length k2)).setCell ⟨W.heap.size + 1, 0, none⟩ (.int .i64 t)).setCell ⟨W.heap.size + 1, 1, none⟩ (.slice (some ⟨g1, 0, none⟩) X.length k1)).setCell ⟨W.heap.size + 1, 2, none⟩ (.slice (some ⟨g2, 0, none⟩) P.length k2)).setCell ⟨W.heap.size + 1, 3, none⟩ (.bool flag)).setCell ⟨W.heap.size + 1, 4, none⟩ (.int .i64 pass)).setCell ⟨W.heap.size + 1, 5, none⟩ (.int .i64 fail)) := ((((((hB4.setCell (Nat.le_refl _) _).setCell (Nat.le_succ _) _).setCell (Nat.le_succ _) _).setCell (Nat.le_succ _) _).setCell (Nat.le_succ _) _).setCell (Nat.le_succ _) _).setCell (Nat.le_succ _) _
  clear b1 b2 hO1 hO2 hB4 q0 q1 q2 q3 q4 q5 r0 r1 r2 r3 r4 r5 f2 fr
  generalize ((((((w2.setCell ⟨W.heap.size, 2, none⟩ (.slice (some ⟨g2, 0, none⟩) P.length k2)).setCell ⟨W.heap.size + 1, 0, none⟩ (.int .i64 t)).setCell ⟨W.heap.size + 1, 1, none⟩ (.slice (some ⟨g1, 0, none⟩) X.length k1)).setCell ⟨W.heap.size + 1, 2, none⟩ (.slice (some ⟨g2, 0, none⟩) P.length k2)).setCell ⟨W.heap.size + 1, 3, none⟩ (.bool flag)).setCell ⟨W.heap.size + 1, 4, none⟩ (.int .i64 pass)).setCell ⟨W.heap.size + 1, 5, none⟩ (.int .i64 fail) = W9 at *
  have q0 := hb.cell 0
  have q1 := hb.cell 1
  have q2 := hb.cell 2
  have q3 := hb.cell 3
  have q4 := hb.cell 4
  have q5 := hb.cell 5
  simp at q0 q1 q2 q3 q4 q5
  refine bodyPost_ret (v := .agg #[.int .i64 t, .slice (some ⟨g1, 0, none⟩) X.length k1, .slice (some ⟨g2, 0, none⟩) P.length k2, .bool flag, .int .i64 pass, .int .i64 fail]) (by simp [results, Tryz.results22, go_sem, q0, q1, q2, q3, q4, q5]) rfl ?_
  exact ⟨_, rfl, ⟨⟨g1, k1, g2, k2, rfl, o1, o2, by omega⟩, ht, hp, hf⟩, hB5⟩

end Go.Proofs.YtnofoommindocaaGreat.Base
