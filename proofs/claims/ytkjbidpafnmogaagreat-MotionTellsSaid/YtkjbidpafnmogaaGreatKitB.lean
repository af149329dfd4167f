/- binnaclekit: lists written over; beliefs, models copied and held side by side. -/
import Derived.Test.YtkjbidpafnmogaaGreatKitA
import Derived.Deep.RegionWith
import Derived.Handy
namespace Go.Proofs.YtkjbidpafnmogaaGreat.Base
open Go.RowKit
set_option linter.unusedVariables false
set_option linter.unusedSimpArgs false

theorem sameInts_same {B1 B2 : Nat} {W : World} {a b : Option Addr} {c1 c2 : Nat} {zs : List Int} (h1 : MI B1 W a c1 zs) (h2 : MI B2 W b c2 zs) :
    Calls Tryz.prog 56 #[.slice a zs.length c1, .slice b zs.length c2] W fun e w' => e = .returned (.bool true) ∧ ∃ n, w' = W.drewN n :=
  (sameInts_is h1 h2).mono fun e w' ⟨he, hn⟩ => ⟨by rw [he]; simp, hn⟩

theorem add_block (x : Addr) (k : Nat) : (x.add k).block = x.block := by unfold Addr.add; split <;> rfl
/-- The slice's elements may be written; they lie in none below block B. -/
structure WI (B : Nat) (W : World) (a : Option Addr) (n : Nat) : Prop where
  at_ : ∀ k, k < n → ∃ x : Addr, a = some x ∧ (∃ v, W.cell? (x.add k) = some v) ∧ W.frozen? (x.add k) = false ∧ B ≤ x.block
  len : n ≤ maxLen
theorem OI.wi {B : Nat} {W : World} {g cap : Nat} {zs : List Int} (h : OI B W g cap zs) : WI B W (some ⟨g, 0, none⟩) zs.length := by
  obtain ⟨cur, hb, hs, hc⟩ := h.ex
  refine ⟨fun k hk => ⟨_, rfl, ⟨.int .i64 zs[k], ?_⟩, ?_, h.lo⟩, Nat.le_trans h.fit h.len⟩
  · rw [Addr.add_lit, Nat.zero_add, hb.cell, hc k hk]
  · rw [Addr.add_lit]; exact hb.frozen _
theorem WI.set {B : Nat} {W : World} {a : Option Addr} {n : Nat} (h : WI B W a n) (y : Addr) (v : Value) : WI B (W.setCell y v) a n := by
  refine ⟨fun k hk => ?_, h.len⟩
  obtain ⟨x, hx, ⟨u, hu⟩, hf, hB⟩ := h.at_ k hk
  refine ⟨x, hx, ?_, ?_, hB⟩
  · by_cases e : x.add k = y
    · subst e
      exact ⟨v, World.cell?_setCell_same _ _ _ hu⟩
    · exact ⟨u, (World.cell?_setCell_other _ _ _ _ (Ne.symm e)).trans hu⟩
  · rw [World.frozen?_setCell]; exact hf
theorem WI.keep {B : Nat} {W W' : World} {a : Option Addr} {n : Nat} (h : WI B W a n) (hb : Below W.heap.size W W') : WI B W' a n := by
  refine ⟨fun k hk => ?_, h.len⟩
  obtain ⟨x, hx, ⟨u, hu⟩, hf, hB⟩ := h.at_ k hk
  have hl := World.block_lt_of_cell? W _ hu
  exact ⟨x, hx, ⟨u, (hb.cell hl).trans hu⟩, (World.frozen?_of_block (hb.block _ hl)).trans hf, hB⟩

set_option maxHeartbeats 1000000 in
theorem overInts_is {B : Nat} {W : World} {a : Option Addr} {n c : Nat} (h : WI B W a n) :
    Calls Tryz.prog 24 #[.slice a n c] W fun e w' => e = .returned (.tuple #[]) ∧ Below B W w' := by
  have hl := h.len
  unfold maxLen at hl
  go_enter Tryz.func24, Tryz.ntmps24
  go_wp2_with fail
  go_loopw [2] (fun i wr => ∃ (k : Nat), k ≤ n ∧ i = .int .i64 k ∧ WI B wr a n ∧ Below B W wr) (fun i _ => n - (intOf i).toNat)
  case atStart => exact ⟨0, Nat.zero_le _, rfl, h, Below.refl _ _⟩
  case round =>
    clear h
    obtain ⟨k, hk, rfl, hS, hB⟩ := hrel
    by_cases hkl : k < n
    · have hkl' : (k : Int) < (n : Int) := by omega
      have hk0 : (0 : Int) ≤ (k : Int) := by omega
      obtain ⟨x, rfl, ⟨u, hu⟩, hf, hx⟩ := hS.at_ k hkl
      go_wp2_with fail
      go_roundw
      case rel => exact ⟨k + 1, by omega, by go_num, hS.set _ _, hB.setCell (by rw [add_block]; exact hx) _⟩
      case measure => simp [intOf]; omega
    · have hge : ¬ (k : Int) < (n : Int) := by omega
      go_wp2_with fail
      go_returns
      exact ⟨rfl, hB⟩

theorem OI.other {B : Nat} {W : World} {g cap : Nat} {zs : List Int} (h : OI B W g cap zs) {b : Nat} (hne : g ≠ b) (o : Nat) (v : Value) : OI B (W.setCell ⟨b, o, none⟩ v) g cap zs := by
  obtain ⟨cur, hk, hs, hc⟩ := h.ex
  exact ⟨⟨cur, hk.other hne o v, hs, hc⟩, h.rng, h.fit, h.len, h.lo⟩
theorem OI.mono {B B' : Nat} {W : World} {g cap : Nat} {zs : List Int} (h : OI B W g cap zs) (hB : B' ≤ B) : OI B' W g cap zs := ⟨h.ex, h.rng, h.fit, h.len, Nat.le_trans hB h.lo⟩
/-- A belief in memory of its own. -/
structure OB (B : Nat) (W : World) (v : Value) (b : Blf) : Prop where
  ex : ∃ gX cX gP cP, v = .agg #[.int .i64 b.t, .slice (some ⟨gX, 0, none⟩) b.X.length cX, .slice (some ⟨gP, 0, none⟩) b.P.length cP, .bool b.flag, .int .i64 b.pass, .int .i64 b.fail] ∧ OI B W gX cX b.X ∧ OI B W gP cP b.P ∧ gX ≠ gP
  t : I64 b.t
  pass : I64 b.pass
  fail : I64 b.fail
theorem OB.mb {B : Nat} {W : World} {v : Value} {b : Blf} (h : OB B W v b) : MB B W v b := by
  obtain ⟨gX, cX, gP, cP, hv, h1, h2, _⟩ := h.ex
  exact ⟨⟨_, cX, _, cP, hv, h1.mi, h2.mi⟩, h.t, h.pass, h.fail⟩
theorem OB.keep {B : Nat} {W W' : World} {v : Value} {b : Blf} (h : OB B W v b) (hb : Below W.heap.size W W') : OB B W' v b := by
  obtain ⟨gX, cX, gP, cP, hv, h1, h2, hn⟩ := h.ex
  exact ⟨⟨gX, cX, gP, cP, hv, h1.keep hb, h2.keep hb, hn⟩, h.t, h.pass, h.fail⟩

end Go.Proofs.YtkjbidpafnmogaaGreat.Base
