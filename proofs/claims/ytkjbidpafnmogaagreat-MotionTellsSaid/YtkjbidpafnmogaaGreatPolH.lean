/- slices.Backward over matrices: the iterator's contract. -/
import Derived.Test.YtkjbidpafnmogaaGreatPolG
namespace Go.Proofs.YtkjbidpafnmogaaGreat.Base
open Go.RowKit Go.Shelf Go.ChangeShapes Go.WideShapes Go.Deep
set_option linter.unusedVariables false
set_option linter.unusedSimpArgs false
attribute [local go_sem] Oper.semAt_some

/-- A matrix that is handed on, and where its list lies. -/
structure YM where
  m : Mt
  a : Option Addr
  k : Nat
deriving Inhabited
structure MFm (W : World) (x : Addr) (n : Nat) (f : Nat → YM) : Prop where
  at_ : ∀ j, j < n → W.cell? (x.add (j * 3)) = some (.int .i64 (f j).m.r) ∧ W.cell? ⟨(x.add (j * 3)).block, (x.add (j * 3)).off + 1, none⟩ = some (.int .i64 (f j).m.c) ∧
    W.cell? ⟨(x.add (j * 3)).block, (x.add (j * 3)).off + 2, none⟩ = some (.slice (f j).a (f j).m.v.length (f j).k)
theorem MFm.x {n₀ : Nat} {ex : Nat → Prop} {W W' : World} {x : Addr} {n : Nat} {f : Nat → YM} (h : MFm W x n f) (hb : BelowX n₀ ex W W') (hx : x.block < n₀ ∧ ¬ ex x.block) : MFm W' x n f := by
  have k : ∀ (y : Addr) v, y.block = x.block → W.cell? y = some v → W'.cell? y = some v := fun y v e hv => (hb.cell (by rw [e]; exact hx.1) (by rw [e]; exact hx.2)).trans hv
  refine ⟨fun j hj => ?_⟩
  obtain ⟨h1, h2, h3⟩ := h.at_ j hj
  exact ⟨k _ _ (add_block _ _) h1, k _ _ (add_block _ _) h2, k _ _ (add_block _ _) h3⟩
/-- What is handed on first, from the last one on. -/
def backL {α : Type} (f : Nat → α) (N k : Nat) : List (Nat × α) := (List.range k).map fun i => (N - 1 - i, f (N - 1 - i))
theorem backL_succ {α : Type} (f : Nat → α) (N k : Nat) : backL f N (k + 1) = backL f N k ++ [(N - 1 - k, f (N - 1 - k))] := by simp [backL, List.range_succ]
theorem backL_len {α : Type} (f : Nat → α) (N k : Nat) : (backL f N k).length = k := by simp [backL]
theorem backL_pre {α : Type} (f : Nat → α) {N k : Nat} (h : k ≤ N) : backL f N k <+: backL f N N := by
  have e : backL f N k = (backL f N N).take k := by
    unfold backL
    rw [← List.map_take, List.take_range, Nat.min_eq_left h]
  exact ⟨_, by rw [e]; exact List.take_append_drop k _⟩
def encB {α : Type} (val : α → YM) (y : Nat × α) : Array Value := #[.int .i64 y.1, .agg #[.int .i64 (val y.2).m.r, .int .i64 (val y.2).m.c, .slice (val y.2).a (val y.2).m.v.length (val y.2).k]]

set_option maxHeartbeats 4000000 in
set_option maxRecDepth 100000 in
theorem back1_in {α : Type} (val : α → YM) (ex : Nat → Prop) (F : Fence) (hF : Base.Free F) (n : Nat) (hro : F.round = none) (hn : 1 ≤ n) (l b1 n₀ : Nat) (ax : Option Addr) (N kc : Nat) (f : Nat → α) (hN : N ≤ 1000) (J Jx : List (Nat × α) → World → Prop)
    (hY : ∀ pre x W, J pre W → pre.length < N → YieldAt F (n - 1) Tryz.prog l (encB val x) W fun e W' =>
      (e = .returned (.bool true) ∧ J (pre ++ [x]) W' ∧ BelowX n₀ ex W W') ∨ (e = .returned (.bool false) ∧ Jx (pre ++ [x]) W'))
    (W : World) (hb1 : W.cell? ⟨b1, 0, none⟩ = some (.slice ax N kc)) (hl1 : b1 < n₀ ∧ ¬ ex b1) (hx : 0 < N → ∃ x, ax = some x ∧ MFm W x N (fun j => val (f j)) ∧ x.block < n₀ ∧ ¬ ex x.block) (hn0 : n₀ ≤ W.heap.size) (h0 : J [] W) :
    CallsIn F n Tryz.prog 106 #[.func (.yield l) #[] #[], .pointer (some ⟨b1, 0, none⟩)] W fun e W' => (∃ v, e = .returned v) ∧
      ((∃ ys, ys = backL f N N ∧ J ys W') ∨ (∃ pre, pre <+: backL f N N ∧ Jx pre W')) := by
  refine callsIn_of_wp Tryz.func106 rfl (hF.fn 106) ?_ hro
  simp only [Tryz.ntmps106, List.size_toArray, List.length_cons, List.length_nil, Nat.reduceAdd, Nat.reduceSub, Array.replicate_succ, Array.replicate_zero, List.push_toArray, List.append_toArray, List.nil_append, List.cons_append]
  have hw : wrap64 ((N : Int) - 1) = (N : Int) - 1 := by unfold wrap64; omega
  have HY := Lib.hid hY
  clear hY
  gi_wp2
  gi_loopw [3] (fun v wr => ∃ k : Nat, k ≤ N ∧ v = .int .i64 ((N : Int) - 1 - k) ∧ J (backL f N k) wr ∧ BelowX n₀ ex W wr) (fun v wr => (intOf v + 1).toNat)
  case atStart => exact ⟨0, Nat.zero_le _, by simp, h0, .refl _ _ _⟩
  case round =>
    obtain ⟨k, hk, rfl, hJ, hB⟩ := hrel
    by_cases hlt : k < N
    · obtain ⟨j, hj⟩ : ∃ j : Nat, N - 1 - k = j := ⟨_, rfl⟩
      have hji : (N : Int) - 1 - (k : Int) = (j : Int) := by omega
      rw [hji]
      have hjN : j < N := by omega
      obtain ⟨x, rfl, hmf, hxb⟩ := hx (by omega)
      obtain ⟨c1, c2, c3⟩ := (hmf.x hB hxb).at_ j hjN
      obtain ⟨fn, tmps, assign, body, hy, hR⟩ := HY.out (backL f N k) (j, f j) wr hJ (by rw [backL_len]; exact hlt)
      have c0 := (hB.cell (p := ⟨b1, 0, none⟩) hl1.1 hl1.2).trans hb1
      have HT := Lib.hid (show backL f N (k + 1) = backL f N k ++ [(j, f j)] by rw [backL_succ, hj])
      have HP := Lib.hid (show backL f N (k + 1) <+: backL f N N from backL_pre f (by omega))
      have HB := Lib.hid hB
      have HJ := Lib.hid hj
      have HJI := Lib.hid hji
      unfold encB at hy
      dsimp only at hy
      have hj0 : (0 : Int) ≤ (j : Int) := by omega
      have hjn' : (j : Int) < (N : Int) := by omega
      clear hJ hB hj hji
      generalize (val (f j)).m = mm at *
      gi_wp2_with fail
      refine hR.mono ?_
      rintro e W3 (⟨rfl, hJ3, hk3⟩ | ⟨rfl, hJx3⟩)
      · gi_wp2
        go_roundw
        case rel => exact ⟨k + 1, by omega, by have := HJI.out; rw [← this]; congr 1; push_cast; omega, by rw [HT.out]; exact hJ3, HB.out.trans hk3⟩
        case measure => simp [intOf]
      · gi_wp2
        refine bodyPost_ret (results_none rfl _ _ _) rfl ?_
        exact ⟨⟨_, rfl⟩, .inr ⟨_, by rw [← HT.out]; exact HP.out, hJx3⟩⟩
    · have hkN : k = N := by omega
      subst hkN
      have e1 : ((k : Nat) : Int) - 1 - (k : Int) = -1 := by omega
      rw [e1]
      gi_wp2
      go_end0
      exact ⟨⟨_, rfl⟩, .inl ⟨_, rfl, hJ⟩⟩

theorem backward_is (a : Option Addr) (n k : Nat) (w : World) :
    Calls Tryz.prog 59 #[.slice a n k] w fun e w' => e = .returned (.func (.func 106) #[] #[.pointer (some ⟨w.heap.size, 0, none⟩)]) ∧ w.alloc (.cells #[.slice a n k] 31) = w' := by
  go_enter Tryz.func59, Tryz.ntmps59
  go_wp2
  go_ret
  exact ⟨rfl, rfl⟩
theorem back_stops {α : Type} (val : α → YM) (ex : Nat → Prop) (F : Fence) (hF : Base.Free F) (n : Nat) (hro : F.round = none) (hn : 1 ≤ n) (b1 n₀ : Nat) (ax : Option Addr) (N kc : Nat) (f : Nat → α) (hN : N ≤ 1000) (w : World)
    (hb1 : w.cell? ⟨b1, 0, none⟩ = some (.slice ax N kc)) (hl1 : b1 < n₀ ∧ ¬ ex b1) (hx : 0 < N → ∃ x, ax = some x ∧ MFm w x N (fun j => val (f j)) ∧ x.block < n₀ ∧ ¬ ex x.block) (hn0 : n₀ ≤ w.heap.size) :
    SeqStopsK F n Tryz.prog 106 #[.pointer (some ⟨b1, 0, none⟩)] (encB val) (BelowX n₀ ex) (fun ys => ys = backL f N N) (fun pre => pre <+: backL f N N) N w := fun l J Jx W hW hJ _ hY h0 =>
  back1_in val ex F hF n hro hn l b1 n₀ ax N kc f hN J Jx hY W ((hW.cell (p := ⟨b1, 0, none⟩) (Nat.lt_of_lt_of_le hl1.1 hn0)).trans hb1) hl1
    (fun h => by obtain ⟨x, h1, h2, h3, h4⟩ := hx h; exact ⟨x, h1, h2.x (ex := ex) (below_x (hW.mono hn0) ex) ⟨h3, h4⟩, h3, h4⟩) (Nat.le_trans hn0 hW.size) h0

end Go.Proofs.YtkjbidpafnmogaaGreat.Base
