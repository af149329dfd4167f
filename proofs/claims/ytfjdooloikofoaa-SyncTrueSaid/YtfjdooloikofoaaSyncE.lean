/- sync.Clock.all: the iterator's contract. -/
import Derived.Test.YtfjdooloikofoaaSyncD
import Derived.Test.YtfjdooloikofoaaTailIn
import Derived.RangeFuncNested
import Derived.RangeFuncBound
import Derived.RangeFuncCalls
import Derived.RangeFuncLeaves
import Derived.RangeFuncFrom
import Derived.Shelf.Abstract
import Derived.Shelf.RegionOpen
import Derived.OwnWalkIn
import Derived.TacticsInMore
import Derived.LoopNIn
import Derived.LoopIn
import Derived.RegionIn
import Derived.BigRegionIn
namespace Go.Proofs.Ytfjdooloikofoaa.SyncA
open Go.RowKit Go.Shelf Go.Proofs.Ytfjdooloikofoaa.StampA
set_option linter.unusedVariables false
attribute [local go_sem] Oper.semAt_some

abbrev TSw := { x : Sw // Tm x }

/-- The i-th exchange of a clock, the first one first. -/
def nthS (g : Nat → Sw) (win f : Int) (i : Nat) : Sw := g (((f + i) % win).toNat)

/-- The exchanges of a clock are l. -/
structure Is (g : Nat → Sw) (win f : Int) (l : List TSw) : Prop where
  all : ∀ i (h : i < l.length), nthS g win f i = (l[i]).1

theorem take_snoc {α : Type} (l : List α) (k : Nat) (h : k < l.length) : l.take (k + 1) = l.take k ++ [l[k]] := by
  rw [List.take_succ_eq_append_getElem h]

set_option maxHeartbeats 2000000 in
set_option maxRecDepth 100000 in
theorem all1_in (F : Fence) (hF : Base.Free F) (n : Nat) (hro : F.round = none) (hn : 1 ≤ n) (l Bn n₀ b : Nat) (win f : Int) (g : Nat → Sw) (xs : List TSw) (J Jx : List TSw → World → Prop)
    (hY : ∀ pre x W, J pre W → pre.length < xs.length → YieldAt F (n - 1) Try.prog l #[x.1.val] W fun e W' =>
      (e = .returned (.bool true) ∧ J (pre ++ [x]) W' ∧ Below n₀ W W') ∨ (e = .returned (.bool false) ∧ Jx (pre ++ [x]) W'))
    (hJd : ∀ pre W, J pre W → J pre W.drew) (W : World) (hBn : W.cell? ⟨Bn, 0, none⟩ = some (.pointer (some ⟨b, 0, none⟩))) (hBl : Bn < n₀) (hbl : b < n₀) (hn0 : n₀ ≤ W.heap.size) (hC : Clk W b win f xs.length g)
    (hw : 1 ≤ win) (hw2 : win ≤ 32) (hf : 0 ≤ f) (hf2 : f < win) (hlen : xs.length ≤ 32) (hI : Is g win f xs) (h0 : J [] W) :
    CallsIn F n Try.prog 56 #[.func (.yield l) #[] #[], .pointer (some ⟨Bn, 0, none⟩)] W fun e W' => (∃ v, e = .returned v) ∧
      ((∃ ys, ys = xs ∧ J ys W') ∨ (∃ pre, pre <+: xs ∧ Jx pre W')) := by
  refine callsIn_of_wp Try.func56 rfl (hF.fn 56) ?_ hro
  simp only [Try.ntmps56, List.size_toArray, List.length_cons, List.length_nil, Nat.reduceAdd, Nat.reduceSub, Array.replicate_succ, Array.replicate_zero, List.push_toArray, List.append_toArray, List.nil_append, List.cons_append]
  have c0 := hC.c0
  have cf := hC.cf
  have cm := hC.cm
  gi_wp2
  gi_loopw [8] (fun v wr => ∃ k : Nat, k ≤ xs.length ∧ v = .int .i64 k ∧ J (xs.take k) wr ∧ Below n₀ W wr) (fun v wr => xs.length - (intOf v).toNat)
  case atStart => exact ⟨0, Nat.zero_le _, rfl, h0, .refl _ _⟩
  case round =>
    obtain ⟨k, hk, rfl, hJ, hB⟩ := hrel
    by_cases hlt : k < xs.length
    · have hlt' : (k : Int) < (xs.length : Int) := by omega
      have hk0 : (0 : Int) ≤ (k : Int) := by omega
      have hk32 : (k : Int) < 32 := by omega
      obtain ⟨fn, tmps, assign, body, hy, hR⟩ := hY (xs.take k) xs[k] wr.drew (hJd _ _ hJ) (by simp; omega)
      have d0 := (hB.cell (p := ⟨Bn, 0, none⟩) hBl).trans hBn
      have d1 := (hB.cell (p := ⟨b, 0, none⟩) hbl).trans c0
      have d2 := (hB.cell (p := ⟨b, 129, none⟩) hbl).trans cf
      have d3 := (hB.cell (p := ⟨b, 130, none⟩) hbl).trans cm
      obtain ⟨j, hj⟩ : ∃ j : Nat, (f + k) % win = j := ⟨((f + k) % win).toNat, by have := Int.emod_nonneg (f + k) (by omega : win ≠ 0); omega⟩
      have hj32 : j < 32 := by have := Int.emod_lt_of_pos (f + k) (by omega : 0 < win); omega
      have hjx : g j = (xs[k]).1 := by have := hI.all k hlt; unfold nthS at this; rw [hj] at this; simpa using this
      have r1 := (hB.cell (p := ⟨b, _, none⟩) hbl).trans (hC.r1 j hj32)
      have r2 := (hB.cell (p := ⟨b, _, none⟩) hbl).trans (hC.r2 j hj32)
      have r3 := (hB.cell (p := ⟨b, _, none⟩) hbl).trans (hC.r3 j hj32)
      have r4 := (hB.cell (p := ⟨b, _, none⟩) hbl).trans (hC.r4 j hj32)
      rw [hjx] at r1 r2 r3 r4
      have HT := Lib.hid (take_snoc xs k hlt)
      have HB := Lib.hid hB
      clear c0 cf cm hY hC hJ hjx hB hBn
      generalize xs[k] = x at *
      obtain ⟨⟨x1, x2, x3, x4⟩, hT⟩ := x
      unfold Sw.val at hy
      dsimp only at *
      gi_wp2
      have u1 : IntKind.i64.wrap (f + (k : Int)) = f + (k : Int) := IntWalk.i64_in _ (by omega)
      have u2 : (f + (k : Int)).tmod win = (j : Int) := by rw [Int.tmod_eq_emod_of_nonneg (by omega)]; exact hj
      have u3 : IntKind.i64.wrap (j : Int) = (j : Int) := IntWalk.i64_in _ (by omega)
      have u4 : ¬ (win = 0) := by omega
      have u5 : (j : Int) < 32 := by omega
      have u6 : 0 ≤ (j : Int) := by omega
      refine Base.wpIn_region_tail hF 17 (by kernel_rfl) (by kernel_rfl) (by kernel_rfl) ?_
      simp only [List.take_succ_cons, List.take_zero, List.drop_succ_cons, List.drop_zero]
      repeat still_step
      refine wpStill_nil ?_
      clear u1 u2 u3 u4
      gi_wp2
      refine hR.mono ?_
      rintro e W3 (⟨rfl, hJ3, hk3⟩ | ⟨rfl, hJx3⟩)
      · gi_wp2
        go_roundw
        case rel => exact ⟨k + 1, by omega, by go_num, by rw [HT.out]; exact hJ3, (HB.out.drew).trans hk3⟩
        case measure => simp [intOf]; omega
      · gi_wp2
        refine bodyPost_ret (results_none rfl _ _ _) rfl ?_
        exact ⟨⟨_, rfl⟩, .inr ⟨_, ⟨xs.drop (k + 1), by rw [← HT.out]; exact List.take_append_drop _ _⟩, hJx3⟩⟩
    · have hge : ¬ (k : Int) < (xs.length : Int) := by omega
      gi_wp2
      go_end0
      rw [List.take_of_length_le (by omega)] at hJ
      exact ⟨⟨_, rfl⟩, .inl hJ⟩

end Go.Proofs.Ytfjdooloikofoaa.SyncA
