/- Contracts of sync.Clock. -/
import Derived.Test.YtfjdooloikofoaaStampE
import Derived.BigRegion
namespace Go.Proofs.Ytfjdooloikofoaa.SyncA
open Go.RowKit Go.Proofs.Ytfjdooloikofoaa.StampA
set_option linter.unusedVariables false

structure Sw where
  t1 : Int
  t2 : Int
  t3 : Int
  t4 : Int

def Sw.val (x : Sw) : Value := .agg #[.int .i64 x.t1, .int .i64 x.t2, .int .i64 x.t3, .int .i64 x.t4]

/-- Block b is a clock. -/
structure Clk (w : World) (b : Nat) (win fst many : Int) (g : Nat → Sw) : Prop where
  lt : b < w.heap.size
  c0 : w.cell? ⟨b, 0, none⟩ = some (.int .i64 win)
  cf : w.cell? ⟨b, 129, none⟩ = some (.int .i64 fst)
  cm : w.cell? ⟨b, 130, none⟩ = some (.int .i64 many)
  r1 : ∀ j, j < 32 → w.cell? ⟨b, 1 + j * 4, none⟩ = some (.int .i64 (g j).t1)
  r2 : ∀ j, j < 32 → w.cell? ⟨b, 1 + j * 4 + 1, none⟩ = some (.int .i64 (g j).t2)
  r3 : ∀ j, j < 32 → w.cell? ⟨b, 1 + j * 4 + 2, none⟩ = some (.int .i64 (g j).t3)
  r4 : ∀ j, j < 32 → w.cell? ⟨b, 1 + j * 4 + 3, none⟩ = some (.int .i64 (g j).t4)
  fz : ∀ o, w.frozen? ⟨b, o, none⟩ = false

def rnd (x : Sw) : Int := x.t4 - x.t1 - (x.t3 - x.t2)

structure Tm (x : Sw) : Prop where
  a : 0 ≤ x.t1 ∧ x.t1 ≤ 1099511627776
  b : 0 ≤ x.t2 ∧ x.t2 ≤ 1099511627776
  c : 0 ≤ x.t3 ∧ x.t3 ≤ 1099511627776
  d : 0 ≤ x.t4 ∧ x.t4 ≤ 1099511627776

theorem round_any (a1 a2 a3 a4 : Int) (w : World) (h1 : 0 ≤ a1 ∧ a1 ≤ 1099511627776) (h2 : 0 ≤ a2 ∧ a2 ≤ 1099511627776) (h3 : 0 ≤ a3 ∧ a3 ≤ 1099511627776) (h4 : 0 ≤ a4 ∧ a4 ≤ 1099511627776) :
    Calls Try.prog 48 #[.agg #[.int .i64 a1, .int .i64 a2, .int .i64 a3, .int .i64 a4]] w fun e w' => e = .returned (.int .i64 (a4 - a1 - (a3 - a2))) ∧ Below w.heap.size w w' := by
  go_enter Try.func48, Try.ntmps48
  go_wp2
  go_ret
  exact ⟨rfl, (Below.refl _ _).alloc (Nat.le_refl _) _⟩

theorem offset_any (a1 a2 a3 a4 : Int) (w : World) (h1 : 0 ≤ a1 ∧ a1 ≤ 1099511627776) (h2 : 0 ≤ a2 ∧ a2 ≤ 1099511627776) (h3 : 0 ≤ a3 ∧ a3 ≤ 1099511627776) (h4 : 0 ≤ a4 ∧ a4 ≤ 1099511627776) :
    Calls Try.prog 54 #[.agg #[.int .i64 a1, .int .i64 a2, .int .i64 a3, .int .i64 a4]] w fun e w' => e = .returned (.int .i64 ((a2 - a1 + (a3 - a4)) / 2)) ∧ Below w.heap.size w w' := by
  go_enter Try.func54, Try.ntmps54
  go_wp2
  go_ret
  exact ⟨rfl, (Below.refl _ _).alloc (Nat.le_refl _) _⟩

theorem none_clk (b : Nat) (w : World) (win : Int) (hw : 1 ≤ win) (h0 : w.cell? ⟨b, 0, none⟩ = some (.int .i64 win)) :
    Calls Try.prog 47 #[.pointer (some ⟨b, 0, none⟩)] w fun e w' => e = .returned (.bool false) ∧ w = w' := by
  have hz : (win == 0) = false := by simp; omega
  go_enter Try.func47, Try.ntmps47
  go_wp2
  go_ret
  exact ⟨rfl, rfl⟩

theorem len_clk (b : Nat) (w : World) (win fst many : Int) (g : Nat → Sw) (hw : 1 ≤ win) (h : Clk w b win fst many g) :
    Calls Try.prog 36 #[.pointer (some ⟨b, 0, none⟩)] w fun e w' => e = .returned (.int .i64 many) ∧ w = w' := by
  have h0 := h.c0
  have h2 := h.cm
  clear h
  go_enter Try.func36, Try.ntmps36
  go_wp2_with (go_at_call 47; refine (none_clk _ _ _ hw h0).mono ?_; rintro e w' ⟨rfl, rfl⟩)
  go_ret
  exact ⟨rfl, rfl⟩

theorem new_bad (win : Int) (w : World) (hw : win < 1 ∨ 32 < win) :
    Calls Try.prog 30 #[.int .i64 win] w fun e w' => e = .returned (.tuple #[.pointer none, .int .i64 2]) ∧ w = w' := by
  rcases hw with hw | hw
  · go_enter Try.func30, Try.ntmps30
    go_wp2
    go_ret2
    exact ⟨rfl, rfl⟩
  · have h1 : 1 ≤ win := by omega
    go_enter Try.func30, Try.ntmps30
    go_wp2
    go_ret2
    exact ⟨rfl, rfl⟩

end Go.Proofs.Ytfjdooloikofoaa.SyncA
