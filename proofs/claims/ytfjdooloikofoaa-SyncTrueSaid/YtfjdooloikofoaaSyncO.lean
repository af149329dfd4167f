/- The reference's clock: its Add. -/
import Derived.Test.YtfjdooloikofoaaSyncN
namespace Go.Proofs.Ytfjdooloikofoaa.SyncA
open Go.RowKit Go.Shelf Go.Proofs.Ytfjdooloikofoaa.StampA Go.Proofs.Ytfjdooloikofoaa.Base
set_option linter.unusedVariables false
set_option linter.unusedSimpArgs false

def tmB (n : Int) : Bool := decide (0 ≤ n ∧ n ≤ 1099511627776)
theorem time_is (n : Int) (v : Bool) (h : tmB n = v) (w : World) :
    Calls Try.prog 49 #[.int .i64 n] w fun e w' => e = .returned (.bool v) ∧ w = w' :=
  (time_any n w).mono fun e w' ⟨he, hw⟩ => ⟨by rw [he, ← h]; rfl, hw⟩
theorem tm_of (n : Int) (h : tmB n = true) : 0 ≤ n ∧ n ≤ 1099511627776 := by simpa [tmB] using h

theorem rbad0 (b : Nat) (w : World) (x1 x2 x3 x4 : Int) (e0 : tmB x1 = false) :
    Calls Try.prog 33 #[.pointer (some ⟨b, 0, none⟩), .agg #[.int .i64 x1, .int .i64 x2, .int .i64 x3, .int .i64 x4]] w fun e w' => e = .returned (.int .i64 2) ∧ Below w.heap.size w w' := by
  go_enter Try.func33, Try.ntmps33
  go_wp2_with (first
    | (go_at_call 49; refine (time_is _ _ (by assumption) _).mono ?_; rintro e w' ⟨rfl, rfl⟩)
    | (go_at_call 50; refine (rround_any x1 x2 x3 x4 _ (by assumption) (by assumption) (by assumption) (by assumption)).mono ?_; rintro e w' ⟨rfl, hK⟩))
  go_ret
  exact ⟨rfl, (Below.refl _ _).alloc (Nat.le_refl _) _⟩

theorem rbad1 (b : Nat) (w : World) (x1 x2 x3 x4 : Int) (e0 : tmB x1 = true) (e1 : tmB x2 = false) :
    Calls Try.prog 33 #[.pointer (some ⟨b, 0, none⟩), .agg #[.int .i64 x1, .int .i64 x2, .int .i64 x3, .int .i64 x4]] w fun e w' => e = .returned (.int .i64 2) ∧ Below w.heap.size w w' := by
  go_enter Try.func33, Try.ntmps33
  go_wp2_with (first
    | (go_at_call 49; refine (time_is _ _ (by assumption) _).mono ?_; rintro e w' ⟨rfl, rfl⟩)
    | (go_at_call 50; refine (rround_any x1 x2 x3 x4 _ (by assumption) (by assumption) (by assumption) (by assumption)).mono ?_; rintro e w' ⟨rfl, hK⟩))
  go_ret
  exact ⟨rfl, (Below.refl _ _).alloc (Nat.le_refl _) _⟩

theorem rbad2 (b : Nat) (w : World) (x1 x2 x3 x4 : Int) (e0 : tmB x1 = true) (e1 : tmB x2 = true) (e2 : tmB x3 = false) :
    Calls Try.prog 33 #[.pointer (some ⟨b, 0, none⟩), .agg #[.int .i64 x1, .int .i64 x2, .int .i64 x3, .int .i64 x4]] w fun e w' => e = .returned (.int .i64 2) ∧ Below w.heap.size w w' := by
  go_enter Try.func33, Try.ntmps33
  go_wp2_with (first
    | (go_at_call 49; refine (time_is _ _ (by assumption) _).mono ?_; rintro e w' ⟨rfl, rfl⟩)
    | (go_at_call 50; refine (rround_any x1 x2 x3 x4 _ (by assumption) (by assumption) (by assumption) (by assumption)).mono ?_; rintro e w' ⟨rfl, hK⟩))
  go_ret
  exact ⟨rfl, (Below.refl _ _).alloc (Nat.le_refl _) _⟩

theorem rbad3 (b : Nat) (w : World) (x1 x2 x3 x4 : Int) (e0 : tmB x1 = true) (e1 : tmB x2 = true) (e2 : tmB x3 = true) (e3 : tmB x4 = false) :
    Calls Try.prog 33 #[.pointer (some ⟨b, 0, none⟩), .agg #[.int .i64 x1, .int .i64 x2, .int .i64 x3, .int .i64 x4]] w fun e w' => e = .returned (.int .i64 2) ∧ Below w.heap.size w w' := by
  go_enter Try.func33, Try.ntmps33
  go_wp2_with (first
    | (go_at_call 49; refine (time_is _ _ (by assumption) _).mono ?_; rintro e w' ⟨rfl, rfl⟩)
    | (go_at_call 50; refine (rround_any x1 x2 x3 x4 _ (by assumption) (by assumption) (by assumption) (by assumption)).mono ?_; rintro e w' ⟨rfl, hK⟩))
  go_ret
  exact ⟨rfl, (Below.refl _ _).alloc (Nat.le_refl _) _⟩

theorem rbad4 (b : Nat) (w : World) (x1 x2 x3 x4 : Int) (e0 : tmB x1 = true) (e1 : tmB x2 = true) (e2 : tmB x3 = true) (e3 : tmB x4 = true) (h4 : x4 < x1) :
    Calls Try.prog 33 #[.pointer (some ⟨b, 0, none⟩), .agg #[.int .i64 x1, .int .i64 x2, .int .i64 x3, .int .i64 x4]] w fun e w' => e = .returned (.int .i64 2) ∧ Below w.heap.size w w' := by
  go_enter Try.func33, Try.ntmps33
  go_wp2_with (first
    | (go_at_call 49; refine (time_is _ _ (by assumption) _).mono ?_; rintro e w' ⟨rfl, rfl⟩)
    | (go_at_call 50; refine (rround_any x1 x2 x3 x4 _ (by assumption) (by assumption) (by assumption) (by assumption)).mono ?_; rintro e w' ⟨rfl, hK⟩))
  go_ret
  exact ⟨rfl, (Below.refl _ _).alloc (Nat.le_refl _) _⟩

theorem rbad5 (b : Nat) (w : World) (x1 x2 x3 x4 : Int) (e0 : tmB x1 = true) (e1 : tmB x2 = true) (e2 : tmB x3 = true) (e3 : tmB x4 = true) (h4 : x1 ≤ x4) (h5 : x3 < x2) :
    Calls Try.prog 33 #[.pointer (some ⟨b, 0, none⟩), .agg #[.int .i64 x1, .int .i64 x2, .int .i64 x3, .int .i64 x4]] w fun e w' => e = .returned (.int .i64 2) ∧ Below w.heap.size w w' := by
  go_enter Try.func33, Try.ntmps33
  go_wp2_with (first
    | (go_at_call 49; refine (time_is _ _ (by assumption) _).mono ?_; rintro e w' ⟨rfl, rfl⟩)
    | (go_at_call 50; refine (rround_any x1 x2 x3 x4 _ (by assumption) (by assumption) (by assumption) (by assumption)).mono ?_; rintro e w' ⟨rfl, hK⟩))
  go_ret
  exact ⟨rfl, (Below.refl _ _).alloc (Nat.le_refl _) _⟩

theorem rbad6 (b : Nat) (w : World) (x1 x2 x3 x4 : Int) (e0 : tmB x1 = true) (e1 : tmB x2 = true) (e2 : tmB x3 = true) (e3 : tmB x4 = true) (h4 : x1 ≤ x4) (h5 : x2 ≤ x3) (h6 : x4 - x1 - (x3 - x2) < 0) :
    Calls Try.prog 33 #[.pointer (some ⟨b, 0, none⟩), .agg #[.int .i64 x1, .int .i64 x2, .int .i64 x3, .int .i64 x4]] w fun e w' => e = .returned (.int .i64 2) ∧ Below w.heap.size w w' := by
  go_enter Try.func33, Try.ntmps33
  go_wp2_with (first
    | (go_at_call 49; refine (time_is _ _ (by assumption) _).mono ?_; rintro e w' ⟨rfl, rfl⟩)
    | (go_at_call 50; refine (rround_any x1 x2 x3 x4 _ (tm_of _ e0) (tm_of _ e1) (tm_of _ e2) (tm_of _ e3)).mono ?_; rintro e w' ⟨rfl, hK⟩))
  go_ret
  exact ⟨rfl, ((Below.refl _ _).alloc (Nat.le_refl _) _).trans (hK.mono (by simp))⟩

theorem radd_bad (b : Nat) (w : World) (x : Sw) (h : ¬ okS x) :
    Calls Try.prog 33 #[.pointer (some ⟨b, 0, none⟩), x.val] w fun e w' => e = .returned (.int .i64 2) ∧ Below w.heap.size w w' := by
  obtain ⟨x1, x2, x3, x4⟩ := x
  unfold Sw.val
  dsimp only
  cases e0 : tmB x1
  · exact rbad0 b w x1 x2 x3 x4 e0
  cases e1 : tmB x2
  · exact rbad1 b w x1 x2 x3 x4 e0 e1
  cases e2 : tmB x3
  · exact rbad2 b w x1 x2 x3 x4 e0 e1 e2
  cases e3 : tmB x4
  · exact rbad3 b w x1 x2 x3 x4 e0 e1 e2 e3
  by_cases c4 : x4 < x1
  · exact rbad4 b w x1 x2 x3 x4 e0 e1 e2 e3 c4
  by_cases c5 : x3 < x2
  · exact rbad5 b w x1 x2 x3 x4 e0 e1 e2 e3 (by omega) c5
  by_cases c6 : x4 - x1 - (x3 - x2) < 0
  · exact rbad6 b w x1 x2 x3 x4 e0 e1 e2 e3 (by omega) (by omega) c6
  · exact absurd ⟨⟨tm_of _ e0, tm_of _ e1, tm_of _ e2, tm_of _ e3⟩, by simp; omega, by simp; omega, by simp [rnd]; omega⟩ h

end Go.Proofs.Ytfjdooloikofoaa.SyncA
