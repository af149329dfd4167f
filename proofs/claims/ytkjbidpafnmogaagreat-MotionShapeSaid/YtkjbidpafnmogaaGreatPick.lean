/- binnaclekit.Pick. -/
import Derived.Test.YtkjbidpafnmogaaGreatPolM
namespace Go.Proofs.YtkjbidpafnmogaaGreat.Base
open Go.RowKit
set_option linter.unusedVariables false
set_option linter.unusedSimpArgs false

def pickI (x n : Int) : Int := x % n
theorem pickI_bd {x n : Int} (h : 0 < n) : 0 ≤ pickI x n ∧ pickI x n < n := ⟨Int.emod_nonneg _ (by omega), Int.emod_lt_of_pos _ h⟩
theorem pick_tmod {x n : Int} (h : 0 < n) : (0 ≤ x.tmod n ∧ x.tmod n = pickI x n) ∨ (x.tmod n < 0 ∧ x.tmod n + n = pickI x n) := by
  unfold pickI
  have h1 := Int.emod_add_mul_ediv x n
  have h2 := Int.tmod_add_mul_tdiv x n
  have h3 := Int.emod_nonneg x (show n ≠ 0 by omega)
  have h4 := Int.emod_lt_of_pos x h
  by_cases hx : 0 ≤ x
  · left; rw [Int.tmod_eq_emod_of_nonneg hx]; exact ⟨h3, rfl⟩
  · have h5 : (-x).tmod n = (-x) % n := Int.tmod_eq_emod_of_nonneg (by omega)
    rw [Int.neg_tmod] at h5
    have h6 := Int.emod_nonneg (-x) (show n ≠ 0 by omega)
    have h7 := Int.emod_lt_of_pos (-x) h
    have h8 : ((-x) % n + x % n) % n = 0 := by rw [← Int.add_emod, show -x + x = 0 by omega]; exact Int.zero_emod _
    have h9 : (-x) % n + x % n = 0 ∨ (-x) % n + x % n = n := by
      by_cases e : (-x) % n + x % n < n
      · left; rwa [Int.emod_eq_of_lt (by omega) e] at h8
      · right
        have h10 : ((-x) % n + x % n - n) % n = 0 := by rw [Int.sub_emod_right]; exact h8
        rw [Int.emod_eq_of_lt (by omega) (by omega)] at h10
        omega
    rcases h9 with e | e <;> omega
theorem pick_is (x n : Int) (h : 0 < n) (hn : n ≤ 1000000) (W : World) : Calls Tryz.prog 28 #[.int .i64 x, .int .i64 n] W fun e w' => e = .returned (.int .i64 (pickI x n)) ∧ W = w' := by
  have hp := pickI_bd (x := x) h
  have hn0 : ¬ n ≤ 0 := by omega
  have hn1 : ¬ n = 0 := by omega
  rcases pick_tmod (x := x) h with ⟨h1, h2⟩ | ⟨h1, h2⟩
  · have hw : IntKind.i64.wrap (x.tmod n) = x.tmod n := IntWalk.i64_in _ (by omega)
    have HP := Lib.hid h2
    have h3 : ¬ x.tmod n < 0 := by omega
    clear h2 hp
    go_enter Tryz.func28, Tryz.ntmps28
    go_wp2_with fail
    go_ret
    exact ⟨by rw [← HP.out]; rfl, rfl⟩
  · have hw : IntKind.i64.wrap (x.tmod n) = x.tmod n := IntWalk.i64_in _ (by omega)
    have hw2 : IntKind.i64.wrap (x.tmod n + n) = x.tmod n + n := IntWalk.i64_in _ (by omega)
    have HP := Lib.hid h2
    clear h2 hp
    go_enter Tryz.func28, Tryz.ntmps28
    go_wp2_with fail
    go_ret
    exact ⟨by rw [← HP.out]; rfl, rfl⟩

end Go.Proofs.YtkjbidpafnmogaaGreat.Base
