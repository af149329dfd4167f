/- Two small laws on matrices. -/
import Derived.Test.YtkjbidpafnmogaaGreatRefY
import Derived.Test.YtkjbidpafnmogaaGreatPolM
namespace Go.Proofs.YtkjbidpafnmogaaGreat.Base
open Go.RowKit Go Go.Shelf Go.Deep
set_option linter.unusedVariables false
set_option linter.unusedSimpArgs false

theorem mo_none (B : Nat) (W : World) : MO B W noMat ⟨0, 0, []⟩ := ⟨⟨none, 0, rfl, LI.nil B W⟩, ⟨by decide, by decide⟩, ⟨by decide, by decide⟩⟩
theorem same_mm {W : World} {m : Mt} {a1 a2 : Option Addr} {k1 k2 : Nat} (h1 : MI 0 W a1 k1 m.v) (h2 : MI 0 W a2 k2 m.v) :
    Calls Tryz.prog 19 #[.agg #[.int .i64 m.r, .int .i64 m.c, .slice a1 m.v.length k1], .agg #[.int .i64 m.r, .int .i64 m.c, .slice a2 m.v.length k2]] W fun e w' => e = .returned (.bool true) ∧ Below W.heap.size W w' := by
  have := sameMat_is (m1 := m) (m2 := m) h1 h2
  rw [decide_eq_true ⟨rfl, rfl, rfl⟩] at this
  exact this

end Go.Proofs.YtkjbidpafnmogaaGreat.Base
