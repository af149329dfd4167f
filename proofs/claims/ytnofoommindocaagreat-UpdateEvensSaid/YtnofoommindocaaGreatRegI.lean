/- The same of a region within a fence that lets everything by. No conditions. -/
import Derived.Test.YtnofoommindocaaGreatReg
import Derived.Test.YtnofoommindocaaGreatTailIn
namespace Go.Proofs.YtnofoommindocaaGreat.Base
open Go Go.RowKit
set_option linter.unusedVariables false

section
variable {P : Program} {ops : Array Oper} {Q : Exit → Act → World → Prop} {F : Fence} {n : Nat}
theorem wpIn_of_oper (hF : Free F) {o : Oper} (hd : ∀ c, o.op ≠ .defer c) {a : Act} {w : World} {K : Act → World → Prop} (h : o.wp P a w K Q) : o.wpIn F n P a w K Q := by
  unfold Oper.wp at h
  unfold Oper.wpIn
  rw [Oper.semAt_eq _ _ _ hd]
  refine ⟨fun f _ => hF.fn f, ?_⟩
  generalize (execOp a.eval o).run P w = r at h
  have hx : F.depth.isSome = true → 1 ≤ n := fun hx => (by rw [hF.depth] at hx; cases hx)
  cases r with
  | ok x w' =>
    cases x <;> simp only [Oper.upon] at h
    case value v => exact h
    case skip => exact h
    case enter f args => exact ⟨hx, hF.calls (n - 1) _ _ _ _ _ h⟩
    case defer d => exact h
    case row r args => exact ⟨hx, hF.rows (n - 1) _ _ _ _ _ h⟩
  | halt x w' =>
    cases x <;> simp only [Oper.upon] at h
    exact h
theorem wpOpIn_of_op (hF : Free F) (hd : noDefer ops.toList = true) {i : Nat} {K : Act → World → Prop} {a : Act} {w : World} (h : wpOpS P ops Q i K a w) : wpOpIn F n P ops Q i K a w := by
  unfold wpOpS at h
  unfold wpOpIn
  split
  · rename_i ho; simp only [ho] at h; exact h
  · rename_i o ho
    simp only [ho] at h
    have hmem : o ∈ ops.toList := by
      have := Array.mem_of_getElem? ho
      simpa using this
    split
    · rename_i hw
      simp only [hw, if_true] at h
      exact wpIn_of_oper hF (noDefer_of hd hmem) h
    · rename_i hw
      simp only [hw] at h
      exact ⟨fun f _ => hF.fn f, h⟩
theorem wpAnyIn_of (hF : Free F) (hd : noDefer ops.toList = true) : ∀ (fuel : Nat) (L : Array Bool) (a : Act) (w : World), wpAnyS P ops Q fuel L a w → wpAnyIn F n P .any ops Q fuel L a w
  | 0, L, a, w, h => h
  | f + 1, L, a, w, h => ⟨h.1, fun i hi => wpOpIn_mono (fun a' w' h' => wpAnyIn_of hF hd f _ a' w' h') (wpOpIn_of_op hF hd (h.2 i hi))⟩
theorem region_fpI {id : Nat} {a : Act} {w : World} (hF0 : Free F) (hm : P.follows .mixedOrders = true) (hdf : noDefer ops.toList = true) (h : wpAnyS P ops Q ops.size (Array.replicate ops.size false) a w.drew) : (Code.region id ops true).wpIn F n P Q a w :=
  wpIn_region_any hm (wpAnyIn_of hF0 hdf _ _ _ _ h)
end
end Go.Proofs.YtnofoommindocaaGreat.Base
