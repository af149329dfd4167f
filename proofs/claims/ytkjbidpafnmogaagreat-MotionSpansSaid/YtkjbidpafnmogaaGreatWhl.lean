/- Exact reckoning with halves and wholes; 2x2 matrices. -/
import Derived.Test.YtkjbidpafnmogaaGreatMotI
namespace Go.Proofs.YtkjbidpafnmogaaGreat.Base
open Go.RowKit Go
set_option linter.unusedVariables false
set_option linter.unusedSimpArgs false

theorem rhe_whole {a : Int} (h : 0 ≤ a) : rheI (a * 4294967296) 4294967296 = a := by
  have h1 : a * 4294967296 / 4294967296 = a := Int.mul_ediv_cancel a (by decide)
  have h2 : a * 4294967296 % 4294967296 = 0 := Int.mul_emod_left a _
  unfold rheI
  rw [h1, h2, if_neg (by unfold nearP; simp)]
theorem rnd_whole (a : Int) : rndI (a * 4294967296) 4294967296 = a := by
  unfold rndI absI
  by_cases h : a * 4294967296 < 0
  · rw [if_pos h, if_pos h, show -(a * 4294967296) = (-a) * 4294967296 by omega, rhe_whole (by omega)]; omega
  · rw [if_neg h, if_neg h, rhe_whole (by omega)]
theorem held_in {a : Int} (h : -9223372036854775807 ≤ a) : heldI a = a ∧ oddI a = false := by
  unfold heldI oddI
  rw [if_neg (by omega)]
  exact ⟨rfl, decide_eq_false (by omega)⟩
theorem fit_in {a : Int} (h : Fx a) : fitN a = a ∧ fitC a = false := by
  unfold Fx at h
  unfold fitN fitC
  rw [if_neg (by omega), if_neg (by omega), decide_eq_false (by omega), decide_eq_false (by omega)]
  exact ⟨rfl, rfl⟩
theorem op_in {g : Int → Int → Int} {a b v : Int} (ha : -9223372036854775807 ≤ a) (hb : -9223372036854775807 ≤ b) (hv : g a b = v) (h : Fx v) : opF g a b = (v, false) := by
  unfold opF
  rw [(held_in ha).1, (held_in hb).1, (held_in ha).2, (held_in hb).2, hv, (fit_in h).1, (fit_in h).2]
  rfl
theorem mul_ex {x y v : Int} (hx : Fx x) (hy : Fx y) (h : x * y = v * 4294967296) (hv : Fx v) : mulF x y = (v, false) := by
  unfold Fx at hx hy
  refine op_in hx.1 hy.1 ?_ hv
  show rndI (x * y) 4294967296 = v
  rw [h]; exact rnd_whole v
theorem add_ex {x y : Int} (hx : Fx x) (hy : Fx y) (hv : Fx (x + y)) : addF x y = (x + y, false) := by
  unfold Fx at hx hy
  exact op_in hx.1 hy.1 rfl hv
theorem fx0 : Fx 0 := by unfold Fx; omega
theorem fx1 : Fx 4294967296 := by unfold Fx; omega
theorem mul1l {y : Int} (h : Fx y) : mulF 4294967296 y = (y, false) := mul_ex fx1 h (Int.mul_comm _ _) h
theorem mul1r {y : Int} (h : Fx y) : mulF y 4294967296 = (y, false) := mul_ex h fx1 rfl h
theorem mul0l {y : Int} (h : Fx y) : mulF 0 y = (0, false) := mul_ex fx0 h (by rw [Int.zero_mul, Int.zero_mul]) fx0
theorem mul0r {y : Int} (h : Fx y) : mulF y 0 = (0, false) := mul_ex h fx0 (by rw [Int.mul_zero, Int.zero_mul]) fx0
theorem add0l {y : Int} (h : Fx y) : addF 0 y = (y, false) := by
  have := add_ex fx0 h (by rw [Int.zero_add]; exact h)
  rwa [Int.zero_add] at this
theorem divI_ex {v d : Int} (hd : 0 < d) : divI (v * d) d = v := by
  have hd' : ¬ d < 0 := by omega
  have hr : ∀ u : Int, 0 ≤ u → rheI (u * d) d = u := fun u hu => by
    unfold rheI
    rw [Int.mul_ediv_cancel u (by omega), Int.mul_emod_left, if_neg (by unfold nearP; omega)]
  unfold divI sgnI absI
  rw [if_neg hd', decide_eq_false hd']
  by_cases hv : v < 0
  · have h1 : v * d < 0 := Int.mul_neg_of_neg_of_pos hv hd
    rw [if_pos h1, decide_eq_true h1, ← Int.neg_mul, hr (-v) (by omega)]
    simp
  · have h1 : ¬ v * d < 0 := by have := Int.mul_nonneg (show 0 ≤ v by omega) (show 0 ≤ d by omega); omega
    rw [if_neg h1, decide_eq_false h1, hr v (by omega)]
    simp
theorem div_ex {z v k : Int} (hk : 0 < k) (fz : Fx z) (fw : Fx (k * 4294967296)) (h : z = v * k) (fv : Fx v) : divF z (k * 4294967296) = (v, false) := by
  unfold divF
  rw [if_neg (by omega)]
  unfold Fx at fz fw
  refine op_in fz.1 fw.1 ?_ fv
  show divI (z * 4294967296) (k * 4294967296) = v
  rw [h, Int.mul_assoc]
  exact divI_ex (by omega)
theorem abs_mul {a b : Int} {n m : Nat} (h1 : a.natAbs ≤ n) (h2 : b.natAbs ≤ m) : (a * b).natAbs ≤ n * m := by rw [Int.natAbs_mul]; exact Nat.mul_le_mul h1 h2
/-- Small: a billion. -/
def Sm (a : Int) : Prop := a.natAbs ≤ 1000000000
theorem fxw {a : Int} (h : Sm a) : Fx (a * 4294967296) := by unfold Sm at h; unfold Fx; omega
theorem fxh {a : Int} (h : Sm a) : Fx (a * 2147483648) := by unfold Sm at h; unfold Fx; omega
theorem mul_hw {a b : Int} (ha : Sm a) (hb : Sm b) (h : Sm (a * b)) : mulF (a * 2147483648) (b * 4294967296) = (a * b * 2147483648, false) := by
  refine mul_ex (fxh ha) (fxw hb) ?_ (fxh h)
  simp only [Int.mul_assoc, Int.mul_left_comm, Int.mul_comm]
theorem mul_wh {a b : Int} (ha : Sm a) (hb : Sm b) (h : Sm (a * b)) : mulF (a * 4294967296) (b * 2147483648) = (a * b * 2147483648, false) := by
  refine mul_ex (fxw ha) (fxh hb) ?_ (fxh h)
  simp only [Int.mul_assoc, Int.mul_left_comm, Int.mul_comm]
def G (a b c d : Int) : Mt := ⟨2, 2, [a, b, c, d]⟩
set_option maxHeartbeats 2000000 in
theorem mul_g {a b c d a' b' c' d' p1 p2 p3 p4 p5 p6 p7 p8 : Int} (h1 : mulF a a' = (p1, false)) (h2 : mulF b c' = (p2, false)) (h3 : mulF a b' = (p3, false)) (h4 : mulF b d' = (p4, false)) (h5 : mulF c a' = (p5, false)) (h6 : mulF d c' = (p6, false)) (h7 : mulF c b' = (p7, false)) (h8 : mulF d d' = (p8, false))
    (f1 : Fx p1) (f2 : Fx p2) (f3 : Fx p3) (f4 : Fx p4) (f5 : Fx p5) (f6 : Fx p6) (f7 : Fx p7) (f8 : Fx p8) (g1 : Fx (p1 + p2)) (g2 : Fx (p3 + p4)) (g3 : Fx (p5 + p6)) (g4 : Fx (p7 + p8)) :
    mulM (G a b c d) (G a' b' c' d') = (G (p1 + p2) (p3 + p4) (p5 + p6) (p7 + p8), false) := by
  have e1 := add_ex f1 f2 g1
  have e2 := add_ex f3 f4 g2
  have e3 := add_ex f5 f6 g3
  have e4 := add_ex f7 f8 g4
  simp [mulM, madeF, G, List.range_succ, rowL, turnM, madeM, atM, dotF, dotS, h1, h2, h3, h4, h5, h6, h7, h8, add0l, f1, f3, f5, f7, e1, e2, e3, e4]
theorem sum_g {a b c d a' b' c' d' : Int} (f1 : Fx a) (f2 : Fx b) (f3 : Fx c) (f4 : Fx d) (f1' : Fx a') (f2' : Fx b') (f3' : Fx c') (f4' : Fx d') (g1 : Fx (a + a')) (g2 : Fx (b + b')) (g3 : Fx (c + c')) (g4 : Fx (d + d')) :
    sumM (G a b c d) (G a' b' c' d') = (G (a + a') (b + b') (c + c') (d + d'), false) := by
  have e1 := add_ex f1 f1' g1
  have e2 := add_ex f2 f2' g2
  have e3 := add_ex f3 f3' g3
  have e4 := add_ex f4 f4' g4
  simp [sumM, eachM, madeF, G, List.range_succ, atM, plusL, foldF, add0l, f1, f2, f3, f4, e1, e2, e3, e4]
theorem scale_g {a b c d t x y z w : Int} (f1 : Fx a) (f2 : Fx b) (f3 : Fx c) (f4 : Fx d) (h1 : mulF a t = (x, false)) (h2 : mulF b t = (y, false)) (h3 : mulF c t = (z, false)) (h4 : mulF d t = (w, false)) : scaleM (G a b c d) t = (G x y z w, false) := by
  simp [scaleM, eachM, madeF, G, List.range_succ, atM, timesL, foldF, mul1l, f1, f2, f3, f4, h1, h2, h3, h4]
theorem turn_g (a b c d : Int) : turnM (G a b c d) = G a c b d := by
  simp [turnM, madeM, G, List.range_succ, atM]
theorem divs_g {a b c d k w x y z u : Int} (hw : wholeF k = (w, false)) (h1 : divF a w = (x, false)) (h2 : divF b w = (y, false)) (h3 : divF c w = (z, false)) (h4 : divF d w = (u, false)) : divsM (G a b c d) k = (G x y z u, false) := by
  simp [divsM, G, dvw, flw, hw, h1, h2, h3, h4]
theorem whole_t {t : Int} (h : Sm t) : wholeF t = (t * 4294967296, false) := by
  have f := fxw h
  unfold wholeF
  rw [(fit_in f).1, (fit_in f).2]
theorem span_t {t : Int} (h : Sm t) : spanM 4294967296 t = (t * 4294967296, false) := by
  have f := fxw h
  unfold spanM
  rw [whole_t h]
  simp [timesL, foldF, mul1l, mul1r, f]

end Go.Proofs.YtkjbidpafnmogaaGreat.Base
