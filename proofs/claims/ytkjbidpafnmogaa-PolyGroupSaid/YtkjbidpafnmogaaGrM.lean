/- Flows of at most three rows of small whole numbers, exactly. Flows of three rows, exactly. Flows of at most three rows: the law of the group. -/
import Derived.Test.YtkjbidpafnmogaaUpA
import Derived.Test.YtkjbidpafnmogaaPolS
namespace Go.Proofs.Ytkjbidpafnmogaa.Base
open Go.RowKit Go
set_option linter.unusedVariables false
set_option linter.unusedSimpArgs false

theorem mul_ex {x y v : Int} (hx : Fx x) (hy : Fx y) (h : x * y = v * 4294967296) (hv : Fx v) : mulF x y = (v, false) := by
  unfold Fx at hx hy
  refine op_in hx.1 hy.1 ?_ hv
  show rndI (x * y) 4294967296 = v
  rw [h]; exact rnd_whole v
theorem add_ex {x y : Int} (hx : Fx x) (hy : Fx y) (hv : Fx (x + y)) : addF x y = (x + y, false) := by
  unfold Fx at hx hy
  exact op_in hx.1 hy.1 rfl hv
theorem fx0 : Fx 0 := by unfold Fx; omega
theorem fx1 : Fx 4294967296 := by unfold Fx; omega
theorem mul1l {y : Int} (h : Fx y) : mulF 4294967296 y = (y, false) := mul_ex fx1 h (Int.mul_comm _ _) h
theorem mul1r {y : Int} (h : Fx y) : mulF y 4294967296 = (y, false) := mul_ex h fx1 rfl h
theorem mul0l {y : Int} (h : Fx y) : mulF 0 y = (0, false) := mul_ex fx0 h (by rw [Int.zero_mul, Int.zero_mul]) fx0
theorem mul0r {y : Int} (h : Fx y) : mulF y 0 = (0, false) := mul_ex h fx0 (by rw [Int.mul_zero, Int.zero_mul]) fx0
theorem add0l {y : Int} (h : Fx y) : addF 0 y = (y, false) := by
  have := add_ex fx0 h (by rw [Int.zero_add]; exact h)
  rwa [Int.zero_add] at this
theorem add0r {y : Int} (h : Fx y) : addF y 0 = (y, false) := by
  have := add_ex h fx0 (by rw [Int.add_zero]; exact h)
  rwa [Int.add_zero] at this
/-- Nought or one in the diagonal. -/
def T3 (d a b c : Int) : Mt := ⟨3, 3, [d, a, b, 0, d, c, 0, 0, d]⟩
def T2 (d a : Int) : Mt := ⟨2, 2, [d, a, 0, d]⟩
theorem eye_3 : eyeM 3 = T3 4294967296 0 0 0 := by rfl
theorem eye_2 : eyeM 2 = T2 4294967296 0 := by rfl

set_option maxHeartbeats 2000000 in
theorem mul_u3 {a b c a' b' c' v : Int} (fa : Fx a) (fb : Fx b) (fc : Fx c) (fa' : Fx a') (fb' : Fx b') (fc' : Fx c') (hv : mulF a c' = (v, false)) (fv : Fx v) (g1 : Fx (a' + a)) (g2 : Fx (b' + v)) (g3 : Fx (b' + v + b)) (g4 : Fx (c' + c)) :
    mulM (T3 4294967296 a b c) (T3 4294967296 a' b' c') = (T3 4294967296 (a' + a) (b' + v + b) (c' + c), false) := by
  have f0 := fx0
  have f1 := fx1
  have e1 := add_ex fa' fa g1
  have e2 := add_ex fb' fv g2
  have e3 := add_ex g2 fb g3
  have e4 := add_ex fc' fc g4
  simp [mulM, madeF, T3, List.range_succ, rowL, turnM, madeM, atM, dotF, dotS, mul1l, mul1r, mul0l, mul0r, add0l, add0r, fa, fb, fc, fa', fb', fc', fv, f0, f1, hv, e1, e2, e3, e4, g1, g2, g3, g4]
set_option maxHeartbeats 2000000 in
theorem mul_e3 {a b c : Int} (fa : Fx a) (fb : Fx b) (fc : Fx c) : mulM (T3 4294967296 0 0 0) (T3 0 a b c) = (T3 0 a b c, false) := by
  have f0 := fx0
  have f1 := fx1
  simp [mulM, madeF, T3, List.range_succ, rowL, turnM, madeM, atM, dotF, dotS, mul1l, mul1r, mul0l, mul0r, add0l, add0r, fa, fb, fc, f0, f1]
set_option maxHeartbeats 2000000 in
theorem mul_n3 {a b c v : Int} (fa : Fx a) (fb : Fx b) (fc : Fx c) (hv : mulF a c = (v, false)) (fv : Fx v) : mulM (T3 0 a b c) (T3 0 a b c) = (T3 0 0 v 0, false) := by
  have f0 := fx0
  have f1 := fx1
  simp [mulM, madeF, T3, List.range_succ, rowL, turnM, madeM, atM, dotF, dotS, mul1l, mul1r, mul0l, mul0r, add0l, add0r, fa, fb, fc, f0, f1, hv, fv]
set_option maxHeartbeats 2000000 in
theorem scale_n3 {a b c t x y z : Int} (fa : Fx a) (fb : Fx b) (fc : Fx c) (ft : Fx t) (hx : mulF a t = (x, false)) (hy : mulF b t = (y, false)) (hz : mulF c t = (z, false)) : scaleM (T3 0 a b c) t = (T3 0 x y z, false) := by
  have f0 := fx0
  have f1 := fx1
  simp [scaleM, eachM, madeF, T3, List.range_succ, atM, timesL, foldF, mul1l, mul0l, fa, fb, fc, f0, f1, ft, hx, hy, hz]
set_option maxHeartbeats 2000000 in
theorem sum_n3 {d a b c d' a' b' c' d2 x y z : Int} (fd : Fx d) (fa : Fx a) (fb : Fx b) (fc : Fx c) (hd : addF d d' = (d2, false)) (hx : addF a a' = (x, false)) (hy : addF b b' = (y, false)) (hz : addF c c' = (z, false)) : sumM (T3 d a b c) (T3 d' a' b' c') = (T3 d2 x y z, false) := by
  have f0 := fx0
  simp [sumM, eachM, madeF, T3, List.range_succ, atM, plusL, foldF, add0l, add0r, fd, fa, fb, fc, f0, hd, hx, hy, hz]
theorem whole_1 : wholeF 1 = (4294967296, false) := by kernel_rfl
theorem whole_2 : wholeF 2 = (8589934592, false) := by kernel_rfl
theorem divI_ex {v d : Int} (hd : 0 < d) : divI (v * d) d = v := by
  have hd' : ¬ d < 0 := by omega
  have hr : ∀ u : Int, 0 ≤ u → rheI (u * d) d = u := fun u hu => by
    unfold rheI
    rw [Int.mul_ediv_cancel u (by omega), Int.mul_emod_left, if_neg (by unfold nearP; omega)]
  unfold divI sgnI absI
  rw [if_neg hd', decide_eq_false hd']
  by_cases hv : v < 0
  · have h1 : v * d < 0 := Int.mul_neg_of_neg_of_pos hv hd
    rw [if_pos h1, decide_eq_true h1, ← Int.neg_mul, hr (-v) (by omega)]
    simp
  · have h1 : ¬ v * d < 0 := by have := Int.mul_nonneg (show 0 ≤ v by omega) (show 0 ≤ d by omega); omega
    rw [if_neg h1, decide_eq_false h1, hr v (by omega)]
    simp
theorem div_ex {z v k : Int} (hk : 0 < k) (fz : Fx z) (fw : Fx (k * 4294967296)) (h : z = v * k) (fv : Fx v) : divF z (k * 4294967296) = (v, false) := by
  unfold divF
  rw [if_neg (by omega)]
  unfold Fx at fz fw
  refine op_in fz.1 fw.1 ?_ fv
  show divI (z * 4294967296) (k * 4294967296) = v
  rw [h, Int.mul_assoc]
  exact divI_ex (by omega)
theorem div_1 {z : Int} (fz : Fx z) : divF z 4294967296 = (z, false) := by
  have := div_ex (k := 1) (by decide) fz (by unfold Fx; omega) (Int.mul_one z).symm fz
  rwa [Int.one_mul] at this
theorem div_2 {z v : Int} (fz : Fx z) (h : z = v * 2) (fv : Fx v) : divF z 8589934592 = (v, false) := by
  have := div_ex (k := 2) (by decide) fz (by unfold Fx; omega) h fv
  rwa [show (2 : Int) * 4294967296 = 8589934592 by decide] at this
theorem divs_1 {a b c : Int} (fa : Fx a) (fb : Fx b) (fc : Fx c) : divsM (T3 0 a b c) 1 = (T3 0 a b c, false) := by
  have f0 := fx0
  simp [divsM, T3, dvw, flw, whole_1, div_1, fa, fb, fc, f0]
theorem divs_2 {z v : Int} (fz : Fx z) (h : z = v * 2) (fv : Fx v) : divsM (T3 0 0 z 0) 2 = (T3 0 0 v 0, false) := by
  have f0 := fx0
  have h0 := div_2 fx0 (Int.zero_mul 2).symm fx0
  simp [divsM, T3, dvw, flw, whole_2, h0, div_2 fz h fv]

end Go.Proofs.Ytkjbidpafnmogaa.Base
namespace Go.Proofs.Ytkjbidpafnmogaa.Base
open Go.RowKit Go
set_option linter.unusedVariables false
set_option linter.unusedSimpArgs false

/-- The corner of a flow, in halves. -/
def cornZ (A B C t : Int) : Int := (A * C * t + 2 * B) * t
def flow3 (A B C t : Int) : Mt := T3 4294967296 (A * t * 4294967296) (cornZ A B C t * 2147483648) (C * t * 4294967296)
theorem abs_mul {a b : Int} {n m : Nat} (h1 : a.natAbs ≤ n) (h2 : b.natAbs ≤ m) : (a * b).natAbs ≤ n * m := by rw [Int.natAbs_mul]; exact Nat.mul_le_mul h1 h2
theorem fxw {a : Int} (h : a.natAbs ≤ 1000000000) : Fx (a * 4294967296) := by unfold Fx; omega
theorem fxh {a : Int} (h : a.natAbs ≤ 1000000000) : Fx (a * 2147483648) := by unfold Fx; omega
theorem corn_bd {A B C t : Int} (hA : A.natAbs ≤ 9) (hB : B.natAbs ≤ 9) (hC : C.natAbs ≤ 9) (ht : t.natAbs ≤ 200) : (A * C * t + 2 * B).natAbs ≤ 16218 ∧ (cornZ A B C t).natAbs ≤ 3243600 := by
  have h1 := abs_mul (abs_mul hA hC) ht
  have h2 : (A * C * t + 2 * B).natAbs ≤ 16218 := by omega
  exact ⟨h2, abs_mul h2 ht⟩
theorem mul_ww {a b : Int} (ha : a.natAbs ≤ 20000) (hb : b.natAbs ≤ 20000) : mulF (a * 4294967296) (b * 4294967296) = (a * b * 4294967296, false) := by
  have h := abs_mul ha hb
  exact mul_whole (by unfold Sm; omega) (by unfold Sm; omega) (by unfold Sm; omega)
theorem mul_hw {a b : Int} (ha : a.natAbs ≤ 20000) (hb : b.natAbs ≤ 20000) : mulF (a * 2147483648) (b * 4294967296) = (a * b * 2147483648, false) := by
  have h := abs_mul ha hb
  refine mul_ex (fxh (by omega)) (fxw (by omega)) ?_ (fxh (by omega))
  simp only [Int.mul_assoc, Int.mul_left_comm, Int.mul_comm]
theorem flow_3 {A B C t : Int} (hA : A.natAbs ≤ 9) (hB : B.natAbs ≤ 9) (hC : C.natAbs ≤ 9) (ht : t.natAbs ≤ 200) :
    flowM (T3 0 (A * 4294967296) (B * 4294967296) (C * 4294967296)) (t * 4294967296) = (flow3 A B C t, false) := by
  have hAC := abs_mul hA hC
  have hAt := abs_mul hA ht
  have hCt := abs_mul hC ht
  have hACt := abs_mul hAC ht
  have hcb := corn_bd hA hB hC ht
  have fa := fxw (a := A) (by omega)
  have fb := fxw (a := B) (by omega)
  have fc := fxw (a := C) (by omega)
  have ft := fxw (a := t) (by omega)
  have f0 := fx0
  have t0 : termM (T3 0 (A * 4294967296) (B * 4294967296) (C * 4294967296)) 0 = (T3 4294967296 0 0 0, false) := by
    show (eyeM 3, false) = _
    rw [eye_3]
  have t1 : termM (T3 0 (A * 4294967296) (B * 4294967296) (C * 4294967296)) 1 = (T3 0 (A * 4294967296) (B * 4294967296) (C * 4294967296), false) := by
    show ((divsM (mulM (termM (T3 0 (A * 4294967296) (B * 4294967296) (C * 4294967296)) 0).1 _).1 1).1, (termM _ 0).2 || (mulM (termM (T3 0 (A * 4294967296) (B * 4294967296) (C * 4294967296)) 0).1 _).2 || (divsM (mulM (termM (T3 0 (A * 4294967296) (B * 4294967296) (C * 4294967296)) 0).1 _).1 1).2) = _
    rw [t0]
    simp only [mul_e3 fa fb fc, divs_1 fa fb fc, Bool.or_false]
  have hm := mul_n3 fa fb fc (mul_ww (by omega) (by omega)) (fxw (a := A * C) (by omega))
  have hd := divs_2 (z := A * C * 4294967296) (v := A * C * 2147483648) (fxw (by omega)) (by omega) (fxh (by omega))
  have t2 : termM (T3 0 (A * 4294967296) (B * 4294967296) (C * 4294967296)) 2 = (T3 0 0 (A * C * 2147483648) 0, false) := by
    show ((divsM (mulM (termM (T3 0 (A * 4294967296) (B * 4294967296) (C * 4294967296)) 1).1 _).1 2).1, (termM _ 1).2 || (mulM (termM (T3 0 (A * 4294967296) (B * 4294967296) (C * 4294967296)) 1).1 _).2 || (divsM (mulM (termM (T3 0 (A * 4294967296) (B * 4294967296) (C * 4294967296)) 1).1 _).1 2).2) = _
    rw [t1]
    simp only [hm, hd, Bool.or_false]
  have s1 := scale_n3 (a := 0) (b := A * C * 2147483648) (c := 0) (t := t * 4294967296) f0 (fxh (by omega)) f0 ft (mul0l ft) (mul_hw (by omega) (by omega)) (mul0l ft)
  have s2 := sum_n3 (d := 0) (d' := 0) (a := 0) (a' := A * 4294967296) (b := A * C * t * 2147483648) (b' := B * 4294967296) (c := 0) (c' := C * 4294967296) f0 f0 (fxh (by omega)) f0 (add0l f0) (add0l fa)
    (add_ex (fxh (by omega)) fb (by unfold Fx; omega)) (add0l fc)
  rw [show A * C * t * 2147483648 + B * 4294967296 = (A * C * t + 2 * B) * 2147483648 by omega] at s2
  have s3 := scale_n3 (a := A * 4294967296) (b := (A * C * t + 2 * B) * 2147483648) (c := C * 4294967296) (t := t * 4294967296) fa (fxh (by omega)) fc ft (mul_ww (by omega) (by omega)) (mul_hw (by omega) (by omega)) (mul_ww (by omega) (by omega))
  have s4 := sum_n3 (d := 0) (d' := 4294967296) (a := A * t * 4294967296) (a' := 0) (b := cornZ A B C t * 2147483648) (b' := 0) (c := C * t * 4294967296) (c' := 0) f0 (fxw (by omega)) (fxh (by omega)) (fxw (by omega)) (add0l fx1) (add0r (fxw (by omega))) (add0r (fxh (by omega))) (add0r (fxw (by omega)))
  have e : termsL (T3 0 (A * 4294967296) (B * 4294967296) (C * 4294967296)) 3 = [T3 4294967296 0 0 0, T3 0 (A * 4294967296) (B * 4294967296) (C * 4294967296), T3 0 0 (A * C * 2147483648) 0] := by
    show [(termM _ 0).1, (termM _ 1).1, (termM _ 2).1] = _
    rw [t0, t1, t2]
  unfold flowM
  show ((hornM (t * 4294967296) (termsL _ 3)).1, (termM (T3 0 (A * 4294967296) (B * 4294967296) (C * 4294967296)) 2).2 || (hornM (t * 4294967296) (termsL (T3 0 (A * 4294967296) (B * 4294967296) (C * 4294967296)) 3)).2) = _
  rw [e, t2]
  simp only [hornM, s1, s2, s3, Bool.or_false]
  rw [show (A * C * t + 2 * B) * t = cornZ A B C t from rfl, s4]
  rfl
theorem corn_add (A B C s t : Int) : cornZ A B C t + 2 * (A * s * (C * t)) + cornZ A B C s = cornZ A B C (s + t) := by
  unfold cornZ
  simp only [Int.mul_add, Int.add_mul]
  have e1 : A * C * s * t = A * s * (C * t) := by simp only [Int.mul_assoc, Int.mul_left_comm, Int.mul_comm]
  have e2 : A * C * t * s = A * s * (C * t) := by simp only [Int.mul_assoc, Int.mul_left_comm, Int.mul_comm]
  rw [e1, e2]
  omega
theorem mul_u3w {a b c a' b' c' v x y z : Int} (ha : a.natAbs ≤ 20000) (hb : b.natAbs ≤ 100000000) (hc : c.natAbs ≤ 20000) (ha' : a'.natAbs ≤ 20000) (hb' : b'.natAbs ≤ 100000000) (hc' : c'.natAbs ≤ 20000)
    (hv : a * c' = v) (hvb : v.natAbs ≤ 100000000) (ex : a' + a = x) (ey : b' + 2 * v + b = y) (ez : c' + c = z) :
    mulM (T3 4294967296 (a * 4294967296) (b * 2147483648) (c * 4294967296)) (T3 4294967296 (a' * 4294967296) (b' * 2147483648) (c' * 4294967296)) = (T3 4294967296 (x * 4294967296) (y * 2147483648) (z * 4294967296), false) := by
  have hm := mul_ww ha hc'
  rw [hv] at hm
  clear hv
  have h := mul_u3 (fxw (a := a) (by omega)) (fxh (a := b) (by omega)) (fxw (a := c) (by omega)) (fxw (a := a') (by omega)) (fxh (a := b') (by omega)) (fxw (a := c') (by omega)) hm (fxw (by omega)) (by unfold Fx; omega) (by unfold Fx; omega) (by unfold Fx; omega) (by unfold Fx; omega)
  rw [show a' * 4294967296 + a * 4294967296 = x * 4294967296 by omega, show b' * 2147483648 + v * 4294967296 + b * 2147483648 = y * 2147483648 by omega, show c' * 4294967296 + c * 4294967296 = z * 4294967296 by omega] at h
  exact h
theorem group_3 {A B C s t : Int} (hA : A.natAbs ≤ 9) (hB : B.natAbs ≤ 9) (hC : C.natAbs ≤ 9) (hs : s.natAbs ≤ 100) (ht : t.natAbs ≤ 100) : mulM (flow3 A B C s) (flow3 A B C t) = (flow3 A B C (s + t), false) := by
  have h1 := (corn_bd hA hB hC (show s.natAbs ≤ 200 by omega)).2
  have h2 := (corn_bd hA hB hC (show t.natAbs ≤ 200 by omega)).2
  have a1 := abs_mul hA hs
  have a2 := abs_mul hA ht
  have c1 := abs_mul hC hs
  have c2 := abs_mul hC ht
  have v1 := abs_mul a1 c2
  unfold flow3
  refine mul_u3w (Nat.le_trans a1 (by decide)) (Nat.le_trans h1 (by decide)) (Nat.le_trans c1 (by decide)) (Nat.le_trans a2 (by decide)) (Nat.le_trans h2 (by decide)) (Nat.le_trans c2 (by decide)) rfl (Nat.le_trans v1 (by decide)) ?_ (corn_add A B C s t) ?_
  · rw [Int.mul_add, Int.add_comm]
  · rw [Int.mul_add, Int.add_comm]
theorem flow3_0 (A B C : Int) : flow3 A B C 0 = eyeM 3 := by
  unfold flow3 cornZ
  rw [eye_3]
  simp

end Go.Proofs.Ytkjbidpafnmogaa.Base
namespace Go.Proofs.Ytkjbidpafnmogaa.Base
open Go.RowKit Go
set_option linter.unusedVariables false
set_option linter.unusedSimpArgs false

theorem mul_u2 {a a' : Int} (fa : Fx a) (fa' : Fx a') (g1 : Fx (a' + a)) : mulM (T2 4294967296 a) (T2 4294967296 a') = (T2 4294967296 (a' + a), false) := by
  have f0 := fx0
  have f1 := fx1
  have e1 := add_ex fa' fa g1
  simp [mulM, madeF, T2, List.range_succ, rowL, turnM, madeM, atM, dotF, dotS, mul1l, mul1r, mul0l, mul0r, add0l, add0r, fa, fa', f0, f1, e1, g1]
theorem mul_e2 {a : Int} (fa : Fx a) : mulM (T2 4294967296 0) (T2 0 a) = (T2 0 a, false) := by
  have f0 := fx0
  have f1 := fx1
  simp [mulM, madeF, T2, List.range_succ, rowL, turnM, madeM, atM, dotF, dotS, mul1l, mul1r, mul0l, mul0r, add0l, add0r, fa, f0, f1]
theorem scale_n2 {a t x : Int} (fa : Fx a) (ft : Fx t) (hx : mulF a t = (x, false)) : scaleM (T2 0 a) t = (T2 0 x, false) := by
  have f0 := fx0
  have f1 := fx1
  simp [scaleM, eachM, madeF, T2, List.range_succ, atM, timesL, foldF, mul1l, mul0l, fa, f0, f1, ft, hx]
theorem sum_n2 {a : Int} (fa : Fx a) : sumM (T2 0 a) (T2 4294967296 0) = (T2 4294967296 a, false) := by
  have f0 := fx0
  have f1 := fx1
  simp [sumM, eachM, madeF, T2, List.range_succ, atM, plusL, foldF, add0l, add0r, fa, f0, f1]
theorem divs_12 {a : Int} (fa : Fx a) : divsM (T2 0 a) 1 = (T2 0 a, false) := by
  have f0 := fx0
  simp [divsM, T2, dvw, flw, whole_1, div_1, fa, f0]
def flow2 (A t : Int) : Mt := T2 4294967296 (A * t * 4294967296)
theorem flow_2 {A t : Int} (hA : A.natAbs ≤ 9) (ht : t.natAbs ≤ 200) : flowM (T2 0 (A * 4294967296)) (t * 4294967296) = (flow2 A t, false) := by
  have hAt := abs_mul hA ht
  have fa := fxw (a := A) (by omega)
  have ft := fxw (a := t) (by omega)
  have t0 : termM (T2 0 (A * 4294967296)) 0 = (T2 4294967296 0, false) := by
    show (eyeM 2, false) = _
    rw [eye_2]
  have t1 : termM (T2 0 (A * 4294967296)) 1 = (T2 0 (A * 4294967296), false) := by
    show ((divsM (mulM (termM (T2 0 (A * 4294967296)) 0).1 _).1 1).1, (termM _ 0).2 || (mulM (termM (T2 0 (A * 4294967296)) 0).1 _).2 || (divsM (mulM (termM (T2 0 (A * 4294967296)) 0).1 _).1 1).2) = _
    rw [t0]
    simp only [mul_e2 fa, divs_12 fa, Bool.or_false]
  have s1 := scale_n2 (a := A * 4294967296) (t := t * 4294967296) fa ft (mul_ww (by omega) (by omega))
  have s2 := sum_n2 (a := A * t * 4294967296) (fxw (by omega))
  have e : termsL (T2 0 (A * 4294967296)) 2 = [T2 4294967296 0, T2 0 (A * 4294967296)] := by
    show [(termM _ 0).1, (termM _ 1).1] = _
    rw [t0, t1]
  unfold flowM
  show ((hornM (t * 4294967296) (termsL _ 2)).1, (termM (T2 0 (A * 4294967296)) 1).2 || (hornM (t * 4294967296) (termsL (T2 0 (A * 4294967296)) 2)).2) = _
  rw [e, t1]
  simp only [hornM, s1, s2, Bool.or_false]
  rfl
theorem group_2 {A s t : Int} (hA : A.natAbs ≤ 9) (hs : s.natAbs ≤ 100) (ht : t.natAbs ≤ 100) : mulM (flow2 A s) (flow2 A t) = (flow2 A (s + t), false) := by
  have a1 := abs_mul hA hs
  have a2 := abs_mul hA ht
  unfold flow2
  have e : A * t + A * s = A * (s + t) := by rw [Int.mul_add, Int.add_comm]
  rw [← e]
  clear e
  generalize A * t = x at *
  generalize A * s = y at *
  rw [mul_u2 (fxw (by omega)) (fxw (by omega)) (by unfold Fx; omega), show x * 4294967296 + y * 4294967296 = (x + y) * 4294967296 by omega]
theorem flow2_0 (A : Int) : flow2 A 0 = eyeM 2 := by
  unfold flow2
  rw [eye_2]
  simp
def T1 (d : Int) : Mt := ⟨1, 1, [d]⟩
theorem eye_1 : eyeM 1 = T1 4294967296 := by rfl
theorem flow_1 (t : Int) : flowM (T1 0) t = (T1 4294967296, false) := by
  have t0 : termM (T1 0) 0 = (T1 4294967296, false) := by
    show (eyeM 1, false) = _
    rw [eye_1]
  have e : termsL (T1 0) 1 = [T1 4294967296] := by
    show [(termM _ 0).1] = _
    rw [t0]
  unfold flowM
  show ((hornM t (termsL _ 1)).1, (termM (T1 0) 0).2 || (hornM t (termsL (T1 0) 1)).2) = _
  rw [e, t0]
  rfl
theorem group_1 : mulM (T1 4294967296) (T1 4294967296) = (T1 4294967296, false) := by
  have f0 := fx0
  have f1 := fx1
  simp [mulM, madeF, T1, List.range_succ, rowL, turnM, madeM, atM, dotF, dotS, mul1l, add0l, f0, f1]
/-- What is true of flows F. -/
structure Grp (n : Nat) (m : Mt) (F : Int → Mt) : Prop where
  fl : ∀ r : Int, r.natAbs ≤ 200 → flowM m (r * 4294967296) = (F r, false)
  ok : ∀ r, okMt (F r) ∧ (F r).r = n ∧ (F r).c = n ∧ (F r).v.length = n * n
  mul : ∀ s t : Int, s.natAbs ≤ 100 → t.natAbs ≤ 100 → mulM (F s) (F t) = (F (s + t), false)
  one : F 0 = eyeM n
theorem group_law {n : Nat} {vs : List Int} (h1 : 1 ≤ n) (h3 : n ≤ 3) (hV : UpV n 9 vs) : ∃ F, Grp n ⟨n, n, vs⟩ F := by
  have hn : n = 1 ∨ n = 2 ∨ n = 3 := by omega
  rcases hn with rfl | rfl | rfl
  · match vs, hV with
    | [v0], hV =>
      have z0 : v0 = 0 := (hV.2 0 (by simp)).1 (by decide)
      subst z0
      exact ⟨fun _ => T1 4294967296, fun r _ => flow_1 _, fun _ => ⟨⟨⟨by decide, by decide⟩, ⟨by decide, by decide⟩, rfl⟩, rfl, rfl, rfl⟩, fun _ _ _ _ => group_1, eye_1.symm⟩
    | [], hV => exact absurd hV.1 (by simp)
    | _ :: _ :: _, hV => exact absurd hV.1 (by simp)
  · have hl : vs.length = 4 := hV.1
    match vs, hl, hV with
    | [v0, v1, v2, v3], _, hV =>
      have z0 : v0 = 0 := (hV.2 0 (by simp)).1 (by decide)
      have z2 : v2 = 0 := (hV.2 2 (by simp)).1 (by decide)
      have z3 : v3 = 0 := (hV.2 3 (by simp)).1 (by decide)
      obtain ⟨A, hA, bA⟩ := (hV.2 1 (by simp)).2
      have hA' : v1 = A * 4294967296 := hA
      subst z0 z2 z3 hA'
      exact ⟨fun t => flow2 A t, fun r hr => flow_2 bA hr, fun r => ⟨⟨⟨show (1 : Int) ≤ 2 by decide, show (2 : Int) ≤ 12 by decide⟩, ⟨show (1 : Int) ≤ 2 by decide, show (2 : Int) ≤ 12 by decide⟩, rfl⟩, rfl, rfl, rfl⟩, fun s t hs ht => group_2 bA hs ht, flow2_0 A⟩
  · have hl : vs.length = 9 := hV.1
    match vs, hl, hV with
    | [v0, v1, v2, v3, v4, v5, v6, v7, v8], _, hV =>
      have z0 : v0 = 0 := (hV.2 0 (by simp)).1 (by decide)
      have z3 : v3 = 0 := (hV.2 3 (by simp)).1 (by decide)
      have z4 : v4 = 0 := (hV.2 4 (by simp)).1 (by decide)
      have z6 : v6 = 0 := (hV.2 6 (by simp)).1 (by decide)
      have z7 : v7 = 0 := (hV.2 7 (by simp)).1 (by decide)
      have z8 : v8 = 0 := (hV.2 8 (by simp)).1 (by decide)
      obtain ⟨A, hA, bA⟩ := (hV.2 1 (by simp)).2
      obtain ⟨B, hB, bB⟩ := (hV.2 2 (by simp)).2
      obtain ⟨C, hC, bC⟩ := (hV.2 5 (by simp)).2
      have hA' : v1 = A * 4294967296 := hA
      have hB' : v2 = B * 4294967296 := hB
      have hC' : v5 = C * 4294967296 := hC
      subst z0 z3 z4 z6 z7 z8 hA' hB' hC'
      exact ⟨fun t => flow3 A B C t, fun r hr => flow_3 bA bB bC hr, fun r => ⟨⟨⟨show (1 : Int) ≤ 3 by decide, show (3 : Int) ≤ 12 by decide⟩, ⟨show (1 : Int) ≤ 3 by decide, show (3 : Int) ≤ 12 by decide⟩, rfl⟩, rfl, rfl, rfl⟩, fun s t hs ht => group_3 bA bB bC hs ht, flow3_0 A B C⟩

end Go.Proofs.Ytkjbidpafnmogaa.Base
