/- Two spans gain what the whole one gains. -/
import Derived.Test.YtkjbidpafnmogaaGreatSpA
namespace Go.Proofs.YtkjbidpafnmogaaGreat.Base
open Go.RowKit Go
set_option linter.unusedVariables false
set_option linter.unusedSimpArgs false

theorem eye_g : eyeM 2 = G 4294967296 0 0 4294967296 := by rfl
theorem flow_two {m a q t : Int} (hm : m.natAbs ≤ 4) (ht : t.natAbs ≤ 80) : mflowM (twoM m a q) t = (floG m t, false) := by
  have hmt := abs_mul hm ht
  have hsp := span_t (t := t) (by unfold Sm; omega)
  have f0 := fx0
  have f1 := fx1
  have st : Sm t := by unfold Sm; omega
  have fT := fxw st
  have fm : Fx (m * 4294967296) := fxw (by unfold Sm; omega)
  have fmt : Fx (m * t * 4294967296) := fxw (sm_of hmt (by decide))
  have hM := mul_g (a := 4294967296) (b := 0) (c := 0) (d := 4294967296) (a' := 0) (b' := m * 4294967296) (c' := 0) (d' := 0) (mul1l f0) (mul0l f0) (mul1l fm) (mul0l f0) (mul0l f0) (mul1l f0) (mul0l fm) (mul1l f0) f0 f0 fm f0 f0 f0 f0 f0 f0 (by rw [Int.add_zero]; exact fm) f0 f0
  simp only [Int.add_zero, Int.zero_add] at hM
  have hd1 : divF (m * 4294967296) (1 * 4294967296) = (m * 4294967296, false) := div_ex (by decide) fm (by unfold Fx; omega) (by omega) fm
  have hd0 : divF 0 (1 * 4294967296) = (0, false) := div_ex (v := 0) (by decide) f0 (by unfold Fx; omega) (by omega) f0
  have hD := divs_g (whole_t (t := 1) (by unfold Sm; decide)) hd0 hd1 hd0 hd0
  have t0 : termM (G 0 (m * 4294967296) 0 0) 0 = (G 4294967296 0 0 4294967296, false) := by
    show (eyeM 2, false) = _
    rw [eye_g]
  have t1 : termM (G 0 (m * 4294967296) 0 0) 1 = (G 0 (m * 4294967296) 0 0, false) := by
    show ((divsM (mulM (termM (G 0 (m * 4294967296) 0 0) 0).1 _).1 1).1, (termM _ 0).2 || (mulM (termM (G 0 (m * 4294967296) 0 0) 0).1 _).2 || (divsM (mulM (termM (G 0 (m * 4294967296) 0 0) 0).1 _).1 1).2) = _
    rw [t0]
    simp only [hM, hD, Bool.or_false]
  have mmt : mulF (m * 4294967296) (t * 4294967296) = (m * t * 4294967296, false) := by
    refine mul_ex fm fT ?_ fmt
    simp only [Int.mul_assoc, Int.mul_left_comm, Int.mul_comm]
  have s1 := scale_g (a := 0) (b := m * 4294967296) (c := 0) (d := 0) (t := t * 4294967296) f0 fm f0 f0 (mul0l fT) mmt (mul0l fT) (mul0l fT)
  have s2 := sum_g (a := 0) (b := m * t * 4294967296) (c := 0) (d := 0) (a' := 4294967296) (b' := 0) (c' := 0) (d' := 4294967296) f0 fmt f0 f0 f1 f0 f0 f1 f1 (by rw [Int.add_zero]; exact fmt) f0 f1
  simp only [Int.add_zero, Int.zero_add] at s2
  have e : termsL (G 0 (m * 4294967296) 0 0) 2 = [G 4294967296 0 0 4294967296, G 0 (m * 4294967296) 0 0] := by
    show [(termM _ 0).1, (termM _ 1).1] = _
    rw [t0, t1]
  have hF : flowM (G 0 (m * 4294967296) 0 0) (t * 4294967296) = (floG m t, false) := by
    unfold flowM
    show ((hornM (t * 4294967296) (termsL _ 2)).1, (termM (G 0 (m * 4294967296) 0 0) 1).2 || (hornM (t * 4294967296) (termsL (G 0 (m * 4294967296) 0 0) 2)).2) = _
    rw [e, t1]
    simp only [hornM, s1, s2, Bool.or_false]
    rfl
  unfold mflowM
  rw [show (twoM m a q).tick = 4294967296 from rfl, hsp, show movesM (twoM m a q) = G 0 (m * 4294967296) 0 0 from rfl, hF]
  rfl
theorem dbl (x : Int) : 2 * x = x + x := by omega
theorem tpl3 (x : Int) : 3 * x = x + x + x := by omega
theorem six6 (x : Int) : 6 * x = x + x + x + x + x + x := by omega
theorem id_11 (m a p s t : Int) : (nA (m * (m * p)) a s + m * t * nB (m * p) s) + (nB (m * p) s + m * t * nD p s) * (m * t) + nA (m * (m * p)) a t = nA (m * (m * p)) a (s + t) := by
  unfold nA nB nD
  simp only [dbl, tpl3, six6, Int.mul_add, Int.add_mul]
  simp only [Int.mul_assoc, Int.mul_left_comm, Int.mul_comm]
  omega
theorem id_12 (m p s t : Int) : (nB (m * p) s + m * t * nD p s) + nB (m * p) t = nB (m * p) (s + t) := by
  unfold nB nD
  simp only [dbl, tpl3, six6, Int.mul_add, Int.add_mul]
  simp only [Int.mul_assoc, Int.mul_left_comm, Int.mul_comm]
  omega
theorem id_21 (m p s t : Int) : (nB (m * p) s + nD p s * (m * t)) + nB (m * p) t = nB (m * p) (s + t) := by
  unfold nB nD
  simp only [dbl, tpl3, six6, Int.mul_add, Int.add_mul]
  simp only [Int.mul_assoc, Int.mul_left_comm, Int.mul_comm]
  omega
theorem id_22 (p s t : Int) : nD p s + nD p t = nD p (s + t) := by
  unfold nD
  rw [Int.mul_add]
theorem nab {a : Int} {n : Nat} (h : a.natAbs ≤ n) : -(n : Int) ≤ a ∧ a ≤ (n : Int) := by omega
/-- The law in variables: x, y, z what the first span gains, X, Y, Z the second one, k how far it moves. -/
theorem span_vars {x y z X Y Z k r1 r2 r3 r4 : Int} (hx : x.natAbs ≤ 81922560) (hy : y.natAbs ≤ 384000) (hz : z.natAbs ≤ 2400) (hX : X.natAbs ≤ 81922560) (hY : Y.natAbs ≤ 384000) (hZ : Z.natAbs ≤ 2400) (hk : k.natAbs ≤ 160)
    (e1 : (x + k * y) + (y + k * z) * k + X = r1) (e2 : (y + k * z) + Y = r2) (e3 : (y + z * k) + Y = r3) (e4 : z + Z = r4) :
    ∃ L Mv, mulM (G 4294967296 (k * 4294967296) 0 4294967296) (G (x * 2147483648) (y * 2147483648) (y * 2147483648) (z * 2147483648)) = (L, false) ∧
      mulM L (G 4294967296 0 (k * 4294967296) 4294967296) = (Mv, false) ∧ sumM Mv (G (X * 2147483648) (Y * 2147483648) (Y * 2147483648) (Z * 2147483648)) = (G (r1 * 2147483648) (r2 * 2147483648) (r3 * 2147483648) (r4 * 2147483648), false) ∧ (∃ a b c d, L = G a b c d) ∧ ∃ a b c d, Mv = G a b c d := by
  have f0 := fx0
  have f1 := fx1
  have sk : Sm k := sm_of hk (by decide)
  have b1 := abs_mul hk hy
  have b2 := abs_mul hk hz
  have b3 : (y + k * z).natAbs ≤ 768000 := by omega
  have b4 := abs_mul b3 hk
  have b5 := abs_mul hz hk
  have fx := fxh (sm_of hx (by decide))
  have fy := fxh (sm_of hy (by decide))
  have fz := fxh (sm_of hz (by decide))
  have fX := fxh (sm_of hX (by decide))
  have fY := fxh (sm_of hY (by decide))
  have fZ := fxh (sm_of hZ (by decide))
  have fky := fxh (sm_of b1 (by decide))
  have fkz := fxh (sm_of b2 (by decide))
  have fzk := fxh (sm_of b5 (by decide))
  have fk := fxw sk
  have k1 := mul_wh sk (sm_of hy (by decide)) (sm_of b1 (by decide))
  have k2 := mul_wh sk (sm_of hz (by decide)) (sm_of b2 (by decide))
  have k3 := mul_hw (sm_of b3 (by decide)) sk (sm_of b4 (by decide))
  have k4 := mul_hw (sm_of hz (by decide)) sk (sm_of b5 (by decide))
  generalize hky : k * y = ky at *
  generalize hkz : k * z = kz at *
  generalize hzk : z * k = zk at *
  generalize hl : (y + kz) * k = lk at *
  clear hky hkz hzk hl
  have c1 : -81922560 ≤ x ∧ x ≤ 81922560 := nab hx
  have c2 : -384000 ≤ y ∧ y ≤ 384000 := nab hy
  have c3 : -2400 ≤ z ∧ z ≤ 2400 := nab hz
  have c4 : -81922560 ≤ X ∧ X ≤ 81922560 := nab hX
  have c5 : -384000 ≤ Y ∧ Y ≤ 384000 := nab hY
  have c6 : -2400 ≤ Z ∧ Z ≤ 2400 := nab hZ
  have c7 : -61440000 ≤ ky ∧ ky ≤ 61440000 := nab b1
  have c8 : -384000 ≤ kz ∧ kz ≤ 384000 := nab b2
  have c9 : -122880000 ≤ lk ∧ lk ≤ 122880000 := nab b4
  have c10 : -384000 ≤ zk ∧ zk ≤ 384000 := nab b5
  clear hx hy hz hX hY hZ b1 b2 b3 b4 b5 hk
  have g1 : Fx (x * 2147483648 + ky * 2147483648) := by unfold Fx; omega
  have g2 : Fx (y * 2147483648 + kz * 2147483648) := by unfold Fx; omega
  have L1 := mul_g (a := 4294967296) (b := k * 4294967296) (c := 0) (d := 4294967296) (a' := x * 2147483648) (b' := y * 2147483648) (c' := y * 2147483648) (d' := z * 2147483648) (mul1l fx) k1 (mul1l fy) k2 (mul0l fx) (mul1l fy) (mul0l fy) (mul1l fz) fx fky fy fkz f0 fy f0 fz g1 g2 (by rw [Int.zero_add]; exact fy) (by rw [Int.zero_add]; exact fz)
  simp only [Int.zero_add] at L1
  rw [show x * 2147483648 + ky * 2147483648 = (x + ky) * 2147483648 by omega, show y * 2147483648 + kz * 2147483648 = (y + kz) * 2147483648 by omega] at L1
  have fl1 : Fx ((x + ky) * 2147483648) := by unfold Fx; omega
  have fl2 : Fx ((y + kz) * 2147483648) := by unfold Fx; omega
  have flk : Fx (lk * 2147483648) := by unfold Fx; omega
  have g3 : Fx ((x + ky) * 2147483648 + lk * 2147483648) := by unfold Fx; omega
  have g4 : Fx (y * 2147483648 + zk * 2147483648) := by unfold Fx; omega
  have M1 := mul_g (a := (x + ky) * 2147483648) (b := (y + kz) * 2147483648) (c := y * 2147483648) (d := z * 2147483648) (a' := 4294967296) (b' := 0) (c' := k * 4294967296) (d' := 4294967296) (mul1r fl1) k3 (mul0r fl1) (mul1r fl2) (mul1r fy) k4 (mul0r fy) (mul1r fz) fl1 flk f0 fl2 fy fzk f0 fz g3 (by rw [Int.zero_add]; exact fl2) g4 (by rw [Int.zero_add]; exact fz)
  simp only [Int.zero_add] at M1
  have S1 := sum_g (a := (x + ky) * 2147483648 + lk * 2147483648) (b := (y + kz) * 2147483648) (c := y * 2147483648 + zk * 2147483648) (d := z * 2147483648) (a' := X * 2147483648) (b' := Y * 2147483648) (c' := Y * 2147483648) (d' := Z * 2147483648) g3 fl2 g4 fz fX fY fY fZ (by unfold Fx; omega) (by unfold Fx; omega) (by unfold Fx; omega) (by unfold Fx; omega)
  rw [show (x + ky) * 2147483648 + lk * 2147483648 + X * 2147483648 = r1 * 2147483648 by omega, show (y + kz) * 2147483648 + Y * 2147483648 = r2 * 2147483648 by omega, show y * 2147483648 + zk * 2147483648 + Y * 2147483648 = r3 * 2147483648 by omega, show z * 2147483648 + Z * 2147483648 = r4 * 2147483648 by omega] at S1
  exact ⟨_, _, L1, M1, S1, ⟨_, _, _, _, rfl⟩, _, _, _, _, rfl⟩
theorem span_law {m a p s t : Int} (hm : m.natAbs ≤ 4) (ha : a.natAbs ≤ 16) (hp : p.natAbs ≤ 5) (hs : s.natAbs ≤ 40) (ht : t.natAbs ≤ 40) :
    ∃ L Mv, mulM (floG m t) (noiG (m * (m * p)) (m * p) a p s) = (L, false) ∧ mulM L (turnM (floG m t)) = (Mv, false) ∧ sumM Mv (noiG (m * (m * p)) (m * p) a p t) = (noiG (m * (m * p)) (m * p) a p (s + t), false) ∧ (∃ a b c d, L = G a b c d) ∧ ∃ a b c d, Mv = G a b c d := by
  have h := nums_of hm ha hp
  obtain ⟨_, _, s3, _, s5, s6⟩ := n_bd (t := s) h (by omega)
  obtain ⟨_, _, t3, _, t5, t6⟩ := n_bd (t := t) h (by omega)
  have hk := abs_mul hm ht
  unfold floG noiG
  rw [turn_g]
  exact span_vars s3 s5 s6 t3 t5 t6 hk (id_11 m a p s t) (id_12 m p s t) (id_21 m p s t) (id_22 p s t)
theorem both_law {m s t : Int} (hm : m.natAbs ≤ 4) (hs : s.natAbs ≤ 40) (ht : t.natAbs ≤ 40) : mulM (floG m t) (floG m s) = (floG m (s + t), false) := by
  have f0 := fx0
  have f1 := fx1
  have b1 := abs_mul hm hs
  have b2 := abs_mul hm ht
  have e : m * s + m * t = m * (s + t) := by rw [Int.mul_add]
  unfold floG
  rw [← e]
  clear e
  generalize m * s = x at *
  generalize m * t = y at *
  have fx := fxw (sm_of b1 (by decide))
  have fy := fxw (sm_of b2 (by decide))
  have L1 := mul_g (a := 4294967296) (b := y * 4294967296) (c := 0) (d := 4294967296) (a' := 4294967296) (b' := x * 4294967296) (c' := 0) (d' := 4294967296) (mul1l f1) (mul0r fy) (mul1l fx) (mul1r fy) (mul0l f1) (mul1l f0) (mul0l fx) (mul1l f1) f1 f0 fx fy f0 f0 f0 f1 f1 (by unfold Fx; omega) f0 f1
  simp only [Int.zero_add, Int.add_zero] at L1
  rw [show x * 4294967296 + y * 4294967296 = (x + y) * 4294967296 by omega] at L1
  exact L1

end Go.Proofs.YtkjbidpafnmogaaGreat.Base
