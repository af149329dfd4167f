/- What two numbers gain: exactly. -/
import Derived.Test.YtkjbidpafnmogaaGreatWhl
namespace Go.Proofs.YtkjbidpafnmogaaGreat.Base
open Go.RowKit Go
set_option linter.unusedVariables false
set_option linter.unusedSimpArgs false

def nA (u a t : Int) : Int := ((2 * u * t) * t + 2 * a) * t
def nB (w t : Int) : Int := (3 * w * t) * t
def nD (p t : Int) : Int := 6 * p * t
def noiG (u w a p t : Int) : Mt := G (nA u a t * 2147483648) (nB w t * 2147483648) (nB w t * 2147483648) (nD p t * 2147483648)
def floG (m t : Int) : Mt := G 4294967296 (m * t * 4294967296) 0 4294967296
/-- Small numbers. -/
structure Nums (m a p w u : Int) : Prop where
  bm : m.natAbs ≤ 4
  ba : a.natAbs ≤ 16
  bp : p.natAbs ≤ 5
  bw : w.natAbs ≤ 20
  bu : u.natAbs ≤ 80
  ew : m * (3 * p) = 3 * w
  eu : m * (3 * w) = 3 * u
theorem nums_of {m a p : Int} (hm : m.natAbs ≤ 4) (ha : a.natAbs ≤ 16) (hp : p.natAbs ≤ 5) : Nums m a p (m * p) (m * (m * p)) := by
  have h1 := abs_mul hm hp
  have h2 := abs_mul hm h1
  exact ⟨hm, ha, hp, h1, h2, Int.mul_left_comm _ _ _, Int.mul_left_comm _ _ _⟩
theorem n_bd {m a p w u t : Int} (h : Nums m a p w u) (ht : t.natAbs ≤ 80) :
    (2 * u * t).natAbs ≤ 12800 ∧ (2 * u * t * t).natAbs ≤ 1024000 ∧ (nA u a t).natAbs ≤ 81922560 ∧ (3 * w * t).natAbs ≤ 4800 ∧ (nB w t).natAbs ≤ 384000 ∧ (nD p t).natAbs ≤ 2400 := by
  obtain ⟨_, ha, hp, hw, hu, _, _⟩ := h
  have h1 := abs_mul (a := 2 * u) (n := 160) (by omega) ht
  have h2 := abs_mul h1 ht
  have h3 : (2 * u * t * t + 2 * a).natAbs ≤ 1024032 := by omega
  have h4 := abs_mul h3 ht
  have h5 := abs_mul (a := 3 * w) (n := 60) (by omega) ht
  have h6 := abs_mul h5 ht
  have h7 := abs_mul (a := 6 * p) (n := 30) (by omega) ht
  exact ⟨h1, h2, h4, h5, h6, h7⟩
theorem sm_of {a : Int} {n : Nat} (h : a.natAbs ≤ n) (hn : n ≤ 1000000000) : Sm a := Nat.le_trans h hn
theorem coef_s1 {m a p w u : Int} (h : Nums m a p w u) : coefS (G 0 (m * 4294967296) 0 0) (G (a * 4294967296) 0 0 (3 * p * 4294967296)) 2 = (G 0 (3 * w * 2147483648) (3 * w * 2147483648) 0, false) := by
  have hm := h.bm
  have ha := h.ba
  have hp := h.bp
  have hw := h.bw
  have ew := h.ew
  have f0 := fx0
  have hmp : mulF (m * 4294967296) (3 * p * 4294967296) = (3 * w * 4294967296, false) := by
    refine mul_ex (fxw (by unfold Sm; omega)) (fxw (by unfold Sm; omega)) ?_ (fxw (by unfold Sm; omega))
    rw [← ew]; simp only [Int.mul_assoc, Int.mul_left_comm, Int.mul_comm]
  have fa : Fx (a * 4294967296) := fxw (by unfold Sm; omega)
  have fm : Fx (m * 4294967296) := fxw (by unfold Sm; omega)
  have fp : Fx (3 * p * 4294967296) := fxw (by unfold Sm; omega)
  have fw : Fx (3 * w * 4294967296) := fxw (by unfold Sm; omega)
  have hM := mul_g (a := 0) (b := m * 4294967296) (c := 0) (d := 0) (a' := a * 4294967296) (b' := 0) (c' := 0) (d' := 3 * p * 4294967296) (mul0l fa) (mul0r fm) (mul0l f0) hmp (mul0l fa) (mul0l f0) (mul0l f0) (mul0l fp) f0 f0 f0 fw f0 f0 f0 f0 f0 (by rw [Int.zero_add]; exact fw) f0 f0
  simp only [Int.add_zero, Int.zero_add] at hM
  have hS := sum_g (a := 0) (b := 3 * w * 4294967296) (c := 0) (d := 0) (a' := 0) (b' := 0) (c' := 3 * w * 4294967296) (d' := 0) f0 fw f0 f0 f0 f0 fw f0 f0 (by rw [Int.add_zero]; exact fw) (by rw [Int.zero_add]; exact fw) f0
  simp only [Int.add_zero, Int.zero_add] at hS
  have h2 : divF (3 * w * 4294967296) (2 * 4294967296) = (3 * w * 2147483648, false) := div_ex (by decide) fw (by unfold Fx; omega) (by omega) (fxh (by unfold Sm; omega))
  have h0 : divF 0 (2 * 4294967296) = (0, false) := div_ex (v := 0) (by decide) f0 (by unfold Fx; omega) (by omega) f0
  have hD := divs_g (whole_t (t := 2) (by unfold Sm; decide)) h0 h2 h2 h0
  unfold coefS
  rw [hM, turn_g, hS, hD]
  rfl
theorem coef_s2 {m a p w u : Int} (h : Nums m a p w u) : coefS (G 0 (m * 4294967296) 0 0) (G 0 (3 * w * 2147483648) (3 * w * 2147483648) 0) 3 = (G (2 * u * 2147483648) 0 0 0, false) := by
  have hm := h.bm
  have hw := h.bw
  have hu := h.bu
  have eu := h.eu
  have f0 := fx0
  have fm : Fx (m * 4294967296) := fxw (by unfold Sm; omega)
  have fw : Fx (3 * w * 2147483648) := fxh (by unfold Sm; omega)
  have fu : Fx (3 * u * 2147483648) := fxh (by unfold Sm; omega)
  have fu2 : Fx (3 * u * 2147483648 + 3 * u * 2147483648) := by unfold Fx; omega
  have hmw : mulF (m * 4294967296) (3 * w * 2147483648) = (3 * u * 2147483648, false) := by
    have := mul_wh (a := m) (b := 3 * w) (by unfold Sm; omega) (by unfold Sm; omega) (by rw [eu]; unfold Sm; omega)
    rwa [eu] at this
  have hM := mul_g (a := 0) (b := m * 4294967296) (c := 0) (d := 0) (a' := 0) (b' := 3 * w * 2147483648) (c' := 3 * w * 2147483648) (d' := 0) (mul0l f0) hmw (mul0l fw) (mul0r fm) (mul0l f0) (mul0l fw) (mul0l fw) (mul0l f0) f0 fu f0 f0 f0 f0 f0 f0 (by rw [Int.zero_add]; exact fu) f0 f0 f0
  simp only [Int.add_zero, Int.zero_add] at hM
  have hS := sum_g (a := 3 * u * 2147483648) (b := 0) (c := 0) (d := 0) (a' := 3 * u * 2147483648) (b' := 0) (c' := 0) (d' := 0) fu f0 f0 f0 fu f0 f0 f0 fu2 f0 f0 f0
  simp only [Int.add_zero] at hS
  have h2 : divF (3 * u * 2147483648 + 3 * u * 2147483648) (3 * 4294967296) = (2 * u * 2147483648, false) := div_ex (by decide) fu2 (by unfold Fx; omega) (by omega) (fxh (by unfold Sm; omega))
  have h0 : divF 0 (3 * 4294967296) = (0, false) := div_ex (v := 0) (by decide) f0 (by unfold Fx; omega) (by omega) f0
  have hD := divs_g (whole_t (t := 3) (by unfold Sm; decide)) h2 h0 h0 h0
  unfold coefS
  rw [hM, turn_g, hS, hD]
  rfl
theorem coef_two {m a p w u : Int} (h : Nums m a p w u) : coefL (twoM m a (3 * p)) = ([G (a * 4294967296) 0 0 (3 * p * 4294967296), G 0 (3 * w * 2147483648) (3 * w * 2147483648) 0, G (2 * u * 2147483648) 0 0 0], false) := by
  have e : coefL (twoM m a (3 * p)) = coefR (G 0 (m * 4294967296) 0 0) 2 2 (G (a * 4294967296) 0 0 (3 * p * 4294967296)) := by
    unfold coefL
    have e1 : movesM (twoM m a (3 * p)) = G 0 (m * 4294967296) 0 0 := rfl
    have e2 : diagM (twoM m a (3 * p)).Q = G (a * 4294967296) 0 0 (3 * p * 4294967296) := by
      show diagM [a * 4294967296, 3 * p * 4294967296] = _
      simp [diagM, madeM, G, List.range_succ]
    rw [e1, e2]
    rfl
  rw [e]
  have s1 := coef_s1 h
  have s2 := coef_s2 h
  generalize G 0 (m * 4294967296) 0 0 = A at *
  generalize G (a * 4294967296) 0 0 (3 * p * 4294967296) = d0 at *
  show (d0 :: (coefR A 1 3 (coefS A d0 2).1).1, (coefS A d0 2).2 || (coefR A 1 3 (coefS A d0 2).1).2) = _
  rw [s1]
  show (d0 :: (_ :: (coefR A 0 4 (coefS A _ 3).1).1), false || ((coefS A _ 3).2 || (coefR A 0 4 (coefS A _ 3).1).2)) = _
  rw [s2]
  rfl
theorem noise_two {m a p w u t : Int} (h : Nums m a p w u) (ht : t.natAbs ≤ 80) : noiseM (twoM m a (3 * p)) t = (noiG u w a p t, false) := by
  obtain ⟨b1, b2, b3, b4, b5, b6⟩ := n_bd h ht
  have hsp := span_t (t := t) (by unfold Sm; omega)
  have hco := coef_two h
  obtain ⟨hm, ha, hp, hw, hu, _, _⟩ := h
  have f0 := fx0
  have st : Sm t := by unfold Sm; omega
  have fT := fxw st
  have fa : Fx (a * 4294967296) := fxw (by unfold Sm; omega)
  have fp : Fx (3 * p * 4294967296) := fxw (by unfold Sm; omega)
  have fw : Fx (3 * w * 2147483648) := fxh (by unfold Sm; omega)
  have fu : Fx (2 * u * 2147483648) := fxh (by unfold Sm; omega)
  have f1 : Fx (2 * u * t * 2147483648) := fxh (sm_of b1 (by decide))
  have f2 : Fx (2 * u * t * t * 2147483648) := fxh (sm_of b2 (by decide))
  have f4 : Fx (3 * w * t * 2147483648) := fxh (sm_of b4 (by decide))
  have s1 := scale_g (a := 2 * u * 2147483648) (b := 0) (c := 0) (d := 0) (t := t * 4294967296) fu f0 f0 f0 (mul_hw (by unfold Sm; omega) st (sm_of b1 (by decide))) (mul0l fT) (mul0l fT) (mul0l fT)
  have s2 := sum_g (a := 2 * u * t * 2147483648) (b := 0) (c := 0) (d := 0) (a' := 0) (b' := 3 * w * 2147483648) (c' := 3 * w * 2147483648) (d' := 0) f1 f0 f0 f0 f0 fw fw f0 (by rw [Int.add_zero]; exact f1) (by rw [Int.zero_add]; exact fw) (by rw [Int.zero_add]; exact fw) f0
  simp only [Int.add_zero, Int.zero_add] at s2
  have s3 := scale_g (a := 2 * u * t * 2147483648) (b := 3 * w * 2147483648) (c := 3 * w * 2147483648) (d := 0) (t := t * 4294967296) f1 fw fw f0 (mul_hw (sm_of b1 (by decide)) st (sm_of b2 (by decide))) (mul_hw (by unfold Sm; omega) st (sm_of b4 (by decide))) (mul_hw (by unfold Sm; omega) st (sm_of b4 (by decide))) (mul0l fT)
  have eA : 2 * u * t * t * 2147483648 + a * 4294967296 = (2 * u * t * t + 2 * a) * 2147483648 := by omega
  have eD : 3 * p * 4294967296 = 6 * p * 2147483648 := by omega
  have bA : (2 * u * t * t + 2 * a).natAbs ≤ 1024032 := by omega
  have s4 := sum_g (a := 2 * u * t * t * 2147483648) (b := 3 * w * t * 2147483648) (c := 3 * w * t * 2147483648) (d := 0) (a' := a * 4294967296) (b' := 0) (c' := 0) (d' := 3 * p * 4294967296) f2 f4 f4 f0 fa f0 f0 fp (by rw [eA]; exact fxh (sm_of bA (by decide))) (by rw [Int.add_zero]; exact f4) (by rw [Int.add_zero]; exact f4) (by rw [Int.zero_add]; exact fp)
  simp only [Int.add_zero, Int.zero_add] at s4
  rw [eA, eD] at s4
  have s5 := scale_g (a := (2 * u * t * t + 2 * a) * 2147483648) (b := 3 * w * t * 2147483648) (c := 3 * w * t * 2147483648) (d := 6 * p * 2147483648) (t := t * 4294967296) (fxh (sm_of bA (by decide))) f4 f4 (fxh (by unfold Sm; omega)) (mul_hw (sm_of bA (by decide)) st (sm_of b3 (by decide))) (mul_hw (sm_of b4 (by decide)) st (sm_of b5 (by decide))) (mul_hw (sm_of b4 (by decide)) st (sm_of b5 (by decide))) (mul_hw (by unfold Sm; omega) st (sm_of b6 (by decide)))
  rw [eD] at hco
  unfold noiseM
  rw [show (twoM m a (3 * p)).tick = 4294967296 from rfl, hsp, hco]
  simp only [hornM]
  simp only [s1, s2, s3, s4, s5, Bool.or_false]
  rfl

end Go.Proofs.YtkjbidpafnmogaaGreat.Base
