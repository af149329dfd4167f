/- Whole numbers, held in fixed point; polynomials of one whole number. -/
import Derived.Test.YtkjbidpafnmogaaPick
namespace Go.Proofs.Ytkjbidpafnmogaa.Base
open Go.RowKit Go
set_option linter.unusedVariables false
set_option linter.unusedSimpArgs false

theorem rhe_whole {a : Int} (h : 0 ≤ a) : rheI (a * 4294967296) 4294967296 = a := by
  have h1 : a * 4294967296 / 4294967296 = a := Int.mul_ediv_cancel a (by decide)
  have h2 : a * 4294967296 % 4294967296 = 0 := Int.mul_emod_left a _
  unfold rheI
  rw [h1, h2, if_neg (by unfold nearP; simp)]
theorem rnd_whole (a : Int) : rndI (a * 4294967296) 4294967296 = a := by
  unfold rndI absI
  by_cases h : a * 4294967296 < 0
  · rw [if_pos h, if_pos h, show -(a * 4294967296) = (-a) * 4294967296 by omega, rhe_whole (by omega)]; omega
  · rw [if_neg h, if_neg h, rhe_whole (by omega)]
theorem held_in {a : Int} (h : -9223372036854775807 ≤ a) : heldI a = a ∧ oddI a = false := by
  unfold heldI oddI
  rw [if_neg (by omega)]
  exact ⟨rfl, decide_eq_false (by omega)⟩
theorem fit_in {a : Int} (h : Fx a) : fitN a = a ∧ fitC a = false := by
  unfold Fx at h
  unfold fitN fitC
  rw [if_neg (by omega), if_neg (by omega), decide_eq_false (by omega), decide_eq_false (by omega)]
  exact ⟨rfl, rfl⟩
theorem op_in {g : Int → Int → Int} {a b v : Int} (ha : -9223372036854775807 ≤ a) (hb : -9223372036854775807 ≤ b) (hv : g a b = v) (h : Fx v) : opF g a b = (v, false) := by
  unfold opF
  rw [(held_in ha).1, (held_in hb).1, (held_in ha).2, (held_in hb).2, hv, (fit_in h).1, (fit_in h).2]
  rfl
/-- What is small enough to be exact. -/
def Sm (a : Int) : Prop := a.natAbs ≤ 536870912
theorem add_whole {a b : Int} (ha : Sm a) (hb : Sm b) : addF (a * 4294967296) (b * 4294967296) = ((a + b) * 4294967296, false) := by
  unfold Sm at ha hb
  exact op_in (by omega) (by omega) (show a * 4294967296 + b * 4294967296 = _ by omega) (by unfold Fx; omega)
theorem mul_whole {a b : Int} (ha : Sm a) (hb : Sm b) (h : Sm (a * b)) : mulF (a * 4294967296) (b * 4294967296) = ((a * b) * 4294967296, false) := by
  unfold Sm at ha hb h
  refine op_in (by omega) (by omega) ?_ ?_
  · rw [show a * 4294967296 * (b * 4294967296) = (a * b * 4294967296) * 4294967296 by simp only [Int.mul_assoc, Int.mul_left_comm, Int.mul_comm]]
    exact rnd_whole _
  · generalize a * b = v at *
    unfold Fx; omega
theorem times_whole {a b : Int} (ha : Sm a) (hb : Sm b) (h : Sm (a * b)) : timesL [a * 4294967296, b * 4294967296] = ((a * b) * 4294967296, false) := by
  have h1 := mul_whole (a := 1) (b := a) (by unfold Sm; decide) ha (by rw [Int.one_mul]; exact ha)
  rw [Int.one_mul, Int.one_mul] at h1
  unfold timesL
  simp only [foldF, h1, mul_whole ha hb h, Bool.or_false, Bool.false_or]
theorem plus_whole {a b : Int} (ha : Sm a) (hb : Sm b) : plusL [a * 4294967296, b * 4294967296] = ((a + b) * 4294967296, false) := by
  have h1 := add_whole (a := 0) (b := a) (by unfold Sm; decide) ha
  rw [Int.zero_mul, Int.zero_add] at h1
  unfold plusL
  simp only [foldF, h1, add_whole ha hb, Bool.or_false, Bool.false_or]
theorem scale_one {a b : Int} (ha : Sm a) (hb : Sm b) (h : Sm (a * b)) : scaleM (ofM 1 [a]) (b * 4294967296) = (ofM 1 [a * b], false) := by
  unfold scaleM eachM madeF
  have e : atM (ofM 1 [a]) 0 0 = a * 4294967296 := rfl
  have e1 : (ofM 1 [a]).r.toNat = 1 := rfl
  have e2 : (ofM 1 [a]).c.toNat = 1 := rfl
  rw [e1, e2]
  simp only [Nat.mul_one, List.range_one, List.map_cons, List.map_nil, List.any_cons, List.any_nil, Nat.zero_div, Nat.zero_mod, e, times_whole ha hb h, Bool.or_false]
  rfl
theorem sum_one {a b : Int} (ha : Sm a) (hb : Sm b) : sumM (ofM 1 [a]) (ofM 1 [b]) = (ofM 1 [a + b], false) := by
  unfold sumM eachM madeF
  have e : atM (ofM 1 [a]) 0 0 = a * 4294967296 := rfl
  have e' : atM (ofM 1 [b]) 0 0 = b * 4294967296 := rfl
  have e1 : (ofM 1 [a]).r.toNat = 1 := rfl
  have e2 : (ofM 1 [a]).c.toNat = 1 := rfl
  rw [e1, e2]
  simp only [Nat.mul_one, List.range_one, List.map_cons, List.map_nil, List.any_cons, List.any_nil, Nat.zero_div, Nat.zero_mod, e, e', plus_whole ha hb, Bool.or_false]
  rfl

def hornZ (t : Int) : List Int → Int
  | [] => 0
  | n :: l => n + t * hornZ t l
def bndZ : Nat → Nat
  | 0 => 0
  | k + 1 => 20 + 20 * bndZ k
theorem hornZ_bd {t : Int} (ht : t.natAbs ≤ 20) : ∀ (l : List Int), (∀ n ∈ l, n.natAbs ≤ 20) → (hornZ t l).natAbs ≤ bndZ l.length
  | [], _ => Nat.le_refl _
  | n :: l, h => by
    have h1 := hornZ_bd ht l (fun x hx => h x (List.mem_cons_of_mem _ hx))
    have h2 := h n (by simp)
    have h3 : (t * hornZ t l).natAbs ≤ 20 * bndZ l.length := by rw [Int.natAbs_mul]; exact Nat.mul_le_mul ht h1
    show (n + t * hornZ t l).natAbs ≤ 20 + 20 * bndZ l.length
    omega
theorem bndZ_3 {k : Nat} (h : k ≤ 3) : bndZ k ≤ 8420 := by
  match k, h with
  | 0, _ => decide
  | 1, _ => decide
  | 2, _ => decide
  | 3, _ => decide
def lineL (l : List Int) : List Mt := l.map fun n => ofM 1 [n]
theorem horn_line {t : Int} (ht : t.natAbs ≤ 20) : ∀ (l : List Int), 0 < l.length → l.length ≤ 4 → (∀ n ∈ l, n.natAbs ≤ 20) → hornM (t * 4294967296) (lineL l) = (ofM 1 [hornZ t l], false)
  | [], h, _, _ => by simp at h
  | [n], _, _, _ => by
    show (ofM 1 [n], false) = _
    rw [show hornZ t [n] = n by show n + t * 0 = n; omega]
  | n :: m :: l, _, hl, h => by
    have hl' : (m :: l).length ≤ 3 := by simpa using hl
    have h0 : ∀ x ∈ m :: l, x.natAbs ≤ 20 := fun x hx => h x (List.mem_cons_of_mem _ hx)
    have h1 := horn_line ht (m :: l) (by simp) (by omega) h0
    have h2 := hornZ_bd ht (m :: l) h0
    have h3 := bndZ_3 hl'
    have h4 : (hornZ t (m :: l) * t).natAbs ≤ 8420 * 20 := by rw [Int.natAbs_mul]; exact Nat.mul_le_mul (by omega) ht
    have h5 := h n (by simp)
    rw [show lineL (n :: m :: l) = ofM 1 [n] :: lineL (m :: l) from rfl, hornM_cons _ _ (by simp [lineL]), h1, scale_one (by unfold Sm; omega) (by unfold Sm; omega) (by unfold Sm; omega), sum_one (by unfold Sm; omega) (by unfold Sm; omega)]
    rw [show hornZ t (n :: m :: l) = n + t * hornZ t (m :: l) from rfl, Int.mul_comm, Int.add_comm]
    rfl
theorem horn_nought (l : List Int) (h0 : 0 < l.length) (hl : l.length ≤ 4) (h : ∀ n ∈ l, n.natAbs ≤ 20) : hornM 0 (lineL l) = (ofM 1 [l.headD 0], false) := by
  have h1 := horn_line (t := 0) (by decide) l h0 hl h
  rw [Int.zero_mul] at h1
  rw [h1]
  cases l with
  | nil => simp at h0
  | cons n l => rw [show hornZ 0 (n :: l) = n by show n + 0 * _ = n; rw [Int.zero_mul]; omega]; rfl
/-- What the statement reckons. -/
def lineF (t : Int) (s : Int × Int) (n : Int) : Int × Int := (s.1 + n * s.2, s.2 * t)
theorem line_fold (t : Int) : ∀ (l : List Int) (s : Int × Int), (l.foldl (lineF t) s).1 = s.1 + s.2 * hornZ t l
  | [], s => by show s.1 = s.1 + s.2 * 0; omega
  | n :: l, s => by
    rw [List.foldl_cons, line_fold t l]
    show s.1 + n * s.2 + s.2 * t * hornZ t l = s.1 + s.2 * (n + t * hornZ t l)
    rw [Int.mul_add, Int.mul_assoc, Int.mul_comm n, Int.add_assoc]
theorem line_want (t : Int) (l : List Int) : (l.foldl (lineF t) (0, 1)).1 = hornZ t l := by rw [line_fold]; show 0 + 1 * hornZ t l = _; omega

end Go.Proofs.Ytkjbidpafnmogaa.Base
