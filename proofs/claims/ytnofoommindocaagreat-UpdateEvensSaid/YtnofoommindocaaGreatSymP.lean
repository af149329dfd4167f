/- sym: pairs of places, what they are set to: plain words. -/
import Derived.Test.YtnofoommindocaaGreatMatI
import Derived.Test.YtnofoommindocaaGreatNumL
namespace Go.Proofs.YtnofoommindocaaGreat.Base
open Go.RowKit
set_option linter.unusedVariables false
set_option linter.unusedSimpArgs false

/-- Pairs of row i, ahead of column k. -/
def prRow (d i k : Nat) : List (Nat × Nat) := (List.range (k - (i + d))).map fun j => (i, i + d + j)
/-- Pairs of the first rows. -/
def prU (n d : Nat) : Nat → List (Nat × Nat)
  | 0 => []
  | i + 1 => prU n d i ++ prRow d i n
def prA (n d i k : Nat) : List (Nat × Nat) := prU n d i ++ prRow d i k
theorem prA_zero (n d i : Nat) : prA n d i (i + d) = prU n d i := by simp [prA, prRow]
theorem prA_step (n : Nat) {d i k : Nat} (h : i + d ≤ k) : prA n d i (k + 1) = prA n d i k ++ [(i, k)] := by
  unfold prA prRow
  rw [show k + 1 - (i + d) = (k - (i + d)) + 1 by omega, List.range_succ, List.map_append, ← List.append_assoc]
  simp
  omega
theorem prA_full (n d i : Nat) : prA n d i n = prU n d (i + 1) := rfl
theorem mem_row {d i k : Nat} {p : Nat × Nat} : p ∈ prRow d i k ↔ p.1 = i ∧ p.1 + d ≤ p.2 ∧ p.2 < k := by
  obtain ⟨a, b⟩ := p
  simp only [prRow, List.mem_map, List.mem_range, Prod.mk.injEq]
  constructor
  · rintro ⟨j, hj, rfl, rfl⟩; omega
  · rintro ⟨rfl, h1, h2⟩; exact ⟨b - (a + d), by omega, rfl, by omega⟩
theorem mem_prU {n d : Nat} {p : Nat × Nat} : ∀ {i : Nat}, p ∈ prU n d i ↔ p.1 < i ∧ p.1 + d ≤ p.2 ∧ p.2 < n
  | 0 => by simp [prU]
  | i + 1 => by
    simp only [prU, List.mem_append, mem_prU (i := i), mem_row]
    omega
theorem prU_len {n d : Nat} : ∀ {i j : Nat}, i ≤ j → (prU n d i).length ≤ (prU n d j).length
  | i, j, h => by
    induction h with
    | refl => exact Nat.le_refl _
    | step _ ih => simp only [prU, List.length_append]; omega
theorem prA_len {n d i k : Nat} (hi : i < n) (hk : k ≤ n) : (prA n d i k).length ≤ (prU n d n).length := by
  refine Nat.le_trans ?_ (prU_len (n := n) (d := d) (show i + 1 ≤ n by omega))
  simp only [prA, prU, prRow, List.length_append, List.length_map, List.length_range]
  omega
theorem prA_lt {n d i k : Nat} (hi : i < n) (hk : k < n) (h : i + d ≤ k) : (prA n d i k).length < (prU n d n).length := by
  have := prA_len (d := d) (k := k + 1) hi hk
  rw [prA_step n h, List.length_append] at this
  simp at this
  omega

/-- Both places of a pair are set. -/
def setP (n : Nat) (f : Nat → Nat → Int) (w : List Int) (p : Nat × Nat) : List Int := (w.set (p.1 * n + p.2) (f p.1 p.2)).set (p.2 * n + p.1) (f p.1 p.2)
def chgL (n : Nat) (f : Nat → Nat → Int) (w : List Int) (ps : List (Nat × Nat)) : List Int := ps.foldl (setP n f) w
theorem chgL_snoc (n : Nat) (f : Nat → Nat → Int) (w : List Int) (ps : List (Nat × Nat)) (p : Nat × Nat) : chgL n f w (ps ++ [p]) = setP n f (chgL n f w ps) p := by simp [chgL]
theorem setP_len (n : Nat) (f : Nat → Nat → Int) (w : List Int) (p : Nat × Nat) : (setP n f w p).length = w.length := by simp [setP]
theorem chgL_len (n : Nat) (f : Nat → Nat → Int) (ps : List (Nat × Nat)) : ∀ w : List Int, (chgL n f w ps).length = w.length := by
  induction ps with
  | nil => intro w; rfl
  | cons p ps ih => intro w; exact (ih _).trans (setP_len n f w p)
theorem ix_inj {n a b c d : Nat} (hb : b < n) (hd : d < n) (h : a * n + b = c * n + d) : a = c ∧ b = d := by
  have h1 : (a * n + b) / n = a := by rw [Nat.mul_comm, Nat.mul_add_div (by omega), Nat.div_eq_of_lt hb, Nat.add_zero]
  have h2 : (c * n + d) / n = c := by rw [Nat.mul_comm, Nat.mul_add_div (by omega), Nat.div_eq_of_lt hd, Nat.add_zero]
  have e : a = c := by rw [← h1, h, h2]
  subst e
  exact ⟨rfl, by omega⟩
theorem getD_set (l : List Int) (i j : Nat) (v : Int) (hi : i < l.length) : (l.set i v).getD j 0 = if i = j then v else l.getD j 0 := by
  simp only [List.getD_eq_getElem?_getD, List.getElem?_set]
  by_cases e : i = j
  · subst e; simp [hi]
  · simp [e]
theorem setP_get {n : Nat} (f : Nat → Nat → Int) {w : List Int} (hw : w.length = n * n) {p : Nat × Nat} (hp : p.1 < n ∧ p.2 < n ∧ p.1 ≤ p.2) {r c : Nat} (hr : r < n) (hc : c < n) : (setP n f w p).getD (r * n + c) 0 = if (min r c, max r c) = p then f (min r c) (max r c) else w.getD (r * n + c) 0 := by
  obtain ⟨a, b⟩ := p
  obtain ⟨h1, h2, h3⟩ := hp
  dsimp only at h1 h2 h3
  unfold setP
  have l1 : b * n + a < (w.set (a * n + b) (f a b)).length := by rw [List.length_set, hw]; exact ix_lt h2 h1
  have l2 : a * n + b < w.length := by rw [hw]; exact ix_lt h1 h2
  rw [getD_set _ _ _ _ l1, getD_set _ _ _ _ l2]
  by_cases e : (min r c, max r c) = (a, b)
  · rw [if_pos e]
    simp only [Prod.mk.injEq] at e
    obtain ⟨rfl, rfl⟩ := e
    by_cases hrc : r ≤ c
    · have e1 : min r c = r := by omega
      have e2 : max r c = c := by omega
      rw [e1, e2]
      by_cases hx : c * n + r = r * n + c
      · rw [if_pos hx]
      · rw [if_neg hx, if_pos rfl]
    · have e1 : min r c = c := by omega
      have e2 : max r c = r := by omega
      rw [e1, e2, if_pos rfl]
  · rw [if_neg e]
    rw [if_neg (fun h => e ?_), if_neg (fun h => e ?_)]
    · obtain ⟨rfl, rfl⟩ := ix_inj h2 hc h
      rw [Nat.min_eq_left h3, Nat.max_eq_right h3]
    · obtain ⟨rfl, rfl⟩ := ix_inj h1 hc h
      rw [Nat.min_eq_right h3, Nat.max_eq_left h3]
theorem chgL_get {n : Nat} (f : Nat → Nat → Int) {r c : Nat} (hr : r < n) (hc : c < n) : ∀ (ps : List (Nat × Nat)) (w : List Int), w.length = n * n → (∀ p ∈ ps, p.1 < n ∧ p.2 < n ∧ p.1 ≤ p.2) → (chgL n f w ps).getD (r * n + c) 0 = if (min r c, max r c) ∈ ps then f (min r c) (max r c) else w.getD (r * n + c) 0
  | [], w, _, _ => by simp [chgL]
  | p :: ps, w, hw, hps => by
    have ih := chgL_get f hr hc ps (setP n f w p) (by rw [setP_len]; exact hw) (fun q hq => hps q (List.mem_cons_of_mem _ hq))
    show (chgL n f (setP n f w p) ps).getD _ 0 = _
    rw [ih, setP_get f hw (hps p (List.mem_cons_self ..)) hr hc]
    by_cases h1 : (min r c, max r c) ∈ ps
    · rw [if_pos h1, if_pos (List.mem_cons_of_mem _ h1)]
    · rw [if_neg h1]
      by_cases h2 : (min r c, max r c) = p
      · rw [if_pos h2, if_pos (by rw [h2]; exact List.mem_cons_self ..)]
      · rw [if_neg h2, if_neg (fun h => by rcases List.mem_cons.1 h with h | h; exact h2 h; exact h1 h)]

/-- A square matrix of whose pairs from the d-th side diagonal on both places are set; whether something was cut. -/
def chgM (d : Nat) (f : Nat → Nat → Int × Bool) (m : Mt) : Mt × Bool := (⟨m.r, m.c, chgL m.r.toNat (fun i k => (f i k).1) m.v (prU m.r.toNat d m.r.toNat)⟩, (prU m.r.toNat d m.r.toNat).any fun p => (f p.1 p.2).2)
theorem chg_ok {m : Mt} (h : okMt m) (d : Nat) (f : Nat → Nat → Int × Bool) : okMt (chgM d f m).1 := ⟨h.1, h.2.1, by simp only [chgM, chgL_len]; exact h.2.2⟩
theorem chg_at {m : Mt} {n : Nat} (h : okMt m) (hr : m.r = n) (hc : m.c = n) (d : Nat) (f : Nat → Nat → Int × Bool) {i k : Nat} (hi : i < n) (hk : k < n) :
    atM (chgM d f m).1 i k = if min i k + d ≤ max i k then (f (min i k) (max i k)).1 else atM m i k := by
  have e1 : m.r.toNat = n := by omega
  have e2 : m.c.toNat = n := by omega
  have hl : m.v.length = n * n := by
    have := h.2.2
    rw [hr, hc] at this
    exact_mod_cast this
  unfold atM chgM
  dsimp only
  rw [e1, e2, chgL_get _ hi hk _ _ hl (fun p hp => by have := mem_prU.1 hp; omega)]
  by_cases hd : min i k + d ≤ max i k
  · rw [if_pos (mem_prU.2 ⟨by dsimp only; omega, hd, by dsimp only; omega⟩), if_pos hd]
  · rw [if_neg (fun h => hd (mem_prU.1 h).2.1), if_neg hd]
/-- Symmetric by halves. -/
def evenM (m : Mt) : Mt × Bool := chgM 1 (fun i k => halfF (atM m i k) (atM m k i)) m
/-- One moved by another one from both sides. -/
def sandM (f p : Mt) : Mt × Bool := ((evenM (mulM (mulM f p).1 (turnM f)).1).1, ((mulM f p).2 || (mulM (mulM f p).1 (turnM f)).2) || (evenM (mulM (mulM f p).1 (turnM f)).1).2)
/-- x and s times a product. -/
def rkF (x s a b : Int) : Int × Bool := ((plusL [x, (timesL [s, (timesL [a, b]).1]).1]).1, ((timesL [a, b]).2 || (timesL [s, (timesL [a, b]).1]).2) || (plusL [x, (timesL [s, (timesL [a, b]).1]).1]).2)
def rankM (p : Mt) (k : List Int) (s : Int) : Mt × Bool := chgM 0 (fun i j => rkF (atM p i j) s (k.getD i 0) (k.getD j 0)) p
/-- One applied to a list. -/
def applyM (m : Mt) (x : List Int) : List Int × Bool := ((List.range m.r.toNat).map fun i => (dotF (rowL m.v m.c.toNat i) x).1, (List.range m.r.toNat).any fun i => (dotF (rowL m.v m.c.toNat i) x).2)
theorem turn_ok {m : Mt} (h : okMt m) : okMt (turnM m) := by
  obtain ⟨a1, a2⟩ := h.1
  obtain ⟨b1, b2⟩ := h.2.1
  exact ⟨⟨by simp [turnM, madeM]; omega, by simp [turnM, madeM]; omega⟩, ⟨by simp [turnM, madeM]; omega, by simp [turnM, madeM]; omega⟩, by simp [turnM, madeM]⟩

end Go.Proofs.YtnofoommindocaaGreat.Base
