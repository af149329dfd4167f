/- ModelFits: what the region that copies a belief three times yields. -/
import Derived.Test.YtagakcnhhhlolaaOwn
namespace Go.Proofs.Ytagakcnhhhlolaa.Base
open Go.RowKit
set_option linter.unusedVariables false
set_option linter.unusedSimpArgs false

def zeroB : Array Value := #[.int .i64 0, .slice none 0 0, .slice none 0 0, .bool false, .int .i64 0, .int .i64 0]
def Ow (i : Nat) : Prop := i = 1 ∨ i = 3 ∨ i = 5 ∨ i = 6 ∨ i = 7 ∨ i = 8
/-- What the operations yield. -/
def F9 (n0 : Nat) (ds : Array Value) (b : Blf) (i : Nat) (f : Nat → Value) (W : World) : Prop :=
  ((i = 0 ∨ i = 2 ∨ i = 4) → f i = .agg ds) ∧ ((i = 1 ∨ i = 3 ∨ i = 5) → OB n0 W (f i) b) ∧
  ((i = 6 ∨ i = 7 ∨ i = 8) → ∃ p, f i = .pointer (some ⟨p, 0, none⟩) ∧ n0 ≤ p ∧ Blk W p zeroB 27)
theorem F9.keep {n0 : Nat} {ds : Array Value} {b : Blf} {i : Nat} {f : Nat → Value} {W W' : World} (h : F9 n0 ds b i f W) (hb : Below W.heap.size W W') : F9 n0 ds b i f W' :=
  ⟨h.1, fun e => (h.2.1 e).keep hb, fun e => by obtain ⟨p, h1, h2, h3⟩ := h.2.2 e; exact ⟨p, h1, h2, h3.keep hb⟩⟩
theorem F9.eq {n0 : Nat} {ds : Array Value} {b : Blf} {i : Nat} {f f' : Nat → Value} {W : World} (e : f i = f' i) (h : F9 n0 ds b i f W) : F9 n0 ds b i f' W := by
  unfold F9 at *
  rw [← e]
  exact h
theorem F9.in {n0 : Nat} {ds : Array Value} {b : Blf} {i : Nat} {f : Nat → Value} {W : World} (h : F9 n0 ds b i f W) (hi : Ow i) : ∀ x ∈ bks (f i), n0 ≤ x ∧ x < W.heap.size := by
  by_cases e : i = 1 ∨ i = 3 ∨ i = 5
  · exact (h.2.1 e).bks_in
  · obtain ⟨p, h1, h2, h3⟩ := h.2.2 (by unfold Ow at hi; omega)
    rw [h1]
    intro x hx
    simp [bks] at hx
    subst hx
    exact ⟨h2, h3.lt⟩
/-- What two of them yield lies apart. -/
def G9 (i j : Nat) (v u : Value) : Prop := Ow i → Ow j → ∀ x ∈ bks v, x ∉ bks u
theorem g9_load {i : Nat} (hi : ¬ Ow i) (v u : Value) (j : Nat) : G9 i j v u ∧ G9 j i u v := ⟨fun h => absurd h hi, fun _ h => absurd h hi⟩
theorem g9_new {n0 : Nat} {ds : Array Value} {b : Blf} {i j : Nat} {f : Nat → Value} {W : World} {v : Value} (hn : ∀ x ∈ bks v, W.heap.size ≤ x) (h : F9 n0 ds b j f W) : G9 i j v (f j) ∧ G9 j i (f j) v :=
  ⟨fun _ hj x hx hx' => by have := hn x hx; have := (h.in hj x hx').2; omega, fun hj _ x hx hx' => by have := hn x hx'; have := (h.in hj x hx).2; omega⟩

/-- Three copies, in boxes of their own. -/
def Three (n0 : Nat) (b : Blf) (s8 s9 s10 : Value) (W : World) : Prop :=
  ∃ p q r g1 c1 h1 d1 g2 c2 h2 d2 g3 c3 h3 d3, s8 = .pointer (some ⟨p, 0, none⟩) ∧ s9 = .pointer (some ⟨q, 0, none⟩) ∧ s10 = .pointer (some ⟨r, 0, none⟩) ∧
    Own n0 [(p, #[.int .i64 b.t, .slice (some ⟨g1, 0, none⟩) b.X.length c1, .slice (some ⟨h1, 0, none⟩) b.P.length d1, .bool b.flag, .int .i64 b.pass, .int .i64 b.fail], 27),
      (q, #[.int .i64 b.t, .slice (some ⟨g2, 0, none⟩) b.X.length c2, .slice (some ⟨h2, 0, none⟩) b.P.length d2, .bool b.flag, .int .i64 b.pass, .int .i64 b.fail], 27),
      (r, #[.int .i64 b.t, .slice (some ⟨g3, 0, none⟩) b.X.length c3, .slice (some ⟨h3, 0, none⟩) b.P.length d3, .bool b.flag, .int .i64 b.pass, .int .i64 b.fail], 27)]
      [(g1, c1, b.X), (h1, d1, b.P), (g2, c2, b.X), (h2, d2, b.P), (g3, c3, b.X), (h3, d3, b.P)] W
/-- Out of what the region yields. -/
theorem f9_own {n0 : Nat} {ds : Array Value} {b : Blf} {f : Nat → Value} {W : World} (hF : ∀ i, i < 9 → F9 n0 ds b i f W) (hG : ∀ i j, i < 9 → j < 9 → i ≠ j → G9 i j (f i) (f j)) :
    ∃ p q r g1 c1 h1 d1 g2 c2 h2 d2 g3 c3 h3 d3, (f 6 = .pointer (some ⟨p, 0, none⟩) ∧ f 7 = .pointer (some ⟨q, 0, none⟩) ∧ f 8 = .pointer (some ⟨r, 0, none⟩)) ∧
    (f 1 = .agg #[.int .i64 b.t, .slice (some ⟨g1, 0, none⟩) b.X.length c1, .slice (some ⟨h1, 0, none⟩) b.P.length d1, .bool b.flag, .int .i64 b.pass, .int .i64 b.fail] ∧
    f 3 = .agg #[.int .i64 b.t, .slice (some ⟨g2, 0, none⟩) b.X.length c2, .slice (some ⟨h2, 0, none⟩) b.P.length d2, .bool b.flag, .int .i64 b.pass, .int .i64 b.fail] ∧
    f 5 = .agg #[.int .i64 b.t, .slice (some ⟨g3, 0, none⟩) b.X.length c3, .slice (some ⟨h3, 0, none⟩) b.P.length d3, .bool b.flag, .int .i64 b.pass, .int .i64 b.fail]) ∧
    Own n0 [(p, zeroB, 27), (q, zeroB, 27), (r, zeroB, 27)]
      [(g1, c1, b.X), (h1, d1, b.P), (g2, c2, b.X), (h2, d2, b.P), (g3, c3, b.X), (h3, d3, b.P)] W := by
  obtain ⟨p, e6, n6, b6⟩ := (hF 6 (by omega)).2.2 (by omega)
  obtain ⟨q, e7, n7, b7⟩ := (hF 7 (by omega)).2.2 (by omega)
  obtain ⟨r, e8, n8, b8⟩ := (hF 8 (by omega)).2.2 (by omega)
  obtain ⟨g1, c1, h1, d1, e1, i1, j1, k1⟩ := ((hF 1 (by omega)).2.1 (by omega)).ex
  obtain ⟨g2, c2, h2, d2, e2, i2, j2, k2⟩ := ((hF 3 (by omega)).2.1 (by omega)).ex
  obtain ⟨g3, c3, h3, d3, e3, i3, j3, k3⟩ := ((hF 5 (by omega)).2.1 (by omega)).ex
  have a12 := hG 1 3 (by omega) (by omega) (by omega) (by unfold Ow; omega) (by unfold Ow; omega)
  have a13 := hG 1 5 (by omega) (by omega) (by omega) (by unfold Ow; omega) (by unfold Ow; omega)
  have a23 := hG 3 5 (by omega) (by omega) (by omega) (by unfold Ow; omega) (by unfold Ow; omega)
  have b12 := hG 6 7 (by omega) (by omega) (by omega) (by unfold Ow; omega) (by unfold Ow; omega)
  have b13 := hG 6 8 (by omega) (by omega) (by omega) (by unfold Ow; omega) (by unfold Ow; omega)
  have b23 := hG 7 8 (by omega) (by omega) (by omega) (by unfold Ow; omega) (by unfold Ow; omega)
  rw [e1, e2] at a12
  rw [e1, e3] at a13
  rw [e2, e3] at a23
  rw [e6, e7] at b12
  rw [e6, e8] at b13
  rw [e7, e8] at b23
  have t1 := a12 g1 (by simp [bks, Value.ownBlock])
  have t2 := a12 h1 (by simp [bks, Value.ownBlock])
  have t3 := a13 g1 (by simp [bks, Value.ownBlock])
  have t4 := a13 h1 (by simp [bks, Value.ownBlock])
  have t5 := a23 g2 (by simp [bks, Value.ownBlock])
  have t6 := a23 h2 (by simp [bks, Value.ownBlock])
  simp [bks, Value.ownBlock] at b12 b13 b23
  simp [bks, Value.ownBlock] at t1 t2 t3 t4 t5 t6
  refine ⟨p, q, r, g1, c1, h1, d1, g2, c2, h2, d2, g3, c3, h3, d3, ⟨e6, e7, e8⟩, ⟨e1, e2, e3⟩, ⟨fun k u hu => ?_, fun k u hu => ?_, fun i j u v hn hu hv => ?_, fun i j u v hn hu hv => ?_⟩⟩
  · match k, hu with
    | 0, hu => cases hu; exact ⟨b6, n6, show 27 ≠ 3 by decide⟩
    | 1, hu => cases hu; exact ⟨b7, n7, show 27 ≠ 3 by decide⟩
    | 2, hu => cases hu; exact ⟨b8, n8, show 27 ≠ 3 by decide⟩
    | (k + 3), hu => cases hu
  · match k, hu with
    | 0, hu => cases hu; exact i1
    | 1, hu => cases hu; exact j1
    | 2, hu => cases hu; exact i2
    | 3, hu => cases hu; exact j2
    | 4, hu => cases hu; exact i3
    | 5, hu => cases hu; exact j3
    | (k + 6), hu => cases hu
  · have hP : [p, q, r].Nodup := by simp [b12, b13, b23]
    have hi : [p, q, r][i]? = some u.1 := by
      match i, hu with
      | 0, hu => cases hu; rfl
      | 1, hu => cases hu; rfl
      | 2, hu => cases hu; rfl
      | (k + 3), hu => cases hu
    have hj : [p, q, r][j]? = some v.1 := by
      match j, hv with
      | 0, hv => cases hv; rfl
      | 1, hv => cases hv; rfl
      | 2, hv => cases hv; rfl
      | (k + 3), hv => cases hv
    intro e
    rw [← e] at hj
    exact hn ((List.getElem?_inj (List.getElem?_eq_some_iff.1 hi).1 hP).1 (hi.trans hj.symm))
  · have hP : [g1, h1, g2, h2, g3, h3].Nodup := by
      simp [k1, k2, k3]
      exact ⟨⟨fun e => t1.1 e.symm, fun e => t1.2 e.symm, fun e => t3.1 e.symm, fun e => t3.2 e.symm⟩, ⟨fun e => t2.1 e.symm, fun e => t2.2 e.symm, fun e => t4.1 e.symm, fun e => t4.2 e.symm⟩, ⟨fun e => t5.1 e.symm, fun e => t5.2 e.symm⟩, fun e => t6.1 e.symm, fun e => t6.2 e.symm⟩
    have hi : [g1, h1, g2, h2, g3, h3][i]? = some u.1 := by
      match i, hu with
      | 0, hu => cases hu; rfl
      | 1, hu => cases hu; rfl
      | 2, hu => cases hu; rfl
      | 3, hu => cases hu; rfl
      | 4, hu => cases hu; rfl
      | 5, hu => cases hu; rfl
      | (k + 6), hu => cases hu
    have hj : [g1, h1, g2, h2, g3, h3][j]? = some v.1 := by
      match j, hv with
      | 0, hv => cases hv; rfl
      | 1, hv => cases hv; rfl
      | 2, hv => cases hv; rfl
      | 3, hv => cases hv; rfl
      | 4, hv => cases hv; rfl
      | 5, hv => cases hv; rfl
      | (k + 6), hv => cases hv
    intro e
    rw [← e] at hj
    exact hn ((List.getElem?_inj (List.getElem?_eq_some_iff.1 hi).1 hP).1 (hi.trans hj.symm))

end Go.Proofs.Ytagakcnhhhlolaa.Base
