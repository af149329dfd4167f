/- SyncTrue: the plain law, and the walk. -/
import Derived.Test.YtfjdooloikofoaaSyncS
import Derived.Test.YtfjdooloikofoaaSyncK
import Derived.BigQuiet
namespace Go.Proofs.Ytfjdooloikofoaa.SyncA
open Go.RowKit Go.Shelf Go.Proofs.Ytfjdooloikofoaa.StampA Go.Proofs.Ytfjdooloikofoaa.Base
set_option linter.unusedVariables false
set_option linter.unusedSimpArgs false

theorem bst_least (l : List TSw) : ∀ y, bst l = some y → y ∈ l ∧ ∀ x ∈ l, rnd y.1 ≤ rnd x.1 := by
  suffices h : ∀ r : List TSw, ∀ y, bst r.reverse = some y → y ∈ r.reverse ∧ ∀ x ∈ r.reverse, rnd y.1 ≤ rnd x.1 by
    have := h l.reverse
    rwa [List.reverse_reverse] at this
  intro r
  induction r with
  | nil => intro y h; simp [bst] at h
  | cons a r ih =>
    intro y h
    rw [List.reverse_cons, bst_snoc] at h
    rw [List.reverse_cons]
    cases hb : bst r.reverse with
    | none =>
      rw [hb] at h
      simp [bstep] at h
      subst h
      refine ⟨by simp, fun x hx => ?_⟩
      cases hr : r.reverse with
      | nil => rw [hr] at hx; simp at hx; subst hx; exact Int.le_refl _
      | cons z t =>
        exfalso
        have hne : ∀ (t : List TSw) (o : TSw), (t.foldl bstep (some o)) ≠ none := by
          intro t
          induction t with
          | nil => intro o; simp
          | cons u v ihh =>
            intro o
            simp only [List.foldl_cons, bstep]
            split
            · exact ihh _
            · exact ihh _
        rw [hr] at hb
        simp [bst, bstep] at hb
        exact hne t z hb
    | some z =>
      obtain ⟨h1, h2⟩ := ih z hb
      rw [hb] at h
      simp only [bstep] at h
      split at h
      · rename_i hle
        simp at h
        subst h
        refine ⟨by simp, fun x hx => ?_⟩
        simp only [List.mem_append, List.mem_singleton] at hx
        rcases hx with hx | rfl
        · exact Int.le_trans hle (h2 x hx)
        · exact Int.le_refl _
      · rename_i hle
        simp at h
        subst h
        refine ⟨List.mem_append_left _ h1, fun x hx => ?_⟩
        simp only [List.mem_append, List.mem_singleton] at hx
        rcases hx with hx | rfl
        · exact h2 x hx
        · omega
theorem bst_some (l : List TSw) (h : 0 < l.length) : ∃ y, bst l = some y := by
  have hne : ∀ (t : List TSw) (o : TSw), ∃ y, (t.foldl bstep (some o)) = some y := by
    intro t
    induction t with
    | nil => intro o; exact ⟨o, rfl⟩
    | cons u v ihh =>
      intro o
      simp only [List.foldl_cons, bstep]
      split
      · exact ihh _
      · exact ihh _
  cases l with
  | nil => simp at h
  | cons a t => exact hne t a

/-- y is the least of the first k. -/
structure Low (y : Int) (zs : List Int) (k : Nat) : Prop where
  is : ∃ j, j < k ∧ zs.getD j 0 = y
  le : ∀ j, j < k → y ≤ zs.getD j 0
theorem Low.next {y : Int} {zs : List Int} {k : Nat} (h : Low y zs k) : Low (min y (zs.getD k 0)) zs (k + 1) := by
  obtain ⟨j, hj, he⟩ := h.is
  by_cases hc : y ≤ zs.getD k 0
  · rw [Int.min_eq_left hc]
    refine ⟨⟨j, by omega, he⟩, fun i hi => ?_⟩
    by_cases e : i = k
    · subst e; exact hc
    · exact h.le i (by omega)
  · rw [Int.min_eq_right (by omega)]
    refine ⟨⟨k, by omega, rfl⟩, fun i hi => ?_⟩
    by_cases e : i = k
    · subst e; exact Int.le_refl _
    · have := h.le i (by omega); omega

/-- The exchange is one of a clock that is theta ahead. -/
def Trip (th : Int) (x : TSw) : Prop := ∃ p b : Int, 0 ≤ p ∧ p ≤ 1000000000 ∧ 0 ≤ b ∧ b ≤ 1000000000 ∧ x.1.t2 = x.1.t1 + th + p ∧ x.1.t4 = x.1.t3 - th + b

/-- What the statement asks of a round. -/
theorem round_right {th : Int} {l : List TSw} {m : Int} (hl : 0 < l.length) (ht : ∀ x ∈ l, Trip th x) (hm : Low m (l.map fun x => rnd x.1) l.length) :
    ∃ o, bT l = (o, m, 0) ∧ 0 ≤ m ∧ m ≤ 2000000000 ∧ o - th ≤ m / 2 + 1 ∧ th - o ≤ m / 2 + 1 := by
  obtain ⟨y, hy⟩ := bst_some l hl
  obtain ⟨h1, h2⟩ := bst_least l y hy
  obtain ⟨j, hj, he⟩ := hm.is
  have hjm : rnd y.1 ≤ m := by
    rw [← he]
    have := h2 l[j] (List.getElem_mem hj)
    simpa [List.getD, hj] using this
  obtain ⟨i, hi, hiy⟩ := List.mem_iff_getElem.1 h1
  have him : m ≤ rnd y.1 := by
    have := hm.le i hi
    rw [← hiy]
    simpa [List.getD, hi] using this
  have hmm : m = rnd y.1 := by omega
  obtain ⟨p, b, p0, p1, b0, b1, e2, e4⟩ := ht y h1
  refine ⟨offS y.1, by unfold bT; rw [hy, hmm], ?_, ?_, ?_, ?_⟩
  · rw [hmm]; unfold rnd; omega
  · rw [hmm]; unfold rnd; omega
  · rw [hmm]; unfold rnd offS; omega
  · rw [hmm]; unfold rnd offS; omega

end Go.Proofs.Ytfjdooloikofoaa.SyncA
