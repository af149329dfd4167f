/- SnapOrder: the plain law. No conditions. -/
import Derived.Test.YtagakcnhhhlolaaSnQ
namespace Go.Proofs.Ytagakcnhhhlolaa.Base
open Go.RowKit
set_option linter.unusedVariables false
set_option linter.unusedSimpArgs false

/-- The marks fit, and never get earlier. -/
structure Ord (M : Mdl) (ms : List Mrk) : Prop where
  fit : ∀ m ∈ ms, fitsV M m.b = 0
  srt : ms.Pairwise (fun a b => a.b.t ≤ b.b.t)
  len : ms.length ≤ 201
theorem Ord.one {M : Mdl} {b : Blf} (h : fitsV M b = 0) : Ord M [⟨b, trc0⟩] := ⟨by simpa using h, by simp, by simp⟩
theorem Ord.sub {M : Mdl} {ms ms' : List Mrk} (h : Ord M ms) (hs : ms'.Sublist ms) : Ord M ms' := ⟨fun m hm => h.fit m (hs.subset hm), h.srt.sublist hs, Nat.le_trans hs.length_le h.len⟩
theorem Ord.drop {M : Mdl} {ms : List Mrk} (h : Ord M ms) : Ord M (dropL ms) := by
  cases ms with
  | nil => exact h
  | cons m ms =>
    refine ⟨fun x hx => ?_, ?_, h.len⟩
    · rcases List.mem_cons.1 hx with rfl | hx
      · exact h.fit m (by simp)
      · exact h.fit x (by simp [hx])
    · have := h.srt
      rw [List.pairwise_cons] at this
      show (base0 m :: ms).Pairwise _
      rw [List.pairwise_cons]
      exact this
theorem lastT_ge {ms : List Mrk} (h : ms.Pairwise (fun a b => a.b.t ≤ b.b.t)) : ∀ m ∈ ms, m.b.t ≤ lastT ms := by
  intro m hm
  obtain ⟨i, hi, rfl⟩ := List.getElem_of_mem hm
  obtain ⟨k, hk⟩ : ∃ k, ms.length = k + 1 := ⟨ms.length - 1, by omega⟩
  rw [lastT_at hk]
  by_cases e : i = k
  · subst e; exact Int.le_refl _
  · exact (List.pairwise_iff_getElem.1 h) i k hi (by omega) (by omega)
theorem Ord.push {M : Mdl} {ms : List Mrk} {m : Mrk} (h : Ord M ms) (hv : pushV M ms m = 0) : Ord M (ms ++ [m]) := by
  unfold pushV at hv
  by_cases h1 : fitsV M m.b = 0
  · rw [if_neg (by simpa using h1)] at hv
    by_cases h2 : m.b.t < lastT ms
    · rw [if_pos h2] at hv; cases hv
    · rw [if_neg h2] at hv
      by_cases h3 : 201 ≤ ms.length
      · rw [if_pos h3] at hv; cases hv
      · refine ⟨fun x hx => ?_, ?_, by simp; omega⟩
        · rcases List.mem_append.1 hx with hx | hx
          · exact h.fit x hx
          · rw [List.mem_singleton.1 hx]; exact h1
        · rw [List.pairwise_append]
          refine ⟨h.srt, by simp, fun a ha b hb => ?_⟩
          rw [List.mem_singleton.1 hb]
          have := lastT_ge h.srt a ha
          omega
  · rw [if_pos h1] at hv
    exact absurd hv h1
theorem Ord.act {M : Mdl} {ms : List Mrk} {q : Ac} (h : Ord M ms) : Ord M (actL M ms q) := by
  unfold actL
  split
  · split
    · exact h.push ‹_›
    · exact h
  · split
    · split
      · exact h
      · exact h.sub (List.take_sublist _ _)
    · split
      · split
        · exact h
        · exact (h.sub (List.drop_sublist _ _)).drop
      · exact h
/-- The time of place k - 1, or -1; the last place ahead of k that is not later, or -1. -/
def tAt (ms : List Mrk) (k : Nat) : Int := (ms.getD k ⟨⟨0, [], [], false, 0, 0⟩, trc0⟩).b.t
theorem tAt_get {ms : List Mrk} {k : Nat} (h : k < ms.length) : tAt ms k = ms[k].b.t := by
  unfold tAt
  rw [List.getD_eq_getElem?_getD, List.getElem?_eq_getElem h]
  rfl
def lstV (ms : List Mrk) : Nat → Int
  | 0 => -1
  | k + 1 => tAt ms k
def plcV (ms : List Mrk) (t : Int) : Nat → Int
  | 0 => -1
  | k + 1 => if tAt ms k ≤ t then k else plcV ms t k
theorem Ord.at_le {M : Mdl} {ms : List Mrk} (h : Ord M ms) {i j : Nat} (hij : i ≤ j) (hj : j < ms.length) : tAt ms i ≤ tAt ms j := by
  rw [tAt_get hj, tAt_get (Nat.lt_of_le_of_lt hij hj)]
  by_cases e : i = j
  · subst e; exact Int.le_refl _
  · exact (List.pairwise_iff_getElem.1 h.srt) i j _ hj (by omega)
theorem Ord.lst {M : Mdl} {ms : List Mrk} (h : Ord M ms) {k : Nat} (hk : k < ms.length) : ¬ tAt ms k < lstV ms k := by
  cases k with
  | zero =>
    have := (fitsV_iff.1 (h.fit ms[0] (List.getElem_mem hk))).2.2.1.1.1
    rw [tAt_get hk]
    show ¬ _ < (-1 : Int)
    omega
  | succ k =>
    have := h.at_le (Nat.le_succ k) hk
    exact Int.not_lt.2 this
theorem plc_range (ms : List Mrk) (t : Int) (k : Nat) : -1 ≤ plcV ms t k ∧ plcV ms t k < k := by
  induction k with
  | zero => exact ⟨(by show (-1 : Int) ≤ -1; omega), (by show (-1 : Int) < 0; omega)⟩
  | succ k ih =>
    show -1 ≤ (if tAt ms k ≤ t then (k : Int) else plcV ms t k) ∧ (if tAt ms k ≤ t then (k : Int) else plcV ms t k) < ((k + 1 : Nat) : Int)
    split <;> omega
theorem plc_none {M : Mdl} {ms : List Mrk} (h : Ord M ms) {t : Int} (h0 : laterV ms t 0 = true) : ∀ k, k ≤ ms.length → plcV ms t k = -1 := by
  have h0 : t < tAt ms 0 := by simpa [laterV, tAt] using h0
  intro k
  induction k with
  | zero => intro _; rfl
  | succ k ih =>
    intro hk
    have := h.at_le (Nat.zero_le k) hk
    show (if tAt ms k ≤ t then (k : Int) else plcV ms t k) = -1
    rw [if_neg (by omega)]
    exact ih (by omega)
theorem plc_some {M : Mdl} {ms : List Mrk} (h : Ord M ms) {t : Int} {r : Nat} (hs : Srch ms t (r + 1)) : ∀ k, r < k → k ≤ ms.length → plcV ms t k = r := by
  obtain ⟨a, b, c⟩ := hs
  have b : tAt ms r ≤ t := by
    rcases b with b | b
    · omega
    · rw [Nat.add_sub_cancel] at b
      simpa [laterV, tAt] using b
  intro k
  induction k with
  | zero => intro h; omega
  | succ k ih =>
    intro h1 hk
    show (if tAt ms k ≤ t then (k : Int) else plcV ms t k) = r
    by_cases e : r = k
    · subst e; rw [if_pos b]
    · have c' : t < tAt ms (r + 1) := by
        rcases c with c | c
        · omega
        · simpa [laterV, tAt] using c
      have := h.at_le (show r + 1 ≤ k by omega) hk
      rw [if_neg (by omega)]
      exact ih (by omega) (by omega)

end Go.Proofs.Ytagakcnhhhlolaa.Base
