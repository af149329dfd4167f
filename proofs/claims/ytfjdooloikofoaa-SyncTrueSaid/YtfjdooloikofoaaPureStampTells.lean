/- StampTells: stamp.At answers what binnacleref17.At answers, at any numbers, and the examples hold; no conditions. -/
import Derived.Test.YtfjdooloikofoaaPStampTellsx1
namespace Go.Proofs.Ytfjdooloikofoaa.Pure
open Go.RowKit Go.Proofs.Ytfjdooloikofoaa.PStampTells Go.Proofs.YtfjdooloikofoaaW.PrintWords Go.Proofs.YtfjdooloikofoaaW.PrintLast

theorem outside_some (a b c : Int) : stamp_outside.f a b c = some (decide (a < b ∨ c < a)) := by
  unfold stamp_outside.f
  by_cases h : a < b
  · simp [h]
  · simp [h]

theorem within_some (a b c : Int) : binnacleref17_within.f a b c = some (decide (b ≤ a ∧ a ≤ c)) := by
  unfold binnacleref17_within.f
  by_cases h : b ≤ a
  · simp [h]
  · simp [h]

theorem why2 (k : Nat) (a b : Bool) (e f : Int) : stamp_why.f (k + 3) [⟨a, e⟩, ⟨b, f⟩] = some (if a then e else if b then f else 0) := by
  unfold stamp_why.f
  cases a <;> cases b <;> simp [stamp_why.l0, rd_T73, wrap64]

def odd (a0 a1 a3 a4 : Int) : Bool := decide (a0 < -1099511627776 ∨ 1099511627776 < a0 ∨ a1 < -1099511627776 ∨ 1099511627776 < a1 ∨ a3 < 0 ∨ 1099511627776 < a3 ∨ a4 < 0 ∨ 1073741824 < a4)

def ans (a0 a1 : Int) (a2 : Bool) (a3 a4 : Int) : Int × Int :=
  if odd a0 a1 a3 a4 = true then (0, 2) else if a2 = false then (0, 11) else if a0 + a1 < 0 ∨ 1099511627776 < a0 + a1 then (0, 4)
  else if a3 + a4 < a0 + a1 then (0, 10) else (mn (a0 + a1) a3, 0)

theorem at_j (k : Nat) (a0 a1 : Int) (a2 : Bool) (a3 a4 : Int) : stamp_At.j0 (k + 4) a0 a1 a2 a3 a4 (odd a0 a1 a3 a4) = some (ans a0 a1 a2 a3 a4) := by
  simp only [stamp_At.j0, why2, outside_some, Option.bind_some]
  unfold ans
  cases ho : odd a0 a1 a3 a4 with
  | true => simp
  | false =>
    cases a2 with
    | false => simp
    | true =>
      have h := of_decide_eq_false ho
      have e1 : wrap64 (a0 + a1) = a0 + a1 := by unfold wrap64; omega
      have e2 : wrap64 (a3 + a4) = a3 + a4 := by unfold wrap64; omega
      rw [e1, e2]
      by_cases h1 : a0 + a1 < 0 ∨ 1099511627776 < a0 + a1
      · simp [h1]
      · by_cases h2 : a3 + a4 < a0 + a1
        · simp [h1, h2]
        · simp [h1, h2]

theorem at_f (k : Nat) (a0 a1 : Int) (a2 : Bool) (a3 a4 : Int) : stamp_At.f (k + 4) a0 a1 a2 a3 a4 = some (ans a0 a1 a2 a3 a4) := by
  unfold stamp_At.f
  simp only [outside_some, Option.bind_some]
  rw [← at_j k]
  by_cases h0 : a0 < -1099511627776 ∨ 1099511627776 < a0
  · have : odd a0 a1 a3 a4 = true := by unfold odd; apply decide_eq_true; omega
    rw [this, if_pos (decide_eq_true h0)]
  · rw [if_neg (by simpa using h0)]
    by_cases h1 : a1 < -1099511627776 ∨ 1099511627776 < a1
    · have : odd a0 a1 a3 a4 = true := by unfold odd; apply decide_eq_true; omega
      rw [this, if_pos (decide_eq_true h1)]
    · rw [if_neg (by simpa using h1)]
      by_cases h2 : a3 < 0 ∨ 1099511627776 < a3
      · have : odd a0 a1 a3 a4 = true := by unfold odd; apply decide_eq_true; omega
        rw [this, if_pos (decide_eq_true h2)]
      · rw [if_neg (by simpa using h2)]
        have : odd a0 a1 a3 a4 = decide (a4 < 0 ∨ 1073741824 < a4) := by unfold odd; apply decide_eq_decide.2; omega
        rw [this]

theorem ref_j (k : Nat) (a0 a1 : Int) (a2 : Bool) (a3 a4 : Int) : binnacleref17_At.j0 (k + 4) a0 a1 a2 a3 a4 (odd a0 a1 a3 a4) = some (ans a0 a1 a2 a3 a4) := by
  simp only [binnacleref17_At.j0, within_some, Option.bind_some]
  unfold ans
  cases ho : odd a0 a1 a3 a4 with
  | true => simp
  | false =>
    cases a2 with
    | false => simp
    | true =>
      have h := of_decide_eq_false ho
      have e1 : wrap64 (a0 + a1) = a0 + a1 := by unfold wrap64; omega
      have e2 : wrap64 (a3 + a4) = a3 + a4 := by unfold wrap64; omega
      rw [e1, e2]
      by_cases h1 : a0 + a1 < 0 ∨ 1099511627776 < a0 + a1
      · have : ¬ (0 ≤ a0 + a1 ∧ a0 + a1 ≤ 1099511627776) := by omega
        simp [h1, this]
      · have : 0 ≤ a0 + a1 ∧ a0 + a1 ≤ 1099511627776 := by omega
        by_cases h2 : a3 + a4 < a0 + a1
        · simp [h1, this, h2]
        · simp [h1, this, h2]

theorem ref_f (k : Nat) (a0 a1 : Int) (a2 : Bool) (a3 a4 : Int) : binnacleref17_At.f (k + 4) a0 a1 a2 a3 a4 = some (ans a0 a1 a2 a3 a4) := by
  unfold binnacleref17_At.f
  simp only [within_some, Option.bind_some]
  rw [← ref_j k]
  by_cases h0 : -1099511627776 ≤ a0 ∧ a0 ≤ 1099511627776
  · rw [if_pos (decide_eq_true h0)]
    by_cases h1 : -1099511627776 ≤ a1 ∧ a1 ≤ 1099511627776
    · rw [if_pos (decide_eq_true h1)]
      by_cases h2 : 0 ≤ a3 ∧ a3 ≤ 1099511627776
      · rw [if_pos (decide_eq_true h2)]
        have : odd a0 a1 a3 a4 = !decide (0 ≤ a4 ∧ a4 ≤ 1073741824) := by
          unfold odd; rw [← decide_not]; apply decide_eq_decide.2; omega
        rw [this]
      · have : odd a0 a1 a3 a4 = true := by unfold odd; apply decide_eq_true; omega
        rw [this, if_neg (by simpa using h2)]
    · have : odd a0 a1 a3 a4 = true := by unfold odd; apply decide_eq_true; omega
      rw [this, if_neg (by simpa using h1)]
  · have : odd a0 a1 a3 a4 = true := by unfold odd; apply decide_eq_true; omega
    rw [this, if_neg (by simpa using h0)]

theorem awake_f (k : Nat) : binnaclelaw17_awake.f (k + 4) = some true := by
  unfold binnaclelaw17_awake.f binnaclelaw17_at.f
  simp only [at_f, Option.bind_some]
  decide +kernel

theorem StampTells : binnaclelaw17_StampTells.Pure := by
  intro a0 a1 a2 a3 a4 _ _ _ _
  refine ⟨4, ?_⟩
  unfold binnaclelaw17_StampTells.f
  have h1 := at_f 0 a0 a1 a2 a3 a4
  have h2 := ref_f 0 a0 a1 a2 a3 a4
  have h3 := awake_f 0
  rw [Nat.zero_add] at h1 h2 h3
  rw [h1, Option.bind_some, h2, Option.bind_some, if_pos rfl, if_pos rfl, h3, Option.bind_some]

end Go.Proofs.Ytfjdooloikofoaa.Pure
