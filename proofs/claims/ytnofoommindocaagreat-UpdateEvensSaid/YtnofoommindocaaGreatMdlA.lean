/- model: far, within, and whether a list contains one that is. -/
import Derived.Test.YtnofoommindocaaGreatKitB
namespace Go.Proofs.YtnofoommindocaaGreat.Base
open Go.RowKit
set_option linter.unusedVariables false
set_option linter.unusedSimpArgs false

def farP (z : Int) : Prop := z < -68719476736 ∨ 68719476736 < z
instance (z : Int) : Decidable (farP z) := by unfold farP; infer_instance
def offP (z : Int) : Prop := ¬ (0 ≤ z ∧ z ≤ 68719476736)
instance (z : Int) : Decidable (offP z) := by unfold offP; infer_instance

theorem far_is (z : Int) (W : World) : Calls Tryz.prog 169 #[.int .i64 z] W fun e w' => e = .returned (.bool (decide (farP z))) ∧ W = w' := by
  unfold farP
  by_cases h1 : z < -68719476736
  · go_enter Tryz.func169, Tryz.ntmps169
    go_wp2
    go_ret
    exact ⟨by simp [h1], rfl⟩
  · by_cases h2 : 68719476736 < z
    · go_enter Tryz.func169, Tryz.ntmps169
      go_wp2
      go_ret
      exact ⟨by simp [h2], rfl⟩
    · go_enter Tryz.func169, Tryz.ntmps169
      go_wp2
      go_ret
      exact ⟨by rw [decide_eq_false (show ¬ (z < -68719476736 ∨ 68719476736 < z) by omega)]; rfl, rfl⟩
theorem within_is (z l h : Int) (W : World) : Calls Tryz.prog 68 #[.int .i64 z, .int .i64 l, .int .i64 h] W fun e w' => e = .returned (.bool (decide (l ≤ z ∧ z ≤ h))) ∧ W = w' := by
  by_cases h1 : l ≤ z
  · by_cases h2 : z ≤ h
    · go_enter Tryz.func68, Tryz.ntmps68
      go_wp2
      go_ret
      exact ⟨by simp [h1, h2], rfl⟩
    · go_enter Tryz.func68, Tryz.ntmps68
      go_wp2
      go_ret
      exact ⟨by simp [h1, h2], rfl⟩
  · go_enter Tryz.func68, Tryz.ntmps68
    go_wp2
    go_ret
    exact ⟨by simp; omega, rfl⟩
theorem off_is (z : Int) (W : World) : Calls Tryz.prog 114 #[.int .i64 z] W fun e w' => e = .returned (.bool (decide (offP z))) ∧ W = w' := by
  go_enter Tryz.func114, Tryz.ntmps114
  go_wp2_with (go_at_call 68; refine (within_is _ _ _ _).mono ?_; rintro e w' ⟨rfl, rfl⟩)
  go_ret
  exact ⟨by by_cases q1 : 0 ≤ z <;> by_cases q2 : z ≤ 68719476736 <;> simp [offP, q1, q2] <;> omega, rfl⟩

set_option maxHeartbeats 1000000 in
theorem index_far {B : Nat} {W : World} {a : Option Addr} {c : Nat} {zs : List Int} (h : MI B W a c zs) :
    Calls Tryz.prog 150 #[.slice a zs.length c, .func (.func 169) #[] #[]] W fun e w' => ∃ r : Int, e = .returned (.int .i64 r) ∧ (0 ≤ r ↔ ∃ z ∈ zs, farP z) ∧ W = w' := by
  have hl := h.len
  unfold maxLen at hl
  obtain ⟨n, hn⟩ : ∃ n, zs.length = n := ⟨_, rfl⟩
  rw [hn] at hl ⊢
  go_enter Tryz.func150, Tryz.ntmps150
  go_wp2_with fail
  go_loopw [8] (fun i wr => ∃ (k : Nat), k ≤ n ∧ i = .int .i64 k ∧ Hid (∀ j, (hj : j < zs.length) → j < k → ¬ farP zs[j]) ∧ wr = W) (fun i _ => n - (intOf i).toNat)
  case atStart => exact ⟨0, Nat.zero_le _, rfl, fun j _ hj => absurd hj (by omega), rfl⟩
  case round =>
    obtain ⟨k, hk, rfl, hS, rfl⟩ := hrel
    by_cases hkl : k < n
    · have hkl' : (k : Int) < (n : Int) := by omega
      have hk0 : (0 : Int) ≤ (k : Int) := by omega
      have hkz : k < zs.length := by omega
      obtain ⟨x, rfl, hx, hxr⟩ := h.at k hkz
      obtain ⟨z, hz⟩ : ∃ z, zs[k] = z := ⟨_, rfl⟩
      rw [hz] at hx hxr
      have HZ := Lib.hid hz
      clear hz
      go_wp2_with fail
      refine (far_is z _).mono ?_
      rintro e w' ⟨rfl, rfl⟩
      by_cases hp : farP z
      · simp only [hp, decide_true]
        go_wp2_with fail
        go_ret
        exact ⟨_, rfl, ⟨fun _ => ⟨z, by rw [← HZ.out]; exact List.getElem_mem hkz, hp⟩, fun _ => hk0⟩, rfl⟩
      · simp only [hp, decide_false]
        go_wp2_with fail
        go_roundw
        case rel =>
          refine ⟨k + 1, by omega, by go_num, fun j hj hjk => ?_, by trivial⟩
          by_cases e : j = k
          · subst e; rw [HZ.out]; exact hp
          · exact hS.out j hj (by omega)
        case measure => simp [intOf]; omega
    · have hge : ¬ (k : Int) < (n : Int) := by omega
      go_wp2_with fail
      go_ret
      refine ⟨_, rfl, ⟨fun hh => absurd hh (by decide), fun ⟨z, hz, hp⟩ => ?_⟩, rfl⟩
      obtain ⟨j, hj, rfl⟩ := List.mem_iff_getElem.1 hz
      exact absurd hp (hS.out j hj (by omega))

set_option maxHeartbeats 1000000 in
theorem index_off {B : Nat} {W : World} {a : Option Addr} {c : Nat} {zs : List Int} (h : MI B W a c zs) :
    Calls Tryz.prog 150 #[.slice a zs.length c, .func (.func 114) #[] #[]] W fun e w' => ∃ r : Int, e = .returned (.int .i64 r) ∧ (0 ≤ r ↔ ∃ z ∈ zs, offP z) ∧ W = w' := by
  have hl := h.len
  unfold maxLen at hl
  obtain ⟨n, hn⟩ : ∃ n, zs.length = n := ⟨_, rfl⟩
  rw [hn] at hl ⊢
  go_enter Tryz.func150, Tryz.ntmps150
  go_wp2_with fail
  go_loopw [8] (fun i wr => ∃ (k : Nat), k ≤ n ∧ i = .int .i64 k ∧ Hid (∀ j, (hj : j < zs.length) → j < k → ¬ offP zs[j]) ∧ wr = W) (fun i _ => n - (intOf i).toNat)
  case atStart => exact ⟨0, Nat.zero_le _, rfl, fun j _ hj => absurd hj (by omega), rfl⟩
  case round =>
    obtain ⟨k, hk, rfl, hS, rfl⟩ := hrel
    by_cases hkl : k < n
    · have hkl' : (k : Int) < (n : Int) := by omega
      have hk0 : (0 : Int) ≤ (k : Int) := by omega
      have hkz : k < zs.length := by omega
      obtain ⟨x, rfl, hx, hxr⟩ := h.at k hkz
      obtain ⟨z, hz⟩ : ∃ z, zs[k] = z := ⟨_, rfl⟩
      rw [hz] at hx hxr
      have HZ := Lib.hid hz
      clear hz
      go_wp2_with fail
      refine (off_is z _).mono ?_
      rintro e w' ⟨rfl, rfl⟩
      by_cases hp : offP z
      · simp only [hp, decide_true]
        go_wp2_with fail
        go_ret
        exact ⟨_, rfl, ⟨fun _ => ⟨z, by rw [← HZ.out]; exact List.getElem_mem hkz, hp⟩, fun _ => hk0⟩, rfl⟩
      · simp only [hp, decide_false]
        go_wp2_with fail
        go_roundw
        case rel =>
          refine ⟨k + 1, by omega, by go_num, fun j hj hjk => ?_, by trivial⟩
          by_cases e : j = k
          · subst e; rw [HZ.out]; exact hp
          · exact hS.out j hj (by omega)
        case measure => simp [intOf]; omega
    · have hge : ¬ (k : Int) < (n : Int) := by omega
      go_wp2_with fail
      go_ret
      refine ⟨_, rfl, ⟨fun hh => absurd hh (by decide), fun ⟨z, hz, hp⟩ => ?_⟩, rfl⟩
      obtain ⟨j, hj, rfl⟩ := List.mem_iff_getElem.1 hz
      exact absurd hp (hS.out j hj (by omega))

theorem contains_far {B : Nat} {W : World} {a : Option Addr} {c : Nat} {zs : List Int} (h : MI B W a c zs) :
    Calls Tryz.prog 94 #[.slice a zs.length c, .func (.func 169) #[] #[]] W fun e w' => ∃ r : Bool, e = .returned (.bool r) ∧ (r = true ↔ ∃ z ∈ zs, farP z) ∧ W = w' := by
  go_enter Tryz.func94, Tryz.ntmps94
  go_wp2_with fail
  refine (index_far h).mono ?_
  rintro e w' ⟨r, rfl, hr, rfl⟩
  go_wp2_with fail
  go_ret
  exact ⟨_, rfl, decide_eq_true_iff, rfl⟩

theorem contains_off {B : Nat} {W : World} {a : Option Addr} {c : Nat} {zs : List Int} (h : MI B W a c zs) :
    Calls Tryz.prog 94 #[.slice a zs.length c, .func (.func 114) #[] #[]] W fun e w' => ∃ r : Bool, e = .returned (.bool r) ∧ (r = true ↔ ∃ z ∈ zs, offP z) ∧ W = w' := by
  go_enter Tryz.func94, Tryz.ntmps94
  go_wp2_with fail
  refine (index_off h).mono ?_
  rintro e w' ⟨r, rfl, hr, rfl⟩
  go_wp2_with fail
  go_ret
  exact ⟨_, rfl, decide_eq_true_iff, rfl⟩

end Go.Proofs.YtnofoommindocaaGreat.Base
