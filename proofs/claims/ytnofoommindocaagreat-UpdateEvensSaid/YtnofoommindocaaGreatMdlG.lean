/- slices.Contains of ints. -/
import Derived.Test.YtnofoommindocaaGreatMdlB
namespace Go.Proofs.YtnofoommindocaaGreat.Base
open Go.RowKit
set_option linter.unusedVariables false
set_option linter.unusedSimpArgs false

set_option maxHeartbeats 1000000 in
theorem index_val {B : Nat} {W : World} {a : Option Addr} {c : Nat} {zs : List Int} (h : MI B W a c zs) (v : Int) :
    Calls Tryz.prog 118 #[.slice a zs.length c, .int .i64 v] W fun e w' => ∃ r : Int, e = .returned (.int .i64 r) ∧ (0 ≤ r ↔ v ∈ zs) ∧ W = w' := by
  have hl := h.len
  unfold maxLen at hl
  obtain ⟨n, hn⟩ : ∃ n, zs.length = n := ⟨_, rfl⟩
  rw [hn] at hl ⊢
  go_enter Tryz.func118, Tryz.ntmps118
  go_wp2_with fail
  go_loopw [8] (fun i wr => ∃ (k : Nat), k ≤ n ∧ i = .int .i64 k ∧ Hid (∀ j, (hj : j < zs.length) → j < k → ¬ v = zs[j]) ∧ wr = W) (fun i _ => n - (intOf i).toNat)
  case atStart => exact ⟨0, Nat.zero_le _, rfl, fun j _ hj => absurd hj (by omega), rfl⟩
  case round =>
    obtain ⟨k, hk, rfl, hS, rfl⟩ := hrel
    by_cases hkl : k < n
    · have hkl' : (k : Int) < (n : Int) := by omega
      have hk0 : (0 : Int) ≤ (k : Int) := by omega
      have hkz : k < zs.length := by omega
      obtain ⟨x, rfl, hx, hxr⟩ := h.at k hkz
      obtain ⟨z, hz⟩ : ∃ z, zs[k] = z := ⟨_, rfl⟩
      rw [hz] at hx hxr
      have HZ := Lib.hid hz
      clear hz
      by_cases hp : v = z
      · have hin := Lib.hid (show v ∈ zs by rw [hp, ← HZ.out]; exact List.getElem_mem hkz)
        subst hp
        go_wp2_with fail
        go_ret
        exact ⟨_, rfl, ⟨fun _ => hin.out, fun _ => hk0⟩, rfl⟩
      · have hpe : (v == z) = false := by simp; omega
        have HP := Lib.hid hp
        go_wp2_with fail
        go_roundw
        case rel =>
          refine ⟨k + 1, by omega, by go_num, fun j hj hjk => ?_, by trivial⟩
          by_cases e : j = k
          · subst e; rw [HZ.out]; exact HP.out
          · exact hS.out j hj (by omega)
        case measure => simp [intOf]; omega
    · have hge : ¬ (k : Int) < (n : Int) := by omega
      go_wp2_with fail
      go_ret
      refine ⟨_, rfl, ⟨fun hh => absurd hh (by decide), fun hz => ?_⟩, rfl⟩
      obtain ⟨j, hj, hjv⟩ := List.mem_iff_getElem.1 hz
      exact absurd hjv.symm (hS.out j hj (by omega))
theorem contains_val {B : Nat} {W : World} {a : Option Addr} {c : Nat} {zs : List Int} (h : MI B W a c zs) (v : Int) :
    Calls Tryz.prog 69 #[.slice a zs.length c, .int .i64 v] W fun e w' => TellsB e (v ∈ zs) ∧ W = w' := by
  go_enter Tryz.func69, Tryz.ntmps69
  go_wp2_with fail
  refine (index_val h v).mono ?_
  rintro e w' ⟨r, rfl, hr, rfl⟩
  by_cases h0 : 0 ≤ r
  · have HR := Lib.hid (hr.1 h0)
    clear hr
    go_wp2_with fail
    go_ret
    refine ⟨?_, rfl⟩
    have e : decide (0 ≤ r) = true := decide_eq_true h0
    show TellsB (.returned (.bool _)) _
    first | exact TellsB.yes HR.out | (rw [e]; exact TellsB.yes HR.out)
  · have HR := Lib.hid (show ¬ v ∈ zs from fun h => h0 (hr.2 h))
    clear hr
    have e : decide (0 ≤ r) = false := decide_eq_false h0
    go_wp2_with fail
    go_ret
    refine ⟨?_, rfl⟩
    show TellsB (.returned (.bool _)) _
    first | exact TellsB.no HR.out | (rw [e]; exact TellsB.no HR.out)

end Go.Proofs.YtnofoommindocaaGreat.Base
