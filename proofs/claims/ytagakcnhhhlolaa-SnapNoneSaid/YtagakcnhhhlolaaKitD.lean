/- binnaclekit: rows held side by side. -/
import Derived.Test.YtagakcnhhhlolaaKitC
namespace Go.Proofs.Ytagakcnhhhlolaa.Base
open Go.RowKit
set_option linter.unusedVariables false
set_option linter.unusedSimpArgs false

set_option maxHeartbeats 4000000 in
set_option maxRecDepth 100000 in
theorem sameRows_same {B1 B2 : Nat} {W : World} {a b : Option Addr} {c1 c2 : Nat} {qs : List Rw} (h1 : MR B1 W a c1 qs) (h2 : MR B2 W b c2 qs) :
    Calls Try.prog 25 #[.slice a qs.length c1, .slice b qs.length c2] W fun e w' => e = .returned (.bool true) ∧ Below W.heap.size W w' := by
  have l1 := h1.len
  unfold maxLen at l1
  obtain ⟨n, hn⟩ : ∃ n, qs.length = n := ⟨_, rfl⟩
  rw [hn] at l1 ⊢
  have HN := Lib.hid hn
  clear hn
  go_enter Try.func25, Try.ntmps25
  go_wp2_with fail
  go_loopw [5] (fun i wr => ∃ (k : Nat), k ≤ n ∧ i = .int .i64 k ∧ Below W.heap.size W wr) (fun i _ => n - (intOf i).toNat)
  case atStart => exact ⟨0, Nat.zero_le _, rfl, Below.refl _ _⟩
  case round =>
    obtain ⟨k, hk, rfl, hB⟩ := hrel
    have h1r := h1.keep hB
    have h2r := h2.keep hB
    by_cases hkl : k < n
    · have hkl' : (k : Int) < (n : Int) := by omega
      have hk0 : (0 : Int) ≤ (k : Int) := by omega
      have hkz : k < qs.length := by rw [HN.out]; exact hkl
      obtain ⟨x, rfl, r1⟩ := h1r.at_ k hkz
      obtain ⟨y, rfl, r2⟩ := h2r.at_ k hkz
      generalize qs[k] = q at *
      obtain ⟨s, h, r⟩ := q
      obtain ⟨aH, cH, y0, y1, y2, hH⟩ := r1.ex
      obtain ⟨bH, dH, z0, z1, z2, hG⟩ := r2.ex
      clear r1 r2
      dsimp only at y0 y1 y2 hH z0 z1 z2 hG
      have HS := Lib.hid (fun w' (hw : Below wr.heap.size wr w') => sameInts_same (hH.keep hw) (hG.keep hw))
      go_wp2_with fail
      go_quiet (first | (go_at_call_of 67 (Value.slice aH h.length cH); exact Calls.quiet_of (HS.out _ (below_drewN _ _))))
      go_wp2_with fail
      go_roundw
      case rel => exact ⟨k + 1, by omega, by go_num, more hB (below_drewN _ _)⟩
      case measure => simp [intOf]; omega
    · have hge : ¬ (k : Int) < (n : Int) := by omega
      go_wp2_with fail
      go_ret
      exact ⟨rfl, hB⟩

end Go.Proofs.Ytagakcnhhhlolaa.Base
