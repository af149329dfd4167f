/- binnaclekit: models held side by side. -/
import Derived.Test.YtagakcnhhhlolaaKitD
namespace Go.Proofs.Ytagakcnhhhlolaa.Base
open Go.RowKit
set_option linter.unusedVariables false
set_option linter.unusedSimpArgs false

set_option maxHeartbeats 8000000 in
set_option maxRecDepth 100000 in
theorem sameModel_same {B1 B2 : Nat} {W : World} {v1 v2 : Value} {M : Mdl} (hM1 : MM B1 W v1 M) (hM2 : MM B2 W v2 M) :
    Calls Try.prog 27 #[v1, v2] W fun e w' => e = .returned (.bool true) ∧ Below W.heap.size W w' := by
  obtain ⟨aA, cA, aQ, cQ, aR, cR, rfl, hA, hQ, hR⟩ := hM1.ex
  obtain ⟨bA, dA, bQ, dQ, bR, dR, rfl, gA, gQ, gR⟩ := hM2.ex
  have l1 := hR.len
  unfold maxLen at l1
  obtain ⟨m, A, Q, tick, gate, rmin, qs⟩ := M
  clear hM1 hM2
  dsimp only at *
  obtain ⟨n, hn⟩ : ∃ n, qs.length = n := ⟨_, rfl⟩
  rw [hn] at l1 ⊢
  have HN := Lib.hid hn
  clear hn
  go_enter Try.func27, Try.ntmps27
  go_wp2_with fail
  have hX := (Blk.new W #[.int .i64 m, .slice aA A.length cA, .slice aQ Q.length cQ, .int .i64 tick, .int .i64 gate, .int .i64 rmin, .slice aR n cR] 25).alloc (.cells #[.int .i64 m, .slice bA A.length dA, .slice bQ Q.length dQ, .int .i64 tick, .int .i64 gate, .int .i64 rmin, .slice bR n dR] 25)
  have hY := Blk.new (W.alloc (.cells #[.int .i64 m, .slice aA A.length cA, .slice aQ Q.length cQ, .int .i64 tick, .int .i64 gate, .int .i64 rmin, .slice aR n cR] 25)) #[.int .i64 m, .slice bA A.length dA, .slice bQ Q.length dQ, .int .i64 tick, .int .i64 gate, .int .i64 rmin, .slice bR n dR] 25
  rw [World.size_alloc] at hY
  have hB : Below W.heap.size W ((W.alloc (.cells #[.int .i64 m, .slice aA A.length cA, .slice aQ Q.length cQ, .int .i64 tick, .int .i64 gate, .int .i64 rmin, .slice aR n cR] 25)).alloc (.cells #[.int .i64 m, .slice bA A.length dA, .slice bQ Q.length dQ, .int .i64 tick, .int .i64 gate, .int .i64 rmin, .slice bR n dR] 25)) := ((Below.refl _ _).alloc (Nat.le_refl _) _).alloc (by simp) _
  generalize (W.alloc (.cells #[.int .i64 m, .slice aA A.length cA, .slice aQ Q.length cQ, .int .i64 tick, .int .i64 gate, .int .i64 rmin, .slice aR n cR] 25)).alloc (.cells #[.int .i64 m, .slice bA A.length dA, .slice bQ Q.length dQ, .int .i64 tick, .int .i64 gate, .int .i64 rmin, .slice bR n dR] 25) = W1 at *
  refine (sameInts_same (hA.keep hB) (gA.keep hB)).mono ?_
  rintro e w2 ⟨rfl, j1, hw2⟩
  have hK2 : Below W1.heap.size W1 w2 := by rw [hw2]; exact below_drewN _ _
  have hB2 := more hB hK2
  replace hX := hX.keep hK2
  replace hY := hY.keep hK2
  clear hw2 hB
  have x0 := hX.cell 0
  have x1 := hX.cell 1
  have x2 := hX.cell 2
  have x6 := hX.cell 6
  have y0 := hY.cell 0
  have y1 := hY.cell 1
  have y2 := hY.cell 2
  have y6 := hY.cell 6
  simp at x0 x1 x2 x6 y0 y1 y2 y6
  go_wp2_with fail
  refine (sameInts_same (hQ.keep hB2) (gQ.keep hB2)).mono ?_
  rintro e w3 ⟨rfl, j2, hw3⟩
  have hK3 : Below w2.heap.size w2 w3 := by rw [hw3]; exact below_drewN _ _
  have hB3 := more hB2 hK3
  replace hX := hX.keep hK3
  replace hY := hY.keep hK3
  clear hw3 hB2 x0 x1 x2 x6 y0 y1 y2 y6
  have x6 := hX.cell 6
  have y6 := hY.cell 6
  simp at x6 y6
  go_wp2_with fail
  clear x6 y6
  go_loopw [5] (fun i wr => ∃ (k : Nat), k ≤ n ∧ i = .int .i64 k ∧ Below w3.heap.size w3 wr) (fun i _ => n - (intOf i).toNat)
  case atStart => exact ⟨0, Nat.zero_le _, rfl, Below.refl _ _⟩
  case round =>
    obtain ⟨k, hk, rfl, hBr⟩ := hrel
    have hW := more hB3 hBr
    have hXr := hX.keep hBr
    have hYr := hY.keep hBr
    have x6 := hXr.cell 6
    have y6 := hYr.cell 6
    simp at x6 y6
    have h1r := hR.keep hW
    have h2r := gR.keep hW
    by_cases hkl : k < n
    · have hkl' : (k : Int) < (n : Int) := by omega
      have hk0 : (0 : Int) ≤ (k : Int) := by omega
      have hkz : k < qs.length := by rw [HN.out]; exact hkl
      obtain ⟨x, rfl, r1⟩ := h1r.at_ k hkz
      obtain ⟨y, rfl, r2⟩ := h2r.at_ k hkz
      generalize qs[k] = q at *
      obtain ⟨s, h, r⟩ := q
      obtain ⟨aH, cH, y0, y1, y2, hH⟩ := r1.ex
      obtain ⟨bH, dH, z0, z1, z2, hG⟩ := r2.ex
      clear r1 r2
      dsimp only at y0 y1 y2 hH z0 z1 z2 hG
      have HS := Lib.hid (fun w' (hw : Below wr.heap.size wr w') => sameInts_same (hH.keep hw) (hG.keep hw))
      go_wp2_with fail
      go_quiet (first | (go_at_call_of 67 (Value.slice aH h.length cH); exact Calls.quiet_of (HS.out _ (below_drewN _ _))))
      go_wp2_with fail
      go_roundw
      case rel => exact ⟨k + 1, by omega, by go_num, more hBr (below_drewN _ _)⟩
      case measure => simp [intOf]; omega
    · have hge : ¬ (k : Int) < (n : Int) := by omega
      go_wp2_with fail
      go_ret
      exact ⟨rfl, hW⟩

end Go.Proofs.Ytagakcnhhhlolaa.Base
