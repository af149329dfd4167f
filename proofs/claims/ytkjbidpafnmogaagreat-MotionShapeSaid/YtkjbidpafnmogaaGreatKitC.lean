/- binnaclekit: whether a model is long. -/
import Derived.Test.YtkjbidpafnmogaaGreatKitB
namespace Go.Proofs.YtkjbidpafnmogaaGreat.Base
open Go.RowKit
set_option linter.unusedVariables false
set_option linter.unusedSimpArgs false

/-- A model of moderate length. -/
structure Mod (M : Mdl) : Prop where
  a : M.A.length ≤ 40
  q : M.Q.length ≤ 12
  r : M.rows.length ≤ 30
  h : ∀ q ∈ M.rows, q.h.length ≤ 12
def TellsBb (e : Ending) (p : Prop) : Prop := (p ∧ e = .returned (.bool true)) ∨ (¬ p ∧ e = .returned (.bool false))

set_option maxHeartbeats 4000000 in
set_option maxRecDepth 100000 in
theorem longModel_is {B : Nat} {W : World} {v : Value} {M : Mdl} (hM : MM B W v M) :
    Calls Tryz.prog 37 #[v] W fun e w' => TellsBb e (¬ Mod M) ∧ Below W.heap.size W w' := by
  obtain ⟨aA, cA, aQ, cQ, aR, cR, rfl, hA, hQ, hR⟩ := hM.ex
  have hlA := hA.len
  have hlQ := hQ.len
  have hlR := hR.len
  unfold maxLen at hlA hlQ hlR
  have hB : Below W.heap.size W (W.alloc (.cells #[Value.int .i64 M.n, .slice aA M.A.length cA, .slice aQ M.Q.length cQ, .int .i64 M.tick, .int .i64 M.gate, .int .i64 M.rmin, .slice aR M.rows.length cR] 54)) := (Below.refl _ _).alloc (Nat.le_refl _) _
  have hR1 := hR.keep hB
  obtain ⟨n, hnl⟩ : ∃ n, M.rows.length = n := ⟨_, rfl⟩
  obtain ⟨la, hla⟩ : ∃ n, M.A.length = n := ⟨_, rfl⟩
  obtain ⟨lq, hlq⟩ : ∃ n, M.Q.length = n := ⟨_, rfl⟩
  have HNL := Lib.hid hnl
  have HLA := Lib.hid hla
  have HLQ := Lib.hid hlq
  rw [hnl, hla, hlq] at hB hR1
  rw [hnl] at hlR
  rw [hla] at hlA
  rw [hlq] at hlQ
  rw [hnl, hla, hlq]
  clear hnl hla hlq hA hQ hR hM
  go_enter Tryz.func37, Tryz.ntmps37
  go_wp2_with fail
  have hX := Blk.new W #[Value.int .i64 M.n, .slice aA la cA, .slice aQ lq cQ, .int .i64 M.tick, .int .i64 M.gate, .int .i64 M.rmin, .slice aR n cR] 54
  generalize W.alloc (.cells #[Value.int .i64 M.n, .slice aA la cA, .slice aQ lq cQ, .int .i64 M.tick, .int .i64 M.gate, .int .i64 M.rmin, .slice aR n cR] 54) = W1 at *
  have x1 := hX.cell 1
  have x2 := hX.cell 2
  have x6 := hX.cell 6
  simp at x1 x2 x6
  clear hX
  go_loopw [3] (fun i wr => ∃ (k : Nat), k ≤ n ∧ k ≤ 31 ∧ i = .int .i64 k ∧ Hid (∀ j, (hj : j < M.rows.length) → j < k → M.rows[j].h.length ≤ 12) ∧ wr = W1) (fun i _ => 31 - (intOf i).toNat)
  case atStart => exact ⟨0, Nat.zero_le _, by omega, rfl, fun j _ hj => absurd hj (by omega), rfl⟩
  case round =>
    obtain ⟨k, hk, hk2, rfl, hS, rfl⟩ := hrel
    by_cases hkl : k < n ∧ k < 31
    · obtain ⟨hkn, hk31⟩ := hkl
      have hkl' : (k : Int) < (n : Int) := by omega
      have hkl2 : (k : Int) < 31 := by omega
      have hk0 : (0 : Int) ≤ (k : Int) := by omega
      have hkz : k < M.rows.length := by rw [HNL.out]; exact hkn
      obtain ⟨x, rfl, hrow⟩ := hR1.at_ k hkz
      obtain ⟨⟨s, h, r⟩, hz⟩ : ∃ z, M.rows[k] = z := ⟨_, rfl⟩
      rw [hz] at hrow
      obtain ⟨aH, cH, y0, y1, y2, hH⟩ := hrow.ex
      clear hrow
      dsimp only at y0 y1 y2 hH
      have HZ := Lib.hid hz
      clear hz y0 y2
      have hlh := hH.len
      unfold maxLen at hlh
      clear hH
      by_cases g : 12 < h.length
      · have g' : (12 : Int) < (h.length : Int) := by omega
        have HN := Lib.hid (show ¬ Mod M from fun hm => by
          have := hm.h _ (List.getElem_mem hkz)
          rw [HZ.out] at this
          dsimp only at this
          omega)
        generalize h.length = lh at *
        go_wp2_with fail
        go_ret
        exact ⟨.inl ⟨HN.out, rfl⟩, hB⟩
      · have g' : ¬ (12 : Int) < (h.length : Int) := by omega
        have HG := Lib.hid (show M.rows[k].h.length ≤ 12 by rw [HZ.out]; dsimp only; omega)
        generalize h.length = lh at *
        go_wp2_with fail
        go_roundw
        case rel =>
          refine ⟨k + 1, by omega, by omega, by go_num, fun j hj hjk => ?_, by trivial⟩
          by_cases e : j = k
          · subst e; exact HG.out
          · exact hS.out j hj (by omega)
        case measure => simp [intOf]; omega
    · by_cases hkn : k < n
      · have hkl' : (k : Int) < (n : Int) := by omega
        have hkl2 : ¬ (k : Int) < 31 := by omega
        have hn31 : 31 < n := by omega
        by_cases g1 : 40 < la
        · have g1' : (40 : Int) < (la : Int) := by omega
          have HN := Lib.hid (show ¬ Mod M from fun hm => by have := hm.a; rw [HLA.out] at this; omega)
          go_wp2_with fail
          go_ret
          exact ⟨.inl ⟨HN.out, rfl⟩, hB⟩
        have g1' : ¬ (40 : Int) < (la : Int) := by omega
        by_cases g2 : 12 < lq
        · have g2' : (12 : Int) < (lq : Int) := by omega
          have HN := Lib.hid (show ¬ Mod M from fun hm => by have := hm.q; rw [HLQ.out] at this; omega)
          go_wp2_with fail
          go_ret
          exact ⟨.inl ⟨HN.out, rfl⟩, hB⟩
        have g2' : ¬ (12 : Int) < (lq : Int) := by omega
        have g3' : (30 : Int) < (n : Int) := by omega
        have HN := Lib.hid (show ¬ Mod M from fun hm => by have := hm.r; rw [HNL.out] at this; omega)
        go_wp2_with fail
        go_ret
        exact ⟨.inl ⟨HN.out, rfl⟩, hB⟩
      · have hkl' : ¬ (k : Int) < (n : Int) := by omega
        by_cases g1 : 40 < la
        · have g1' : (40 : Int) < (la : Int) := by omega
          have HN := Lib.hid (show ¬ Mod M from fun hm => by have := hm.a; rw [HLA.out] at this; omega)
          go_wp2_with fail
          go_ret
          exact ⟨.inl ⟨HN.out, rfl⟩, hB⟩
        have g1' : ¬ (40 : Int) < (la : Int) := by omega
        by_cases g2 : 12 < lq
        · have g2' : (12 : Int) < (lq : Int) := by omega
          have HN := Lib.hid (show ¬ Mod M from fun hm => by have := hm.q; rw [HLQ.out] at this; omega)
          go_wp2_with fail
          go_ret
          exact ⟨.inl ⟨HN.out, rfl⟩, hB⟩
        have g2' : ¬ (12 : Int) < (lq : Int) := by omega
        by_cases g3 : 30 < n
        · have g3' : (30 : Int) < (n : Int) := by omega
          have HN := Lib.hid (show ¬ Mod M from fun hm => by have := hm.r; rw [HNL.out] at this; omega)
          go_wp2_with fail
          go_ret
          exact ⟨.inl ⟨HN.out, rfl⟩, hB⟩
        have g3' : ¬ (30 : Int) < (n : Int) := by omega
        have HY := Lib.hid (show Mod M from ⟨by rw [HLA.out]; omega, by rw [HLQ.out]; omega, by rw [HNL.out]; omega, fun q hq => by
          obtain ⟨j, hj, rfl⟩ := List.mem_iff_getElem.1 hq
          exact hS.out j hj (by have := HNL.out; omega)⟩)
        go_wp2_with fail
        go_ret
        exact ⟨.inr ⟨fun h => h HY.out, rfl⟩, hB⟩

end Go.Proofs.YtkjbidpafnmogaaGreat.Base
