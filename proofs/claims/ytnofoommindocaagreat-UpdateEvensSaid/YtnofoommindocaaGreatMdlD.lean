/- The reference's model: far, sees. -/
import Derived.Test.YtnofoommindocaaGreatMdlC
namespace Go.Proofs.YtnofoommindocaaGreat.Base
open Go.RowKit
set_option linter.unusedVariables false
set_option linter.unusedSimpArgs false

theorem rfar_is (z : Int) (W : World) : Calls Tryz.prog 202 #[.int .i64 z] W fun e w' => e = .returned (.bool (decide (farP z))) ∧ W = w' := by
  unfold farP
  by_cases h1 : z < -68719476736
  · go_enter Tryz.func202, Tryz.ntmps202
    go_wp2
    go_ret
    exact ⟨by simp [h1], rfl⟩
  · by_cases h2 : 68719476736 < z
    · go_enter Tryz.func202, Tryz.ntmps202
      go_wp2
      go_ret
      exact ⟨by simp [h2], rfl⟩
    · go_enter Tryz.func202, Tryz.ntmps202
      go_wp2
      go_ret
      exact ⟨by rw [decide_eq_false (show ¬ (z < -68719476736 ∨ 68719476736 < z) by omega)]; rfl, rfl⟩

/-- A row may not stand behind one of sensor ls. -/
def rowBad (m rmin ls s : Int) (h : List Int) (r : Int) : Prop := ¬ (ls ≤ s ∧ s ≤ 16) ∨ (h.length : Int) ≠ m ∨ (∃ z ∈ h, farP z) ∨ r < rmin

set_option maxHeartbeats 4000000 in
set_option maxRecDepth 100000 in
theorem rsees_is {B : Nat} {W : World} {v1 v2 v3 v4 v5 : Value} {m rmin s r ls : Int} {aH : Option Addr} {cH : Nat} {h : List Int} (hH : MI B W aH cH h) (hl : 1 ≤ ls) (hlen : h.length ≤ 100000) :
    Calls Tryz.prog 158 #[.agg #[.int .i64 m, v1, v2, v3, v4, .int .i64 rmin, v5], .agg #[.int .i64 s, .slice aH h.length cH, .int .i64 r], .int .i64 ls] W fun e w' => TellsB e (¬ rowBad m rmin ls s h r) ∧ Below W.heap.size W w' := by
  obtain ⟨n, hn⟩ : ∃ n, h.length = n := ⟨_, rfl⟩
  have HNH := Lib.hid hn
  rw [hn] at hlen ⊢
  have hB : ∀ o1 o2, Below W.heap.size W ((W.alloc o1).alloc o2) := fun o1 o2 => ((Below.refl _ _).alloc (Nat.le_refl _) _).alloc (by simp) _
  by_cases g1 : ls ≤ s ∧ s ≤ 16
  case neg =>
    have hb : rowBad m rmin ls s h r := .inl g1
    have HBD := Lib.hid hb
    clear hb
    by_cases q1 : s < 1
    · go_enter Tryz.func158, Tryz.ntmps158
      go_wp2_with fail
      go_ret
      exact ⟨TellsB.no (fun h => h HBD.out), hB _ _⟩
    · by_cases q2 : 16 < s
      · go_enter Tryz.func158, Tryz.ntmps158
        go_wp2_with fail
        go_ret
        exact ⟨TellsB.no (fun h => h HBD.out), hB _ _⟩
      · have q3 : s < ls := by omega
        go_enter Tryz.func158, Tryz.ntmps158
        go_wp2_with fail
        go_ret
        exact ⟨TellsB.no (fun h => h HBD.out), hB _ _⟩
  obtain ⟨p1, p2⟩ := g1
  have q1 : ¬ s < 1 := by omega
  have q2 : ¬ 16 < s := by omega
  have q3 : ¬ s < ls := by omega
  by_cases g2 : (n : Int) = m
  case neg =>
    have hne : ((n : Int) == m) = false := by simp; omega
    have hb : rowBad m rmin ls s h r := .inr (.inl (by rw [hn]; exact g2))
    have HBD := Lib.hid hb
    clear hb hn
    go_enter Tryz.func158, Tryz.ntmps158
    go_wp2_with fail
    go_ret
    exact ⟨TellsB.no (fun h => h HBD.out), hB _ _⟩
  by_cases g3 : r < rmin
  · have hb : rowBad m rmin ls s h r := .inr (.inr (.inr g3))
    have HBD := Lib.hid hb
    clear hb hn
    go_enter Tryz.func158, Tryz.ntmps158
    go_wp2_with fail
    go_ret
    exact ⟨TellsB.no (fun h => h HBD.out), hB _ _⟩
  have hH1 := fun o1 o2 => hH.keep (hB o1 o2)
  clear hn
  go_enter Tryz.func158, Tryz.ntmps158
  go_wp2_with fail
  have hY := Blk.new (W.alloc (.cells #[.int .i64 m, v1, v2, v3, v4, .int .i64 rmin, v5] 25)) #[.int .i64 s, .slice aH n cH, .int .i64 r] 29
  rw [World.size_alloc] at hY
  have hB1 := hB (.cells #[.int .i64 m, v1, v2, v3, v4, .int .i64 rmin, v5] 25) (.cells #[.int .i64 s, .slice aH n cH, .int .i64 r] 29)
  have hH2 := hH1 (.cells #[.int .i64 m, v1, v2, v3, v4, .int .i64 rmin, v5] 25) (.cells #[.int .i64 s, .slice aH n cH, .int .i64 r] 29)
  clear hB hH1
  generalize (W.alloc (.cells #[.int .i64 m, v1, v2, v3, v4, .int .i64 rmin, v5] 25)).alloc (.cells #[.int .i64 s, .slice aH n cH, .int .i64 r] 29) = W1 at *
  have y1 := hY.cell 1
  simp at y1
  clear hY
  go_loopw [7] (fun i wr => ∃ (k : Nat), k ≤ n ∧ i = .int .i64 k ∧ Hid (∀ j, (hj : j < h.length) → j < k → ¬ farP h[j]) ∧ wr = W1) (fun i _ => n - (intOf i).toNat)
  case atStart => exact ⟨0, Nat.zero_le _, rfl, fun j _ hj => absurd hj (by omega), rfl⟩
  case round =>
    obtain ⟨k, hk, rfl, hS, rfl⟩ := hrel
    by_cases hkl : k < n
    · have hkl' : (k : Int) < (n : Int) := by omega
      have hk0 : (0 : Int) ≤ (k : Int) := by omega
      have hkz : k < h.length := by rw [HNH.out]; exact hkl
      obtain ⟨x, rfl, hx, hxr⟩ := hH2.at k hkz
      obtain ⟨z, hz⟩ : ∃ z, h[k] = z := ⟨_, rfl⟩
      rw [hz] at hx hxr
      have HZ := Lib.hid hz
      clear hz
      go_wp2_with fail
      refine (rfar_is z _).mono ?_
      rintro e w' ⟨rfl, rfl⟩
      by_cases hp : farP z
      · simp only [hp, decide_true]
        have HBD := Lib.hid (show rowBad m rmin ls s h r from .inr (.inr (.inl ⟨z, by rw [← HZ.out]; exact List.getElem_mem hkz, hp⟩)))
        go_wp2_with fail
        go_ret
        exact ⟨TellsB.no (fun h => h HBD.out), hB1⟩
      · simp only [hp, decide_false]
        go_wp2_with fail
        go_roundw
        case rel =>
          refine ⟨k + 1, by omega, by go_num, fun j hj hjk => ?_, by trivial⟩
          by_cases e : j = k
          · subst e; rw [HZ.out]; exact hp
          · exact hS.out j hj (by omega)
        case measure => simp [intOf]; omega
    · have hge : ¬ (k : Int) < (n : Int) := by omega
      have HG := Lib.hid (show ¬ rowBad m rmin ls s h r from by
        rintro (b | b | ⟨z, hz, hf⟩ | b)
        · exact b ⟨p1, p2⟩
        · exact b (by rw [HNH.out]; exact g2)
        · obtain ⟨j, hj, rfl⟩ := List.mem_iff_getElem.1 hz
          exact hS.out j hj (by have := HNH.out; omega) hf
        · omega)
      go_wp2_with fail
      go_ret
      exact ⟨TellsB.yes HG.out, hB1⟩

end Go.Proofs.YtnofoommindocaaGreat.Base
