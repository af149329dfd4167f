/- The reference's model: moves. -/
import Derived.Test.YtnofoommindocaaGreatMdlD
namespace Go.Proofs.YtnofoommindocaaGreat.Base
open Go.RowKit
set_option linter.unusedVariables false
set_option linter.unusedSimpArgs false

theorem idx_of {n i k : Nat} (h1 : 1 ≤ n) (h2 : n ≤ 6) (hi : i < n) (hk : k < n) : ((i * n + k : Nat) : Int) % (n : Int) = (k : Int) ∧ ((i * n + k : Nat) : Int) / (n : Int) = (i : Int) ∧ i * n + k < n * n ∧ i * n ≤ 30 := by
  have : n = 1 ∨ n = 2 ∨ n = 3 ∨ n = 4 ∨ n = 5 ∨ n = 6 := by omega
  rcases this with rfl | rfl | rfl | rfl | rfl | rfl <;> refine ⟨?_, ?_, ?_, ?_⟩ <;> omega
theorem idx_all {n : Nat} {p : Nat → Prop} (h1 : 1 ≤ n) (h : ∀ i k, i < n → k < n → p (i * n + k)) : ∀ j, j < n * n → p j := by
  intro j hj
  have := h (j / n) (j % n) (Nat.div_lt_of_lt_mul hj) (Nat.mod_lt _ h1)
  rwa [Nat.mul_comm, Nat.div_add_mod] at this

set_option maxHeartbeats 8000000 in
set_option maxRecDepth 100000 in
theorem rmoves_is {B : Nat} {W : World} {v : Value} {M : Mdl} (hM : MM B W v M) (hn : 1 ≤ M.n ∧ M.n ≤ 6) :
    Calls Tryz.prog 157 #[v] W fun e w' => TellsB e (okA M.n M.A ∧ okQ M.n M.Q) ∧ Below W.heap.size W w' := by
  obtain ⟨aA, cA, aQ, cQ, aR, cR, rfl, hA, hQ, hR⟩ := hM.ex
  obtain ⟨m, A, Q, tick, gate, rmin, rows⟩ := M
  clear hM hR
  dsimp only at *
  have hlA := hA.len
  have hlQ := hQ.len
  unfold maxLen at hlA hlQ
  obtain ⟨n, rfl⟩ : ∃ n : Nat, m = n := ⟨m.toNat, by omega⟩
  have h1 : 1 ≤ n := by omega
  have h2 : n ≤ 6 := by omega
  clear hn
  obtain ⟨la, hla⟩ : ∃ la, A.length = la := ⟨_, rfl⟩
  obtain ⟨lq, hlq⟩ : ∃ lq, Q.length = lq := ⟨_, rfl⟩
  rw [hla] at hlA
  rw [hlq] at hlQ
  rw [hla, hlq]
  generalize rows.length = lR at *
  obtain ⟨mm, hmm⟩ : ∃ mm : Nat, n * n = mm := ⟨_, rfl⟩
  have hmm2 : (n : Int) * (n : Int) = (mm : Int) := by rw [← hmm]; simp
  have hmm3 : mm ≤ 36 := by
    rw [← hmm]
    have := Nat.mul_le_mul h2 h2
    omega
  have HLA := Lib.hid hla
  have HLQ := Lib.hid hlq
  have HMM := Lib.hid hmm
  have hB : Below W.heap.size W (W.alloc (.cells #[Value.int IntKind.i64 n, Value.slice aA la cA, Value.slice aQ lq cQ, Value.int IntKind.i64 tick, Value.int IntKind.i64 gate, Value.int IntKind.i64 rmin, Value.slice aR lR cR] 25)) := (Below.refl _ _).alloc (Nat.le_refl _) _
  by_cases g1 : la = mm
  case neg =>
    have g1' : ¬ (la : Int) = (mm : Int) := by omega
    have g1e : ((la : Int) == (mm : Int)) = false := by simp; omega
    have HN := Lib.hid (show ¬ (okA (n : Int) A ∧ okQ (n : Int) Q) from fun h => g1 (by have := h.1.2; rw [hla, hmm2] at this; omega))
    clear hla hlq hmm
    go_enter Tryz.func157, Tryz.ntmps157
    go_wp2_with fail
    go_ret
    exact ⟨TellsB.no HN.out, hB⟩
  by_cases g2 : lq = n
  case neg =>
    have g2' : ¬ (lq : Int) = (n : Int) := by omega
    have g2e : ((lq : Int) == (n : Int)) = false := by simp; omega
    have HN := Lib.hid (show ¬ (okA (n : Int) A ∧ okQ (n : Int) Q) from fun h => g2 (by have := h.2.1; rw [hlq] at this; omega))
    clear hla hlq hmm
    subst g1
    go_enter Tryz.func157, Tryz.ntmps157
    go_wp2_with fail
    go_ret
    exact ⟨TellsB.no HN.out, hB⟩
  clear hla hlq hmm
  subst g1
  subst g2
  have hA1 := hA.keep hB
  have hQ1 := hQ.keep hB
  clear hA hQ
  go_enter Tryz.func157, Tryz.ntmps157
  go_wp2_with fail
  have hX := Blk.new W #[Value.int IntKind.i64 lq, Value.slice aA la cA, Value.slice aQ lq cQ, Value.int IntKind.i64 tick, Value.int IntKind.i64 gate, Value.int IntKind.i64 rmin, Value.slice aR lR cR] 25
  generalize W.alloc (.cells #[Value.int IntKind.i64 lq, Value.slice aA la cA, Value.slice aQ lq cQ, Value.int IntKind.i64 tick, Value.int IntKind.i64 gate, Value.int IntKind.i64 rmin, Value.slice aR lR cR] 25) = W1 at *
  have x0 := hX.cell 0
  have x1 := hX.cell 1
  have x2 := hX.cell 2
  simp at x0 x1 x2
  clear hX
  go_loopw [3] (fun a wr => ∃ (i : Nat), i ≤ lq ∧ a = .int .i64 i ∧ Hid (∀ i', i' < i → (∀ (h : i' < Q.length), ¬ offP Q[i']) ∧ ∀ k, k < lq → ¬ badA lq A (i' * lq + k)) ∧ wr = W1) (fun a _ => lq - (intOf a).toNat)
  case atStart => exact ⟨0, Nat.zero_le _, rfl, fun j hj => absurd hj (by omega), rfl⟩
  case round =>
    obtain ⟨i, hi, rfl, hS, rfl⟩ := hrel
    by_cases hil : i < lq
    · have hil' : (i : Int) < (lq : Int) := by omega
      have hi0 : (0 : Int) ≤ (i : Int) := by omega
      have hiq : i < Q.length := by rw [HLQ.out]; exact hil
      obtain ⟨x, rfl, hx, hxr⟩ := hQ1.at i hiq
      obtain ⟨z, hz⟩ : ∃ z, Q[i] = z := ⟨_, rfl⟩
      rw [hz] at hx hxr
      have HZ := Lib.hid hz
      clear hz
      by_cases q1 : z < 0
      · have HN := Lib.hid (show ¬ (okA (lq : Int) A ∧ okQ (lq : Int) Q) from fun h => h.2.2 ⟨z, by rw [← HZ.out]; exact List.getElem_mem hiq, by unfold offP; omega⟩)
        go_wp2_with fail
        go_ret
        exact ⟨TellsB.no HN.out, hB⟩
      by_cases q2 : 68719476736 < z
      · have HN := Lib.hid (show ¬ (okA (lq : Int) A ∧ okQ (lq : Int) Q) from fun h => h.2.2 ⟨z, by rw [← HZ.out]; exact List.getElem_mem hiq, by unfold offP; omega⟩)
        go_wp2_with fail
        go_ret
        exact ⟨TellsB.no HN.out, hB⟩
      have HQz := Lib.hid (show ∀ (h : i < Q.length), ¬ offP Q[i] from fun h => by rw [HZ.out]; unfold offP; omega)
      go_wp2_with fail
      go_loopw [4] (fun a w2 => ∃ (k : Nat), k ≤ lq ∧ a = .int .i64 k ∧ Hid (∀ k', k' < k → ¬ badA lq A (i * lq + k')) ∧ w2 = wr) (fun a _ => lq - (intOf a).toNat)
      case atStart => exact ⟨0, Nat.zero_le _, rfl, fun j hj => absurd hj (by omega), rfl⟩
      case round =>
        obtain ⟨k, hk, rfl, hT, rfl⟩ := hrel
        by_cases hkl : k < lq
        · have hkl' : (k : Int) < (lq : Int) := by omega
          have hk0 : (0 : Int) ≤ (k : Int) := by omega
          obtain ⟨e1, e2, e3, e4⟩ := idx_of h1 h2 hil hkl
          obtain ⟨p, hp⟩ : ∃ p, i * lq = p := ⟨_, rfl⟩
          have hpm : (i : Int) * (lq : Int) = (p : Int) := by rw [← hp]; simp
          have HP := Lib.hid hp
          rw [hp] at e1 e2 e3 e4
          rw [HMM.out] at e3
          obtain ⟨q, hq⟩ : ∃ q, p + k = q := ⟨_, rfl⟩
          have hpk : (p : Int) + (k : Int) = (q : Int) := by omega
          have HQK := Lib.hid hq
          rw [hq] at e1 e2 e3
          have hjl : q < A.length := by rw [HLA.out]; exact e3
          obtain ⟨y, rfl, hy, hyr⟩ := hA1.at q hjl
          obtain ⟨u, hu⟩ : ∃ u, A[q] = u := ⟨_, rfl⟩
          rw [hu] at hy hyr
          have HU := Lib.hid hu
          have hbad : badA lq A (i * lq + k) ↔ u ≠ 0 ∧ ((k : Int) ≤ (i : Int) ∨ farP u) := by
            rw [hp, hq]
            constructor
            · rintro ⟨h, hb⟩
              rw [HU.out, e1, e2] at hb
              exact hb
            · intro hb
              refine ⟨hjl, ?_⟩
              rw [HU.out, e1, e2]
              exact hb
          have HBD := Lib.hid hbad
          have pk2 : (q : Int) < (la : Int) := by omega
          have pk0 : (0 : Int) ≤ (q : Int) := by omega
          clear hu hp hbad e1 e2 hq
          have hno : badA lq A (i * lq + k) → Hid (¬ (okA (lq : Int) A ∧ okQ (lq : Int) Q)) := fun hb h => h.1.1 _ hb
          have HNO := Lib.hid hno
          clear hno
          go_wp2_with fail
          refine (rfar_is u _).mono ?_
          rintro e w' ⟨rfl, rfl⟩
          by_cases hf : farP u
          · have hu0 : u ≠ 0 := by intro e; subst e; unfold farP at hf; omega
            have HN := HNO.out (HBD.out.2 ⟨hu0, .inr hf⟩)
            simp only [decide_eq_true hf]
            clear hu0
            have HF := Lib.hid hf
            clear hf
            go_wp2_with fail
            go_ret
            exact ⟨TellsB.no HN.out, hB⟩
          · simp only [decide_eq_false hf]
            have HF := Lib.hid hf
            clear hf
            by_cases hki : (k : Int) ≤ (i : Int)
            · by_cases hu0 : u = 0
              · have HG := Lib.hid (show ¬ badA lq A (i * lq + k) from fun h => (HBD.out.1 h).1 hu0)
                go_wp2_with fail
                go_roundw
                case rel =>
                  refine ⟨k + 1, by omega, by go_num, fun k' hk' => ?_, by trivial⟩
                  by_cases e : k' = k
                  · subst e; exact HG.out
                  · exact hT.out k' (by omega)
                case measure => simp [intOf]; omega
              · have HN := HNO.out (HBD.out.2 ⟨hu0, .inl hki⟩)
                go_wp2_with fail
                go_ret
                exact ⟨TellsB.no HN.out, hB⟩
            · have HG := Lib.hid (show ¬ badA lq A (i * lq + k) from fun h => by
                rcases (HBD.out.1 h).2 with h | h
                · exact hki h
                · exact HF.out h)
              go_wp2_with fail
              go_roundw
              case rel =>
                refine ⟨k + 1, by omega, by go_num, fun k' hk' => ?_, by trivial⟩
                by_cases e : k' = k
                · subst e; exact HG.out
                · exact hT.out k' (by omega)
              case measure => simp [intOf]; omega
        · have hgk : ¬ (k : Int) < (lq : Int) := by omega
          have HI := Lib.hid (show ∀ i', i' < i + 1 → (∀ (h : i' < Q.length), ¬ offP Q[i']) ∧ ∀ k, k < lq → ¬ badA lq A (i' * lq + k) from fun i' h => by
            by_cases e : i' = i
            · subst e; exact ⟨HQz.out, fun k' hk' => hT.out k' (by omega)⟩
            · exact hS.out i' (by omega))
          go_wp2_with fail
          go_roundw
          case rel => exact ⟨i + 1, by omega, by go_num, HI.out, by trivial⟩
          case measure => simp [intOf]; omega
    · have hge : ¬ (i : Int) < (lq : Int) := by omega
      have HY := Lib.hid (show okA (lq : Int) A ∧ okQ (lq : Int) Q from ⟨⟨fun j hb => by
          obtain ⟨hj, hb'⟩ := hb
          refine idx_all (p := fun j => ¬ badA lq A j) h1 (fun i' k' hi' hk' => (hS.out i' (by omega)).2 k' hk') j ?_ ⟨hj, hb'⟩
          have := HLA.out
          have := HMM.out
          omega, by rw [HLA.out, hmm2]⟩, by rw [HLQ.out], fun ⟨z, hz, hf⟩ => by
          obtain ⟨j, hj, rfl⟩ := List.mem_iff_getElem.1 hz
          exact (hS.out j (by have := HLQ.out; omega)).1 hj hf⟩)
      go_wp2_with fail
      go_ret
      exact ⟨TellsB.yes HY.out, hB⟩

end Go.Proofs.YtnofoommindocaaGreat.Base
