/- Chapter 11: the reference; MotionTells. -/
import Derived.Test.YtkjbidpafnmogaaGreatMotM
import Derived.StillTailTactics
import Derived.Test.YtkjbidpafnmogaaGreatRefY
import Derived.Test.YtkjbidpafnmogaaGreatTmZ
import Derived.Test.YtkjbidpafnmogaaGreatMotN
import Derived.Test.YtkjbidpafnmogaaGreatKitM
namespace Go.Proofs.YtkjbidpafnmogaaGreat.Base
open Go.RowKit
set_option linter.unusedVariables false
set_option linter.unusedSimpArgs false
theorem rfar_is (z : Int) (W : World) : Calls Tryz.prog 160 #[.int .i64 z] W fun e w' => e = .returned (.bool (decide (farP z))) ∧ W = w' := by
  unfold farP
  by_cases h1 : z < -68719476736
  · go_enter Tryz.func160, Tryz.ntmps160
    go_wp2
    go_ret
    exact ⟨by simp [h1], rfl⟩
  · by_cases h2 : 68719476736 < z
    · go_enter Tryz.func160, Tryz.ntmps160
      go_wp2
      go_ret
      exact ⟨by simp [h2], rfl⟩
    · go_enter Tryz.func160, Tryz.ntmps160
      go_wp2
      go_ret
      exact ⟨by rw [decide_eq_false (show ¬ (z < -68719476736 ∨ 68719476736 < z) by omega)]; rfl, rfl⟩
/-- A row may not stand behind one of sensor ls. -/
def rowBad (m rmin ls s : Int) (h : List Int) (r : Int) : Prop := ¬ (ls ≤ s ∧ s ≤ 16) ∨ (h.length : Int) ≠ m ∨ (∃ z ∈ h, farP z) ∨ r < rmin
set_option maxHeartbeats 4000000 in
set_option maxRecDepth 100000 in
theorem rsees_is {B : Nat} {W : World} {v1 v2 v3 v4 v5 : Value} {m rmin s r ls : Int} {aH : Option Addr} {cH : Nat} {h : List Int} (hH : MI B W aH cH h) (hl : 1 ≤ ls) (hlen : h.length ≤ 100000) :
    Calls Tryz.prog 142 #[.agg #[.int .i64 m, v1, v2, v3, v4, .int .i64 rmin, v5], .agg #[.int .i64 s, .slice aH h.length cH, .int .i64 r], .int .i64 ls] W fun e w' => TellsB e (¬ rowBad m rmin ls s h r) ∧ Below W.heap.size W w' := by
  obtain ⟨n, hn⟩ : ∃ n, h.length = n := ⟨_, rfl⟩
  have HNH := Lib.hid hn
  rw [hn] at hlen ⊢
  have hB : ∀ o1 o2, Below W.heap.size W ((W.alloc o1).alloc o2) := fun o1 o2 => ((Below.refl _ _).alloc (Nat.le_refl _) _).alloc (by simp) _
  by_cases g1 : ls ≤ s ∧ s ≤ 16
  case neg =>
    have hb : rowBad m rmin ls s h r := .inl g1
    have HBD := Lib.hid hb
    clear hb
    by_cases q1 : s < 1
    · go_enter Tryz.func142, Tryz.ntmps142
      go_wp2_with fail
      go_ret
      exact ⟨TellsB.no (fun h => h HBD.out), hB _ _⟩
    · by_cases q2 : 16 < s
      · go_enter Tryz.func142, Tryz.ntmps142
        go_wp2_with fail
        go_ret
        exact ⟨TellsB.no (fun h => h HBD.out), hB _ _⟩
      · have q3 : s < ls := by omega
        go_enter Tryz.func142, Tryz.ntmps142
        go_wp2_with fail
        go_ret
        exact ⟨TellsB.no (fun h => h HBD.out), hB _ _⟩
  obtain ⟨p1, p2⟩ := g1
  have q1 : ¬ s < 1 := by omega
  have q2 : ¬ 16 < s := by omega
  have q3 : ¬ s < ls := by omega
  by_cases g2 : (n : Int) = m
  case neg =>
    have hne : ((n : Int) == m) = false := by simp; omega
    have hb : rowBad m rmin ls s h r := .inr (.inl (by rw [hn]; exact g2))
    have HBD := Lib.hid hb
    clear hb hn
    go_enter Tryz.func142, Tryz.ntmps142
    go_wp2_with fail
    go_ret
    exact ⟨TellsB.no (fun h => h HBD.out), hB _ _⟩
  by_cases g3 : r < rmin
  · have hb : rowBad m rmin ls s h r := .inr (.inr (.inr g3))
    have HBD := Lib.hid hb
    clear hb hn
    go_enter Tryz.func142, Tryz.ntmps142
    go_wp2_with fail
    go_ret
    exact ⟨TellsB.no (fun h => h HBD.out), hB _ _⟩
  have hH1 := fun o1 o2 => hH.keep (hB o1 o2)
  clear hn
  go_enter Tryz.func142, Tryz.ntmps142
  go_wp2_with fail
  have hY := Blk.new (W.alloc (.cells #[.int .i64 m, v1, v2, v3, v4, .int .i64 rmin, v5] 54)) #[.int .i64 s, .slice aH n cH, .int .i64 r] 100
  rw [World.size_alloc] at hY
  have hB1 := hB (.cells #[.int .i64 m, v1, v2, v3, v4, .int .i64 rmin, v5] 54) (.cells #[.int .i64 s, .slice aH n cH, .int .i64 r] 100)
  have hH2 := hH1 (.cells #[.int .i64 m, v1, v2, v3, v4, .int .i64 rmin, v5] 54) (.cells #[.int .i64 s, .slice aH n cH, .int .i64 r] 100)
  clear hB hH1
  generalize (W.alloc (.cells #[.int .i64 m, v1, v2, v3, v4, .int .i64 rmin, v5] 54)).alloc (.cells #[.int .i64 s, .slice aH n cH, .int .i64 r] 100) = W1 at *
  have y1 := hY.cell 1
  simp at y1
  clear hY
  go_loopw [7] (fun i wr => ∃ (k : Nat), k ≤ n ∧ i = .int .i64 k ∧ Hid (∀ j, (hj : j < h.length) → j < k → ¬ farP h[j]) ∧ wr = W1) (fun i _ => n - (intOf i).toNat)
  case atStart => exact ⟨0, Nat.zero_le _, rfl, fun j _ hj => absurd hj (by omega), rfl⟩
  case round =>
    obtain ⟨k, hk, rfl, hS, rfl⟩ := hrel
    by_cases hkl : k < n
    · have hkl' : (k : Int) < (n : Int) := by omega
      have hk0 : (0 : Int) ≤ (k : Int) := by omega
      have hkz : k < h.length := by rw [HNH.out]; exact hkl
      obtain ⟨x, rfl, hx, hxr⟩ := hH2.at k hkz
      obtain ⟨z, hz⟩ : ∃ z, h[k] = z := ⟨_, rfl⟩
      rw [hz] at hx hxr
      have HZ := Lib.hid hz
      clear hz
      go_wp2_with fail
      refine (rfar_is z _).mono ?_
      rintro e w' ⟨rfl, rfl⟩
      by_cases hp : farP z
      · simp only [hp, decide_true]
        have HBD := Lib.hid (show rowBad m rmin ls s h r from .inr (.inr (.inl ⟨z, by rw [← HZ.out]; exact List.getElem_mem hkz, hp⟩)))
        go_wp2_with fail
        go_ret
        exact ⟨TellsB.no (fun h => h HBD.out), hB1⟩
      · simp only [hp, decide_false]
        go_wp2_with fail
        go_roundw
        case rel =>
          refine ⟨k + 1, by omega, by go_num, fun j hj hjk => ?_, by trivial⟩
          by_cases e : j = k
          · subst e; rw [HZ.out]; exact hp
          · exact hS.out j hj (by omega)
        case measure => simp [intOf]; omega
    · have hge : ¬ (k : Int) < (n : Int) := by omega
      have HG := Lib.hid (show ¬ rowBad m rmin ls s h r from by
        rintro (b | b | ⟨z, hz, hf⟩ | b)
        · exact b ⟨p1, p2⟩
        · exact b (by rw [HNH.out]; exact g2)
        · obtain ⟨j, hj, rfl⟩ := List.mem_iff_getElem.1 hz
          exact hS.out j hj (by have := HNH.out; omega) hf
        · omega)
      go_wp2_with fail
      go_ret
      exact ⟨TellsB.yes HG.out, hB1⟩
theorem idx_of {n i k : Nat} (h1 : 1 ≤ n) (h2 : n ≤ 6) (hi : i < n) (hk : k < n) : ((i * n + k : Nat) : Int) % (n : Int) = (k : Int) ∧ ((i * n + k : Nat) : Int) / (n : Int) = (i : Int) ∧ i * n + k < n * n ∧ i * n ≤ 30 := by
  have : n = 1 ∨ n = 2 ∨ n = 3 ∨ n = 4 ∨ n = 5 ∨ n = 6 := by omega
  rcases this with rfl | rfl | rfl | rfl | rfl | rfl <;> refine ⟨?_, ?_, ?_, ?_⟩ <;> omega
theorem idx_all {n : Nat} {p : Nat → Prop} (h1 : 1 ≤ n) (h : ∀ i k, i < n → k < n → p (i * n + k)) : ∀ j, j < n * n → p j := by
  intro j hj
  have := h (j / n) (j % n) (Nat.div_lt_of_lt_mul hj) (Nat.mod_lt _ h1)
  rwa [Nat.mul_comm, Nat.div_add_mod] at this
set_option maxHeartbeats 8000000 in
set_option maxRecDepth 100000 in
theorem rmoves_is {B : Nat} {W : World} {v : Value} {M : Mdl} (hM : MM B W v M) (hn : 1 ≤ M.n ∧ M.n ≤ 6) :
    Calls Tryz.prog 141 #[v] W fun e w' => TellsB e (okA M.n M.A ∧ okQ M.n M.Q) ∧ Below W.heap.size W w' := by
  obtain ⟨aA, cA, aQ, cQ, aR, cR, rfl, hA, hQ, hR⟩ := hM.ex
  obtain ⟨m, A, Q, tick, gate, rmin, rows⟩ := M
  clear hM hR
  dsimp only at *
  have hlA := hA.len
  have hlQ := hQ.len
  unfold maxLen at hlA hlQ
  obtain ⟨n, rfl⟩ : ∃ n : Nat, m = n := ⟨m.toNat, by omega⟩
  have h1 : 1 ≤ n := by omega
  have h2 : n ≤ 6 := by omega
  clear hn
  obtain ⟨la, hla⟩ : ∃ la, A.length = la := ⟨_, rfl⟩
  obtain ⟨lq, hlq⟩ : ∃ lq, Q.length = lq := ⟨_, rfl⟩
  rw [hla] at hlA
  rw [hlq] at hlQ
  rw [hla, hlq]
  generalize rows.length = lR at *
  obtain ⟨mm, hmm⟩ : ∃ mm : Nat, n * n = mm := ⟨_, rfl⟩
  have hmm2 : (n : Int) * (n : Int) = (mm : Int) := by rw [← hmm]; simp
  have hmm3 : mm ≤ 36 := by
    rw [← hmm]
    have := Nat.mul_le_mul h2 h2
    omega
  have HLA := Lib.hid hla
  have HLQ := Lib.hid hlq
  have HMM := Lib.hid hmm
  have hB : Below W.heap.size W (W.alloc (.cells #[Value.int IntKind.i64 n, Value.slice aA la cA, Value.slice aQ lq cQ, Value.int IntKind.i64 tick, Value.int IntKind.i64 gate, Value.int IntKind.i64 rmin, Value.slice aR lR cR] 54)) := (Below.refl _ _).alloc (Nat.le_refl _) _
  by_cases g1 : la = mm
  case neg =>
    have g1' : ¬ (la : Int) = (mm : Int) := by omega
    have g1e : ((la : Int) == (mm : Int)) = false := by simp; omega
    have HN := Lib.hid (show ¬ (okA (n : Int) A ∧ okQ (n : Int) Q) from fun h => g1 (by have := h.1.2; rw [hla, hmm2] at this; omega))
    clear hla hlq hmm
    go_enter Tryz.func141, Tryz.ntmps141
    go_wp2_with fail
    go_ret
    exact ⟨TellsB.no HN.out, hB⟩
  by_cases g2 : lq = n
  case neg =>
    have g2' : ¬ (lq : Int) = (n : Int) := by omega
    have g2e : ((lq : Int) == (n : Int)) = false := by simp; omega
    have HN := Lib.hid (show ¬ (okA (n : Int) A ∧ okQ (n : Int) Q) from fun h => g2 (by have := h.2.1; rw [hlq] at this; omega))
    clear hla hlq hmm
    subst g1
    go_enter Tryz.func141, Tryz.ntmps141
    go_wp2_with fail
    go_ret
    exact ⟨TellsB.no HN.out, hB⟩
  clear hla hlq hmm
  subst g1
  subst g2
  have hA1 := hA.keep hB
  have hQ1 := hQ.keep hB
  clear hA hQ
  go_enter Tryz.func141, Tryz.ntmps141
  go_wp2_with fail
  have hX := Blk.new W #[Value.int IntKind.i64 lq, Value.slice aA la cA, Value.slice aQ lq cQ, Value.int IntKind.i64 tick, Value.int IntKind.i64 gate, Value.int IntKind.i64 rmin, Value.slice aR lR cR] 54
  generalize W.alloc (.cells #[Value.int IntKind.i64 lq, Value.slice aA la cA, Value.slice aQ lq cQ, Value.int IntKind.i64 tick, Value.int IntKind.i64 gate, Value.int IntKind.i64 rmin, Value.slice aR lR cR] 54) = W1 at *
  have x0 := hX.cell 0
  have x1 := hX.cell 1
  have x2 := hX.cell 2
  simp at x0 x1 x2
  clear hX
  go_loopw [3] (fun a wr => ∃ (i : Nat), i ≤ lq ∧ a = .int .i64 i ∧ Hid (∀ i', i' < i → (∀ (h : i' < Q.length), ¬ offP Q[i']) ∧ ∀ k, k < lq → ¬ badA lq A (i' * lq + k)) ∧ wr = W1) (fun a _ => lq - (intOf a).toNat)
  case atStart => exact ⟨0, Nat.zero_le _, rfl, fun j hj => absurd hj (by omega), rfl⟩
  case round =>
    obtain ⟨i, hi, rfl, hS, rfl⟩ := hrel
    by_cases hil : i < lq
    · have hil' : (i : Int) < (lq : Int) := by omega
      have hi0 : (0 : Int) ≤ (i : Int) := by omega
      have hiq : i < Q.length := by rw [HLQ.out]; exact hil
      obtain ⟨x, rfl, hx, hxr⟩ := hQ1.at i hiq
      obtain ⟨z, hz⟩ : ∃ z, Q[i] = z := ⟨_, rfl⟩
      rw [hz] at hx hxr
      have HZ := Lib.hid hz
      clear hz
      by_cases q1 : z < 0
      · have HN := Lib.hid (show ¬ (okA (lq : Int) A ∧ okQ (lq : Int) Q) from fun h => h.2.2 ⟨z, by rw [← HZ.out]; exact List.getElem_mem hiq, by unfold offP; omega⟩)
        go_wp2_with fail
        go_ret
        exact ⟨TellsB.no HN.out, hB⟩
      by_cases q2 : 68719476736 < z
      · have HN := Lib.hid (show ¬ (okA (lq : Int) A ∧ okQ (lq : Int) Q) from fun h => h.2.2 ⟨z, by rw [← HZ.out]; exact List.getElem_mem hiq, by unfold offP; omega⟩)
        go_wp2_with fail
        go_ret
        exact ⟨TellsB.no HN.out, hB⟩
      have HQz := Lib.hid (show ∀ (h : i < Q.length), ¬ offP Q[i] from fun h => by rw [HZ.out]; unfold offP; omega)
      go_wp2_with fail
      go_loopw [4] (fun a w2 => ∃ (k : Nat), k ≤ lq ∧ a = .int .i64 k ∧ Hid (∀ k', k' < k → ¬ badA lq A (i * lq + k')) ∧ w2 = wr) (fun a _ => lq - (intOf a).toNat)
      case atStart => exact ⟨0, Nat.zero_le _, rfl, fun j hj => absurd hj (by omega), rfl⟩
      case round =>
        obtain ⟨k, hk, rfl, hT, rfl⟩ := hrel
        by_cases hkl : k < lq
        · have hkl' : (k : Int) < (lq : Int) := by omega
          have hk0 : (0 : Int) ≤ (k : Int) := by omega
          obtain ⟨e1, e2, e3, e4⟩ := idx_of h1 h2 hil hkl
          obtain ⟨p, hp⟩ : ∃ p, i * lq = p := ⟨_, rfl⟩
          have hpm : (i : Int) * (lq : Int) = (p : Int) := by rw [← hp]; simp
          have HP := Lib.hid hp
          rw [hp] at e1 e2 e3 e4
          rw [HMM.out] at e3
          obtain ⟨q, hq⟩ : ∃ q, p + k = q := ⟨_, rfl⟩
          have hpk : (p : Int) + (k : Int) = (q : Int) := by omega
          have HQK := Lib.hid hq
          rw [hq] at e1 e2 e3
          have hjl : q < A.length := by rw [HLA.out]; exact e3
          obtain ⟨y, rfl, hy, hyr⟩ := hA1.at q hjl
          obtain ⟨u, hu⟩ : ∃ u, A[q] = u := ⟨_, rfl⟩
          rw [hu] at hy hyr
          have HU := Lib.hid hu
          have hbad : badA lq A (i * lq + k) ↔ u ≠ 0 ∧ ((k : Int) ≤ (i : Int) ∨ farP u) := by
            rw [hp, hq]
            constructor
            · rintro ⟨h, hb⟩
              rw [HU.out, e1, e2] at hb
              exact hb
            · intro hb
              refine ⟨hjl, ?_⟩
              rw [HU.out, e1, e2]
              exact hb
          have HBD := Lib.hid hbad
          have pk2 : (q : Int) < (la : Int) := by omega
          have pk0 : (0 : Int) ≤ (q : Int) := by omega
          clear hu hp hbad e1 e2 hq
          have hno : badA lq A (i * lq + k) → Hid (¬ (okA (lq : Int) A ∧ okQ (lq : Int) Q)) := fun hb h => h.1.1 _ hb
          have HNO := Lib.hid hno
          clear hno
          go_wp2_with fail
          refine (rfar_is u _).mono ?_
          rintro e w' ⟨rfl, rfl⟩
          by_cases hf : farP u
          · have hu0 : u ≠ 0 := by intro e; subst e; unfold farP at hf; omega
            have HN := HNO.out (HBD.out.2 ⟨hu0, .inr hf⟩)
            simp only [decide_eq_true hf]
            clear hu0
            have HF := Lib.hid hf
            clear hf
            go_wp2_with fail
            go_ret
            exact ⟨TellsB.no HN.out, hB⟩
          · simp only [decide_eq_false hf]
            have HF := Lib.hid hf
            clear hf
            by_cases hki : (k : Int) ≤ (i : Int)
            · by_cases hu0 : u = 0
              · have HG := Lib.hid (show ¬ badA lq A (i * lq + k) from fun h => (HBD.out.1 h).1 hu0)
                go_wp2_with fail
                go_roundw
                case rel =>
                  refine ⟨k + 1, by omega, by go_num, fun k' hk' => ?_, by trivial⟩
                  by_cases e : k' = k
                  · subst e; exact HG.out
                  · exact hT.out k' (by omega)
                case measure => simp [intOf]; omega
              · have HN := HNO.out (HBD.out.2 ⟨hu0, .inl hki⟩)
                go_wp2_with fail
                go_ret
                exact ⟨TellsB.no HN.out, hB⟩
            · have HG := Lib.hid (show ¬ badA lq A (i * lq + k) from fun h => by
                rcases (HBD.out.1 h).2 with h | h
                · exact hki h
                · exact HF.out h)
              go_wp2_with fail
              go_roundw
              case rel =>
                refine ⟨k + 1, by omega, by go_num, fun k' hk' => ?_, by trivial⟩
                by_cases e : k' = k
                · subst e; exact HG.out
                · exact hT.out k' (by omega)
              case measure => simp [intOf]; omega
        · have hgk : ¬ (k : Int) < (lq : Int) := by omega
          have HI := Lib.hid (show ∀ i', i' < i + 1 → (∀ (h : i' < Q.length), ¬ offP Q[i']) ∧ ∀ k, k < lq → ¬ badA lq A (i' * lq + k) from fun i' h => by
            by_cases e : i' = i
            · subst e; exact ⟨HQz.out, fun k' hk' => hT.out k' (by omega)⟩
            · exact hS.out i' (by omega))
          go_wp2_with fail
          go_roundw
          case rel => exact ⟨i + 1, by omega, by go_num, HI.out, by trivial⟩
          case measure => simp [intOf]; omega
    · have hge : ¬ (i : Int) < (lq : Int) := by omega
      have HY := Lib.hid (show okA (lq : Int) A ∧ okQ (lq : Int) Q from ⟨⟨fun j hb => by
          obtain ⟨hj, hb'⟩ := hb
          refine idx_all (p := fun j => ¬ badA lq A j) h1 (fun i' k' hi' hk' => (hS.out i' (by omega)).2 k' hk') j ?_ ⟨hj, hb'⟩
          have := HLA.out
          have := HMM.out
          omega, by rw [HLA.out, hmm2]⟩, by rw [HLQ.out], fun ⟨z, hz, hf⟩ => by
          obtain ⟨j, hj, rfl⟩ := List.mem_iff_getElem.1 hz
          exact (hS.out j (by have := HLQ.out; omega)).1 hj hf⟩)
      go_wp2_with fail
      go_ret
      exact ⟨TellsB.yes HY.out, hB⟩
theorem lastS_pos {n rmin : Int} {rows : List Rw} : ∀ k, k ≤ rows.length → (∀ j, j < k → ¬ badR n rmin rows j) → 1 ≤ lastS rows k := by
  intro k
  induction k with
  | zero => intro _ _; simp [lastS]
  | succ k ih =>
    intro hk h
    have h1 := ih (by omega) (fun j hj => h j (by omega))
    have h2 := h k (by omega)
    have h3 : lastS rows (k + 1) = rows[k].s := by
      unfold lastS
      rw [dif_pos ⟨by omega, by simp; omega⟩]
      simp only [Nat.add_sub_cancel]
    rw [h3]
    by_cases hc : lastS rows k ≤ rows[k].s
    · omega
    · exact absurd ⟨by omega, .inl (fun h => hc h.1)⟩ h2
theorem badR_iff {n rmin : Int} {rows : List Rw} {k : Nat} (hk : k < rows.length) {s r : Int} {h : List Int} (hz : rows[k] = ⟨s, h, r⟩) : badR n rmin rows k ↔ rowBad n rmin (lastS rows k) s h r := by
  unfold rowBad
  constructor
  · rintro ⟨_, hb⟩
    rw [hz] at hb
    exact hb
  · intro hb
    refine ⟨hk, ?_⟩
    rw [hz]
    exact hb
set_option maxHeartbeats 8000000 in
set_option maxRecDepth 100000 in
theorem rcheck_is {B : Nat} {W : World} {v : Value} {M : Mdl} (hM : MM B W v M) (hlen : M.rows.length ≤ 1000) (hh : ∀ q ∈ M.rows, q.h.length ≤ 100000) :
    Calls Tryz.prog 123 #[v] W fun e w' => TellsC e 2 (okM M) ∧ Below W.heap.size W w' := by
  obtain ⟨aA, cA, aQ, cQ, aR, cR, rfl, hA, hQ, hR⟩ := hM.ex
  have hB : Below W.heap.size W (W.alloc (.cells #[Value.int .i64 M.n, .slice aA M.A.length cA, .slice aQ M.Q.length cQ, .int .i64 M.tick, .int .i64 M.gate, .int .i64 M.rmin, .slice aR M.rows.length cR] 54)) := (Below.refl _ _).alloc (Nat.le_refl _) _
  by_cases n1 : M.n < 1
  · have HN := Lib.hid (show ¬ okM M from fun h => by have := h.n; omega)
    go_enter Tryz.func123, Tryz.ntmps123
    go_wp2_with fail
    go_ret
    exact ⟨.inr ⟨HN.out, rfl⟩, hB⟩
  by_cases n2 : 6 < M.n
  · have HN := Lib.hid (show ¬ okM M from fun h => by have := h.n; omega)
    go_enter Tryz.func123, Tryz.ntmps123
    go_wp2_with fail
    go_ret
    exact ⟨.inr ⟨HN.out, rfl⟩, hB⟩
  have hn : 1 ≤ M.n ∧ M.n ≤ 6 := by omega
  have hM1 := hM.keep hB
  have hR1 := hR.keep hB
  go_enter Tryz.func123, Tryz.ntmps123
  go_wp2_with fail
  have hX := Blk.new W #[Value.int .i64 M.n, .slice aA M.A.length cA, .slice aQ M.Q.length cQ, .int .i64 M.tick, .int .i64 M.gate, .int .i64 M.rmin, .slice aR M.rows.length cR] 54
  generalize W.alloc (.cells #[Value.int .i64 M.n, .slice aA M.A.length cA, .slice aQ M.Q.length cQ, .int .i64 M.tick, .int .i64 M.gate, .int .i64 M.rmin, .slice aR M.rows.length cR] 54) = W1 at *
  refine (rmoves_is hM1 hn).mono ?_
  rintro e w2 ⟨⟨q, rfl, hq⟩, hK⟩
  replace hB := more hB hK
  replace hX := hX.keep hK
  replace hR1 := hR1.keep hK
  clear hK hM1 hA hQ hM
  have x0 := hX.cell 0
  have x1 := hX.cell 1
  have x2 := hX.cell 2
  have x3 := hX.cell 3
  have x4 := hX.cell 4
  have x5 := hX.cell 5
  have x6 := hX.cell 6
  simp at x0 x1 x2 x3 x4 x5 x6
  cases q with
  | false =>
    have HN := Lib.hid (show ¬ okM M from fun h => by cases hq.2 ⟨h.a, h.q⟩)
    clear hq
    go_wp2_with fail
    go_ret
    exact ⟨.inr ⟨HN.out, rfl⟩, hB⟩
  | true =>
  have HQ := Lib.hid (hq.1 rfl)
  clear hq
  by_cases t1 : M.tick < 1
  · have HN := Lib.hid (show ¬ okM M from fun h => by have := h.t; omega)
    go_wp2_with fail
    go_ret
    exact ⟨.inr ⟨HN.out, rfl⟩, hB⟩
  by_cases t2 : 4294967296 < M.tick
  · have HN := Lib.hid (show ¬ okM M from fun h => by have := h.t; omega)
    go_wp2_with fail
    go_ret
    exact ⟨.inr ⟨HN.out, rfl⟩, hB⟩
  by_cases t3 : M.gate < 1
  · have HN := Lib.hid (show ¬ okM M from fun h => by have := h.t; omega)
    go_wp2_with fail
    go_ret
    exact ⟨.inr ⟨HN.out, rfl⟩, hB⟩
  by_cases t4 : M.rmin < 1
  · have HN := Lib.hid (show ¬ okM M from fun h => by have := h.t; omega)
    go_wp2_with fail
    go_ret
    exact ⟨.inr ⟨HN.out, rfl⟩, hB⟩
  by_cases t5 : 24 < M.rows.length
  · have t5' : (24 : Int) < (M.rows.length : Int) := by omega
    have HN := Lib.hid (show ¬ okM M from fun h => by have := h.r.2; omega)
    go_wp2_with fail
    go_ret
    exact ⟨.inr ⟨HN.out, rfl⟩, hB⟩
  have t5' : ¬ (24 : Int) < (M.rows.length : Int) := by omega
  have d1 : decide (M.tick < 1) = false := decide_eq_false t1
  have d2 : decide (4294967296 < M.tick) = false := decide_eq_false t2
  have d3 : decide (M.gate < 1) = false := decide_eq_false t3
  have d4 : decide (M.rmin < 1) = false := decide_eq_false t4
  have d5 : decide ((24 : Int) < (M.rows.length : Int)) = false := decide_eq_false t5'
  have HT := Lib.hid (show ((1 ≤ M.tick ∧ M.tick ≤ 4294967296) ∧ 1 ≤ M.gate ∧ 1 ≤ M.rmin) ∧ M.rows.length ≤ 24 by omega)
  go_wp2_with fail
  try simp only [d1, d2, d3, d4, d5, Bool.or_false]
  clear d1 d2 d3 d4 d5 t1 t2 t3 t4 t5 t5' x0 x1 x2 x3 x4 x5 x6
  have hl24 := HT.out.2
  obtain ⟨n, hnl⟩ : ∃ n, M.rows.length = n := ⟨_, rfl⟩
  have HNL := Lib.hid hnl
  rw [hnl] at hX hl24 ⊢
  clear hnl
  go_loopw [3, 4] (fun l i wr => ∃ (k : Nat), k ≤ n ∧ i = .int .i64 k ∧ l = .int .i64 (lastS M.rows k) ∧ Hid (∀ j, j < k → ¬ badR M.n M.rmin M.rows j) ∧ Below w2.heap.size w2 wr) (fun _ i _ => n - (intOf i).toNat)
  case atStart => exact ⟨0, Nat.zero_le _, rfl, rfl, fun j hj => absurd hj (by omega), Below.refl _ _⟩
  case round =>
    obtain ⟨k, hk, rfl, rfl, hS, hBr⟩ := hrel
    have hW : Below W.heap.size W wr := more hB hBr
    have hXr := hX.keep hBr
    have hRr := hR1.keep hBr
    have x0 := hXr.cell 0
    have x1 := hXr.cell 1
    have x2 := hXr.cell 2
    have x3 := hXr.cell 3
    have x4 := hXr.cell 4
    have x5 := hXr.cell 5
    have x6 := hXr.cell 6
    simp at x0 x1 x2 x3 x4 x5 x6
    by_cases hkl : k < n
    · have hkl' : (k : Int) < (n : Int) := by omega
      have hk0 : (0 : Int) ≤ (k : Int) := by omega
      have hkz : k < M.rows.length := by rw [HNL.out]; exact hkl
      obtain ⟨x, rfl, hrow⟩ := hRr.at_ k hkz
      obtain ⟨⟨s, h, r⟩, hz⟩ : ∃ z, M.rows[k] = z := ⟨_, rfl⟩
      have hhl : h.length ≤ 100000 := by have := hh _ (List.getElem_mem hkz); rw [hz] at this; exact this
      rw [hz] at hrow
      obtain ⟨aH, cH, y0, y1, y2, hH⟩ := hrow.ex
      clear hrow
      dsimp only at y0 y1 y2 hH
      have hbad := badR_iff (n := M.n) (rmin := M.rmin) hkz hz
      have hls := lastS_pos k (by omega) hS.out
      have hnl2 : lastS M.rows (k + 1) = s := by
        unfold lastS
        rw [dif_pos ⟨by omega, by simpa using hkz⟩]
        simp only [Nat.add_sub_cancel]
        rw [hz]
      obtain ⟨ls, hlsd⟩ : ∃ ls, lastS M.rows k = ls := ⟨_, rfl⟩
      rw [hlsd] at hbad hls ⊢
      have HBD := Lib.hid hbad
      have HLS := Lib.hid hnl2
      clear hbad hnl2 hz hlsd
      have hHd := hH.keep (W' := wr.drew) (Below.refl _ _).drew
      go_wp2_with fail
      go_still_tail 7, (by kernel_rfl)
      go_wp2_with fail
      have hD : Below wr.heap.size wr wr.drew := (Below.refl _ _).drew
      refine (rsees_is hHd hls hhl).mono ?_
      rintro e w3 ⟨⟨q, rfl, hq⟩, hK⟩
      have hBr3 := more (more hBr hD) hK
      have hW3 := more (more hW hD) hK
      have hX3 := (hXr.keep hD).keep hK
      have y03 : w3.cell? (x.add (k * 3)) = some (.int .i64 s) := ((more hD hK).cell (World.block_lt_of_cell? wr _ y0)).trans y0
      clear x0 x1 x2 x3 x4 x5 x6 y0 y1 y2 hD hK hHd hH
      have x6 := hX3.cell 6
      simp at x6
      cases q with
      | false =>
        have HN := Lib.hid (show ¬ okM M from fun hm => by cases hq.2 (fun hb => hm.r.1 k (HBD.out.2 hb)))
        clear hq
        go_wp2_with fail
        go_ret
        exact ⟨.inr ⟨HN.out, rfl⟩, hW3⟩
      | true =>
        have HG := Lib.hid (show ¬ badR M.n M.rmin M.rows k from fun hb => hq.1 rfl (HBD.out.1 hb))
        clear hq
        go_wp2_with fail
        go_roundw
        case rel =>
          refine ⟨k + 1, by omega, by go_num, by rw [HLS.out], fun j hj => ?_, hBr3⟩
          by_cases e : j = k
          · subst e; exact HG.out
          · exact hS.out j (by omega)
        case measure => simp [intOf]; omega
    · have hge : ¬ (k : Int) < (n : Int) := by omega
      have HY := Lib.hid (show okM M from ⟨hn, HQ.out.1, HQ.out.2, HT.out.1, fun j hb => by
        obtain ⟨hj, hb'⟩ := hb
        exact hS.out j (by have := HNL.out; omega) ⟨hj, hb'⟩, HT.out.2⟩)
      go_wp2_with fail
      go_ret
      exact ⟨.inl ⟨HY.out, rfl⟩, hW⟩
end Go.Proofs.YtkjbidpafnmogaaGreat.Base
namespace Go.Proofs.YtkjbidpafnmogaaGreat.Base
open Go.RowKit Go Go.Shelf Go.Deep
set_option linter.unusedVariables false
set_option linter.unusedSimpArgs false
/-- 'append(v, ys...)', ys some: the operation. -/
theorem op_app_ivs {o : Oper} {a : Act} {Q : Exit → Act → World → Prop} {K : Act → World → Prop} {w : World} {B B' : Nat} {v : Value} {zs ys : List Int} {g0 c n : Nat}
    (s x : Operand) (hop : o.op = Op.call { callee := Callee.builtin Builtin.append, args := #[s, x], argTypes := #[22, 22] })
    (hs : a.eval s = v) (h : IV B w v zs) (hB : B ≤ w.heap.size) (hm : OI B' w g0 c ys) (hn : ys.length = n) (hn1 : 1 ≤ n) (hx : a.eval x = .slice (some ⟨g0, 0, none⟩) n c) (hl : zs.length ≤ 10000) (hl2 : n ≤ 10000)
    (hK : ∀ g cap w', IV B w' (.slice (some ⟨g, 0, none⟩) (zs.length + n) cap) (zs ++ ys) → w.grownBy w' v.ownBlock → K (a.put o.dst (.slice (some ⟨g, 0, none⟩) (zs.length + n) cap)) w') : o.wp Tryz.prog a w K Q := by
  subst hn
  obtain ⟨i0, hi, hz0, hz1, hz2⟩ := int_info
  have hcs : ∀ j u, (ys.map fun z => Value.int .i64 z)[j]? = some u → w.cell? ((⟨g0, 0, none⟩ : Addr).add j) = some u := by
    intro j u hj
    have hjl : j < ys.length := by
      have := (List.getElem?_eq_some_iff.1 hj).1
      simpa using this
    obtain ⟨x, hx, hcx⟩ := hm.mi.cell j hjl
    cases hx
    rw [hcx]
    simp [List.getElem?_eq_getElem hjl] at hj
    rw [hj]
  obtain ⟨v', w', hr, h2, h3, h4, h5⟩ := run_append_own_at (P := Tryz.prog) w B 22 o.type 3 i0 _ 1 8 Tryz.underlying22 hi hz0 hz1 hz2 rfl (by decide) v zs.length _ h ⟨g0, 0, none⟩ ys.length c (ys.map fun z => Value.int .i64 z) (by simp) hcs (ints_one ys) (by unfold maxLen; omega) (by omega) hB
  obtain ⟨g, cap, rfl⟩ := Joins.ownsRow_form h2 (by omega)
  have := hK g cap w' (by unfold IV; simpa using h2) h3
  unfold Oper.wp execOp
  simp only [hop, resolve, invoke, builtin, Sem.run_bind, Sem.run_pure, Result.andThen_ok, List.map_toArray, List.map_cons, List.map_nil, hs, hx, hr]
  exact this
theorem turn_step {r c : Nat} (zs : List Int) (j : Nat) : ((List.range (j * r)).map fun x => atM ⟨(r : Int), (c : Int), zs⟩ (x % r) (x / r)) ++ colL ⟨r, c, zs⟩ j = (List.range ((j + 1) * r)).map fun x => atM ⟨r, c, zs⟩ (x % r) (x / r) := by
  rw [Nat.succ_mul, List.range_add, List.map_append, List.map_map]
  congr 1
  show (List.range r).map _ = _
  refine List.map_congr_left fun i hi => ?_
  have hi := List.mem_range.1 hi
  show _ = atM _ ((j * r + i) % r) ((j * r + i) / r)
  rw [show (j * r + i) % r = i by rw [Nat.mul_comm, Nat.mul_add_mod, Nat.mod_eq_of_lt hi], show (j * r + i) / r = j by rw [Nat.mul_comm, Nat.mul_add_div (by omega), Nat.div_eq_of_lt hi, Nat.add_zero]]
set_option maxHeartbeats 8000000 in
set_option maxRecDepth 100000 in
theorem turnR_is {w0 : World} {a : Option Addr} {k : Nat} {m : Mt} (hm : MI 0 w0 a k m.v) (hok : okMt m) :
    Calls Tryz.prog 125 #[.agg #[.int .i64 m.r, .int .i64 m.c, .slice a m.v.length k]] w0 fun e w' => ∃ v, e = .returned (.tuple #[v, .int .i64 0]) ∧ MO w0.heap.size w' v (turnM m) ∧ Below w0.heap.size w0 w' := by
  have hAl := fun W => rCheck_is m a k W
  rw [show chkMt m = 0 from if_pos hok] at hAl
  obtain ⟨r, c, hr, hc, hr1, hr2, hc1, hc2, hlen⟩ := hok.nat
  obtain ⟨mr, mc, zs⟩ := m
  dsimp only at hr hc hlen hm hAl ⊢
  subst hr hc
  have hCol : ∀ W, Below w0.heap.size w0 W → ∀ j, j < c → Calls Tryz.prog 100 #[.agg #[.int .i64 r, .int .i64 c, .slice a zs.length k], .int .i64 j] W fun e w' => ∃ g k, e = .returned (.slice (some ⟨g, 0, none⟩) r k) ∧ OI W.heap.size w' g k (colL ⟨r, c, zs⟩ j) ∧ Below W.heap.size W w' := fun W hE j hj => by
    refine (colR_is (hm.keep hE) hlen hr2 hc2 j hj).mono fun e w' h => ?_
    obtain ⟨v, he, hv, hB⟩ := h
    have hl : (colL ⟨r, c, zs⟩ j).length = r := by simp [colL]
    obtain ⟨g, k, rfl, hO⟩ := hv.li (by omega) (colL_i64 hm.rng j)
    rw [hl] at he
    exact ⟨g, k, he, hO, hB⟩
  have hcl : ∀ j, (colL ⟨r, c, zs⟩ j).length = r := fun j => by simp [colL]
  have hst := fun j => turn_step (r := r) (c := c) zs j
  have hT : turnM ⟨r, c, zs⟩ = ⟨c, r, (List.range (c * r)).map fun x => atM ⟨r, c, zs⟩ (x % r) (x / r)⟩ := rfl
  have hv64 := fun i j => getD_i64 hm.rng (i * c + j)
  rw [hT]
  obtain ⟨F, hF⟩ : ∃ F : Nat → List Int, ∀ j, ((List.range (j * r)).map fun x => atM ⟨(r : Int), (c : Int), zs⟩ (x % r) (x / r)) = F j := ⟨_, fun _ => rfl⟩
  have hFl : ∀ j, (F j).length = j * r := fun j => by rw [← hF]; simp
  have hF64 : ∀ j, ∀ z ∈ F j, I64 z := fun j z hz => by
    rw [← hF] at hz
    obtain ⟨x, _, rfl⟩ := List.mem_map.1 hz
    unfold atM
    exact getD_i64 hm.rng _
  simp only [hF] at hst ⊢
  have hF0 : F 0 = [] := by rw [← hF]; simp
  generalize zs.length = n at *
  generalize colL ⟨(r : Int), (c : Int), zs⟩ = CL at *
  have HST := Lib.hid hst
  have HFL := Lib.hid hFl
  have HF64 := Lib.hid hF64
  have HCL := Lib.hid hcl
  have HCol := Lib.hid hCol
  have HF0 := Lib.hid hF0
  clear hF hlen hm hst hFl hF64 hcl hCol hT hv64 hok hF0
  have hB := below_allocs w0 [Obj.cells #[.int .i64 r, .int .i64 c, .slice a n k] 24, Obj.cells #[.int .i64 0, .int .i64 0, .slice none 0 0] 24]
  have g0 := blk_at w0 [Obj.cells #[.int .i64 r, .int .i64 c, .slice a n k] 24, Obj.cells #[.int .i64 0, .int .i64 0, .slice none 0 0] 24] 0 _ _ rfl
  have g1 := blk_at w0 [Obj.cells #[.int .i64 r, .int .i64 c, .slice a n k] 24, Obj.cells #[.int .i64 0, .int .i64 0, .slice none 0 0] 24] 1 _ _ rfl
  simp only [List.foldl_cons, List.foldl_nil, Nat.add_zero] at hB g0 g1
  replace hB := hB.1
  go_enter Tryz.func125, Tryz.ntmps125
  go_wp2_with fail
  refine (hAl _).mono ?_
  rintro e w1 ⟨rfl, hK⟩
  replace hB := more hB hK
  replace g0 := g0.keep hK
  replace g1 := g1.keep hK
  clear hK hAl
  have d0 := g0.cell
  have gm := Blk.new w1 #[.int .i64 0, .int .i64 0, .slice none 0 0] 24
  have hB1 := hB.alloc hB.size (.cells #[.int .i64 0, .int .i64 0, .slice none 0 0] 24)
  have hK1 : Below w1.heap.size w1 (w1.alloc (.cells #[.int .i64 0, .int .i64 0, .slice none 0 0] 24)) := upA (upR w1) _
  go_wp2_with ((with_reducible refine at_st (p := 4) (q := 14) rfl ?_); refine ev_store rfl 24 _ _ rfl rfl gm 0 rfl rfl [.int .i64 c, .int .i64 r, .slice none 0 0] rfl (by kernel_rfl) rfl rfl #[.int .i64 c, .int .i64 r, .slice none 0 0] rfl ?_; intro w2 g6 ef hz6)
  obtain ⟨mb, hmb⟩ : ∃ mb, w1.heap.size = mb := ⟨_, rfl⟩
  have hms : w0.heap.size + 2 ≤ mb := by rw [← hmb]; exact g1.lt
  rw [hmb] at g6 ef ⊢
  have hB2 : Below w0.heap.size w0 w2 := ef.below hB1 (fun k hk => by omega)
  have hX : Ctx w0 (fun _ => False) mb [(w0.heap.size, #[.int .i64 r, .int .i64 c, .slice a n k], 24), (w0.heap.size + 1, #[.int .i64 0, .int .i64 0, .slice none 0 0], 24)] w2 := by
    refine ⟨Eff.of hB2, fun t ht => ?_, fun t ht => ?_, fun k h => h.elim, by omega⟩
    · simp at ht
      rcases ht with rfl | rfl
      · exact ef.blk (g0.keep hK1) (by simp; omega)
      · exact ef.blk (g1.keep hK1) (by simp; omega)
    · simp at ht
      rcases ht with rfl | rfl
      · exact ⟨by simp, by simp; omega, by dsimp only; decide⟩
      · exact ⟨by simp, by simp; omega, by dsimp only; decide⟩
  clear hB hB1 hB2 hK1 gm d0 ef hz6 g0 g1
  go_loopw [5] (fun i wr => ∃ q : Nat, q ≤ c ∧ i = .int .i64 q ∧ Ctx w0 (fun _ => False) mb [(w0.heap.size, #[.int .i64 r, .int .i64 c, .slice a n k], 24), (w0.heap.size + 1, #[.int .i64 0, .int .i64 0, .slice none 0 0], 24)] wr ∧ ∃ v, Blk wr mb #[.int .i64 c, .int .i64 r, v] 24 ∧ IV w0.heap.size wr v (F q)) (fun i _ => c - (intOf i).toNat)
  case atStart => exact ⟨0, Nat.zero_le _, rfl, hX, _, g6, by rw [HF0.out]; exact IV.nil _ _⟩
  case round =>
    obtain ⟨q, hq, rfl, hXq, ov, hov, hV⟩ := hrel
    have d0 := (hXq.bk (w0.heap.size, #[.int .i64 r, .int .i64 c, .slice a n k], 24) (by simp)).cell
    dsimp only at d0
    clear hX g6
    by_cases hql : q < c
    · have hql' : (q : Int) < (c : Int) := by omega
      have hq0 : (0 : Int) ≤ (q : Int) := by omega
      have hlz : (F q).length ≤ 1000 := by
        rw [HFL.out]
        have := Nat.mul_le_mul (Nat.le_of_lt (Nat.lt_of_lt_of_le hql hc2)) hr2
        omega
      have HZ := Lib.hid (HST.out q)
      have hyl := HCL.out q
      have hCq : ∀ W, Ctx w0 (fun _ => False) mb [(w0.heap.size, #[.int .i64 r, .int .i64 c, .slice a n k], 24), (w0.heap.size + 1, #[.int .i64 0, .int .i64 0, .slice none 0 0], 24)] W → Calls Tryz.prog 100 #[.agg #[.int .i64 r, .int .i64 c, .slice a n k], .int .i64 q] W fun e w' => ∃ g k, e = .returned (.slice (some ⟨g, 0, none⟩) r k) ∧ OI W.heap.size w' g k (CL q) ∧ Below W.heap.size W w' := fun W h => HCol.out W (eff_none h.ef) q hql
      generalize CL q = ys at *
      generalize F q = fz at *
      go_wp2_with fail
      have HS0 := show (Ctx w0 (fun _ => False) mb [(w0.heap.size, #[.int .i64 r, .int .i64 c, .slice a n k], 24), (w0.heap.size + 1, #[.int .i64 0, .int .i64 0, .slice none 0 0], 24)] wr.drew ∧ Blk wr.drew mb #[.int .i64 c, .int .i64 r, ov] 24 ∧ IV w0.heap.size wr.drew ov fz) from ⟨hXq.keep (upD (upR _)), hov.drew, hV.keep (upD (upR _))⟩
      clear d0 hov hV hXq
      refine region_fp [some 21, some 22, some 23, some 24, some 25, some 26, some 27, none] [5, 7] [some (Value.pointer (some ⟨mb, 2, none⟩)), some (ov), some (Value.agg #[.int .i64 r, .int .i64 c, .slice a n k]), some (Value.int .i64 (q : Int)), none, none, some (Value.pointer (some ⟨mb, 2, none⟩)), none]
        (fun i v W => match i with | 4 => ∃ g kg, v = Value.slice (some ⟨g, 0, none⟩) r kg ∧ OI w0.heap.size W g kg ys ∧ g ≠ mb ∧ (∀ k, ov.ownBlock = some k → k ≠ g) | 5 => ∃ g' c', v = Value.slice (some ⟨g', 0, none⟩) (fz.length + r) c' | _ => True) (fun W W' => Eff (fun k => k = mb ∨ ov.ownBlock = some k) W W') (fun L f W => Ctx w0 (fun _ => False) mb [(w0.heap.size, #[.int .i64 r, .int .i64 c, .slice a n k], 24), (w0.heap.size + 1, #[.int .i64 0, .int .i64 0, .slice none 0 0], 24)] W ∧ (L 7 = false → Blk W mb #[.int .i64 c, .int .i64 r, ov] 24) ∧ (L 7 = true → Blk W mb #[.int .i64 c, .int .i64 r, f 5] 24) ∧ (L 5 = false → IV w0.heap.size W ov fz) ∧ (L 5 = true → IV w0.heap.size W (f 5) (fz ++ ys)))
        (by kernel_rfl) (by kernel_rfl) (by kernel_rfl) (by kernel_rfl) (by kernel_rfl) (fun _ => Eff.refl _ _) (fun i v W W' h hb => by
          match i, h with
          | 4, ⟨g, kg, h1, h2, h3, h4⟩ => exact ⟨g, kg, h1, h2.eff0 hb (fun h => by rcases h with h | h; exact h3 h; exact h4 _ h rfl), h3, h4⟩
          | 5, h => exact h
          | 0, _ | 1, _ | 2, _ | 3, _ | 6, _ | 7, _ => trivial
          | (n + 8), _ => trivial) (fun L L' f f' W h hs => by have q5 := (h 5 (by decide)); have q7 := (h 7 (by decide)).1; (try dsimp only at hs ⊢); rw [← q5.1, ← q5.2, ← q7]; exact hs) ⟨HS0.1, fun _ => HS0.2.1, fun h => (Bool.false_ne_true h).elim, fun _ => HS0.2.2, fun h => (Bool.false_ne_true h).elim⟩ ?_ ?_
      · intro i hi b' L f W hSW hL hdep hsh he hsv hsl hFF K hK1 hK2
        replace hi : i < 8 := hi
        have hcs : i = 0 ∨ i = 1 ∨ i = 2 ∨ i = 3 ∨ i = 4 ∨ i = 5 ∨ i = 6 ∨ i = 7 := by omega
        clear hi
        rcases hcs with rfl | rfl | rfl | rfl | rfl | rfl | rfl | rfl
        · refine wpOpS_go rfl rfl ?_
          have t4 : b'.tmps[4]?.getD undef = Value.pointer (some ⟨mb, 0, none⟩) := he 4 (by kernel_rfl)
          have HK := Lib.hid hK1
          clear hK1 hK2 hdep hsh he hsv hsl hFF hL
          clear hSW
          go_simp
          exact HK.out rfl _ (fp_mk rfl rfl trivial)
        · refine wpOpS_go rfl rfl ?_
          have t21 : b'.tmps[21]?.getD undef = Value.pointer (some ⟨mb, 2, none⟩) := hsv 0 21 _ (by kernel_rfl) (by kernel_rfl) rfl
          obtain ⟨s0, s1, s2, s3, s4⟩ := hSW
          have ns := hsh 7 (by kernel_rfl)
          have c0 := (s1 ns).cell
          have HK := Lib.hid hK1
          clear hK1 hK2 hdep hsh he hsv hsl hFF hL
          clear s0 s1 s2 s3 s4
          go_simp
          exact HK.out rfl _ (fp_mk rfl rfl trivial)
        · refine wpOpS_go rfl rfl ?_
          have t1 : b'.tmps[1]?.getD undef = Value.pointer (some ⟨w0.heap.size, 0, none⟩) := he 1 (by kernel_rfl)
          obtain ⟨s0, s1, s2, s3, s4⟩ := hSW
          have c0 := (s0.bk (w0.heap.size, #[.int .i64 r, .int .i64 c, .slice a n k], 24) (by simp)).cell
          have HK := Lib.hid hK1
          clear hK1 hK2 hdep hsh he hsv hsl hFF hL
          clear s0 s1 s2 s3 s4
          try dsimp only at c0
          go_simp
          exact HK.out rfl _ (fp_mk rfl rfl trivial)
        · refine wpOpS_go rfl rfl ?_
          have t5 : b'.tmps[5]?.getD undef = Value.int .i64 (q : Int) := he 5 (by kernel_rfl)
          have HK := Lib.hid hK1
          clear hK1 hK2 hdep hsh he hsv hsl hFF hL
          clear hSW
          go_simp
          exact HK.out rfl _ (fp_mk rfl rfl trivial)
        · refine wpOpS_go rfl rfl ?_
          have t23 : b'.tmps[23]?.getD undef = Value.agg #[.int .i64 r, .int .i64 c, .slice a n k] := hsv 2 23 _ (by kernel_rfl) (by kernel_rfl) rfl
          have t24 : b'.tmps[24]?.getD undef = Value.int .i64 (q : Int) := hsv 3 24 _ (by kernel_rfl) (by kernel_rfl) rfl
          obtain ⟨s0, s1, s2, s3, s4⟩ := hSW
          have HK := Lib.hid hK2
          have hA := hCq W s0
          have h7 := hsh 7 (by kernel_rfl)
          have h5 := hsh 5 (by kernel_rfl)
          have hlt := fun k hk => ((s3 h5).lt k hk).2
          have hmlt := (s1 h7).lt
          have hws := s0.ef.size
          clear hK1 hK2 hdep hsh he hsv hsl hFF hL
          go_simp
          refine hA.mono ?_
          rintro e w6 ⟨g, kg, rfl, hO, hB⟩
          exact HK.out _ _ (fp_x rfl ⟨g, kg, rfl, hO.mono hws, by have := hO.lo; omega, fun k hk => by have := hlt k hk; have := hO.lo; omega⟩) (Eff.of hB) ⟨s0.keep hB, fun h => (s1 h).keep hB, fun h => absurd h (by show ¬ L 7 = true; rw [h7]; decide), fun h => (s3 h).keep hB, fun h => absurd h (by show ¬ L 5 = true; rw [h5]; decide)⟩
        · refine wpOpS_go rfl rfl ?_
          have t22 : b'.tmps[22]?.getD undef = ov := hsv 1 22 _ (by kernel_rfl) (by kernel_rfl) rfl
          obtain ⟨t25, hx⟩ := hsl 4 25 (by kernel_rfl) (by kernel_rfl)
          obtain ⟨g0, k0, e5, hO, hgm, hgo⟩ := hx
          rw [e5] at t25
          obtain ⟨s0, s1, s2, s3, s4⟩ := hSW
          have HK := Lib.hid hK2
          have hrow := s3 hL
          have h7 := hsh 7 (by kernel_rfl)
          have hws := s0.ef.size
          clear hK1 hK2 hdep hsh he hsv hsl hFF e5
          refine op_app_ivs (.tmp 22) (.tmp 25) rfl (eval_tmp t22) hrow hws hO hyl hr1 (eval_tmp t25) (by omega) (by omega) ?_
          intro g' c' w' ho hg
          have hE' : Eff (fun k => k = mb ∨ ov.ownBlock = some k) W w' := Eff.grown hg (fun k hk => .inr hk)
          exact HK.out _ _ (fp_x rfl ⟨g', c', rfl⟩) hE' ⟨s0.grown hrow hg, fun h => (s1 h).grown hg (fun e => hrow.ne (s1 h) (by decide) _ e.symm rfl), fun h => absurd h (by show ¬ L 7 = true; rw [h7]; decide), fun h => absurd h (by rw [updF_same]; decide), fun _ => by rw [updF_same]; exact ho⟩
        · refine wpOpS_go rfl rfl ?_
          have t4 : b'.tmps[4]?.getD undef = Value.pointer (some ⟨mb, 0, none⟩) := he 4 (by kernel_rfl)
          have HK := Lib.hid hK1
          clear hK1 hK2 hdep hsh he hsv hsl hFF hL
          clear hSW
          go_simp
          exact HK.out rfl _ (fp_mk rfl rfl trivial)
        · refine wpOpS_go rfl rfl ?_
          have t27 : b'.tmps[27]?.getD undef = Value.pointer (some ⟨mb, 2, none⟩) := hsv 6 27 _ (by kernel_rfl) (by kernel_rfl) rfl
          obtain ⟨t26, hx⟩ := hsl 5 26 (by kernel_rfl) (by kernel_rfl)
          obtain ⟨g', c', e7⟩ := hx
          obtain ⟨s0, s1, s2, s3, s4⟩ := hSW
          have HK := Lib.hid hK2
          have hmb := s1 hL
          clear hK1 hK2 hdep hsh he hsv hsl hFF
          refine op_store 22 _ _ rfl rfl hmb 2 (eval_tmp t27) (eval_tmp t26) [f 5] (by rw [e7]; rfl) (by kernel_rfl) (by rw [e7]; rfl) (by rfl) #[.int .i64 c, .int .i64 r, f 5] rfl ?_
          intro w' h1 h2 h3
          have hnr : ∀ {u : Value} {ys : List Int}, IV w0.heap.size W u ys → IV w0.heap.size w' u ys := fun {u} {ys} h => h.eff h2 (fun k hk e => h.ne hmb (by decide) k hk e)
          exact HK.out undef _ (fp_x (v := undef) rfl trivial) (h2.mono (fun _ _ h => .inl h)) ⟨s0.store h2, fun h => absurd h (by rw [updF_same]; decide), fun _ => h1, fun h => hnr (s3 h), fun h => hnr (s4 h)⟩
      · intro f W hf L hL hS
        obtain ⟨s0, s1, s2, s3, s4⟩ := (hS : _ ∧ _ ∧ _ ∧ _ ∧ _)
        obtain ⟨g4, k4, e4, _, _, _⟩ := (hf 4 (by decide)).2
        obtain ⟨g', c', e5⟩ := (hf 5 (by decide)).2
        replace s2 := s2 (hL 7 (by decide))
        replace s4 := s4 (hL 5 (by decide))
        rw [e5] at s2 s4
        have e0 : f 0 = Value.pointer (some ⟨mb, 2, none⟩) := (hf 0 (by decide)).1 _ rfl
        have e1 : f 1 = ov := (hf 1 (by decide)).1 _ rfl
        have e2 : f 2 = Value.agg #[.int .i64 r, .int .i64 c, .slice a n k] := (hf 2 (by decide)).1 _ rfl
        have e3 : f 3 = Value.int .i64 (q : Int) := (hf 3 (by decide)).1 _ rfl
        have e6 : f 6 = Value.pointer (some ⟨mb, 2, none⟩) := (hf 6 (by decide)).1 _ rfl
        clear hf hL s1 s3
        simp only [puts2, Act.put, e0, e1, e2, e3, e4, e5, e6]
        try simp only [List.setIfInBounds_toArray, List.set_cons_zero, List.set_cons_succ]
        clear e0 e1 e2 e3 e4 e5 e6
        go_wp2_with fail
        go_roundw
        case rel => exact ⟨q + 1, by omega, by go_num, s0, _, s2, by rw [← HZ.out]; exact s4⟩
        case measure => simp [intOf]; omega
    · have hqn : q = c := by omega
      subst hqn
      have hfl := HFL.out q
      obtain ⟨g, kg, rfl, hOI⟩ := hV.li (by rw [hfl]; exact Nat.mul_pos hc1 hr1) (HF64.out q)
      rw [hfl] at hov
      have m0 := hov.cell
      have gr := hXq.bk (w0.heap.size + 1, #[.int .i64 0, .int .i64 0, .slice none 0 0], 24) (by simp)
      dsimp only at gr
      have hBl := eff_none hXq.ef
      obtain ⟨nn, hnn⟩ : ∃ nn, q * r = nn := ⟨_, rfl⟩
      rw [hnn] at m0 hfl
      have HFL2 := Lib.hid hfl
      clear hov hV hXq hnn hfl
      go_wp2_with ((with_reducible refine at_st (p := 2) (q := 28) rfl ?_); refine ev_store rfl 24 _ _ rfl rfl gr 0 rfl rfl [.int .i64 q, .int .i64 r, .slice (some ⟨g, 0, none⟩) nn kg] rfl (by kernel_rfl) rfl rfl #[.int .i64 q, .int .i64 r, .slice (some ⟨g, 0, none⟩) nn kg] rfl ?_; intro w7 g7 ef7 hz7)
      refine bodyPost_ret (results_ct rfl _ _ (g := w0.heap.size + 1) rfl g7 Tryz.underlying24 rfl (by kernel_rfl)) rfl ?_
      exact ⟨_, rfl, mo_of_oi (hOI.eff0 ef7 (hOI.ne gr (by decide))) HFL2.out (by omega) (by omega), ef7.below hBl (fun k hk => by omega)⟩
/-- Why nothing is told, or 0. -/
def RfM (M : Mdl) (ticks r : Int) : Prop := (okM M ∧ (-1099511627776 ≤ ticks ∧ ticks ≤ 1099511627776) ∧ r = 0) ∨ (okM M ∧ ¬ (-1099511627776 ≤ ticks ∧ ticks ≤ 1099511627776) ∧ r = 4) ∨ (¬ okM M ∧ r = 2)
set_option maxRecDepth 100000 in
theorem refusesR_is {W : World} {v : Value} {M : Mdl} (hM : MM 0 W v M) (hl : M.rows.length ≤ 1000) (hh : ∀ q ∈ M.rows, q.h.length ≤ 100000) {ticks ans : Int} (hr : RfM M ticks ans) :
    Calls Tryz.prog 89 #[v, .int .i64 ticks] W fun e w' => e = .returned (.int .i64 ans) ∧ Below W.heap.size W w' := by
  have hCh := fun (w : World) (hB : Below W.heap.size W w) => rcheck_is (hM.keep hB) hl hh
  obtain ⟨aA, cA, aQ, cQ, aR, cR, rfl, _⟩ := hM.ex
  have hB := upA (upR W) (Obj.cells #[.int .i64 M.n, .slice aA M.A.length cA, .slice aQ M.Q.length cQ, .int .i64 M.tick, .int .i64 M.gate, .int .i64 M.rmin, .slice aR M.rows.length cR] 54)
  clear hM
  by_cases hok : okM M
  · by_cases h1 : ticks < -1099511627776
    · have HA := Lib.hid (show ans = 4 by rcases hr with ⟨_, h, _⟩ | ⟨_, _, h⟩ | ⟨h, _⟩; exact absurd h (by omega); exact h; exact absurd hok h)
      go_enter Tryz.func89, Tryz.ntmps89
      go_wp2_with fail
      refine (hCh _ hB).mono ?_
      rintro e w1 ⟨ht, hK⟩
      obtain rfl := tellsC_ok ht hok
      replace hB := more hB hK
      clear hCh ht hK
      go_wp2_with fail
      go_ret
      exact ⟨by rw [HA.out]; rfl, hB⟩
    · by_cases h2 : 1099511627776 < ticks
      · have HA := Lib.hid (show ans = 4 by rcases hr with ⟨_, h, _⟩ | ⟨_, _, h⟩ | ⟨h, _⟩; exact absurd h (by omega); exact h; exact absurd hok h)
        go_enter Tryz.func89, Tryz.ntmps89
        go_wp2_with fail
        refine (hCh _ hB).mono ?_
        rintro e w1 ⟨ht, hK⟩
        obtain rfl := tellsC_ok ht hok
        replace hB := more hB hK
        clear hCh ht hK
        go_wp2_with fail
        go_ret
        exact ⟨by rw [HA.out]; rfl, hB⟩
      · have HA := Lib.hid (show ans = 0 by rcases hr with ⟨_, _, h⟩ | ⟨_, h, _⟩ | ⟨h, _⟩; exact h; exact absurd ⟨by omega, by omega⟩ h; exact absurd hok h)
        go_enter Tryz.func89, Tryz.ntmps89
        go_wp2_with fail
        refine (hCh _ hB).mono ?_
        rintro e w1 ⟨ht, hK⟩
        obtain rfl := tellsC_ok ht hok
        replace hB := more hB hK
        clear hCh ht hK
        go_wp2_with fail
        go_ret
        exact ⟨by rw [HA.out]; rfl, hB⟩
  · have HA := Lib.hid (show ans = 2 by rcases hr with ⟨h, _⟩ | ⟨h, _⟩ | ⟨_, h⟩; exact absurd h hok; exact absurd h hok; exact h)
    go_enter Tryz.func89, Tryz.ntmps89
    go_wp2_with fail
    refine (hCh _ hB).mono ?_
    rintro e w1 ⟨ht, hK⟩
    obtain rfl := tellsC_no ht hok
    replace hB := more hB hK
    clear hCh ht hK
    go_wp2_with fail
    go_ret
    exact ⟨by rw [HA.out]; rfl, hB⟩
def sAll (r : Int) (M : Mdl) (ticks : Int) : Int × Bool := if r = 0 then spanM M.tick ticks else (0, false)
set_option maxHeartbeats 4000000 in
set_option maxRecDepth 100000 in
theorem spanR_is {w0 : World} {b : Nat} {c : Bool} (hU : UR w0 b c) {v : Value} {M : Mdl} (hM : MM 0 w0 v M) (hl : M.rows.length ≤ 1000) (hh : ∀ q ∈ M.rows, q.h.length ≤ 100000) {ticks ans : Int} (hr : RfM M ticks ans) (ht : I64 ticks) :
    Calls Tryz.prog 41 #[.pointer (some ⟨b, 0, none⟩), v, .int .i64 ticks] w0 fun e w' => e = .returned (.tuple #[.int .i64 (sAll ans M ticks).1, .int .i64 ans]) ∧ UR w' b (c || (sAll ans M ticks).2) ∧ But b w0 w' := by
  have hRF := fun (w : World) (hB : Below w0.heap.size w0 w) => refusesR_is (hM.keep hB) hl hh hr
  have htk := hM.tick
  have hbl := hU.lt
  obtain ⟨aA, cA, aQ, cQ, aR, cR, rfl, _⟩ := hM.ex
  have hB := upA (upR w0) (Obj.cells #[.int .i64 M.n, .slice aA M.A.length cA, .slice aQ M.Q.length cQ, .int .i64 M.tick, .int .i64 M.gate, .int .i64 M.rmin, .slice aR M.rows.length cR] 54)
  have g0 := Blk.new w0 #[.int .i64 M.n, .slice aA M.A.length cA, .slice aQ M.Q.length cQ, .int .i64 M.tick, .int .i64 M.gate, .int .i64 M.rmin, .slice aR M.rows.length cR] 54
  clear hM hl hh
  unfold sAll
  by_cases h0 : ans = 0
  · rw [if_pos h0]
    rw [h0] at hRF ⊢
    clear hr
    obtain ⟨P, hPb, hbP, hPl⟩ : ∃ P : Nat → Prop, (∀ W W', Eff P W W' → But b W W') ∧ (∀ W W', But b W W' → Eff P W W') ∧ (∀ k, P k → k < w0.heap.size) := ⟨fun k => k = b, fun _ _ h => eff_but h, fun _ _ h => but_eff h, fun k h => by omega⟩
    have hWH := fun (W : World) (cc : Bool) (h : UR W b cc) => (uWholeR_is h ticks ht).mono (R' := fun e w' => e = .returned (.int .i64 (wholeF ticks).1) ∧ UR w' b (cc || (wholeF ticks).2) ∧ Eff P W w') fun e w' h => ⟨h.1, h.2.1, hbP _ _ h.2.2⟩
    have h64 := (wholeF_fx ticks).i64
    unfold spanM
    generalize wholeF ticks = wf at hWH h64 ⊢
    have hML := fun (W : World) (cc : Bool) (e1 : Nat) (h : UR W b cc) (hb : Blk W e1 #[Value.int .i64 wf.1, .int .i64 M.tick] 3) (hne : e1 ≠ b) => (uMulR_is h (ml_new (b := b) (zs := [wf.1, M.tick]) hb hne (two_i64 h64 htk) (by simp))).mono (R' := fun e w' => e = .returned (.int .i64 (timesL [wf.1, M.tick]).1) ∧ UR w' b (cc || (timesL [wf.1, M.tick]).2) ∧ Eff P W w') fun e w' h => ⟨h.1, h.2.1, hbP _ _ h.2.2⟩
    generalize timesL [wf.1, M.tick] = tm at hML ⊢
    simp only [List.length_cons, List.length_nil, Nat.zero_add, Nat.reduceAdd] at hML
    have HML := Lib.hid hML
    clear hML h0
    go_enter Tryz.func41, Tryz.ntmps41
    go_wp2_with fail
    refine (hRF _ hB).mono ?_
    rintro e w1 ⟨rfl, hK⟩
    replace hB := more hB hK
    replace g0 := g0.keep hK
    have hU1 := hU.below hB hbl
    clear hK hRF hU
    go_wp2_with fail
    have hD0 : UR w1.drew b c ∧ Eff P w0 w1.drew ∧ Blk w1.drew w0.heap.size #[.int .i64 M.n, .slice aA M.A.length cA, .slice aQ M.Q.length cQ, .int .i64 M.tick, .int .i64 M.gate, .int .i64 M.rmin, .slice aR M.rows.length cR] 54 := ⟨hU1.drew, Eff.of hB.drew, g0.drew⟩
    clear hU1 hB g0
    refine region_fp [some 15, some 16, some 17, some 18, some 19, some 20, some 21, some 22, some 6, some 7] [3, 7] [some (Value.pointer (some ⟨b, 0, none⟩)), some (Value.pointer (some ⟨b, 0, none⟩)), some (Value.int .i64 ticks), some (Value.int .i64 wf.1), some (Value.pointer (some ⟨w0.heap.size, 3, none⟩)), some (Value.int .i64 M.tick), none, some (Value.int .i64 tm.1), some (Value.int .i64 tm.1), some (Value.int .i64 0)]
      (fun i v W => match i with | 6 => ∃ e1, v = Value.slice (some ⟨e1, 0, none⟩) 2 2 ∧ Blk W e1 #[.int .i64 wf.1, .int .i64 M.tick] 3 ∧ w0.heap.size ≤ e1 | _ => True) (fun W W' => Eff P W W') (fun L f W => (L 3 = false → UR W b c) ∧ (L 3 = true → L 7 = false → UR W b (c || wf.2)) ∧ (L 7 = true → UR W b (c || wf.2 || tm.2)) ∧ Eff P w0 W ∧ Blk W w0.heap.size #[.int .i64 M.n, .slice aA M.A.length cA, .slice aQ M.Q.length cQ, .int .i64 M.tick, .int .i64 M.gate, .int .i64 M.rmin, .slice aR M.rows.length cR] 54)
      (by kernel_rfl) (by kernel_rfl) (by kernel_rfl) (by kernel_rfl) (by kernel_rfl) (fun _ => Eff.refl _ _) (fun i v W W' h hb => by
        match i, h with
        | 6, ⟨e1, h1, h2, h3⟩ => exact ⟨e1, h1, hb.blk h2 (fun hp => by have := hPl _ hp; omega), h3⟩
        | 0, _ | 1, _ | 2, _ | 3, _ | 4, _ | 5, _ | 7, _ | 8, _ | 9, _ => trivial
        | (n + 10), _ => trivial) (fun L L' f f' W h hs => by have q3 := (h 3 (by decide)).1; have q7 := (h 7 (by decide)).1; (try dsimp only at hs ⊢); rw [← q3, ← q7]; exact hs) ⟨fun _ => hD0.1, fun h => (Bool.false_ne_true h).elim, fun h => (Bool.false_ne_true h).elim, hD0.2.1, hD0.2.2⟩ ?_ ?_
    · intro i hi b' L f W hSW hL hdep hsh he hsv hsl hFF K hK1 hK2
      replace hi : i < 10 := hi
      have hcs : i = 0 ∨ i = 1 ∨ i = 2 ∨ i = 3 ∨ i = 4 ∨ i = 5 ∨ i = 6 ∨ i = 7 ∨ i = 8 ∨ i = 9 := by omega
      clear hi
      rcases hcs with rfl | rfl | rfl | rfl | rfl | rfl | rfl | rfl | rfl | rfl
      · refine wpOpS_go rfl rfl ?_
        have t0 : b'.tmps[0]?.getD undef = Value.pointer (some ⟨b, 0, none⟩) := he 0 (by kernel_rfl)
        have HK := Lib.hid hK1
        clear hK1 hK2 hdep hsh he hsv hsl hFF hL
        clear hSW
        go_simp
        exact HK.out rfl _ (fp_mk rfl rfl trivial)
      · refine wpOpS_go rfl rfl ?_
        have t0 : b'.tmps[0]?.getD undef = Value.pointer (some ⟨b, 0, none⟩) := he 0 (by kernel_rfl)
        have HK := Lib.hid hK1
        clear hK1 hK2 hdep hsh he hsv hsl hFF hL
        clear hSW
        go_simp
        exact HK.out rfl _ (fp_mk rfl rfl trivial)
      · refine wpOpS_go rfl rfl ?_
        have t2 : b'.tmps[2]?.getD undef = Value.int .i64 ticks := he 2 (by kernel_rfl)
        have HK := Lib.hid hK1
        clear hK1 hK2 hdep hsh he hsv hsl hFF hL
        clear hSW
        go_simp
        exact HK.out rfl _ (fp_mk rfl rfl trivial)
      · refine wpOpS_go rfl rfl ?_
        have t16 : b'.tmps[16]?.getD undef = Value.pointer (some ⟨b, 0, none⟩) := hsv 1 16 _ (by kernel_rfl) (by kernel_rfl) rfl
        have t17 : b'.tmps[17]?.getD undef = Value.int .i64 ticks := hsv 2 17 _ (by kernel_rfl) (by kernel_rfl) rfl
        obtain ⟨s0, s1, s2, s3, s4⟩ := hSW
        have hu := s0 hL
        have h7 := hsh 7 (by kernel_rfl)
        have HK := Lib.hid hK2
        have hA := hWH W _ hu
        clear hK1 hK2 hdep hsh he hsv hsl hFF hL
        go_simp
        refine hA.mono ?_
        rintro e w6 ⟨rfl, hU6, hE6⟩
        exact HK.out _ _ (fp_mk rfl rfl trivial) hE6 ⟨fun h => absurd h (by rw [updF_same]; decide), fun _ _ => hU6, fun h => absurd h (by show ¬ L 7 = true; rw [h7]; decide), s3.trans hE6 (fun _ _ h => h), hE6.blk s4 (fun hp => by have := hPl _ hp; omega)⟩
      · refine wpOpS_go rfl rfl ?_
        have t4 : b'.tmps[4]?.getD undef = Value.pointer (some ⟨w0.heap.size, 0, none⟩) := he 4 (by kernel_rfl)
        have HK := Lib.hid hK1
        clear hK1 hK2 hdep hsh he hsv hsl hFF hL
        clear hSW
        go_simp
        exact HK.out rfl _ (fp_mk rfl rfl trivial)
      · refine wpOpS_go rfl rfl ?_
        have t19 : b'.tmps[19]?.getD undef = Value.pointer (some ⟨w0.heap.size, 3, none⟩) := hsv 4 19 _ (by kernel_rfl) (by kernel_rfl) rfl
        obtain ⟨s0, s1, s2, s3, s4⟩ := hSW
        have c0 := s4.cell
        have HK := Lib.hid hK1
        clear hK1 hK2 hdep hsh he hsv hsl hFF hL
        clear s0 s1 s2 s3 s4
        go_simp
        exact HK.out rfl _ (fp_mk rfl rfl trivial)
      · refine wpOpS_go rfl rfl ?_
        have t18 : b'.tmps[18]?.getD undef = Value.int .i64 wf.1 := hsv 3 18 _ (by kernel_rfl) (by kernel_rfl) rfl
        have t20 : b'.tmps[20]?.getD undef = Value.int .i64 M.tick := hsv 5 20 _ (by kernel_rfl) (by kernel_rfl) rfl
        obtain ⟨s0, s1, s2, s3, s4⟩ := hSW
        have HK := Lib.hid hK2
        have hws := s3.size
        clear hK1 hK2 hdep hsh he hsv hsl hFF hL
        refine op_slicen 2 (cs := #[.int .i64 wf.1, .int .i64 M.tick]) (t := 3) (by go_simp) ?_
        intro w6 hb hB hz
        exact HK.out _ _ (fp_x rfl ⟨_, rfl, hb, hws⟩) (Eff.of hB) ⟨fun h => (s0 h).keep hB, fun h h' => (s1 h h').keep hB, fun h => (s2 h).keep hB, s3.trans (Eff.of (P := P) hB) (fun _ _ h => h), s4.keep hB⟩
      · refine wpOpS_go rfl rfl ?_
        have t15 : b'.tmps[15]?.getD undef = Value.pointer (some ⟨b, 0, none⟩) := hsv 0 15 _ (by kernel_rfl) (by kernel_rfl) rfl
        obtain ⟨t21, hx⟩ := hsl 6 21 (by kernel_rfl) (by kernel_rfl)
        obtain ⟨e1, e6, b6, le6⟩ := hx
        rw [e6] at t21
        obtain ⟨s0, s1, s2, s3, s4⟩ := hSW
        have h3 := hdep 3 (by kernel_rfl)
        have hu := s1 h3 hL
        have HK := Lib.hid hK2
        have hA := HML.out W _ e1 hu b6 (by omega)
        clear hK1 hK2 hdep hsh he hsv hsl hFF hL e6
        go_simp
        refine hA.mono ?_
        rintro e w6 ⟨rfl, hU6, hE6⟩
        exact HK.out _ _ (fp_mk rfl rfl trivial) hE6 ⟨fun h => absurd (show L 3 = false from h) (by rw [h3]; decide), fun _ h => absurd h (by rw [updF_same]; decide), fun _ => hU6, s3.trans hE6 (fun _ _ h => h), hE6.blk s4 (fun hp => by have := hPl _ hp; omega)⟩
      · refine wpOpS_go rfl rfl ?_
        have t22 : b'.tmps[22]?.getD undef = Value.int .i64 tm.1 := hsv 7 22 _ (by kernel_rfl) (by kernel_rfl) rfl
        have HK := Lib.hid hK1
        clear hK1 hK2 hdep hsh he hsv hsl hFF hL
        clear hSW
        go_simp
        exact HK.out rfl _ (fp_mk rfl rfl trivial)
      · refine wpOpS_go rfl rfl ?_
        have HK := Lib.hid hK1
        clear hK1 hK2 hdep hsh he hsv hsl hFF hL
        clear hSW
        go_simp
        exact HK.out rfl _ (fp_mk rfl rfl trivial)
    · intro f W hf L hL hS
      obtain ⟨s0, s1, s2, s3, s4⟩ := (hS : _ ∧ _ ∧ _ ∧ _ ∧ _)
      obtain ⟨g6, e6, _, _⟩ := (hf 6 (by decide)).2
      replace s2 := s2 (hL 7 (by decide))
      have e0 : f 0 = Value.pointer (some ⟨b, 0, none⟩) := (hf 0 (by decide)).1 _ rfl
      have e1 : f 1 = Value.pointer (some ⟨b, 0, none⟩) := (hf 1 (by decide)).1 _ rfl
      have e2 : f 2 = Value.int .i64 ticks := (hf 2 (by decide)).1 _ rfl
      have e3 : f 3 = Value.int .i64 wf.1 := (hf 3 (by decide)).1 _ rfl
      have e4 : f 4 = Value.pointer (some ⟨w0.heap.size, 3, none⟩) := (hf 4 (by decide)).1 _ rfl
      have e5 : f 5 = Value.int .i64 M.tick := (hf 5 (by decide)).1 _ rfl
      have e7 : f 7 = Value.int .i64 tm.1 := (hf 7 (by decide)).1 _ rfl
      have e8 : f 8 = Value.int .i64 tm.1 := (hf 8 (by decide)).1 _ rfl
      have e9 : f 9 = Value.int .i64 0 := (hf 9 (by decide)).1 _ rfl
      clear hf hL s0 s1 s4
      simp only [puts2, Act.put, e0, e1, e2, e3, e4, e5, e6, e7, e8, e9]
      try simp only [List.setIfInBounds_toArray, List.set_cons_zero, List.set_cons_succ]
      clear e0 e1 e2 e3 e4 e5 e6 e7 e8 e9
      go_wp2_with fail
      go_ret2
      exact ⟨rfl, by rw [← Bool.or_assoc]; exact s2, hPb _ _ s3⟩
  · rw [if_neg h0]
    clear hr
    have h0b : (ans == 0) = false := by simpa using h0
    have h0c : (ans != 0) = true := by simpa using h0
    go_enter Tryz.func41, Tryz.ntmps41
    go_wp2_with fail
    refine (hRF _ hB).mono ?_
    rintro e w1 ⟨rfl, hK⟩
    replace hB := more hB hK
    have hU1 := hU.below hB hbl
    clear hK hRF g0 hU
    go_wp2_with fail
    go_ret2
    exact ⟨rfl, by simpa using hU1, But.of hB⟩
set_option maxRecDepth 100000 in
theorem movesR_is (n tick gate rmin : Int) (aA : Option Addr) (cA : Nat) (aQ : Option Addr) (cQ : Nat) (aR : Option Addr) (cR : Nat) (la lq lr : Nat) (W : World) :
    Calls Tryz.prog 91 #[.agg #[.int .i64 n, .slice aA la cA, .slice aQ lq cQ, .int .i64 tick, .int .i64 gate, .int .i64 rmin, .slice aR lr cR]] W fun e w' => e = .returned (.agg #[.int .i64 n, .int .i64 n, .slice aA la cA]) ∧ Below W.heap.size W w' := by
  have hB := below_allocs W [Obj.cells #[.int .i64 n, .slice aA la cA, .slice aQ lq cQ, .int .i64 tick, .int .i64 gate, .int .i64 rmin, .slice aR lr cR] 54, Obj.cells #[.int .i64 0, .int .i64 0, .slice none 0 0] 24]
  have g0 := blk_at W [Obj.cells #[.int .i64 n, .slice aA la cA, .slice aQ lq cQ, .int .i64 tick, .int .i64 gate, .int .i64 rmin, .slice aR lr cR] 54, Obj.cells #[.int .i64 0, .int .i64 0, .slice none 0 0] 24] 0 _ _ rfl
  have g1 := blk_at W [Obj.cells #[.int .i64 n, .slice aA la cA, .slice aQ lq cQ, .int .i64 tick, .int .i64 gate, .int .i64 rmin, .slice aR lr cR] 54, Obj.cells #[.int .i64 0, .int .i64 0, .slice none 0 0] 24] 1 _ _ rfl
  simp only [List.foldl_cons, List.foldl_nil, Nat.add_zero] at hB g0 g1
  replace hB := hB.1
  have d0 := g0.cell
  go_enter Tryz.func91, Tryz.ntmps91
  go_wp2_with ((with_reducible refine at_st (p := 2) (q := 9) rfl ?_); refine ev_store rfl 24 _ _ rfl rfl g1 0 rfl rfl [.int .i64 n, .int .i64 n, .slice aA la cA] rfl (by kernel_rfl) rfl rfl #[.int .i64 n, .int .i64 n, .slice aA la cA] rfl ?_; intro w7 g7 ef7 hz7)
  refine bodyPost_ret (results_cell_row rfl _ _ _ 24 #[.int .i64 n, .int .i64 n, .slice aA la cA] (0, 0) _ rfl g7 Tryz.underlying24 rfl (by kernel_rfl)) rfl ?_
  exact ⟨rfl, ef7.below hB (fun k hk => by omega)⟩
theorem rf_ok {M : Mdl} {ticks : Int} (h : RfM M ticks 0) : okM M ∧ -1099511627776 ≤ ticks ∧ ticks ≤ 1099511627776 := by
  rcases h with ⟨h1, h2, _⟩ | ⟨_, _, h⟩ | ⟨_, h⟩
  · exact ⟨h1, h2⟩
  · exact absurd h (by decide)
  · exact absurd h (by decide)
def fmAll (r : Int) (M : Mdl) (ticks : Int) : Mt × Bool := if r = 0 then mflowM M ticks else (⟨0, 0, []⟩, false)
set_option maxHeartbeats 4000000 in
set_option maxRecDepth 100000 in
theorem mflowR_is {w0 : World} {b : Nat} {c : Bool} (hU : UR w0 b c) {v : Value} {M : Mdl} (hM : MW b w0 v M) (hl : M.rows.length ≤ 1000) (hh : ∀ q ∈ M.rows, q.h.length ≤ 100000) {ticks ans : Int} (hr : RfM M ticks ans) (ht : I64 ticks) :
    Calls Tryz.prog 42 #[.pointer (some ⟨b, 0, none⟩), v, .int .i64 ticks] w0 fun e w' => ∃ u, e = .returned (.tuple #[u, .int .i64 ans]) ∧ MO w0.heap.size w' u (fmAll ans M ticks).1 ∧ UR w' b (c || (fmAll ans M ticks).2) ∧ But b w0 w' := by
  have hSP := fun (w : World) (hB : Below w0.heap.size w0 w) (hu : UR w b c) => spanR_is hu (hM.keep hB).m hl hh hr ht
  have hbl := hU.lt
  obtain ⟨aA, cA, aQ, cQ, aR, cR, rfl, hmA, _⟩ := hM.ex
  have hB := below_allocs w0 [Obj.cells #[.int .i64 M.n, .slice aA M.A.length cA, .slice aQ M.Q.length cQ, .int .i64 M.tick, .int .i64 M.gate, .int .i64 M.rmin, .slice aR M.rows.length cR] 54, Obj.cells #[.int .i64 0, .int .i64 0, .slice none 0 0] 24]
  have g0 := blk_at w0 [Obj.cells #[.int .i64 M.n, .slice aA M.A.length cA, .slice aQ M.Q.length cQ, .int .i64 M.tick, .int .i64 M.gate, .int .i64 M.rmin, .slice aR M.rows.length cR] 54, Obj.cells #[.int .i64 0, .int .i64 0, .slice none 0 0] 24] 0 _ _ rfl
  have g1 := blk_at w0 [Obj.cells #[.int .i64 M.n, .slice aA M.A.length cA, .slice aQ M.Q.length cQ, .int .i64 M.tick, .int .i64 M.gate, .int .i64 M.rmin, .slice aR M.rows.length cR] 54, Obj.cells #[.int .i64 0, .int .i64 0, .slice none 0 0] 24] 1 _ _ rfl
  simp only [List.foldl_cons, List.foldl_nil, Nat.add_zero] at hB g0 g1
  replace hB := hB.1
  have hsp := hSP _ hB (hU.below hB hbl)
  clear hSP hM
  unfold fmAll
  by_cases h0 : ans = 0
  · rw [if_pos h0]
    have es : sAll ans M ticks = spanM M.tick ticks := if_pos h0
    rw [es, h0] at hsp
    rw [h0] at hr
    rw [h0]
    have hup := okM_up (rf_ok hr).1
    clear hr
    have hfx := (spanM_fx M.tick ticks).i64
    have hFL : ∀ (w : World) (cc : Bool) (_ : But b w0 w) (_ : UR w b cc), Calls Tryz.prog 17 #[.pointer (some ⟨b, 0, none⟩), .agg #[.int .i64 M.n, .int .i64 M.n, .slice aA M.A.length cA], .int .i64 (spanM M.tick ticks).1] w fun e w' => ∃ v, e = .returned (.tuple #[v, .int .i64 0]) ∧ MO w.heap.size w' v (flowM (movesM M) (spanM M.tick ticks).1).1 ∧ UR w' b (cc || (flowM (movesM M) (spanM M.tick ticks).1).2) ∧ But b w w' := fun w cc hb hu => flowR_is hu (m := movesM M) (hmA.but hb) hup _ hfx
    unfold mflowM
    generalize flowM (movesM M) (spanM M.tick ticks).1 = fm at hFL ⊢
    generalize spanM M.tick ticks = sp at *
    have HFL := Lib.hid hFL
    clear hFL hup es h0 hmA hU
    go_enter Tryz.func42, Tryz.ntmps42
    go_wp2_with fail
    refine hsp.mono ?_
    rintro e w1 ⟨rfl, hU1, hB1⟩
    have hBt := (But.of (b := b) hB).trans hB1
    have h0' := hB1.blk g0 (by omega)
    have h1' := hB1.blk g1 (by omega)
    have hsz := hB1.size
    clear hsp hB g0 g1 hB1
    have d0 := h0'.cell
    go_wp2_with fail
    refine (movesR_is _ _ _ _ _ _ _ _ _ _ _ _ _ _).mono ?_
    rintro e w2 ⟨rfl, hK⟩
    have hU2 := hU1.keep hK
    have hBt2 := hBt.trans (But.of hK)
    have g2 := h1'.keep hK
    have hx := HFL.out w2 _ hBt2 hU2
    clear hK hU1 hBt h0' h1' d0 HFL
    go_wp2_with fail
    refine hx.mono ?_
    rintro e w3 ⟨u, rfl, hmo, hU3, hB3⟩
    have hwsz := hBt2.size
    have g3 := hB3.blk g2 (by omega)
    have hBt3 := hBt2.trans hB3
    obtain ⟨au, ku, rfl, hLI⟩ := hmo.ex
    have i1 := hmo.r
    have i2 := hmo.c
    obtain ⟨hm, hb2⟩ := fm
    obtain ⟨ur, uc, uv⟩ := hm
    dsimp only at hLI i1 i2 ⊢
    generalize hul : uv.length = ul at *
    have HUL := Lib.hid hul
    clear hul hx hmo hB3 hBt2 hU2 g2
    go_wp2_with ((with_reducible refine at_st (p := 6) (q := 26) rfl ?_); refine ev_store rfl 24 _ _ rfl rfl g3 0 rfl rfl [.int .i64 ur, .int .i64 uc, .slice au ul ku] rfl (by kernel_rfl) rfl rfl #[.int .i64 ur, .int .i64 uc, .slice au ul ku] rfl ?_; intro w7 g7 ef7 hz7)
    refine bodyPost_ret (results_ct rfl _ _ (g := w0.heap.size + 1) rfl g7 Tryz.underlying24 rfl (by kernel_rfl)) rfl ?_
    refine ⟨_, rfl, ⟨⟨au, ku, by dsimp only; rw [HUL.out], (hLI.eff ef7 (fun k hk ht => by subst hk; exact absurd (ht.inj g3.ty) (by decide))).mono hwsz⟩, i1, i2⟩, ?_, ?_⟩
    · obtain ⟨mm, hm⟩ := hU3
      exact ⟨mm, by rw [← Bool.or_assoc]; exact ef7.blk hm (by omega)⟩
    · exact eff_but (((but_eff hBt3).trans ef7 (fun k hk e => by omega)))
  · rw [if_neg h0]
    have es : sAll ans M ticks = (0, false) := if_neg h0
    rw [es] at hsp
    clear hr
    have h0c : (ans != 0) = true := by simpa using h0
    clear es
    go_enter Tryz.func42, Tryz.ntmps42
    go_wp2_with fail
    refine hsp.mono ?_
    rintro e w1 ⟨rfl, hU1, hB1⟩
    have hBt := (But.of (b := b) hB).trans hB1
    have g3 := hB1.blk g1 (by omega)
    clear hsp g0 g1 hB hB1 hmA hU
    go_wp2_with ((with_reducible refine at_st (p := 6) (q := 19) rfl ?_); refine ev_store rfl 24 _ _ rfl rfl g3 0 rfl rfl [.int .i64 0, .int .i64 0, .slice none 0 0] rfl (by kernel_rfl) rfl rfl #[.int .i64 0, .int .i64 0, .slice none 0 0] rfl ?_; intro w7 g7 ef7 hz7)
    refine bodyPost_ret (results_ct rfl _ _ (g := w0.heap.size + 1) rfl g7 Tryz.underlying24 rfl (by kernel_rfl)) rfl ?_
    refine ⟨_, rfl, mo_none _ _, ?_, ?_⟩
    · obtain ⟨mm, hm⟩ := hU1
      exact ⟨mm, ef7.blk (by simpa using hm) (by omega)⟩
    · exact eff_but (((but_eff hBt).trans ef7 (fun k hk e => by omega)))
/-- The coefficients one behind the other, and whether something was cut. -/
def itD (A : Mt) (k : Nat) (d : Mt) : Nat → Mt × Bool
  | 0 => (d, false)
  | q + 1 => ((coefS A (itD A k d q).1 ((k + q : Nat) : Int)).1, (itD A k d q).2 || (coefS A (itD A k d q).1 ((k + q : Nat) : Int)).2)
theorem itD_shift (A : Mt) (k : Nat) (d : Mt) : ∀ q, itD A k d (q + 1) = ((itD A (k + 1) (coefS A d k).1 q).1, (coefS A d k).2 || (itD A (k + 1) (coefS A d k).1 q).2)
  | 0 => by simp [itD]
  | q + 1 => by
    have h := itD_shift A k d q
    have e : k + (q + 1) = k + 1 + q := by omega
    show ((coefS A (itD A k d (q + 1)).1 ((k + (q + 1) : Nat) : Int)).1, (itD A k d (q + 1)).2 || (coefS A (itD A k d (q + 1)).1 ((k + (q + 1) : Nat) : Int)).2) = _
    rw [h, e]
    dsimp only
    rw [Bool.or_assoc]
    rfl
theorem coefR_it (A : Mt) : ∀ (f k : Nat) (d : Mt), coefR A f k d = ((List.range (f + 1)).map fun q => (itD A k d q).1, (itD A k d f).2)
  | 0, k, d => by simp [coefR, itD]
  | f + 1, k, d => by
    unfold coefR
    rw [coefR_it A f (k + 1), List.range_succ_eq_map (n := f + 1), List.map_cons, List.map_map, itD_shift]
    congr 2
    refine List.map_congr_left fun q _ => ?_
    show _ = (itD A k d (q + 1)).1
    rw [itD_shift]
theorem itD_sq {n nn : Nat} {A : Mt} (h1 : 1 ≤ n) (h2 : n ≤ 12) (hnn : n * n = nn) (hA : Sq n nn A) {k : Nat} {d : Mt} (hd : Sq n nn d) : ∀ q, Sq n nn (itD A k d q).1
  | 0 => hd
  | q + 1 => sq_coef h1 h2 hnn hA (itD_sq h1 h2 hnn hA hd q) _
def itL (A d : Mt) (q : Nat) : List Mt := (List.range q).map fun i => (itD A 2 d i).1
theorem itL_succ (A d : Mt) (q : Nat) : itL A d (q + 1) = itL A d q ++ [(itD A 2 d q).1] := by simp [itL, List.range_succ]
theorem itL_len (A d : Mt) (q : Nat) : (itL A d q).length = q := by simp [itL]
/-- Within coefficients, ahead of a round. -/
structure CoI (w0 : World) (P : Nat → Prop) (b : Nat) (c0 : Bool) (A d0 : Mt) (mdl : Array Value) (q : Nat) (v : Value) (W : World) : Prop where
  om : OMs (w0.heap.size + 1) W v (itL A d0 (q + 1))
  up : UR W b (c0 || (itD A 2 d0 q).2)
  ef : Eff P w0 W
  bx : Blk W w0.heap.size mdl 54
theorem CoI.keep {w0 W W' : World} {P : Nat → Prop} {b : Nat} {c0 : Bool} {A d0 : Mt} {mdl : Array Value} {q : Nat} {v : Value} (h : CoI w0 P b c0 A d0 mdl q v W) (k : Below W.heap.size W W') : CoI w0 P b c0 A d0 mdl q v W' :=
  ⟨h.om.keep k, h.up.keep k, h.ef.trans (Eff.of (P := P) k) (fun _ _ h => h), h.bx.keep k⟩
set_option maxHeartbeats 16000000 in
set_option maxRecDepth 100000 in
theorem rcoef_is {w0 : World} {b : Nat} {c0 : Bool} (hU : UR w0 b c0) {v : Value} {M : Mdl} (hM : MW b w0 v M) (hok : okM M) :
    Calls Tryz.prog 92 #[.pointer (some ⟨b, 0, none⟩), v] w0 fun e w' => ∃ v, e = .returned v ∧ OMs w0.heap.size w' v (coefL M).1 ∧ UR w' b (c0 || (coefL M).2) ∧ But b w0 w' := by
  obtain ⟨aA, cA, aQ, cQ, aR, cR, rfl, hmA, hmQ⟩ := hM.ex
  obtain ⟨n, nn, hn, hn1, hn6, hnn, hla, hlq, hA, hD, _, _⟩ := hok.nat
  have hcl : coefL M = (itL (movesM M) (diagM M.Q) (2 * n - 2 + 1), (itD (movesM M) 2 (diagM M.Q) (2 * n - 2)).2) := by
    unfold coefL
    rw [hn, Int.toNat_natCast, coefR_it]
    rfl
  rw [hcl, hn, hla, hlq]
  have hmA' : ML b w0 aA cA (movesM M).v := hmA
  have hDG := fun (w : World) (hB : Below w0.heap.size w0 w) => diagR_is (hmQ.mi.keep hB) hlq hn1 (by omega)
  rw [hnn] at hDG
  have hbl := hU.lt
  have hn12 : n ≤ 12 := by omega
  clear hcl hM hok hmA hmQ hn hla hlq
  generalize movesM M = A at *
  generalize diagM M.Q = d0 at *
  generalize M.tick = tick at *
  generalize M.gate = gate at *
  generalize M.rmin = rmin at *
  generalize M.rows.length = lr at *
  obtain ⟨P, hPb, hbP, hPl, hPe⟩ : ∃ P : Nat → Prop, (∀ W W', Eff P W W' → But b W W') ∧ (∀ W W', But b W W' → Eff P W W') ∧ (∀ k, P k → k < w0.heap.size) ∧ (∀ k, P k → k = b) := ⟨fun k => k = b, fun _ _ h => eff_but h, fun _ _ h => but_eff h, fun k h => by omega, fun k h => h⟩
  have HSQ := Lib.hid (itD_sq hn1 hn12 hnn hA (k := 2) hD)
  have HA := Lib.hid hA
  have HD := Lib.hid hD
  have HL := Lib.hid hmA'
  have HNN := Lib.hid hnn
  have hnn1 : 1 ≤ nn := by rw [← hnn]; exact Nat.mul_pos hn1 hn1
  have hnn2 : nn ≤ 144 := by rw [← hnn]; exact Nat.mul_le_mul hn12 hn12
  clear hA hD hmA' hnn
  have hB := upA (upR w0) (Obj.cells #[.int .i64 n, .slice aA nn cA, .slice aQ n cQ, .int .i64 tick, .int .i64 gate, .int .i64 rmin, .slice aR lr cR] 54)
  have g0 := Blk.new w0 #[.int .i64 n, .slice aA nn cA, .slice aQ n cQ, .int .i64 tick, .int .i64 gate, .int .i64 rmin, .slice aR lr cR] 54
  have d0c := g0.cell
  have hdx := hDG _ hB
  clear hDG
  have e2n : 2 * (n : Int) = ((2 * n : Nat) : Int) := by omega
  have f2n : IntKind.i64.wrap (2 * (n : Int)) = ((2 * n : Nat) : Int) := (IntWalk.i64_in _ (by omega)).trans (by omega)
  have f2m : IntKind.i64.wrap (((2 * n : Nat) : Int) - 1) = ((2 * n - 1 : Nat) : Int) := (IntWalk.i64_in _ (by omega)).trans (by omega)
  obtain ⟨m2, hm2⟩ : ∃ m2, 2 * n - 2 = m2 := ⟨_, rfl⟩
  obtain ⟨n2, hn2⟩ : ∃ n2, 2 * n = n2 := ⟨_, rfl⟩
  have hn21 : n2 = m2 + 2 := by omega
  have hm20 : m2 ≤ 10 := by omega
  obtain ⟨n3, hn3⟩ : ∃ n3, n2 - 1 = n3 := ⟨_, rfl⟩
  have hn31 : m2 + 1 ≤ n3 := by omega
  have hn32 : n3 ≤ m2 + 1 := by omega
  rw [hn2] at f2n f2m
  rw [hn3] at f2m
  rw [hm2]
  clear e2n hn21 hm2 hn2 hn3
  go_enter Tryz.func92, Tryz.ntmps92
  go_wp2_with fail
  refine hdx.mono ?_
  rintro e w1 ⟨g, k', rfl, hO, hK⟩
  have hO1 : OI (w0.heap.size + 1) w1 g k' d0.v := hO.mono (by rw [World.size_alloc]; exact Nat.le_refl _)
  replace hB := more hB hK
  replace g0 := g0.keep hK
  clear hdx hO hK d0c
  have gm := Blk.new w1 #[.int .i64 0, .int .i64 0, .slice none 0 0] 24
  have hK1 : Below w1.heap.size w1 (w1.alloc (.cells #[.int .i64 0, .int .i64 0, .slice none 0 0] 24)) := upA (upR w1) _
  go_wp2_with ((with_reducible refine at_st (p := 5) (q := 20) rfl ?_); refine ev_store rfl 24 _ _ rfl rfl gm 0 rfl rfl [.int .i64 n, .int .i64 n, .slice (some ⟨g, 0, none⟩) nn k'] rfl (by kernel_rfl) rfl rfl #[.int .i64 n, .int .i64 n, .slice (some ⟨g, 0, none⟩) nn k'] rfl ?_; intro w3 g6 ef hz6; have d6 := g6.cell)
  have hlt0 := g0.lt
  have hB3 : Below w0.heap.size w0 w3 := ef.below (more hB hK1) (fun k hk => by omega)
  have g3 := ef.blk (g0.keep hK1) (by omega)
  have hL3 : LI (w0.heap.size + 1) w3 (some ⟨g, 0, none⟩) k' d0.v := (hO1.li.keep hK1).eff ef (fun k hk ht => by subst hk; exact absurd (ht.inj gm.ty) (by decide))
  have hK4 : Below w3.heap.size w3 (w3.alloc (.cells #[.int .i64 n, .int .i64 n, .slice (some ⟨g, 0, none⟩) nn k'] 24)) := upA (upR w3) _
  have g4 := Blk.new w3 #[.int .i64 n, .int .i64 n, .slice (some ⟨g, 0, none⟩) nn k'] 24
  have hB4 := more hB3 hK4
  have HTQ := Lib.hid (show I64 (n : Int) from ⟨by omega, by omega⟩)
  have hT : CoI w0 P b c0 A d0 #[.int .i64 n, .slice aA nn cA, .slice aQ n cQ, .int .i64 tick, .int .i64 gate, .int .i64 rmin, .slice aR lr cR] 0 (.slice (some ⟨w3.heap.size, 0, none⟩) 1 1) (w3.alloc (.cells #[.int .i64 n, .int .i64 n, .slice (some ⟨g, 0, none⟩) nn k'] 24)) := by
    refine ⟨?_, ?_, Eff.of hB4, g3.keep hK4⟩
    · have : itL A d0 (0 + 1) = [d0] := by simp [itL, itD]
      rw [this]
      exact om_one HD.out.l (by rw [HD.out.r, HD.out.c]; exact g4) g3.lt (hL3.keep hK4) (by rw [HD.out.r]; exact HTQ.out) (by rw [HD.out.c]; exact HTQ.out)
    · have : (c0 || (itD A 2 d0 0).2) = c0 := by simp [itD]
      rw [this]
      exact hU.below hB4 hbl
  have e3 : w3.heap.size = w1.heap.size + 1 := by rw [hz6]; simp
  rw [e3] at hT
  clear e3 hB g0 hO1 gm hK1 d6 ef hz6 hB3 g3 hL3 hK4 g4 hB4 hU hlt0
  generalize w3.alloc (.cells #[.int .i64 n, .int .i64 n, .slice (some ⟨g, 0, none⟩) nn k'] 24) = w4 at *
  generalize w1.heap.size + 1 = g3 at *
  go_loopw [7, 8] (fun v i wr => ∃ q : Nat, q ≤ m2 ∧ i = .int .i64 ((q : Int) + 2) ∧ CoI w0 P b c0 A d0 #[.int .i64 n, .slice aA nn cA, .slice aQ n cQ, .int .i64 tick, .int .i64 gate, .int .i64 rmin, .slice aR lr cR] q v wr) (fun _ i _ => m2 + 2 - (intOf i).toNat)
  case atStart => exact ⟨0, Nat.zero_le _, rfl, hT⟩
  case round =>
    rename World => W3
    clear hT
    obtain ⟨q, hq, rfl, hT⟩ := hrel
    have hbx0 := hT.bx.cell
    by_cases hql : q < m2
    · have hql' : (q : Int) + 2 ≤ (n3 : Int) := by omega
      obtain ⟨y, kk, rfl, hkk, hmls⟩ := hT.om.mlsR hT.up (by rw [itL_len]; omega)
      obtain ⟨a1, k1, ⟨hc0, hc1', hc2'⟩, hml⟩ := hmls.at_ q (by rw [itL_len]; omega)
      have hgq : (itL A d0 (q + 1))[q]'(by rw [itL_len]; omega) = (itD A 2 d0 q).1 := by simp [itL]
      rw [hgq] at hc0 hc1' hc2' hml
      rw [itL_len] at hkk ⊢
      have hsd := HSQ.out q
      rw [hsd.r] at hc0
      rw [hsd.c] at hc1'
      rw [hsd.l] at hc2'
      have hyb : (y.add (q * 3)).block ≠ b := by rw [add_block]; exact hmls.ne
      have hsx := sq_mul hn1 hn12 HNN.out HA.out hsd
      have HSX := Lib.hid hsx
      have HST := Lib.hid (sq_turn hn1 hn12 HNN.out hsx)
      have HSS := Lib.hid (sq_sum hn1 hn12 HNN.out hsx (turnM (mulM A (itD A 2 d0 q).1).1))
      have hMul : ∀ W, Eff P W3 W → UR W b (c0 || (itD A 2 d0 q).2) → Calls Tryz.prog 53 #[.pointer (some ⟨b, 0, none⟩), .agg #[.int .i64 n, .int .i64 n, .slice aA nn cA], .agg #[.int .i64 n, .int .i64 n, .slice a1 nn k1]] W fun e w' => ∃ av kv, e = .returned (.tuple #[.agg #[.int .i64 n, .int .i64 n, .slice av nn kv], .int .i64 0]) ∧ LI W3.heap.size w' av kv (mulM A (itD A 2 d0 q).1).1.v ∧ UR w' b (c0 || (itD A 2 d0 q).2 || (mulM A (itD A 2 d0 q).1).2) ∧ Eff P W w' := fun W hE hu => by
        have hB1 := hPb _ _ hE
        have := mulR_is hu (HL.out.but (hPb _ _ (hT.ef.trans hE (fun _ _ h => h)))) (hml.but hB1) HA.out.ok hsd.ok (HA.out.c.trans hsd.r.symm)
        rw [HA.out.r, HA.out.c, HA.out.l, hsd.r, hsd.c, hsd.l] at this
        refine this.mono fun e w' h => ?_
        obtain ⟨v, he, hmo, hu', hb'⟩ := h
        obtain ⟨av, kv, rfl, hli⟩ := hmo.litq HSX.out
        exact ⟨av, kv, he, hli.mono hE.size, hu', hbP _ _ hb'⟩
      have hcells : ∀ W, Eff P W3 W → W.cell? (y.add (q * 3)) = some (.int .i64 n) ∧ W.cell? ⟨(y.add (q * 3)).block, (y.add (q * 3)).off + 1, none⟩ = some (.int .i64 n) ∧ W.cell? ⟨(y.add (q * 3)).block, (y.add (q * 3)).off + 2, none⟩ = some (.slice a1 nn k1) := fun W hE =>
        ⟨cell_but0 hc0 hyb (hPb _ _ hE), cell_but0 hc1' hyb (hPb _ _ hE), cell_but0 hc2' hyb (hPb _ _ hE)⟩
      have hws : w0.heap.size + 1 ≤ W3.heap.size := hT.bx.lt
      have HUW := Lib.hid hT.up
      have hPl3 : ∀ k, P k → k < W3.heap.size := fun k h => by have := hPl k h; omega
      have hbx : ∀ W, Eff P W3 W → Blk W w0.heap.size #[.int .i64 n, .slice aA nn cA, .slice aQ n cQ, .int .i64 tick, .int .i64 gate, .int .i64 rmin, .slice aR lr cR] 54 := fun W hE => hE.blk hT.bx (fun hp => by have := hPl _ hp; omega)
      have hbl3 : b < W3.heap.size := by omega
      have hD0 : UR W3.drew b (c0 || (itD A 2 d0 q).2) ∧ Eff P W3 W3.drew := ⟨hT.up.drew, Eff.of (upD (upR _))⟩
      have hom0 := hT.om
      rw [itL_len] at hom0
      have HOM := Lib.hid hom0
      have HEF := Lib.hid hT.ef
      have HBX := Lib.hid hbx
      have hD00 := hT.om
      clear hom0 hD00 hT hmls hc0 hc1' hc2' hml hgq hsd hsx
      have HNX := Lib.hid (show itD A 2 d0 (q + 1) = ((coefS A (itD A 2 d0 q).1 ((2 + q : Nat) : Int)).1, (itD A 2 d0 q).2 || (coefS A (itD A 2 d0 q).1 ((2 + q : Nat) : Int)).2) from rfl)
      have HT1 := Lib.hid (HSQ.out (q + 1))
      have eq2 : ((2 + q : Nat) : Int) = (q : Int) + 2 := by omega
      rw [eq2] at HNX
      clear eq2
      have HNX2 := Lib.hid (show (itD A 2 d0 (q + 1)).1.v = (sumM (mulM A (itD A 2 d0 q).1).1 (turnM (mulM A (itD A 2 d0 q).1).1)).1.v.map (dvw (wholeF ((q : Int) + 2)).1) ∧ (c0 || (itD A 2 d0 (q + 1)).2) = (c0 || (itD A 2 d0 q).2 || (mulM A (itD A 2 d0 q).1).2 || (sumM (mulM A (itD A 2 d0 q).1).1 (turnM (mulM A (itD A 2 d0 q).1).1)).2 || (sumM (mulM A (itD A 2 d0 q).1).1 (turnM (mulM A (itD A 2 d0 q).1).1)).1.v.any (flw (wholeF ((q : Int) + 2)))) by
        rw [HNX.out]
        refine ⟨rfl, ?_⟩
        show (c0 || ((itD A 2 d0 q).2 || ((mulM A (itD A 2 d0 q).1).2 || (sumM (mulM A (itD A 2 d0 q).1).1 (turnM (mulM A (itD A 2 d0 q).1).1)).2 || (sumM (mulM A (itD A 2 d0 q).1).1 (turnM (mulM A (itD A 2 d0 q).1).1)).1.v.any (flw (wholeF ((q : Int) + 2)))))) = _
        simp only [Bool.or_assoc])
      obtain ⟨wp, hwp⟩ : ∃ wp, wholeF ((q : Int) + 2) = wp := ⟨_, rfl⟩
      rw [hwp] at HNX2
      have HWP := Lib.hid hwp
      have hw64 : I64 wp.1 := hwp ▸ (wholeF_fx _).i64
      clear hwp HNX
      have HCX := Lib.hid (show ∀ (W : World) (cc : Bool) (a9 : Option Addr) (k9 : Nat) (a8 : Option Addr) (k8 : Nat), UR W b cc → LI W3.heap.size W a9 k9 (mulM A (itD A 2 d0 q).1).1.v → LI W3.heap.size W a8 k8 (turnM (mulM A (itD A 2 d0 q).1).1).v → Calls Tryz.prog 63 #[.pointer (some ⟨b, 0, none⟩), .agg #[.int .i64 n, .int .i64 n, .slice a9 nn k9], .agg #[.int .i64 n, .int .i64 n, .slice a8 nn k8]] W fun e w' => ∃ av kv, e = .returned (.tuple #[.agg #[.int .i64 n, .int .i64 n, .slice av nn kv], .int .i64 0]) ∧ LI W.heap.size w' av kv (sumM (mulM A (itD A 2 d0 q).1).1 (turnM (mulM A (itD A 2 d0 q).1).1)).1.v ∧ UR w' b (cc || (sumM (mulM A (itD A 2 d0 q).1).1 (turnM (mulM A (itD A 2 d0 q).1).1)).2) ∧ Eff P W w' from fun W cc a9 k9 a8 k8 hu h9 h8 => by
        have := sumR_is hu (h9.mlR hu) (h8.mlR hu) HSX.out.ok HST.out.ok (HSX.out.r.trans HST.out.r.symm) (HSX.out.c.trans HST.out.c.symm)
        rw [HSX.out.r, HSX.out.c, HSX.out.l, HST.out.r, HST.out.c, HST.out.l] at this
        refine this.mono fun e w' h => ?_
        obtain ⟨v, he, hmo, hu', hb'⟩ := h
        obtain ⟨av, kv, rfl, hli⟩ := hmo.litq HSS.out
        exact ⟨av, kv, he, hli, hu', hbP _ _ hb'⟩)
      have HTN := Lib.hid (show ∀ (W : World) (a9 : Option Addr) (k9 : Nat), LI W3.heap.size W a9 k9 (mulM A (itD A 2 d0 q).1).1.v → Calls Tryz.prog 125 #[.agg #[.int .i64 n, .int .i64 n, .slice a9 nn k9]] W fun e w' => ∃ av kv, e = .returned (.tuple #[.agg #[.int .i64 n, .int .i64 n, .slice av nn kv], .int .i64 0]) ∧ LI W.heap.size w' av kv (turnM (mulM A (itD A 2 d0 q).1).1).v ∧ Below W.heap.size W w' from fun W a9 k9 h9 => by
        have := turnR_is (m := (mulM A (itD A 2 d0 q).1).1) (h9.mi.mono (Nat.zero_le _)) HSX.out.ok
        rw [HSX.out.r, HSX.out.c, HSX.out.l] at this
        refine this.mono fun e w' h => ?_
        obtain ⟨v, he, hmo, hb'⟩ := h
        obtain ⟨av, kv, rfl, hli⟩ := hmo.litq HST.out
        exact ⟨av, kv, he, hli, hb'⟩)
      have HSL := Lib.hid HSS.out.l
      have hvl64 := HSS.out
      clear hvl64
      generalize (c0 || (itD A 2 d0 q).2) = cq at *
      generalize (mulM A (itD A 2 d0 q).1).2 = mf at *
      generalize (mulM A (itD A 2 d0 q).1).1 = mx at *
      generalize (sumM mx (turnM mx)).2 = sf at *
      generalize (sumM mx (turnM mx)).1.v = vs at *
      generalize (turnM mx).v = tv at *
      obtain ⟨mxv, hmxv⟩ : ∃ mxv, mx.v = mxv := ⟨_, rfl⟩
      rw [hmxv] at hMul HCX HTN
      clear hmxv
      have fq1 : IntKind.i64.wrap ((q : Int) + 2 - 2) = (q : Int) := by rw [Int.add_sub_cancel]; exact IntWalk.i64_in _ (by omega)
      have fq2 : IntKind.i64.wrap (q : Int) = (q : Int) := IntWalk.i64_in _ (by omega)
      have fq3 : (q : Int) < ((q + 1 : Nat) : Int) := by omega
      have fq4 : (q : Int) < (q : Int) + 1 := by omega
      have fq5 : (0 : Int) ≤ (q : Int) := by omega
      go_wp2_with fail
      refine region_fp [some 33, some 34, some 35, some 36, some 37, some 38, some 39, some 40, some 41, some 32, some 42, some 43, some 9, none, some 10] [8, 10, 12, 13] [some (Value.pointer (some ⟨b, 0, none⟩)), some (Value.agg #[.int .i64 n, .slice aA nn cA, .slice aQ n cQ, .int .i64 tick, .int .i64 gate, .int .i64 rmin, .slice aR lr cR]), some (Value.agg #[.int .i64 n, .int .i64 n, .slice aA nn cA]), some (Value.slice (some y) (q + 1) kk), some (Value.int .i64 ((q : Int) + 2)), some (Value.int .i64 (q : Int)), some (Value.pointer (some (y.add (q * 3)))), some (Value.agg #[.int .i64 n, .int .i64 n, .slice a1 nn k1]), none, none, none, some (Value.int .i64 0), none, none, some (Value.int .i64 0)]
        (fun i v W => match i with | 8 => ∃ av kv, v = Value.tuple #[Value.agg #[.int .i64 n, .int .i64 n, .slice av nn kv], Value.int .i64 0] ∧ LI W3.heap.size W av kv mxv | 9 => ∃ av kv, v = Value.tuple #[Value.agg #[.int .i64 n, .int .i64 n, .slice av nn kv], Value.int .i64 0] ∧ LI W3.heap.size W av kv mxv | 10 => ∃ av kv, v = Value.agg #[.int .i64 n, .int .i64 n, .slice av nn kv] ∧ LI W3.heap.size W av kv mxv | 12 => ∃ e, v = Value.pointer (some ⟨e, 0, none⟩) | _ => True) (fun W W' => ∀ k, W3.heap.size ≤ k → Ty W k 3 → W'.heap[k]? = W.heap[k]?) (fun L f W => (L 8 = false → UR W b cq) ∧ (L 8 = true → UR W b (cq || mf)) ∧ Eff P W3 W ∧ (∀ e, f 12 = Value.pointer (some ⟨e, 0, none⟩) → L 12 = true → W3.heap.size ≤ e ∧ (L 13 = false → Blk W e #[.int .i64 0, .int .i64 0, .slice none 0 0] 24) ∧ (L 13 = true → Blk W e (f 10).cells 24)))
        (by kernel_rfl) (by kernel_rfl) (by kernel_rfl) (by kernel_rfl) (by kernel_rfl) (fun _ _ _ _ => rfl) (fun i v W W' h hb => by
          match i, h with
          | 8, ⟨av, kv, h1, h2⟩ => exact ⟨av, kv, h1, h2.same fun x hx hn => hb _ (h2.mi.lo x hx hn) (h2.wj.ty x hx hn)⟩
          | 9, ⟨av, kv, h1, h2⟩ => exact ⟨av, kv, h1, h2.same fun x hx hn => hb _ (h2.mi.lo x hx hn) (h2.wj.ty x hx hn)⟩
          | 10, ⟨av, kv, h1, h2⟩ => exact ⟨av, kv, h1, h2.same fun x hx hn => hb _ (h2.mi.lo x hx hn) (h2.wj.ty x hx hn)⟩
          | 12, h => exact h
          | 0, _ | 1, _ | 2, _ | 3, _ | 4, _ | 5, _ | 6, _ | 7, _ | 11, _ | 13, _ | 14, _ => trivial
          | (n + 15), _ => trivial) (fun L L' f f' W h hs => by have q1 := (h 8 (by decide)).1; have q2 := (h 10 (by decide)); have q3 := (h 12 (by decide)); have q4 := (h 13 (by decide)).1; (try dsimp only at hs ⊢); rw [← q1, ← q2.2, ← q3.1, ← q3.2, ← q4]; exact hs) ⟨fun _ => hD0.1, fun h => (Bool.false_ne_true h).elim, hD0.2, fun e _ h => (Bool.false_ne_true h).elim⟩ ?_ ?_
      · intro i hi b' L f W hSW hL hdep hsh he hsv hsl hFF K hK1 hK2
        replace hi : i < 15 := hi
        have hcs : i = 0 ∨ i = 1 ∨ i = 2 ∨ i = 3 ∨ i = 4 ∨ i = 5 ∨ i = 6 ∨ i = 7 ∨ i = 8 ∨ i = 9 ∨ i = 10 ∨ i = 11 ∨ i = 12 ∨ i = 13 ∨ i = 14 := by omega
        clear hi
        rcases hcs with rfl | rfl | rfl | rfl | rfl | rfl | rfl | rfl | rfl | rfl | rfl | rfl | rfl | rfl | rfl
        · refine wpOpS_go rfl rfl ?_
          have t0 : b'.tmps[0]?.getD undef = Value.pointer (some ⟨b, 0, none⟩) := he 0 (by kernel_rfl)
          have HK := Lib.hid hK1
          clear hK1 hK2 hdep hsh he hsv hsl hFF hL
          clear hSW
          go_simp
          exact HK.out rfl _ (fp_mk rfl rfl trivial)
        · refine wpOpS_go rfl rfl ?_
          have t3 : b'.tmps[3]?.getD undef = Value.pointer (some ⟨w0.heap.size, 0, none⟩) := he 3 (by kernel_rfl)
          obtain ⟨s0, s1, s2, s3⟩ := hSW
          have c0 := (hbx W s2).cell
          have HK := Lib.hid hK1
          clear hK1 hK2 hdep hsh he hsv hsl hFF hL
          clear s0 s1 s2 s3
          go_simp
          exact HK.out rfl _ (fp_mk rfl rfl trivial)
        · refine wpOpS_go rfl rfl ?_
          have t34 : b'.tmps[34]?.getD undef = Value.agg #[.int .i64 n, .slice aA nn cA, .slice aQ n cQ, .int .i64 tick, .int .i64 gate, .int .i64 rmin, .slice aR lr cR] := hsv 1 34 _ (by kernel_rfl) (by kernel_rfl) rfl
          obtain ⟨s0, s1, s2, s3⟩ := hSW
          have hA := movesR_is n tick gate rmin aA cA aQ cQ aR cR nn n lr W
          have HK := Lib.hid hK2
          clear hK1 hK2 hdep hsh he hsv hsl hFF hL
          go_simp
          refine hA.mono ?_
          rintro e w6 ⟨rfl, hB⟩
          exact HK.out _ _ (fp_mk rfl rfl trivial) (fun k hk ht => hB.block k ht.lt) ⟨fun h => (s0 h).keep hB, fun h => (s1 h).keep hB, s2.trans (Eff.of (P := P) hB) (fun _ _ h => h), fun e h1 h2 => ⟨(s3 e h1 h2).1, fun h => ((s3 e h1 h2).2.1 h).keep hB, fun h => ((s3 e h1 h2).2.2 h).keep hB⟩⟩
        · refine wpOpS_go rfl rfl ?_
          have t7 : b'.tmps[7]?.getD undef = Value.slice (some y) (q + 1) kk := he 7 (by kernel_rfl)
          have HK := Lib.hid hK1
          clear hK1 hK2 hdep hsh he hsv hsl hFF hL
          clear hSW
          go_simp
          exact HK.out rfl _ (fp_mk rfl rfl trivial)
        · refine wpOpS_go rfl rfl ?_
          have t8 : b'.tmps[8]?.getD undef = Value.int .i64 ((q : Int) + 2) := he 8 (by kernel_rfl)
          have HK := Lib.hid hK1
          clear hK1 hK2 hdep hsh he hsv hsl hFF hL
          clear hSW
          go_simp
          exact HK.out rfl _ (fp_mk rfl rfl trivial)
        · refine wpOpS_go rfl rfl ?_
          have t37 : b'.tmps[37]?.getD undef = Value.int .i64 ((q : Int) + 2) := hsv 4 37 _ (by kernel_rfl) (by kernel_rfl) rfl
          have HK := Lib.hid hK1
          clear hK1 hK2 hdep hsh he hsv hsl hFF hL
          clear hSW
          go_simp
          exact HK.out rfl _ (fp_mk rfl rfl trivial)
        · refine wpOpS_go rfl rfl ?_
          have t36 : b'.tmps[36]?.getD undef = Value.slice (some y) (q + 1) kk := hsv 3 36 _ (by kernel_rfl) (by kernel_rfl) rfl
          have t38 : b'.tmps[38]?.getD undef = Value.int .i64 (q : Int) := hsv 5 38 _ (by kernel_rfl) (by kernel_rfl) rfl
          have HK := Lib.hid hK1
          clear hK1 hK2 hdep hsh he hsv hsl hFF hL
          clear hSW
          go_simp
          exact HK.out rfl _ (fp_mk rfl rfl trivial)
        · refine wpOpS_go rfl rfl ?_
          have t39 : b'.tmps[39]?.getD undef = Value.pointer (some (y.add (q * 3))) := hsv 6 39 _ (by kernel_rfl) (by kernel_rfl) rfl
          obtain ⟨s0, s1, s2, s3⟩ := hSW
          obtain ⟨b0, b1, b2⟩ := hcells W s2
          have HK := Lib.hid hK1
          clear hK1 hK2 hdep hsh he hsv hsl hFF hL
          clear s0 s1 s2 s3
          go_simp
          exact HK.out rfl _ (fp_mk rfl rfl trivial)
        · refine wpOpS_go rfl rfl ?_
          have t33 : b'.tmps[33]?.getD undef = Value.pointer (some ⟨b, 0, none⟩) := hsv 0 33 _ (by kernel_rfl) (by kernel_rfl) rfl
          have t35 : b'.tmps[35]?.getD undef = Value.agg #[.int .i64 n, .int .i64 n, .slice aA nn cA] := hsv 2 35 _ (by kernel_rfl) (by kernel_rfl) rfl
          have t40 : b'.tmps[40]?.getD undef = Value.agg #[.int .i64 n, .int .i64 n, .slice a1 nn k1] := hsv 7 40 _ (by kernel_rfl) (by kernel_rfl) rfl
          obtain ⟨s0, s1, s2, s3⟩ := hSW
          have hu := s0 hL
          have HK := Lib.hid hK2
          have hA := hMul W s2 hu
          have hal := hsh 13 (by kernel_rfl)
          clear hK1 hK2 hdep hsh he hsv hsl hFF hL
          go_simp
          refine hA.mono ?_
          rintro e w6 ⟨av, kv, rfl, hli, hU6, hE6⟩
          exact HK.out _ _ (fp_x rfl ⟨av, kv, rfl, hli⟩) (fun k hk ht => hE6.block k ht.lt (fun hp => by have := hPl3 _ hp; omega)) ⟨fun h => absurd h (by rw [updF_same]; decide), fun _ => hU6, s2.trans hE6 (fun _ _ h => h), fun e h1 h2 => ⟨(s3 e h1 h2).1, fun h => hE6.blk ((s3 e h1 h2).2.1 h) (fun hp => by have := hPl3 _ hp; have := (s3 e h1 h2).1; omega), fun h => absurd h (by show ¬ L 13 = true; rw [hal]; decide)⟩⟩
        · refine wpOpS_go rfl rfl ?_
          obtain ⟨t41, hx⟩ := hsl 8 41 (by kernel_rfl) (by kernel_rfl)
          obtain ⟨av, kv, e1, hli⟩ := hx
          rw [e1] at t41
          have HK := Lib.hid hK1
          clear hK1 hK2 hdep hsh he hsv hsl hFF hL hSW e1
          go_simp
          exact HK.out rfl _ (fp_x rfl ⟨av, kv, rfl, hli⟩)
        · refine wpOpS_go rfl rfl ?_
          obtain ⟨t32, hx⟩ := hsl 9 32 (by kernel_rfl) (by kernel_rfl)
          obtain ⟨av, kv, e1, hli⟩ := hx
          rw [e1] at t32
          obtain ⟨s0, s1, s2, s3⟩ := hSW
          have HK := Lib.hid hK2
          have hst := hsh 13 (by kernel_rfl)
          clear hK1 hK2 hdep hsh he hsv hsl hFF hL e1
          go_simp
          exact HK.out _ _ (fp_x rfl ⟨av, kv, rfl, hli⟩) (fun _ _ _ => rfl) ⟨s0, s1, s2, fun e h1 h2 => ⟨(s3 e h1 h2).1, (s3 e h1 h2).2.1, fun h => absurd h (by show ¬ L 13 = true; rw [hst]; decide)⟩⟩
        · refine wpOpS_go rfl rfl ?_
          obtain ⟨t32, hx⟩ := hsl 9 32 (by kernel_rfl) (by kernel_rfl)
          obtain ⟨av, kv, e1, hli⟩ := hx
          rw [e1] at t32
          have HK := Lib.hid hK1
          clear hK1 hK2 hdep hsh he hsv hsl hFF hL hSW e1
          go_simp
          exact HK.out rfl _ (fp_mk rfl rfl trivial)
        · refine wpOpS_go rfl rfl ?_
          obtain ⟨s0, s1, s2, s3⟩ := hSW
          have HK := Lib.hid hK2
          have hst := hsh 13 (by kernel_rfl)
          have hws := s2.size
          clear hK1 hK2 hdep hsh he hsv hsl hFF hL
          refine op_new (cs := #[.int .i64 0, .int .i64 0, .slice none 0 0]) (t := 24) (by go_simp) ?_
          intro w6 hb hB hz
          exact HK.out _ _ (fp_x rfl ⟨_, rfl⟩) (fun k hk ht => hB.block k ht.lt) ⟨fun h => (s0 h).keep hB, fun h => (s1 h).keep hB, s2.trans (Eff.of (P := P) hB) (fun _ _ h => h), fun e h1 _ => by
            rw [updF_same] at h1
            cases h1
            exact ⟨hws, fun _ => hb, fun h => absurd h (by show ¬ L 13 = true; rw [hst]; decide)⟩⟩
        · refine wpOpS_go rfl rfl ?_
          obtain ⟨t9, hxa⟩ := hsl 12 9 (by kernel_rfl) (by kernel_rfl)
          obtain ⟨t42, hxx⟩ := hsl 10 42 (by kernel_rfl) (by kernel_rfl)
          obtain ⟨e1, e2⟩ := hxa
          obtain ⟨av, kv, e3, hli⟩ := hxx
          rw [e2] at t9
          rw [e3] at t42
          obtain ⟨s0, s1, s2, s3⟩ := hSW
          have HK := Lib.hid hK2
          have lal := hdep 12 (by kernel_rfl)
          obtain ⟨z1, z2, z3⟩ := s3 e1 e2 lal
          have hmb := z2 hL
          clear hK1 hK2 hdep hsh he hsv hsl hFF z2 z3
          refine op_store 24 _ _ rfl rfl hmb 0 (eval_tmp t9) (eval_tmp t42) ([.int .i64 n, .int .i64 n, .slice av nn kv] : List Value) (by rfl) (by kernel_rfl) (by rfl) (by rfl) #[.int .i64 n, .int .i64 n, .slice av nn kv] rfl ?_
          intro w6 g6 ef hz
          have hub : ∀ {c}, UR W b c → UR w6 b c := fun h => by
            obtain ⟨mm, hm⟩ := h
            exact ⟨mm, ef.blk hm (by omega)⟩
          exact HK.out undef _ (fp_x (v := undef) rfl trivial) (fun k hk ht => ef.block k ht.lt (fun e => by subst e; exact absurd (ht.inj hmb.ty) (by decide))) ⟨fun h => hub (s0 h), fun h => hub (s1 h), s2.trans ef (fun k hk e => by omega), fun e h1 _ => by
            rw [updF_ne _ _ (by decide), e2] at h1
            cases h1
            exact ⟨z1, fun h => absurd h (by rw [updF_same]; decide), fun _ => by rw [updF_ne _ _ (by decide), e3]; exact g6⟩⟩
        · refine wpOpS_go rfl rfl ?_
          have t43 : b'.tmps[43]?.getD undef = Value.int .i64 0 := hsv 11 43 _ (by kernel_rfl) (by kernel_rfl) rfl
          have HK := Lib.hid hK1
          clear hK1 hK2 hdep hsh he hsv hsl hFF hL hSW
          go_simp
          exact HK.out rfl _ (fp_mk rfl rfl trivial)
      · intro f W hf L hL hS
        obtain ⟨s0, s1, s2, s3⟩ := (hS : _ ∧ _ ∧ _ ∧ _)
        replace s1 := s1 (hL 8 (by decide))
        obtain ⟨av1, kv1, e8, _⟩ := (hf 8 (by decide)).2
        obtain ⟨av2, kv2, e9, _⟩ := (hf 9 (by decide)).2
        obtain ⟨av, kv, e10, hli⟩ := (hf 10 (by decide)).2
        obtain ⟨nb, e12⟩ := (hf 12 (by decide)).2
        obtain ⟨hnb, _, z3⟩ := s3 nb e12 (hL 12 (by decide))
        replace z3 := z3 (hL 13 (by decide))
        rw [e10] at z3
        have e0 : f 0 = Value.pointer (some ⟨b, 0, none⟩) := (hf 0 (by decide)).1 _ rfl
        have e1 : f 1 = Value.agg #[.int .i64 n, .slice aA nn cA, .slice aQ n cQ, .int .i64 tick, .int .i64 gate, .int .i64 rmin, .slice aR lr cR] := (hf 1 (by decide)).1 _ rfl
        have e2 : f 2 = Value.agg #[.int .i64 n, .int .i64 n, .slice aA nn cA] := (hf 2 (by decide)).1 _ rfl
        have e3 : f 3 = Value.slice (some y) (q + 1) kk := (hf 3 (by decide)).1 _ rfl
        have e4 : f 4 = Value.int .i64 ((q : Int) + 2) := (hf 4 (by decide)).1 _ rfl
        have e5 : f 5 = Value.int .i64 (q : Int) := (hf 5 (by decide)).1 _ rfl
        have e6 : f 6 = Value.pointer (some (y.add (q * 3))) := (hf 6 (by decide)).1 _ rfl
        have e7 : f 7 = Value.agg #[.int .i64 n, .int .i64 n, .slice a1 nn k1] := (hf 7 (by decide)).1 _ rfl
        have e11 : f 11 = Value.int .i64 0 := (hf 11 (by decide)).1 _ rfl
        have e14 : f 14 = Value.int .i64 0 := (hf 14 (by decide)).1 _ rfl
        replace z3 : Blk W nb #[.int .i64 n, .int .i64 n, .slice av nn kv] 24 := z3
        clear hf hL s0 s3
        simp only [puts2, Act.put, e0, e1, e2, e3, e4, e5, e6, e7, e8, e9, e10, e11, e12, e14]
        try simp only [List.setIfInBounds_toArray, List.set_cons_zero, List.set_cons_succ]
        clear e0 e1 e2 e3 e4 e5 e6 e7 e8 e9 e10 e11 e12 e14
        clear hMul hcells hD0 hbx0
        have c9 := z3.cell
        have htn := HTN.out W av kv hli
        go_wp2_with fail
        refine htn.mono ?_
        rintro e W5 ⟨at5, kt5, rfl, hlt, hKt⟩
        have s15 := s1.keep hKt
        have s25 := s2.trans (Eff.of (P := P) hKt) (fun _ _ h => h)
        have z35 := z3.keep hKt
        have hli5 := hli.keep hKt
        replace hlt := hlt.mono s2.size
        clear s1 s2 z3 hli hKt c9 htn
        have gm := Blk.new W5 #[.int .i64 0, .int .i64 0, .slice none 0 0] 24
        have hK1 : Below W5.heap.size W5 (W5.alloc (.cells #[.int .i64 0, .int .i64 0, .slice none 0 0] 24)) := upA (upR W5) _
        go_wp2_with ((with_reducible refine at_st (p := 11) (q := 47) rfl ?_); refine ev_store rfl 24 _ _ rfl rfl gm 0 rfl rfl [.int .i64 n, .int .i64 n, .slice at5 nn kt5] rfl (by kernel_rfl) rfl rfl #[.int .i64 n, .int .i64 n, .slice at5 nn kt5] rfl ?_; intro W6 g6 ef6 hz6; have hK6 : Below W5.heap.size W5 W6 := ef6.below hK1 (fun k hk => by omega); have c9 := (z35.keep hK6).cell; have c11 := g6.cell)
        have s16 := s15.keep hK6
        have s26 := s25.trans (Eff.of (P := P) hK6) (fun _ _ h => h)
        have hli6 := hli5.keep hK6
        have hlt6 := hlt.keep hK6
        clear s15 s25 z35 hli5 hlt hK1 gm ef6 hz6 hK6
        have hcx := HCX.out W6 _ av kv at5 kt5 s16 hli6 hlt6
        refine hcx.mono ?_
        rintro e W7 ⟨as7, kv, rfl, hls, s17, hE7⟩
        have s27 := s26.trans hE7 (fun _ _ h => h)
        replace hls := hls.mono s26.size
        clear s16 s26 hli6 hlt6 c9 c11 hcx hE7 g6
        have gm := Blk.new W7 #[.int .i64 0, .int .i64 0, .slice none 0 0] 24
        have hK1 : Below W7.heap.size W7 (W7.alloc (.cells #[.int .i64 0, .int .i64 0, .slice none 0 0] 24)) := upA (upR W7) _
        go_wp2_with ((with_reducible refine at_st (p := 13) (q := 54) rfl ?_); refine ev_store rfl 24 _ _ rfl rfl gm 0 rfl rfl [.int .i64 n, .int .i64 n, .slice as7 nn kv] rfl (by kernel_rfl) rfl rfl #[.int .i64 n, .int .i64 n, .slice as7 nn kv] rfl ?_; intro W z3 ef8 hz8)
        have hK8 : Below W7.heap.size W7 W := ef8.below hK1 (fun k hk => by omega)
        have s1 := s17.keep hK8
        have s2 := s27.trans (Eff.of (P := P) hK8) (fun _ _ h => h)
        have hli := hls.keep hK8
        have hnb2 := s27.size
        clear s17 s27 hls hK1 gm ef8 hz8 hK8
        obtain ⟨sb, hsb⟩ : ∃ sb, W7.heap.size = sb := ⟨_, rfl⟩
        rw [hsb] at z3 hnb2 ⊢
        clear hsb
        have HNV := HSL
        have hx4 : ∃ x, as7 = some x := by
          obtain ⟨x, hx, _⟩ := hli.mi.cell 0 (by rw [HNV.out]; exact hnn1)
          exact ⟨x, hx⟩
        obtain ⟨x, rfl⟩ := hx4
        have hD : DvR W3 P b sb (cq || mf || sf) n n x kv wp vs 0 W := ⟨by rw [HNV.out]; exact z3, by simpa using hli, by simpa using s1, s2⟩
        clear s1 s2 z3 hli
        go_wp2_with fail
        go_loopw [15] (fun i wr => ∃ j : Nat, j ≤ nn ∧ i = .int .i64 j ∧ DvR W3 P b sb (cq || mf || sf) n n x kv wp vs j wr) (fun i _ => nn - (intOf i).toNat)
        case atStart => exact ⟨0, Nat.zero_le _, rfl, hD⟩
        case round =>
          clear hD
          obtain ⟨j, hj, rfl, hD⟩ := hrel
          by_cases hlt : j < nn
          · have hlt' : (j : Int) < (nn : Int) := by omega
            have hj0 : (0 : Int) ≤ (j : Int) := by omega
            have hjv : j < vs.length := by rw [HNV.out]; exact hlt
            have HSET := Lib.hid (set_at (d := dvw wp.1) hjv)
            have hzj : ∃ hh : j < ((vs.take j).map (dvw wp.1) ++ vs.drop j).length, ((vs.take j).map (dvw wp.1) ++ vs.drop j)[j] = vs[j] := ⟨by simp; omega, at_at hjv _⟩
            have HANY := Lib.hid (show ((cq || mf || sf) || (vs.take (j + 1)).any (flw wp)) = ((cq || mf || sf) || (vs.take j).any (flw wp) || wp.2 || (divF vs[j] wp.1).2) by
              rw [List.take_succ_eq_append_getElem hjv, List.any_append]
              simp only [List.any_cons, List.any_nil, Bool.or_false]
              rw [show flw wp vs[j] = (wp.2 || (divF vs[j] wp.1).2) from rfl]
              simp only [Bool.or_assoc])
            obtain ⟨s0, s2, s3, s4⟩ := hD
            rw [HNV.out] at s0
            have d0c := s0.cell
            have hz64 : I64 vs[j] := by
              have := s2.mi.rng (vs[j]) (by rw [← hzj.2]; exact List.getElem_mem _)
              exact this
            generalize vs[j] = z at *
            generalize hzs : (vs.take j).map (dvw wp.1) ++ vs.drop j = zs at HSET s2 hzj
            obtain ⟨c2, hc2'⟩ : ∃ c2, ((cq || mf || sf) || (vs.take j).any (flw wp)) = c2 := ⟨_, rfl⟩
            rw [hc2'] at HANY s3
            clear hzs hc2'
            obtain ⟨hjz, hzj⟩ := hzj
            have hzl : 0 < zs.length := Nat.lt_of_le_of_lt (Nat.zero_le _) hjz
            have hZ : ∀ W, LI W3.heap.size W (some x) kv zs → W.cell? (x.add j) = some (.int .i64 z) := fun W h => by
              obtain ⟨y, hy, hcy⟩ := h.mi.cell j hjz
              cases hy
              rw [hcy, hzj]
            have hZf : ∀ W, LI W3.heap.size W (some x) kv zs → W.frozen? (x.add j) = false := fun W h => by
              obtain ⟨y, hy, _, hf, _⟩ := h.wj.wi.at_ j hjz
              cases hy
              exact hf
            have hq64 : I64 ((q : Int) + 2) := ⟨by omega, by omega⟩
            have hWH : ∀ W c, UR W b c → Calls Tryz.prog 55 #[.pointer (some ⟨b, 0, none⟩), .int .i64 ((q : Int) + 2)] W fun e w' => e = .returned (.int .i64 wp.1) ∧ UR w' b (c || wp.2) ∧ Eff P W w' := fun W c h => by
              have := uWholeR_is h _ hq64
              rw [HWP.out] at this
              exact this.mono fun e w' h => ⟨h.1, h.2.1, hbP _ _ h.2.2⟩
            have hDV : ∀ W c, UR W b c → Calls Tryz.prog 54 #[.pointer (some ⟨b, 0, none⟩), .int .i64 z, .int .i64 wp.1] W fun e w' => e = .returned (.int .i64 (dvw wp.1 z)) ∧ UR w' b (c || (divF z wp.1).2) ∧ Eff P W w' := fun W c h => (uDivR_is h z wp.1 hz64 hw64).mono fun e w' h => ⟨h.1, h.2.1, hbP _ _ h.2.2⟩
            have hd64 : I64 (dvw wp.1 z) := dvw_64 _ _
            have n0 : ¬ P sb := fun hp => by have := hPl3 _ hp; omega
            have hD0 : Blk wr.drew sb #[.int .i64 n, .int .i64 n, .slice (some x) nn kv] 24 ∧ LI W3.heap.size wr.drew (some x) kv zs ∧ UR wr.drew b c2 ∧ Eff P W3 wr.drew := ⟨s0.drew, s2.keep (upD (upR _)), s3.drew, s4.trans (Eff.of (P := P) (upD (upR _))) (fun _ _ h => h)⟩
            clear hzj
            go_wp2_with fail
            clear d0c s0 s2 s3 s4
            refine region_fp [some 63, some 64, some 65, some 66, some 67, some 68, some 69, some 70, some 71, some 72, some 73, some 74, some 75, some 76, none] [11, 12, 14] [some (Value.pointer (some ⟨sb, 2, none⟩)), some (Value.slice (some x) nn kv), some (Value.int .i64 (j : Int)), some (Value.pointer (some ⟨b, 0, none⟩)), some (Value.pointer (some ⟨sb, 2, none⟩)), some (Value.slice (some x) nn kv), some (Value.int .i64 (j : Int)), some (Value.pointer (some (x.add j))), some (Value.int .i64 z), some (Value.pointer (some ⟨b, 0, none⟩)), some (Value.int .i64 ((q : Int) + 2)), some (Value.int .i64 wp.1), some (Value.int .i64 (dvw wp.1 z)), some (Value.pointer (some (x.add j))), none]
              (fun _ _ _ => True) (fun _ _ => True) (fun L f W => Blk W sb #[.int .i64 n, .int .i64 n, .slice (some x) nn kv] 24 ∧ (L 14 = false → LI W3.heap.size W (some x) kv zs) ∧ (L 14 = true → LI W3.heap.size W (some x) kv (zs.set j (dvw wp.1 z))) ∧ (L 11 = false → UR W b c2) ∧ (L 11 = true → L 12 = false → UR W b (c2 || wp.2)) ∧ (L 12 = true → UR W b (c2 || wp.2 || (divF z wp.1).2)) ∧ Eff P W3 W)
              (by kernel_rfl) (by kernel_rfl) (by kernel_rfl) (by kernel_rfl) (by kernel_rfl) (fun _ => trivial) (fun _ _ _ _ _ _ => trivial) (fun L L' f f' W h hs => by have q11 := (h 11 (by decide)).1; have q12 := (h 12 (by decide)).1; have q14 := (h 14 (by decide)).1; (try dsimp only at hs ⊢); rw [← q11, ← q12, ← q14]; exact hs) ⟨hD0.1, fun _ => hD0.2.1, fun h => (Bool.false_ne_true h).elim, fun _ => hD0.2.2.1, fun h => (Bool.false_ne_true h).elim, fun h => (Bool.false_ne_true h).elim, hD0.2.2.2⟩ ?_ ?_
            · intro i hi b' L f W hSW hL hdep hsh he hsv hsl hFF K hK1 hK2
              replace hi : i < 15 := hi
              have hcs : i = 0 ∨ i = 1 ∨ i = 2 ∨ i = 3 ∨ i = 4 ∨ i = 5 ∨ i = 6 ∨ i = 7 ∨ i = 8 ∨ i = 9 ∨ i = 10 ∨ i = 11 ∨ i = 12 ∨ i = 13 ∨ i = 14 := by omega
              clear hi
              rcases hcs with rfl | rfl | rfl | rfl | rfl | rfl | rfl | rfl | rfl | rfl | rfl | rfl | rfl | rfl | rfl
              · refine wpOpS_go rfl rfl ?_
                have t13 : b'.tmps[13]?.getD undef = Value.pointer (some ⟨sb, 0, none⟩) := he 13 (by kernel_rfl)
                have HK := Lib.hid hK1
                clear hK1 hK2 hdep hsh he hsv hsl hFF hL hSW
                go_simp
                exact HK.out rfl _ (fp_mk rfl rfl trivial)
              · refine wpOpS_go rfl rfl ?_
                have t63 : b'.tmps[63]?.getD undef = Value.pointer (some ⟨sb, 2, none⟩) := hsv 0 63 _ (by kernel_rfl) (by kernel_rfl) rfl
                obtain ⟨s0, s2, s3, s4, s5, s6, s7⟩ := hSW
                have c0 := s0.cell
                have HK := Lib.hid hK1
                clear hK1 hK2 hdep hsh he hsv hsl hFF hL
                clear s0 s2 s3 s4 s5 s6 s7
                go_simp
                exact HK.out rfl _ (fp_mk rfl rfl trivial)
              · refine wpOpS_go rfl rfl ?_
                have t15 : b'.tmps[15]?.getD undef = Value.int .i64 (j : Int) := he 15 (by kernel_rfl)
                have HK := Lib.hid hK1
                clear hK1 hK2 hdep hsh he hsv hsl hFF hL hSW
                go_simp
                exact HK.out rfl _ (fp_mk rfl rfl trivial)
              · refine wpOpS_go rfl rfl ?_
                have t0 : b'.tmps[0]?.getD undef = Value.pointer (some ⟨b, 0, none⟩) := he 0 (by kernel_rfl)
                have HK := Lib.hid hK1
                clear hK1 hK2 hdep hsh he hsv hsl hFF hL hSW
                go_simp
                exact HK.out rfl _ (fp_mk rfl rfl trivial)
              · refine wpOpS_go rfl rfl ?_
                have t13 : b'.tmps[13]?.getD undef = Value.pointer (some ⟨sb, 0, none⟩) := he 13 (by kernel_rfl)
                have HK := Lib.hid hK1
                clear hK1 hK2 hdep hsh he hsv hsl hFF hL hSW
                go_simp
                exact HK.out rfl _ (fp_mk rfl rfl trivial)
              · refine wpOpS_go rfl rfl ?_
                have t67 : b'.tmps[67]?.getD undef = Value.pointer (some ⟨sb, 2, none⟩) := hsv 4 67 _ (by kernel_rfl) (by kernel_rfl) rfl
                obtain ⟨s0, s2, s3, s4, s5, s6, s7⟩ := hSW
                have c0 := s0.cell
                have HK := Lib.hid hK1
                clear hK1 hK2 hdep hsh he hsv hsl hFF hL
                clear s0 s2 s3 s4 s5 s6 s7
                go_simp
                exact HK.out rfl _ (fp_mk rfl rfl trivial)
              · refine wpOpS_go rfl rfl ?_
                have t15 : b'.tmps[15]?.getD undef = Value.int .i64 (j : Int) := he 15 (by kernel_rfl)
                have HK := Lib.hid hK1
                clear hK1 hK2 hdep hsh he hsv hsl hFF hL hSW
                go_simp
                exact HK.out rfl _ (fp_mk rfl rfl trivial)
              · refine wpOpS_go rfl rfl ?_
                have t68 : b'.tmps[68]?.getD undef = Value.slice (some x) nn kv := hsv 5 68 _ (by kernel_rfl) (by kernel_rfl) rfl
                have t69 : b'.tmps[69]?.getD undef = Value.int .i64 (j : Int) := hsv 6 69 _ (by kernel_rfl) (by kernel_rfl) rfl
                have HK := Lib.hid hK1
                clear hK1 hK2 hdep hsh he hsv hsl hFF hL hSW
                go_simp
                exact HK.out rfl _ (fp_mk rfl rfl trivial)
              · refine wpOpS_go rfl rfl ?_
                have t70 : b'.tmps[70]?.getD undef = Value.pointer (some (x.add j)) := hsv 7 70 _ (by kernel_rfl) (by kernel_rfl) rfl
                obtain ⟨s0, s2, s3, s4, s5, s6, s7⟩ := hSW
                have hz1 := hZ W (s2 (hsh 14 (by kernel_rfl)))
                have HK := Lib.hid hK1
                clear hK1 hK2 hdep hsh he hsv hsl hFF hL
                clear s0 s2 s3 s4 s5 s6 s7
                go_simp
                exact HK.out rfl _ (fp_mk rfl rfl trivial)
              · refine wpOpS_go rfl rfl ?_
                have t0 : b'.tmps[0]?.getD undef = Value.pointer (some ⟨b, 0, none⟩) := he 0 (by kernel_rfl)
                have HK := Lib.hid hK1
                clear hK1 hK2 hdep hsh he hsv hsl hFF hL hSW
                go_simp
                exact HK.out rfl _ (fp_mk rfl rfl trivial)
              · refine wpOpS_go rfl rfl ?_
                have t8 : b'.tmps[8]?.getD undef = Value.int .i64 ((q : Int) + 2) := he 8 (by kernel_rfl)
                have HK := Lib.hid hK1
                clear hK1 hK2 hdep hsh he hsv hsl hFF hL hSW
                go_simp
                exact HK.out rfl _ (fp_mk rfl rfl trivial)
              · refine wpOpS_go rfl rfl ?_
                have t72 : b'.tmps[72]?.getD undef = Value.pointer (some ⟨b, 0, none⟩) := hsv 9 72 _ (by kernel_rfl) (by kernel_rfl) rfl
                have t73 : b'.tmps[73]?.getD undef = Value.int .i64 ((q : Int) + 2) := hsv 10 73 _ (by kernel_rfl) (by kernel_rfl) rfl
                obtain ⟨s0, s2, s3, s4, s5, s6, s7⟩ := hSW
                have hu := s4 hL
                have h12 := hsh 12 (by kernel_rfl)
                have HK := Lib.hid hK2
                clear hK1 hK2 hdep hsh he hsv hsl hFF hL
                go_simp
                refine (hWH _ _ hu).mono ?_
                rintro e w6 ⟨rfl, hU6, hE6⟩
                exact HK.out _ _ (fp_mk rfl rfl trivial) trivial ⟨hE6.blk s0 n0, fun h => li_eff (s2 h) hE6 hPl3, fun h => li_eff (s3 h) hE6 hPl3, fun h => absurd h (by rw [updF_same]; decide), fun _ _ => hU6, fun h => absurd h (by show ¬ L 12 = true; rw [h12]; decide), s7.trans hE6 (fun _ _ h => h)⟩
              · refine wpOpS_go rfl rfl ?_
                have t66 : b'.tmps[66]?.getD undef = Value.pointer (some ⟨b, 0, none⟩) := hsv 3 66 _ (by kernel_rfl) (by kernel_rfl) rfl
                have t71 : b'.tmps[71]?.getD undef = Value.int .i64 z := hsv 8 71 _ (by kernel_rfl) (by kernel_rfl) rfl
                have t74 : b'.tmps[74]?.getD undef = Value.int .i64 wp.1 := hsv 11 74 _ (by kernel_rfl) (by kernel_rfl) rfl
                obtain ⟨s0, s2, s3, s4, s5, s6, s7⟩ := hSW
                have hu := s5 (hdep 11 (by kernel_rfl)) hL
                have h11 := hdep 11 (by kernel_rfl)
                have HK := Lib.hid hK2
                clear hK1 hK2 hdep hsh he hsv hsl hFF hL
                go_simp
                refine (hDV _ _ hu).mono ?_
                rintro e w6 ⟨rfl, hU6, hE6⟩
                exact HK.out _ _ (fp_mk rfl rfl trivial) trivial ⟨hE6.blk s0 n0, fun h => li_eff (s2 h) hE6 hPl3, fun h => li_eff (s3 h) hE6 hPl3, fun h => absurd (show L 11 = false from h) (by rw [h11]; decide), fun _ h => absurd h (by rw [updF_same]; decide), fun _ => hU6, s7.trans hE6 (fun _ _ h => h)⟩
              · refine wpOpS_go rfl rfl ?_
                have t64 : b'.tmps[64]?.getD undef = Value.slice (some x) nn kv := hsv 1 64 _ (by kernel_rfl) (by kernel_rfl) rfl
                have t65 : b'.tmps[65]?.getD undef = Value.int .i64 (j : Int) := hsv 2 65 _ (by kernel_rfl) (by kernel_rfl) rfl
                have HK := Lib.hid hK1
                clear hK1 hK2 hdep hsh he hsv hsl hFF hL hSW
                go_simp
                exact HK.out rfl _ (fp_mk rfl rfl trivial)
              · refine wpOpS_go rfl rfl ?_
                have t75 : b'.tmps[75]?.getD undef = Value.int .i64 (dvw wp.1 z) := hsv 12 75 _ (by kernel_rfl) (by kernel_rfl) rfl
                have t76 : b'.tmps[76]?.getD undef = Value.pointer (some (x.add j)) := hsv 13 76 _ (by kernel_rfl) (by kernel_rfl) rfl
                obtain ⟨s0, s2, s3, s4, s5, s6, s7⟩ := hSW
                have hli := s2 hL
                have hz1 := hZ W hli
                have hfz := hZf W hli
                have HK := Lib.hid hK2
                clear hK1 hK2 hdep hsh he hsv hsl hFF hL
                go_simp
                have hw := hli.wj.ty x rfl hzl
                have hwb := LI.put hli j hjz (dvw wp.1 z) hd64
                have hbl := LI.lo0 hli hzl
                have hE : Eff (fun k => k = x.block) W (W.setCell (x.add j) (.int .i64 (dvw wp.1 z))) := Eff.set _ _ (by rw [add_block])
                have hux : ∀ c, UR W b c → UR (W.setCell (x.add j) (.int .i64 (dvw wp.1 z))) b c := fun c ⟨mm, h⟩ => ⟨mm, hE.blk h (blk_int h hw (by decide))⟩
                exact HK.out undef _ (fp_x (v := undef) rfl trivial) trivial ⟨hE.blk s0 (blk_int s0 hw (by decide)), fun h => absurd h (by rw [updF_same]; decide), fun _ => hwb, fun h => hux _ (s4 h), fun h h' => hux _ (s5 h h'), fun h => hux _ (s6 h), s7.trans hE (fun k hk h => by omega)⟩
            · intro f W hf L hL hS
              obtain ⟨s0, s2, s3, s4, s5, s6, s7⟩ := (hS : _ ∧ _ ∧ _ ∧ _ ∧ _ ∧ _ ∧ _)
              replace s3 := s3 (hL 14 (by decide))
              replace s6 := s6 (hL 12 (by decide))
              have e0 : f 0 = Value.pointer (some ⟨sb, 2, none⟩) := (hf 0 (by decide)).1 _ rfl
              have e1 : f 1 = Value.slice (some x) nn kv := (hf 1 (by decide)).1 _ rfl
              have e2 : f 2 = Value.int .i64 (j : Int) := (hf 2 (by decide)).1 _ rfl
              have e3 : f 3 = Value.pointer (some ⟨b, 0, none⟩) := (hf 3 (by decide)).1 _ rfl
              have e4 : f 4 = Value.pointer (some ⟨sb, 2, none⟩) := (hf 4 (by decide)).1 _ rfl
              have e5 : f 5 = Value.slice (some x) nn kv := (hf 5 (by decide)).1 _ rfl
              have e6 : f 6 = Value.int .i64 (j : Int) := (hf 6 (by decide)).1 _ rfl
              have e7 : f 7 = Value.pointer (some (x.add j)) := (hf 7 (by decide)).1 _ rfl
              have e8 : f 8 = Value.int .i64 z := (hf 8 (by decide)).1 _ rfl
              have e9 : f 9 = Value.pointer (some ⟨b, 0, none⟩) := (hf 9 (by decide)).1 _ rfl
              have e10 : f 10 = Value.int .i64 ((q : Int) + 2) := (hf 10 (by decide)).1 _ rfl
              have e11 : f 11 = Value.int .i64 wp.1 := (hf 11 (by decide)).1 _ rfl
              have e12 : f 12 = Value.int .i64 (dvw wp.1 z) := (hf 12 (by decide)).1 _ rfl
              have e13 : f 13 = Value.pointer (some (x.add j)) := (hf 13 (by decide)).1 _ rfl
              clear hf hL s2 s4 s5
              simp only [puts2, Act.put, e0, e1, e2, e3, e4, e5, e6, e7, e8, e9, e10, e11, e12, e13]
              try simp only [List.setIfInBounds_toArray, List.set_cons_zero, List.set_cons_succ]
              have HS3 := Lib.hid s3
              have HS6 := Lib.hid s6
              clear s3 s6 e0 e1 e2 e3 e4 e5 e6 e7 e8 e9 e10 e11 e12 e13
              go_wp2_with fail
              go_roundw
              case rel => exact ⟨j + 1, by omega, by go_num, ⟨by rw [HNV.out]; exact s0, by rw [← HSET.out]; exact HS3.out, by rw [HANY.out]; exact HS6.out, s7⟩⟩
              case measure => simp [intOf]; omega
          · have hge : ¬ (j : Int) < (nn : Int) := by omega
            have HJN := Lib.hid (show j = vs.length by rw [HNV.out]; omega)
            obtain ⟨s0, s2, s3, s4⟩ := hD
            rw [HJN.out, List.take_length, List.drop_length, List.append_nil] at s2
            rw [HJN.out, List.take_length] at s3
            rw [HNV.out] at s0
            have d0c := s0.cell
            have hbx2 := HBX.out _ s4
            have hom2 : OMs (w0.heap.size + 1) wr (.slice (some y) (q + 1) kk) (itL A d0 (q + 1)) := HOM.out.eff s4 (fun k hk ht => by
              have hkb := hPe k hk
              subst hkb
              obtain ⟨mm, hm⟩ := HUW.out
              exact absurd (ht.inj hm.ty) (by decide)) (fun k hk hp => by have := (HOM.out.own k hk).2; have := hPl _ hp; omega)
            have hsz4 := s4.size
            have hef2 : Eff P w0 wr := HEF.out.trans s4 (fun _ _ h => h)
            have hKe : Below wr.heap.size wr (wr.alloc (.cells #[.int .i64 n, .int .i64 n, .slice (some x) nn kv] 24)) := upA (upR wr) _
            have be := Blk.new wr #[.int .i64 n, .int .i64 n, .slice (some x) nn kv] 24
            have ome := hom2.keep hKe
            have bxe := hbx2.keep hKe
            have lie : LI (w0.heap.size + 1) (wr.alloc (.cells #[.int .i64 n, .int .i64 n, .slice (some x) nn kv] 24)) (some x) kv (itD A 2 d0 (q + 1)).1.v := by
              rw [HNX2.out.1]
              exact (s2.keep hKe).mono hws
            have upe := s3.keep hKe
            have hefe := hef2.trans (Eff.of (P := P) hKe) (fun _ _ h => h)
            clear hbx2 hom2 hef2 s0 s2 s3 s4 hKe
            go_wp2_with (at_builtin; refine app_matR (m := (itD A 2 d0 (q + 1)).1) rfl _ _ rfl rfl ome bxe.lt _ rfl n n nn HT1.out.r HT1.out.c HT1.out.l be lie (by rw [HT1.out.r]; exact HTQ.out) (by rw [HT1.out.c]; exact HTQ.out) (by rw [itL_len]; omega) ?_)
            intro v' w9 ho9 hg9 _
            rw [← itL_succ] at ho9
            have hown : ∀ k, (Value.slice (some y) (q + 1) kk).ownBlock = some k → w0.heap.size + 1 ≤ k := fun k hk => (ome.own k hk).2
            have hox : ∀ k, (Value.slice (some y) (q + 1) kk).ownBlock = some k → k ≠ w0.heap.size := fun k hk => by have := hown k hk; omega
            have up9 : UR w9 b (cq || mf || sf || vs.any (flw wp)) := by
              obtain ⟨mm, hm⟩ := upe
              exact ⟨mm, hm.grown hg9 (fun e => by have := hown _ e.symm; omega)⟩
            have bx9 := bxe.grown hg9 (fun e => hox _ e.symm rfl)
            have ef9 : Eff P w0 w9 := hefe.trans (Eff.grown (P := fun k => (Value.slice (some y) (q + 1) kk).ownBlock = some k) hg9 (fun k hk => hk)) (fun k hk e => by have := hown k e; omega)
            have hT9 : CoI w0 P b c0 A d0 #[.int .i64 n, .slice aA nn cA, .slice aQ n cQ, .int .i64 tick, .int .i64 gate, .int .i64 rmin, .slice aR lr cR] (q + 1) v' w9 := ⟨ho9, by rw [HNX2.out.2]; exact up9, ef9, bx9⟩
            clear ome bxe lie upe hefe be d0c ho9 hg9 up9 bx9 ef9 hown hox
            go_wp2_with fail
            go_roundw
            case rel => exact ⟨q + 1, by omega, by go_num, hT9⟩
            case measure => simp [intOf]; omega
    · have hqn : q = m2 := by omega
      subst hqn
      have hge : ¬ (q : Int) + 2 ≤ (n3 : Int) := by omega
      have hom := hT.om
      have hup := hT.up
      have hef := hT.ef
      clear hT
      go_wp2_with fail
      go_ret
      exact ⟨_, rfl, hom.mono (Nat.le_succ _), hup, hPb _ _ hef⟩
/-- Why no noise is told, or 0. -/
def RnM (M : Mdl) (ticks r : Int) : Prop := (okM M ∧ (0 ≤ ticks ∧ ticks ≤ 1099511627776) ∧ r = 0) ∨ (okM M ∧ ¬ (0 ≤ ticks ∧ ticks ≤ 1099511627776) ∧ r = 4) ∨ (¬ okM M ∧ r = 2)
def nmAll (r : Int) (M : Mdl) (ticks : Int) : Mt × Bool := if r = 0 then noiseM M ticks else (⟨0, 0, []⟩, false)
set_option maxHeartbeats 8000000 in
set_option maxRecDepth 100000 in
theorem rnoise_is {w0 : World} {b : Nat} {c : Bool} (hU : UR w0 b c) {v : Value} {M : Mdl} (hM : MW b w0 v M) (hl : M.rows.length ≤ 1000) (hh : ∀ q ∈ M.rows, q.h.length ≤ 100000) {ticks r : Int} (hr : RnM M ticks r) (ht : I64 ticks) :
    Calls Tryz.prog 43 #[.pointer (some ⟨b, 0, none⟩), v, .int .i64 ticks] w0 fun e w' => ∃ u, e = .returned (.tuple #[u, .int .i64 r]) ∧ MO w0.heap.size w' u (nmAll r M ticks).1 ∧ UR w' b (c || (nmAll r M ticks).2) ∧ But b w0 w' := by
  have hMW := hM
  have hbl := hU.lt
  obtain ⟨aA, cA, aQ, cQ, aR, cR, rfl, hmA, _⟩ := hM.ex
  have hB := below_allocs w0 [Obj.cells #[.int .i64 M.n, .slice aA M.A.length cA, .slice aQ M.Q.length cQ, .int .i64 M.tick, .int .i64 M.gate, .int .i64 M.rmin, .slice aR M.rows.length cR] 54, Obj.cells #[.int .i64 0, .int .i64 0, .slice none 0 0] 24]
  have g0 := blk_at w0 [Obj.cells #[.int .i64 M.n, .slice aA M.A.length cA, .slice aQ M.Q.length cQ, .int .i64 M.tick, .int .i64 M.gate, .int .i64 M.rmin, .slice aR M.rows.length cR] 54, Obj.cells #[.int .i64 0, .int .i64 0, .slice none 0 0] 24] 0 _ _ rfl
  have g1 := blk_at w0 [Obj.cells #[.int .i64 M.n, .slice aA M.A.length cA, .slice aQ M.Q.length cQ, .int .i64 M.tick, .int .i64 M.gate, .int .i64 M.rmin, .slice aR M.rows.length cR] 54, Obj.cells #[.int .i64 0, .int .i64 0, .slice none 0 0] 24] 1 _ _ rfl
  simp only [List.foldl_cons, List.foldl_nil, Nat.add_zero] at hB g0 g1
  replace hB := hB.1
  unfold nmAll
  by_cases h0 : r = 0
  · rw [if_pos h0]
    subst h0
    have hok : okM M ∧ 0 ≤ ticks ∧ ticks ≤ 1099511627776 := by
      rcases hr with ⟨h1, h2, _⟩ | ⟨_, _, h⟩ | ⟨_, h⟩
      · exact ⟨h1, h2⟩
      · exact absurd h (by decide)
      · exact absurd h (by decide)
    obtain ⟨hok, ht0, ht1⟩ := hok
    have hrf : RfM M ticks 0 := .inl ⟨hok, ⟨by omega, ht1⟩, rfl⟩
    have hRF := refusesR_is (hMW.keep hB).m hl hh hrf
    have hSP := fun (w : World) (hB : But b w0 w) (cc : Bool) (hu : UR w b cc) => spanR_is hu (hMW.but hB).m hl hh hrf ht
    have es : sAll 0 M ticks = spanM M.tick ticks := if_pos rfl
    rw [es] at hSP
    have hfx := (spanM_fx M.tick ticks).i64
    have hCO := fun (w : World) (hB : But b w0 w) (cc : Bool) (hu : UR w b cc) => rcoef_is hu (hMW.but hB) hok
    obtain ⟨n, nn, hn, hn1, hn6, hnn, hq1, hq2, hq3, hq4, hcl, hcs⟩ := hok.nat
    have HNN := Lib.hid hnn
    have HN0 := Lib.hid hn
    clear hnn hn hq1 hq2 hq3 hq4
    have hn12 : n ≤ 12 := by omega
    have hc1 : 1 ≤ (coefL M).1.length := by rw [hcl]; omega
    have hc25 : (coefL M).1.length ≤ 25 := by rw [hcl]; omega
    have hPT := sq_poly hc1 hc25 hcs
    have hSQH := sq_horn hn1 hn12 HNN.out (spanM M.tick ticks).1 (coefL M).1 hc1 hcs
    have hAT : ∀ (w : World) (c1 : Bool) (_ : UR w b c1) (v : Value) (B : Nat) (_ : OMs B w v (coefL M).1), Calls Tryz.prog 26 #[.pointer (some ⟨b, 0, none⟩), v, .int .i64 (spanM M.tick ticks).1] w fun e w' => ∃ u, e = .returned (.tuple #[u, .int .i64 0]) ∧ MO w.heap.size w' u (hornM (spanM M.tick ticks).1 (coefL M).1).1 ∧ UR w' b (c1 || (hornM (spanM M.tick ticks).1 (coefL M).1).2) ∧ But b w w' := fun w c1 hu v B ho => by
      obtain ⟨x, k, hv, hk, hms⟩ := ho.mlsR hu hc1
      have := atR_is hu hms hk hPT _ hfx
      rw [← hv] at this
      exact this
    have hSC : ∀ (w : World) (c1 : Bool) (_ : UR w b c1) (a1 : Option Addr) (k1 : Nat) (B : Nat) (_ : LI B w a1 k1 (hornM (spanM M.tick ticks).1 (coefL M).1).1.v), Calls Tryz.prog 62 #[.pointer (some ⟨b, 0, none⟩), .agg #[.int .i64 n, .int .i64 n, .slice a1 nn k1], .int .i64 (spanM M.tick ticks).1] w fun e w' => ∃ a2 k2, e = .returned (.tuple #[.agg #[.int .i64 n, .int .i64 n, .slice a2 nn k2], .int .i64 0]) ∧ LI w.heap.size w' a2 k2 (scaleM (hornM (spanM M.tick ticks).1 (coefL M).1).1 (spanM M.tick ticks).1).1.v ∧ UR w' b (c1 || (scaleM (hornM (spanM M.tick ticks).1 (coefL M).1).1 (spanM M.tick ticks).1).2) ∧ But b w w' := fun w c1 hu a1 k1 B h => by
      have := scaleR_is hu (h.mlR hu) hSQH.ok (spanM M.tick ticks).1 hfx
      rw [hSQH.r, hSQH.c, hSQH.l] at this
      refine this.mono fun e w' h => ?_
      obtain ⟨v, he, hmo, hu', hb'⟩ := h
      obtain ⟨av, kv, rfl, hli⟩ := hmo.litq (sq_scale hn1 hn12 HNN.out hSQH (spanM M.tick ticks).1)
      exact ⟨av, kv, he, hli, hu', hb'⟩
    have hres := sq_scale hn1 hn12 HNN.out hSQH (spanM M.tick ticks).1
    unfold noiseM
    have HSQH := Lib.hid hSQH
    have HRES := Lib.hid hres
    generalize scaleM (hornM (spanM M.tick ticks).1 (coefL M).1).1 (spanM M.tick ticks).1 = sc at *
    generalize hornM (spanM M.tick ticks).1 (coefL M).1 = ho at *
    generalize coefL M = cl at *
    generalize spanM M.tick ticks = sp at *
    have HSP := Lib.hid hSP
    have HCO := Lib.hid hCO
    have HAT := Lib.hid hAT
    have HSC := Lib.hid hSC
    clear hSP hCO hAT hSC hPT hSQH hcl hcs hc1 hc25 HN0 HNN es hrf hr hMW hM hok hmA hres
    have ht0' : ¬ ticks < 0 := by omega
    go_enter Tryz.func43, Tryz.ntmps43
    go_wp2_with fail
    refine hRF.mono ?_
    rintro e w1 ⟨rfl, hK⟩
    replace hB := more hB hK
    replace g0 := g0.keep hK
    replace g1 := g1.keep hK
    have hU1 := hU.below hB hbl
    have hBt := But.of (b := b) hB
    clear hRF hK hU hB
    have d0 := g0.cell
    have hx := HSP.out _ hBt _ hU1
    clear HSP
    go_wp2_with fail
    refine hx.mono ?_
    rintro e w2 ⟨rfl, hU2, hB2⟩
    replace hBt := hBt.trans hB2
    replace g0 := hB2.blk g0 (by omega)
    replace g1 := hB2.blk g1 (by omega)
    clear hx hU1 hB2 d0
    have d0 := g0.cell
    have hx := HCO.out _ hBt _ hU2
    clear HCO
    go_wp2_with fail
    refine hx.mono ?_
    rintro e w3 ⟨cv, rfl, hom, hU3, hB3⟩
    replace hBt := hBt.trans hB3
    replace g1 := hB3.blk g1 (by omega)
    clear hx hU2 hB3 d0 g0
    have hx := HAT.out _ _ hU3 _ _ hom
    clear HAT
    go_wp2_with fail
    refine hx.mono ?_
    rintro e w4 ⟨u, rfl, hmo, hU4, hB4⟩
    have hsz3 := hBt.size
    replace hBt := hBt.trans hB4
    replace g1 := hB4.blk g1 (by omega)
    obtain ⟨ah, kh, rfl, hlh⟩ := hmo.litq HSQH.out
    clear hx hU3 hB4 hom hmo
    have gm := Blk.new w4 #[.int .i64 0, .int .i64 0, .slice none 0 0] 24
    have hK1 : Below w4.heap.size w4 (w4.alloc (.cells #[.int .i64 0, .int .i64 0, .slice none 0 0] 24)) := upA (upR w4) _
    go_wp2_with ((with_reducible refine at_st (p := 11) (q := 37) rfl ?_); refine ev_store rfl 24 _ _ rfl rfl gm 0 rfl rfl [.int .i64 n, .int .i64 n, .slice ah nn kh] rfl (by kernel_rfl) rfl rfl #[.int .i64 n, .int .i64 n, .slice ah nn kh] rfl ?_; intro w5 g5 ef5 hz5; have c5 := g5.cell)
    have hK5 : Below w4.heap.size w4 w5 := ef5.below hK1 (fun k hk => by omega)
    have hU5 := hU4.keep hK5
    have hlh5 := hlh.keep hK5
    have hBt5 := hBt.trans (But.of hK5)
    have g15 := g1.keep hK5
    clear gm hK1 ef5 hz5 hK5 hU4 hlh hBt g1 g5
    have hx := HSC.out _ _ hU5 _ _ _ hlh5
    clear HSC
    refine hx.mono ?_
    rintro e w6 ⟨a2, k2, rfl, hls, hU6, hB6⟩
    have hsz5 := hBt5.size
    have hBt6 := hBt5.trans hB6
    have g16 := hB6.blk g15 (by omega)
    clear hx hU5 hB6 hlh5 hBt5 g15 c5
    go_wp2_with ((with_reducible refine at_st (p := 6) (q := 43) rfl ?_); refine ev_store rfl 24 _ _ rfl rfl g16 0 rfl rfl [.int .i64 n, .int .i64 n, .slice a2 nn k2] rfl (by kernel_rfl) rfl rfl #[.int .i64 n, .int .i64 n, .slice a2 nn k2] rfl ?_; intro w7 g7 ef7 hz7)
    refine bodyPost_ret (results_ct rfl _ _ (g := w0.heap.size + 1) rfl g7 Tryz.underlying24 rfl (by kernel_rfl)) rfl ?_
    refine ⟨_, rfl, ⟨⟨a2, k2, by rw [HRES.out.r, HRES.out.c, HRES.out.l], (hls.eff ef7 (fun k hk ht => by subst hk; exact absurd (ht.inj g16.ty) (by decide))).mono hsz5⟩, by rw [HRES.out.r]; exact ⟨by omega, by omega⟩, by rw [HRES.out.c]; exact ⟨by omega, by omega⟩⟩, ?_, eff_but ((but_eff hBt6).trans ef7 (fun k hk e => by omega))⟩
    obtain ⟨mm, hm⟩ := hU6
    exact ⟨mm, ef7.blk (by simpa only [Bool.or_assoc] using hm) (by omega)⟩
  · rw [if_neg h0]
    by_cases hrange : okM M ∧ -1099511627776 ≤ ticks ∧ ticks < 0
    · have h4 : r = 4 := by
        rcases hr with ⟨_, _, h⟩ | ⟨_, _, h⟩ | ⟨h, _⟩
        · exact absurd h h0
        · exact h
        · exact absurd hrange.1 h
      have hrf : RfM M ticks 0 := .inl ⟨hrange.1, ⟨hrange.2.1, by omega⟩, rfl⟩
      have hRF := refusesR_is (hMW.keep hB).m hl hh hrf
      have ht0 : ticks < 0 := hrange.2.2
      subst h4
      clear hrf hr hMW hM hmA hrange h0
      go_enter Tryz.func43, Tryz.ntmps43
      go_wp2_with fail
      refine hRF.mono ?_
      rintro e w1 ⟨rfl, hK⟩
      replace hB := more hB hK
      replace g1 := g1.keep hK
      have hU1 := hU.below hB hbl
      clear hRF hK hU g0
      go_wp2_with ((with_reducible refine at_st (p := 6) (q := 22) rfl ?_); refine ev_store rfl 24 _ _ rfl rfl g1 0 rfl rfl [.int .i64 0, .int .i64 0, .slice none 0 0] rfl (by kernel_rfl) rfl rfl #[.int .i64 0, .int .i64 0, .slice none 0 0] rfl ?_; intro w7 g7 ef7 hz7)
      refine bodyPost_ret (results_ct rfl _ _ (g := w0.heap.size + 1) rfl g7 Tryz.underlying24 rfl (by kernel_rfl)) rfl ?_
      refine ⟨_, rfl, mo_none _ _, ?_, But.of (ef7.below hB (fun k hk => by omega))⟩
      obtain ⟨mm, hm⟩ := hU1
      exact ⟨mm, ef7.blk (by simpa using hm) (by omega)⟩
    · have hrf : RfM M ticks r := by
        rcases hr with ⟨_, _, h⟩ | ⟨h1, h2, h⟩ | ⟨h1, h⟩
        · exact absurd h h0
        · exact .inr (.inl ⟨h1, fun h3 => hrange ⟨h1, h3.1, by omega⟩, h⟩)
        · exact .inr (.inr ⟨h1, h⟩)
      have hRF := refusesR_is (hMW.keep hB).m hl hh hrf
      have h0c : (r != 0) = true := by simpa using h0
      clear hrf hr hMW hM hmA hrange
      go_enter Tryz.func43, Tryz.ntmps43
      go_wp2_with fail
      refine hRF.mono ?_
      rintro e w1 ⟨rfl, hK⟩
      replace hB := more hB hK
      replace g1 := g1.keep hK
      have hU1 := hU.below hB hbl
      clear hRF hK hU g0
      go_wp2_with ((with_reducible refine at_st (p := 6) (q := 18) rfl ?_); refine ev_store rfl 24 _ _ rfl rfl g1 0 rfl rfl [.int .i64 0, .int .i64 0, .slice none 0 0] rfl (by kernel_rfl) rfl rfl #[.int .i64 0, .int .i64 0, .slice none 0 0] rfl ?_; intro w7 g7 ef7 hz7)
      refine bodyPost_ret (results_ct rfl _ _ (g := w0.heap.size + 1) rfl g7 Tryz.underlying24 rfl (by kernel_rfl)) rfl ?_
      refine ⟨_, rfl, mo_none _ _, ?_, But.of (ef7.below hB (fun k hk => by omega))⟩
      obtain ⟨mm, hm⟩ := hU1
      exact ⟨mm, ef7.blk (by simpa using hm) (by omega)⟩
theorem ref_rf {w0 : World} {b : Nat} {c : Bool} (hU : UP w0 b c) {v : Value} {M : Mdl} (hM : MM 0 w0 v M) (hl : M.rows.length ≤ 1000) {ticks r : Int} (hr : RfM M ticks r) (h0 : r ≠ 0) : Ref (.pointer (some ⟨b, 0, none⟩)) v ticks (-1099511627776) r w0 := fun W hB => by
  have hU' := hU.below hB hU.lt
  rcases hr with ⟨_, _, h⟩ | ⟨h1, h2, h⟩ | ⟨h1, h⟩
  · exact absurd h h0
  · subst h
    exact refuses_range hU' (hM.keep hB) hl h1 ticks _ (by omega)
  · subst h
    exact refuses_arg hU' (hM.keep hB) hl h1 ticks _
theorem ref_rn {w0 : World} {b : Nat} {c : Bool} (hU : UP w0 b c) {v : Value} {M : Mdl} (hM : MM 0 w0 v M) (hl : M.rows.length ≤ 1000) {ticks r : Int} (hr : RnM M ticks r) (h0 : r ≠ 0) : Ref (.pointer (some ⟨b, 0, none⟩)) v ticks 0 r w0 := fun W hB => by
  have hU' := hU.below hB hU.lt
  rcases hr with ⟨_, _, h⟩ | ⟨h1, h2, h⟩ | ⟨h1, h⟩
  · exact absurd h h0
  · subst h
    exact refuses_range hU' (hM.keep hB) hl h1 ticks _ (by omega)
  · subst h
    exact refuses_arg hU' (hM.keep hB) hl h1 ticks _
theorem rn_ok {M : Mdl} {ticks : Int} (h : RnM M ticks 0) : okM M ∧ 0 ≤ ticks ∧ ticks ≤ 1099511627776 := by
  rcases h with ⟨h1, h2, _⟩ | ⟨_, _, h⟩ | ⟨_, h⟩
  · exact ⟨h1, h2⟩
  · exact absurd h (by decide)
  · exact absurd h (by decide)
theorem mspan_all {w0 : World} {b : Nat} {c : Bool} (hU : UP w0 b c) {v : Value} {M : Mdl} (hM : MW b w0 v M) (hl : M.rows.length ≤ 1000) {ticks r : Int} (hr : RfM M ticks r) :
    Calls Tryz.prog 35 #[.pointer (some ⟨b, 0, none⟩), v, .int .i64 ticks] w0 fun e w' => e = .returned (.tuple #[.int .i64 (sAll r M ticks).1, .int .i64 r]) ∧ UP w' b (c || (sAll r M ticks).2) ∧ But b w0 w' := by
  unfold sAll
  by_cases h0 : r = 0
  · rw [if_pos h0]
    subst h0
    obtain ⟨h1, h2, h3⟩ := rf_ok hr
    exact mSpan_is hU hM hl h1 ticks h2 h3
  · rw [if_neg h0]
    exact (mSpan_ref hM.m h0 (ref_rf hU hM.m hl hr h0)).mono fun e w' h => ⟨h.1, by simpa using hU.below h.2 hU.lt, But.of h.2⟩
theorem mflow_all {w0 : World} {b : Nat} {c : Bool} (hU : UP w0 b c) {v : Value} {M : Mdl} (hM : MW b w0 v M) (hl : M.rows.length ≤ 1000) {ticks r : Int} (hr : RfM M ticks r) :
    Calls Tryz.prog 31 #[.pointer (some ⟨b, 0, none⟩), v, .int .i64 ticks] w0 fun e w' => ∃ u, e = .returned (.tuple #[u, .int .i64 r]) ∧ MO w0.heap.size w' u (fmAll r M ticks).1 ∧ UP w' b (c || (fmAll r M ticks).2) ∧ But b w0 w' := by
  unfold fmAll
  by_cases h0 : r = 0
  · rw [if_pos h0]
    subst h0
    obtain ⟨h1, h2, h3⟩ := rf_ok hr
    exact mFlow_is hU hM hl h1 ticks h2 h3
  · rw [if_neg h0]
    exact (mFlow_ref hM.m h0 (ref_rf hU hM.m hl hr h0)).mono fun e w' h => ⟨_, h.1, mo_none _ _, by simpa using hU.below h.2 hU.lt, But.of h.2⟩
theorem mnoise_all {w0 : World} {b : Nat} {c : Bool} (hU : UP w0 b c) {v : Value} {M : Mdl} (hM : MW b w0 v M) (hl : M.rows.length ≤ 1000) {ticks r : Int} (hr : RnM M ticks r) :
    Calls Tryz.prog 30 #[.pointer (some ⟨b, 0, none⟩), v, .int .i64 ticks] w0 fun e w' => ∃ u, e = .returned (.tuple #[u, .int .i64 r]) ∧ MO w0.heap.size w' u (nmAll r M ticks).1 ∧ UP w' b (c || (nmAll r M ticks).2) ∧ But b w0 w' := by
  unfold nmAll
  by_cases h0 : r = 0
  · rw [if_pos h0]
    subst h0
    obtain ⟨h1, h2, h3⟩ := rn_ok hr
    exact mNoise_is hU hM hl h1 ticks h2 h3
  · rw [if_neg h0]
    exact (mNoise_ref hM.m h0 (ref_rn hU hM.m hl hr h0)).mono fun e w' h => ⟨_, h.1, mo_none _ _, by simpa using hU.below h.2 hU.lt, But.of h.2⟩
theorem rf_ex (M : Mdl) (ticks : Int) : ∃ r, RfM M ticks r := by
  by_cases h1 : okM M
  · by_cases h2 : -1099511627776 ≤ ticks ∧ ticks ≤ 1099511627776
    · exact ⟨0, .inl ⟨h1, h2, rfl⟩⟩
    · exact ⟨4, .inr (.inl ⟨h1, h2, rfl⟩)⟩
  · exact ⟨2, .inr (.inr ⟨h1, rfl⟩)⟩
theorem rn_ex (M : Mdl) (ticks : Int) : ∃ r, RnM M ticks r := by
  by_cases h1 : okM M
  · by_cases h2 : 0 ≤ ticks ∧ ticks ≤ 1099511627776
    · exact ⟨0, .inl ⟨h1, h2, rfl⟩⟩
    · exact ⟨4, .inr (.inl ⟨h1, h2, rfl⟩)⟩
  · exact ⟨2, .inr (.inr ⟨h1, rfl⟩)⟩
end Go.Proofs.YtkjbidpafnmogaaGreat.Base
namespace Go.Proofs.YtkjbidpafnmogaaGreat.Base
open Go.RowKit Go Go.Shelf Go.Deep Go.ChangeShapes Go.WideShapes
set_option linter.unusedVariables false
set_option linter.unusedSimpArgs false
theorem cell_eff {P : Nat → Prop} {w w' : World} {p : Addr} {v : Value} (hc : w.cell? p = some v) (hn : ¬ P p.block) (h : Eff P w w') : w'.cell? p = some v :=
  (World.cell?_of_block (w := w) (h.block _ (World.block_lt_of_cell? w _ hc) hn)).trans hc
theorem MI.effB {P : Nat → Prop} {B : Nat} {W W' : World} {a : Option Addr} {c : Nat} {zs : List Int} (h : MI B W a c zs) (k : Eff P W W') (hP : ∀ k, P k → k < B) : MI B W' a c zs :=
  ⟨fun j hj => by
    obtain ⟨x, hx, hc⟩ := h.cell j hj
    exact ⟨x, hx, cell_eff hc (fun hp => by rw [add_block] at hp; have := hP _ hp; have := h.lo x hx (by omega); omega) k⟩, h.rng, h.len, h.lo, h.nn, h.cap⟩
theorem RowAt.effB {P : Nat → Prop} {B : Nat} {W W' : World} {y : Addr} {q : Rw} (h : RowAt B W y q) (k : Eff P W W') (hP : ∀ k, P k → k < B) (hy : ¬ P y.block) : RowAt B W' y q := by
  obtain ⟨aH, cH, h0, h1, h2, h3⟩ := h.ex
  exact ⟨⟨aH, cH, cell_eff h0 hy k, cell_eff h1 hy k, cell_eff h2 hy k, h3.effB k hP⟩, h.s, h.r⟩
theorem MR.effB {P : Nat → Prop} {B : Nat} {W W' : World} {a : Option Addr} {c : Nat} {qs : List Rw} (h : MR B W a c qs) (k : Eff P W W') (hP : ∀ k, P k → k < B) : MR B W' a c qs :=
  ⟨fun j hj => by
    obtain ⟨x, hx, hr⟩ := h.at_ j hj
    exact ⟨x, hx, hr.effB k hP (fun hp => by rw [add_block] at hp; have := hP _ hp; have := h.lo x hx (by omega); omega)⟩, h.len, h.lo, h.nn, h.cap⟩
theorem MM.effB {P : Nat → Prop} {B : Nat} {W W' : World} {v : Value} {M : Mdl} (h : MM B W v M) (k : Eff P W W') (hP : ∀ k, P k → k < B) : MM B W' v M := by
  obtain ⟨aA, cA, aQ, cQ, aR, cR, hv, h1, h2, h3⟩ := h.ex
  exact ⟨⟨aA, cA, aQ, cQ, aR, cR, hv, h1.effB k hP, h2.effB k hP, h3.effB k hP⟩, h.n, h.tick, h.gate, h.rmin⟩
theorem MR.mono0 {B : Nat} {W : World} {a : Option Addr} {c : Nat} {qs : List Rw} (h : MR B W a c qs) : MR 0 W a c qs :=
  ⟨fun j hj => by
    obtain ⟨x, hx, hr⟩ := h.at_ j hj
    obtain ⟨aH, cH, h0, h1, h2, h3⟩ := hr.ex
    exact ⟨x, hx, ⟨⟨aH, cH, h0, h1, h2, h3.mono (Nat.zero_le _)⟩, hr.s, hr.r⟩⟩, h.len, fun _ _ _ => Nat.zero_le _, h.nn, h.cap⟩
theorem MM.mono0 {B : Nat} {W : World} {v : Value} {M : Mdl} (h : MM B W v M) : MM 0 W v M := by
  obtain ⟨aA, cA, aQ, cQ, aR, cR, hv, h1, h2, h3⟩ := h.ex
  exact ⟨⟨aA, cA, aQ, cQ, aR, cR, hv, h1.mono (Nat.zero_le _), h2.mono (Nat.zero_le _), h3.mono0⟩, h.n, h.tick, h.gate, h.rmin⟩
theorem MM.mwB {B b : Nat} {W : World} {v : Value} {M : Mdl} (h : MM B W v M) (hb : b < B) : MW b W v M := by
  obtain ⟨aA, cA, aQ, cQ, aR, cR, hv, h1, h2, _⟩ := h.ex
  exact ⟨⟨aA, cA, aQ, cQ, aR, cR, hv, ⟨h1.mono (Nat.zero_le _), fun x hx h0 => by have := h1.lo x hx h0; omega⟩, ⟨h2.mono (Nat.zero_le _), fun x hx h0 => by have := h2.lo x hx h0; omega⟩⟩, fun W' k => (h.effB (but_eff k) (fun k hk => by omega)).mono0⟩
theorem UP.ty11 {W : World} {b : Nat} {c : Bool} (h : UP W b c) : ¬ Ty W b 3 := fun ht => by
  obtain ⟨mm, hm⟩ := h
  exact absurd (ht.inj hm.ty) (by decide)
theorem UR.ty11 {W : World} {b : Nat} {c : Bool} (h : UR W b c) : ¬ Ty W b 3 := fun ht => by
  obtain ⟨mm, hm⟩ := h
  exact absurd (ht.inj hm.ty) (by decide)
set_option maxHeartbeats 16000000 in
set_option maxRecDepth 100000 in
theorem mtells_walk (v : Value) (M : Mdl) (ticks : Int) (W : World) (hM : MM 0 W v M) (wt : (Lit.int .i64 ticks).wf = true) :
    Calls Tryz.prog 9 #[v, .int .i64 ticks] W fun e w' => e = .returned (.bool true) ∧ Below W.heap.size W w' := by
  have ht64 := bounds_i64 wt
  clear wt
  obtain ⟨r, hr⟩ := rf_ex M ticks
  obtain ⟨s, hs⟩ := rn_ex M ticks
  have HR := Lib.hid hr
  have HS := Lib.hid hs
  have HM := Lib.hid hM
  obtain ⟨aA, cA, aQ, cQ, aR, cR, rfl, _⟩ := hM.ex
  clear hr hs hM
  have hB := upA (upR W) (Obj.cells #[.int .i64 M.n, .slice aA M.A.length cA, .slice aQ M.Q.length cQ, .int .i64 M.tick, .int .i64 M.gate, .int .i64 M.rmin, .slice aR M.rows.length cR] 54)
  have g0 := Blk.new W #[.int .i64 M.n, .slice aA M.A.length cA, .slice aQ M.Q.length cQ, .int .i64 M.tick, .int .i64 M.gate, .int .i64 M.rmin, .slice aR M.rows.length cR] 54
  go_enter Tryz.func9, Tryz.ntmps9
  go_wp2_with fail
  refine (uNew_is _).mono ?_
  rintro e w1 ⟨rfl, hU, hK⟩
  simp only [World.size_alloc] at hU hK ⊢
  have hK' : Below (W.alloc (Obj.cells #[.int .i64 M.n, .slice aA M.A.length cA, .slice aQ M.Q.length cQ, .int .i64 M.tick, .int .i64 M.gate, .int .i64 M.rmin, .slice aR M.rows.length cR] 54)).heap.size (W.alloc (Obj.cells #[.int .i64 M.n, .slice aA M.A.length cA, .slice aQ M.Q.length cQ, .int .i64 M.tick, .int .i64 M.gate, .int .i64 M.rmin, .slice aR M.rows.length cR] 54)) w1 := by rw [World.size_alloc]; exact hK
  replace hB := more hB hK'
  replace g0 := g0.keep hK'
  clear hK hK'
  go_wp2_with fail
  refine (uNewR_is _).mono ?_
  rintro e w2 ⟨rfl, hR, hK⟩
  have hl1 := hU.lt
  replace hB := more hB hK
  replace g0 := g0.keep hK
  replace hU := hU.keep hK
  obtain ⟨b1, hb1⟩ : ∃ b1, W.heap.size + 1 = b1 := ⟨_, rfl⟩
  obtain ⟨b2, hb2⟩ : ∃ b2, w1.heap.size = b2 := ⟨_, rfl⟩
  rw [hb1] at hU hl1 ⊢
  rw [hb2] at hR hl1 ⊢
  have l1 : W.heap.size < b1 := by omega
  clear hK hb1 hb2
  have d0 := g0.cell
  go_wp2_with fail
  refine (longModel_is (HM.out.keep hB)).mono ?_
  rintro e w3 ⟨⟨hm, rfl⟩ | ⟨hm, rfl⟩, hK⟩
  · replace hB := more hB hK
    clear hm hK d0 g0 hU hR
    go_wp2_with fail
    refine (awake11_is _).mono ?_
    rintro e w4 ⟨rfl, hK⟩
    replace hB := more hB hK
    clear hK
    go_wp2_with fail
    go_ret
    exact ⟨rfl, hB⟩
  · have hmod : Mod M := Classical.byContradiction hm
    have hl : M.rows.length ≤ 1000 := by have := hmod.r; omega
    have hh : ∀ q ∈ M.rows, q.h.length ≤ 100000 := fun q hq => by have := hmod.h q hq; omega
    have hla := hmod.a
    have hlq := hmod.q
    replace hB := more hB hK
    replace g0 := g0.keep hK
    replace hU := hU.keep hK
    replace hR := hR.keep hK
    clear hm hmod hK d0
    have d0 := g0.cell
    have hcp := copyModel_is (HM.out.keep hB) (by omega) (by omega) hl hh
    go_wp2_with fail
    refine hcp.mono ?_
    rintro e w4 ⟨vc, rfl, hC, hK⟩
    have hrl : b2 + 1 ≤ w3.heap.size := hR.lt
    replace hB := more hB hK
    replace g0 := g0.keep hK
    replace hU := hU.keep hK
    replace hR := hR.keep hK
    have hrl4 := hR.lt
    obtain ⟨bA, dA, bQ, dQ, bR, dR, rfl, _⟩ := hC.ex
    clear hcp hK d0
    have gm := Blk.new w4 #[.int .i64 0, .slice none 0 0, .slice none 0 0, .int .i64 0, .int .i64 0, .int .i64 0, .slice none 0 0] 54
    have hK1 : Below w4.heap.size w4 (w4.alloc (.cells #[.int .i64 0, .slice none 0 0, .slice none 0 0, .int .i64 0, .int .i64 0, .int .i64 0, .slice none 0 0] 54)) := upA (upR w4) _
    go_wp2_with ((with_reducible refine at_st (p := 7) (q := 35) rfl ?_); refine ev_store rfl 54 _ _ rfl rfl gm 0 rfl rfl [.int .i64 M.n, .slice bA M.A.length dA, .slice bQ M.Q.length dQ, .int .i64 M.tick, .int .i64 M.gate, .int .i64 M.rmin, .slice bR M.rows.length dR] rfl (by kernel_rfl) rfl rfl #[.int .i64 M.n, .slice bA M.A.length dA, .slice bQ M.Q.length dQ, .int .i64 M.tick, .int .i64 M.gate, .int .i64 M.rmin, .slice bR M.rows.length dR] rfl ?_; intro w5 g5 ef hz5; have d7 := g5.cell)
    have hK5 : Below w4.heap.size w4 w5 := ef.below hK1 (fun k hk => by omega)
    replace hB := more hB hK5
    replace g0 := g0.keep hK5
    replace hU := hU.keep hK5
    replace hR := hR.keep hK5
    replace hC := hC.keep hK5
    obtain ⟨inb, hinb⟩ : ∃ inb, w4.heap.size = inb := ⟨_, rfl⟩
    rw [hinb] at g5 d7 ⊢
    have hib : b2 < inb := by omega
    have hi5 := g5.lt
    obtain ⟨nC, hnC⟩ : ∃ nC, w3.heap.size = nC := ⟨_, rfl⟩
    rw [hnC] at hC hrl
    have hwb : W.heap.size < b2 := by omega
    have hw5 : b2 < w5.heap.size := by omega
    clear gm hK1 ef hz5 hK5 hinb hnC hrl4
    have hE : Eff (fun k => k = b1 ∨ k = b2) w5 w5 := Eff.refl _ _
    have HG0 := Lib.hid (show ∀ w, Eff (fun k => k = b1 ∨ k = b2) w5 w → Blk w W.heap.size #[.int .i64 M.n, .slice aA M.A.length cA, .slice aQ M.Q.length cQ, .int .i64 M.tick, .int .i64 M.gate, .int .i64 M.rmin, .slice aR M.rows.length cR] 54 from fun w hE => hE.blk g0 (by omega))
    have HG5 := Lib.hid (show ∀ w, Eff (fun k => k = b1 ∨ k = b2) w5 w → Blk w inb #[.int .i64 M.n, .slice bA M.A.length dA, .slice bQ M.Q.length dQ, .int .i64 M.tick, .int .i64 M.gate, .int .i64 M.rmin, .slice bR M.rows.length dR] 54 from fun w hE => hE.blk g5 (by omega))
    have HC := Lib.hid (show ∀ w, Eff (fun k => k = b1 ∨ k = b2) w5 w → MM nC w _ M from fun w hE => hC.effB hE (fun k hk => by omega))
    clear g0 g5 hC
    have hx := mspan_all hU (MM.mwB (HC.out _ hE) (by omega)) hl HR.out
    clear d7
    have d7 := (HG5.out _ hE).cell
    go_wp2_with fail
    refine hx.mono ?_
    rintro e w6 ⟨rfl, hV, hD⟩
    clear hx
    clear d7
    replace hB := hB.trans (hD.below (by omega) hB.size)
    replace hE := hE.trans (but_eff hD) (fun _ _ h => .inl h)
    replace hR := hR.but hD (by omega)
    replace hU := hV
    clear hV hD
    have hx := spanR_is hR (HM.out.keep hB) hl hh HR.out ht64
    have d0 := (HG0.out _ hE).cell
    go_wp2_with fail
    refine hx.mono ?_
    rintro e w7 ⟨rfl, hV, hD⟩
    clear hx
    clear d0
    replace hB := hB.trans (hD.below (by omega) hB.size)
    replace hE := hE.trans (but_eff hD) (fun _ _ h => .inr h)
    replace hU := hU.but hD (by omega)
    replace hR := hV
    clear hV hD
    have hx := mflow_all hU (MM.mwB (HC.out _ hE) (by omega)) hl HR.out
    have hs12 := hE.size
    have d7 := (HG5.out _ hE).cell
    go_wp2_with fail
    refine hx.mono ?_
    rintro e w8 ⟨u12, rfl, hP, hV, hD⟩
    clear hx
    clear d7
    replace hB := hB.trans (hD.below (by omega) hB.size)
    replace hE := hE.trans (but_eff hD) (fun _ _ h => .inl h)
    replace hR := hR.but hD (by omega)
    replace hU := hV
    clear hV hD
    obtain ⟨a12, k12, rfl, l12⟩ := hP.ex
    clear hP
    have gm := Blk.new w8 #[.int .i64 0, .int .i64 0, .slice none 0 0] 24
    have hK1 : Below w8.heap.size w8 (w8.alloc (.cells #[.int .i64 0, .int .i64 0, .slice none 0 0] 24)) := upA (upR w8) _
    have hsz12 := hE.size
    go_wp2_with ((with_reducible refine at_st (p := 12) (q := 55) rfl ?_); refine ev_store rfl 24 _ _ rfl rfl gm 0 rfl rfl ([.int .i64 (fmAll r M ticks).1.r, .int .i64 (fmAll r M ticks).1.c, .slice a12 (fmAll r M ticks).1.v.length k12] : List Value) rfl (by kernel_rfl) rfl rfl #[.int .i64 (fmAll r M ticks).1.r, .int .i64 (fmAll r M ticks).1.c, .slice a12 (fmAll r M ticks).1.v.length k12] rfl ?_; intro w9 g12 ef hz; have hK9 : Below w8.heap.size w8 w9 := ef.below hK1 (fun k hk => by omega); have dq := (HG0.out _ (hE.trans (Eff.of (P := fun k => k = b1 ∨ k = b2) hK9) (fun _ _ h => h))).cell)
    replace l12 := l12.mono hs12
    replace hB := more hB hK9
    replace hU := hU.keep hK9
    replace hR := hR.keep hK9
    replace hE := hE.trans (Eff.of (P := fun k => k = b1 ∨ k = b2) hK9) (fun _ _ h => h)
    replace l12 := l12.keep hK9
    have b12 := g12
    have hlb12 : w5.heap.size ≤ w8.heap.size := hsz12
    obtain ⟨n12, hn12⟩ : ∃ z, w8.heap.size = z := ⟨_, rfl⟩
    rw [hn12] at b12 hlb12 ⊢
    try rw [hn12] at dq
    clear gm hK1 ef hz hK9 g12 hn12
    have hx := mflowR_is hR (MM.mw HM.out hB (by omega)) hl hh HR.out ht64
    have hs14 := hE.size
    refine hx.mono ?_
    rintro e w10 ⟨u14, rfl, hP, hV, hD⟩
    clear hx
    clear dq
    replace b12 := hD.blk b12 (by omega)
    replace l12 := l12.eff (but_eff hD) (fun k hk ht => by subst hk; exact hR.ty11 ht)
    replace hB := hB.trans (hD.below (by omega) hB.size)
    replace hE := hE.trans (but_eff hD) (fun _ _ h => .inr h)
    replace hU := hU.but hD (by omega)
    replace hR := hV
    clear hV hD
    obtain ⟨a14, k14, rfl, l14⟩ := hP.ex
    clear hP
    have gm := Blk.new w10 #[.int .i64 0, .int .i64 0, .slice none 0 0] 24
    have hK1 : Below w10.heap.size w10 (w10.alloc (.cells #[.int .i64 0, .int .i64 0, .slice none 0 0] 24)) := upA (upR w10) _
    have hsz14 := hE.size
    go_wp2_with ((with_reducible refine at_st (p := 14) (q := 62) rfl ?_); refine ev_store rfl 24 _ _ rfl rfl gm 0 rfl rfl ([.int .i64 (fmAll r M ticks).1.r, .int .i64 (fmAll r M ticks).1.c, .slice a14 (fmAll r M ticks).1.v.length k14] : List Value) rfl (by kernel_rfl) rfl rfl #[.int .i64 (fmAll r M ticks).1.r, .int .i64 (fmAll r M ticks).1.c, .slice a14 (fmAll r M ticks).1.v.length k14] rfl ?_; intro w11 g14 ef hz; have hK9 : Below w10.heap.size w10 w11 := ef.below hK1 (fun k hk => by omega); have dq := (HG5.out _ (hE.trans (Eff.of (P := fun k => k = b1 ∨ k = b2) hK9) (fun _ _ h => h))).cell)
    replace l14 := l14.mono hs14
    replace hB := more hB hK9
    replace hU := hU.keep hK9
    replace hR := hR.keep hK9
    replace hE := hE.trans (Eff.of (P := fun k => k = b1 ∨ k = b2) hK9) (fun _ _ h => h)
    replace b12 := b12.keep hK9
    replace l12 := l12.keep hK9
    replace l14 := l14.keep hK9
    have b14 := g14
    have hlb14 : w5.heap.size ≤ w10.heap.size := hsz14
    obtain ⟨n14, hn14⟩ : ∃ z, w10.heap.size = z := ⟨_, rfl⟩
    rw [hn14] at b14 hlb14 ⊢
    try rw [hn14] at dq
    clear gm hK1 ef hz hK9 g14 hn14
    have hx := mnoise_all hU (MM.mwB (HC.out _ hE) (by omega)) hl HS.out
    have hs16 := hE.size
    refine hx.mono ?_
    rintro e w12 ⟨u16, rfl, hP, hV, hD⟩
    clear hx
    clear dq
    replace b12 := hD.blk b12 (by omega)
    replace l12 := l12.eff (but_eff hD) (fun k hk ht => by subst hk; exact hU.ty11 ht)
    replace b14 := hD.blk b14 (by omega)
    replace l14 := l14.eff (but_eff hD) (fun k hk ht => by subst hk; exact hU.ty11 ht)
    replace hB := hB.trans (hD.below (by omega) hB.size)
    replace hE := hE.trans (but_eff hD) (fun _ _ h => .inl h)
    replace hR := hR.but hD (by omega)
    replace hU := hV
    clear hV hD
    obtain ⟨a16, k16, rfl, l16⟩ := hP.ex
    clear hP
    have gm := Blk.new w12 #[.int .i64 0, .int .i64 0, .slice none 0 0] 24
    have hK1 : Below w12.heap.size w12 (w12.alloc (.cells #[.int .i64 0, .int .i64 0, .slice none 0 0] 24)) := upA (upR w12) _
    have hsz16 := hE.size
    go_wp2_with ((with_reducible refine at_st (p := 16) (q := 69) rfl ?_); refine ev_store rfl 24 _ _ rfl rfl gm 0 rfl rfl ([.int .i64 (nmAll s M ticks).1.r, .int .i64 (nmAll s M ticks).1.c, .slice a16 (nmAll s M ticks).1.v.length k16] : List Value) rfl (by kernel_rfl) rfl rfl #[.int .i64 (nmAll s M ticks).1.r, .int .i64 (nmAll s M ticks).1.c, .slice a16 (nmAll s M ticks).1.v.length k16] rfl ?_; intro w13 g16 ef hz; have hK9 : Below w12.heap.size w12 w13 := ef.below hK1 (fun k hk => by omega); have dq := (HG0.out _ (hE.trans (Eff.of (P := fun k => k = b1 ∨ k = b2) hK9) (fun _ _ h => h))).cell)
    replace l16 := l16.mono hs16
    replace hB := more hB hK9
    replace hU := hU.keep hK9
    replace hR := hR.keep hK9
    replace hE := hE.trans (Eff.of (P := fun k => k = b1 ∨ k = b2) hK9) (fun _ _ h => h)
    replace b12 := b12.keep hK9
    replace l12 := l12.keep hK9
    replace b14 := b14.keep hK9
    replace l14 := l14.keep hK9
    replace l16 := l16.keep hK9
    have b16 := g16
    have hlb16 : w5.heap.size ≤ w12.heap.size := hsz16
    obtain ⟨n16, hn16⟩ : ∃ z, w12.heap.size = z := ⟨_, rfl⟩
    rw [hn16] at b16 hlb16 ⊢
    try rw [hn16] at dq
    clear gm hK1 ef hz hK9 g16 hn16
    have hx := rnoise_is hR (MM.mw HM.out hB (by omega)) hl hh HS.out ht64
    have hs18 := hE.size
    refine hx.mono ?_
    rintro e w14 ⟨u18, rfl, hP, hV, hD⟩
    clear hx
    clear dq
    replace b12 := hD.blk b12 (by omega)
    replace l12 := l12.eff (but_eff hD) (fun k hk ht => by subst hk; exact hR.ty11 ht)
    replace b14 := hD.blk b14 (by omega)
    replace l14 := l14.eff (but_eff hD) (fun k hk ht => by subst hk; exact hR.ty11 ht)
    replace b16 := hD.blk b16 (by omega)
    replace l16 := l16.eff (but_eff hD) (fun k hk ht => by subst hk; exact hR.ty11 ht)
    replace hB := hB.trans (hD.below (by omega) hB.size)
    replace hE := hE.trans (but_eff hD) (fun _ _ h => .inr h)
    replace hU := hU.but hD (by omega)
    replace hR := hV
    clear hV hD
    obtain ⟨a18, k18, rfl, l18⟩ := hP.ex
    clear hP
    have gm := Blk.new w14 #[.int .i64 0, .int .i64 0, .slice none 0 0] 24
    have hK1 : Below w14.heap.size w14 (w14.alloc (.cells #[.int .i64 0, .int .i64 0, .slice none 0 0] 24)) := upA (upR w14) _
    have hsz18 := hE.size
    go_wp2_with ((with_reducible refine at_st (p := 18) (q := 76) rfl ?_); refine ev_store rfl 24 _ _ rfl rfl gm 0 rfl rfl ([.int .i64 (nmAll s M ticks).1.r, .int .i64 (nmAll s M ticks).1.c, .slice a18 (nmAll s M ticks).1.v.length k18] : List Value) rfl (by kernel_rfl) rfl rfl #[.int .i64 (nmAll s M ticks).1.r, .int .i64 (nmAll s M ticks).1.c, .slice a18 (nmAll s M ticks).1.v.length k18] rfl ?_; intro w15 g18 ef hz; have hK9 : Below w14.heap.size w14 w15 := ef.below hK1 (fun k hk => by omega); have dA := (b12.keep hK9).cell; have dB := (b14.keep hK9).cell; have dC := (b16.keep hK9).cell; have dD := g18.cell)
    replace l18 := l18.mono hs18
    replace hB := more hB hK9
    replace hU := hU.keep hK9
    replace hR := hR.keep hK9
    replace hE := hE.trans (Eff.of (P := fun k => k = b1 ∨ k = b2) hK9) (fun _ _ h => h)
    replace b12 := b12.keep hK9
    replace l12 := l12.keep hK9
    replace b14 := b14.keep hK9
    replace l14 := l14.keep hK9
    replace b16 := b16.keep hK9
    replace l16 := l16.keep hK9
    replace l18 := l18.keep hK9
    have b18 := g18
    have hlb18 : w5.heap.size ≤ w14.heap.size := hsz18
    obtain ⟨n18, hn18⟩ : ∃ z, w14.heap.size = z := ⟨_, rfl⟩
    rw [hn18] at b18 hlb18 ⊢
    clear gm hK1 ef hz hK9 g18 hn18
    have hSM := same_mm (m := (fmAll r M ticks).1) (l12.mi.mono (Nat.zero_le _)) (l14.mi.mono (Nat.zero_le _))
    refine hSM.mono ?_
    rintro e w20 ⟨rfl, hK⟩
    clear hSM dA dB dC dD
    replace hB := more hB hK
    replace hU := hU.keep hK
    replace hR := hR.keep hK
    replace hE := hE.trans (Eff.of (P := fun k => k = b1 ∨ k = b2) hK) (fun _ _ h => h)
    replace b12 := b12.keep hK
    replace l12 := l12.keep hK
    replace b14 := b14.keep hK
    replace l14 := l14.keep hK
    replace b16 := b16.keep hK
    replace l16 := l16.keep hK
    replace b18 := b18.keep hK
    replace l18 := l18.keep hK
    clear hK
    have dC := b16.cell
    have dD := b18.cell
    have hSM := same_mm (m := (nmAll s M ticks).1) (l16.mi.mono (Nat.zero_le _)) (l18.mi.mono (Nat.zero_le _))
    go_wp2_with fail
    refine hSM.mono ?_
    rintro e w21 ⟨rfl, hK⟩
    clear hSM dC dD
    replace hB := more hB hK
    replace hU := hU.keep hK
    replace hR := hR.keep hK
    replace hE := hE.trans (Eff.of (P := fun k => k = b1 ∨ k = b2) hK) (fun _ _ h => h)
    replace b12 := b12.keep hK
    replace l12 := l12.keep hK
    replace b14 := b14.keep hK
    replace l14 := l14.keep hK
    replace b16 := b16.keep hK
    replace l16 := l16.keep hK
    replace b18 := b18.keep hK
    replace l18 := l18.keep hK
    clear hK
    have HU := Lib.hid hU
    generalize (false || (sAll r M ticks).2 || (fmAll r M ticks).2 || (nmAll s M ticks).2) = cc at hU hR
    clear HU
    go_wp2_with fail
    refine (uCut_is hU).mono ?_
    rintro e w22 ⟨rfl, rfl⟩
    go_wp2_with fail
    refine (uCutR_is hR).mono ?_
    rintro e w23 ⟨rfl, rfl⟩
    have d12 := b12.cell
    have hOV := over_is (c := k12) l12.wj
    clear hU hR
    go_wp2_with fail
    refine hOV.mono ?_
    rintro e w24 ⟨rfl, hW⟩
    replace hB := hB.trans (hW.mono (B' := W.heap.size) (by omega)).below
    replace hE : Eff (fun k => k = b1 ∨ k = b2) w5 w24 := ⟨hW.os.trans hE.os, hW.tape.trans hE.tape, hW.output.trans hE.output, by rw [hW.size]; exact hE.size, fun k hk hn => (hW.old k hk).trans (hE.block k hk hn)⟩
    replace b16 := hW.blk b16 (by decide)
    have j16 := hW.wj l16.wj
    clear hOV hW d12 b12 b14 b18 l12 l14 l16 l18
    have d16 := b16.cell
    have hOV := over_is (c := k16) j16
    go_wp2_with fail
    refine hOV.mono ?_
    rintro e w25 ⟨rfl, hW⟩
    replace hB := hB.trans (hW.mono (B' := W.heap.size) (by omega)).below
    replace hE : Eff (fun k => k = b1 ∨ k = b2) w5 w25 := ⟨hW.os.trans hE.os, hW.tape.trans hE.tape, hW.output.trans hE.output, by rw [hW.size]; exact hE.size, fun k hk hn => (hW.old k hk).trans (hE.block k hk hn)⟩
    clear hOV hW d16 b16 j16
    have d7 := (HG5.out _ hE).cell
    have d0 := (HG0.out _ hE).cell
    have hSN := sameModel_same (HC.out _ hE) (HM.out.keep hB)
    go_wp2_with fail
    refine hSN.mono ?_
    rintro e w26 ⟨rfl, hK⟩
    replace hB := more hB hK
    clear hSN hK d7 d0 hE
    go_wp2_with fail
    refine (awake11_is _).mono ?_
    rintro e w27 ⟨rfl, hK⟩
    replace hB := more hB hK
    clear hK
    go_wp2_with fail
    go_ret
    exact ⟨rfl, hB⟩
end Go.Proofs.YtkjbidpafnmogaaGreat.Base
