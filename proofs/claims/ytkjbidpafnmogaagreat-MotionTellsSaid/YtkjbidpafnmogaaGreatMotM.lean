/- model: far, within, and whether a list contains one that is. model: which models may be. model.Check. Appending a matrix, in a plain walk. motion: refuses, moves. motion: span, Span, Flow. motion: Flow. motion: coefficients$1 (it calls itself). motion: coefficients. motion: Noise. -/
import Derived.Test.YtkjbidpafnmogaaGreatKitB
import Derived.Test.YtkjbidpafnmogaaGreatPolM
namespace Go.Proofs.YtkjbidpafnmogaaGreat.Base
open Go.RowKit
set_option linter.unusedVariables false
set_option linter.unusedSimpArgs false

def farP (z : Int) : Prop := z < -68719476736 ∨ 68719476736 < z
instance (z : Int) : Decidable (farP z) := by unfold farP; infer_instance
def offP (z : Int) : Prop := ¬ (0 ≤ z ∧ z ≤ 68719476736)
instance (z : Int) : Decidable (offP z) := by unfold offP; infer_instance

theorem far_is (z : Int) (W : World) : Calls Tryz.prog 120 #[.int .i64 z] W fun e w' => e = .returned (.bool (decide (farP z))) ∧ W = w' := by
  unfold farP
  by_cases h1 : z < -68719476736
  · go_enter Tryz.func120, Tryz.ntmps120
    go_wp2
    go_ret
    exact ⟨by simp [h1], rfl⟩
  · by_cases h2 : 68719476736 < z
    · go_enter Tryz.func120, Tryz.ntmps120
      go_wp2
      go_ret
      exact ⟨by simp [h2], rfl⟩
    · go_enter Tryz.func120, Tryz.ntmps120
      go_wp2
      go_ret
      exact ⟨by rw [decide_eq_false (show ¬ (z < -68719476736 ∨ 68719476736 < z) by omega)]; rfl, rfl⟩
theorem within_is (z l h : Int) (W : World) : Calls Tryz.prog 78 #[.int .i64 z, .int .i64 l, .int .i64 h] W fun e w' => e = .returned (.bool (decide (l ≤ z ∧ z ≤ h))) ∧ W = w' := by
  by_cases h1 : l ≤ z
  · by_cases h2 : z ≤ h
    · go_enter Tryz.func78, Tryz.ntmps78
      go_wp2
      go_ret
      exact ⟨by simp [h1, h2], rfl⟩
    · go_enter Tryz.func78, Tryz.ntmps78
      go_wp2
      go_ret
      exact ⟨by simp [h1, h2], rfl⟩
  · go_enter Tryz.func78, Tryz.ntmps78
    go_wp2
    go_ret
    exact ⟨by simp; omega, rfl⟩
theorem off_is (z : Int) (W : World) : Calls Tryz.prog 83 #[.int .i64 z] W fun e w' => e = .returned (.bool (decide (offP z))) ∧ W = w' := by
  go_enter Tryz.func83, Tryz.ntmps83
  go_wp2_with (go_at_call 78; refine (within_is _ _ _ _).mono ?_; rintro e w' ⟨rfl, rfl⟩)
  go_ret
  exact ⟨by by_cases q1 : 0 ≤ z <;> by_cases q2 : z ≤ 68719476736 <;> simp [offP, q1, q2] <;> omega, rfl⟩

set_option maxHeartbeats 1000000 in
theorem index_far {B : Nat} {W : World} {a : Option Addr} {c : Nat} {zs : List Int} (h : MI B W a c zs) :
    Calls Tryz.prog 121 #[.slice a zs.length c, .func (.func 120) #[] #[]] W fun e w' => ∃ r : Int, e = .returned (.int .i64 r) ∧ (0 ≤ r ↔ ∃ z ∈ zs, farP z) ∧ W = w' := by
  have hl := h.len
  unfold maxLen at hl
  obtain ⟨n, hn⟩ : ∃ n, zs.length = n := ⟨_, rfl⟩
  rw [hn] at hl ⊢
  go_enter Tryz.func121, Tryz.ntmps121
  go_wp2_with fail
  go_loopw [8] (fun i wr => ∃ (k : Nat), k ≤ n ∧ i = .int .i64 k ∧ Hid (∀ j, (hj : j < zs.length) → j < k → ¬ farP zs[j]) ∧ wr = W) (fun i _ => n - (intOf i).toNat)
  case atStart => exact ⟨0, Nat.zero_le _, rfl, fun j _ hj => absurd hj (by omega), rfl⟩
  case round =>
    obtain ⟨k, hk, rfl, hS, rfl⟩ := hrel
    by_cases hkl : k < n
    · have hkl' : (k : Int) < (n : Int) := by omega
      have hk0 : (0 : Int) ≤ (k : Int) := by omega
      have hkz : k < zs.length := by omega
      obtain ⟨x, rfl, hx, hxr⟩ := h.at k hkz
      obtain ⟨z, hz⟩ : ∃ z, zs[k] = z := ⟨_, rfl⟩
      rw [hz] at hx hxr
      have HZ := Lib.hid hz
      clear hz
      go_wp2_with fail
      refine (far_is z _).mono ?_
      rintro e w' ⟨rfl, rfl⟩
      by_cases hp : farP z
      · simp only [hp, decide_true]
        go_wp2_with fail
        go_ret
        exact ⟨_, rfl, ⟨fun _ => ⟨z, by rw [← HZ.out]; exact List.getElem_mem hkz, hp⟩, fun _ => hk0⟩, rfl⟩
      · simp only [hp, decide_false]
        go_wp2_with fail
        go_roundw
        case rel =>
          refine ⟨k + 1, by omega, by go_num, fun j hj hjk => ?_, by trivial⟩
          by_cases e : j = k
          · subst e; rw [HZ.out]; exact hp
          · exact hS.out j hj (by omega)
        case measure => simp [intOf]; omega
    · have hge : ¬ (k : Int) < (n : Int) := by omega
      go_wp2_with fail
      go_ret
      refine ⟨_, rfl, ⟨fun hh => absurd hh (by decide), fun ⟨z, hz, hp⟩ => ?_⟩, rfl⟩
      obtain ⟨j, hj, rfl⟩ := List.mem_iff_getElem.1 hz
      exact absurd hp (hS.out j hj (by omega))

set_option maxHeartbeats 1000000 in
theorem index_off {B : Nat} {W : World} {a : Option Addr} {c : Nat} {zs : List Int} (h : MI B W a c zs) :
    Calls Tryz.prog 121 #[.slice a zs.length c, .func (.func 83) #[] #[]] W fun e w' => ∃ r : Int, e = .returned (.int .i64 r) ∧ (0 ≤ r ↔ ∃ z ∈ zs, offP z) ∧ W = w' := by
  have hl := h.len
  unfold maxLen at hl
  obtain ⟨n, hn⟩ : ∃ n, zs.length = n := ⟨_, rfl⟩
  rw [hn] at hl ⊢
  go_enter Tryz.func121, Tryz.ntmps121
  go_wp2_with fail
  go_loopw [8] (fun i wr => ∃ (k : Nat), k ≤ n ∧ i = .int .i64 k ∧ Hid (∀ j, (hj : j < zs.length) → j < k → ¬ offP zs[j]) ∧ wr = W) (fun i _ => n - (intOf i).toNat)
  case atStart => exact ⟨0, Nat.zero_le _, rfl, fun j _ hj => absurd hj (by omega), rfl⟩
  case round =>
    obtain ⟨k, hk, rfl, hS, rfl⟩ := hrel
    by_cases hkl : k < n
    · have hkl' : (k : Int) < (n : Int) := by omega
      have hk0 : (0 : Int) ≤ (k : Int) := by omega
      have hkz : k < zs.length := by omega
      obtain ⟨x, rfl, hx, hxr⟩ := h.at k hkz
      obtain ⟨z, hz⟩ : ∃ z, zs[k] = z := ⟨_, rfl⟩
      rw [hz] at hx hxr
      have HZ := Lib.hid hz
      clear hz
      go_wp2_with fail
      refine (off_is z _).mono ?_
      rintro e w' ⟨rfl, rfl⟩
      by_cases hp : offP z
      · simp only [hp, decide_true]
        go_wp2_with fail
        go_ret
        exact ⟨_, rfl, ⟨fun _ => ⟨z, by rw [← HZ.out]; exact List.getElem_mem hkz, hp⟩, fun _ => hk0⟩, rfl⟩
      · simp only [hp, decide_false]
        go_wp2_with fail
        go_roundw
        case rel =>
          refine ⟨k + 1, by omega, by go_num, fun j hj hjk => ?_, by trivial⟩
          by_cases e : j = k
          · subst e; rw [HZ.out]; exact hp
          · exact hS.out j hj (by omega)
        case measure => simp [intOf]; omega
    · have hge : ¬ (k : Int) < (n : Int) := by omega
      go_wp2_with fail
      go_ret
      refine ⟨_, rfl, ⟨fun hh => absurd hh (by decide), fun ⟨z, hz, hp⟩ => ?_⟩, rfl⟩
      obtain ⟨j, hj, rfl⟩ := List.mem_iff_getElem.1 hz
      exact absurd hp (hS.out j hj (by omega))

theorem contains_far {B : Nat} {W : World} {a : Option Addr} {c : Nat} {zs : List Int} (h : MI B W a c zs) :
    Calls Tryz.prog 82 #[.slice a zs.length c, .func (.func 120) #[] #[]] W fun e w' => ∃ r : Bool, e = .returned (.bool r) ∧ (r = true ↔ ∃ z ∈ zs, farP z) ∧ W = w' := by
  go_enter Tryz.func82, Tryz.ntmps82
  go_wp2_with fail
  refine (index_far h).mono ?_
  rintro e w' ⟨r, rfl, hr, rfl⟩
  go_wp2_with fail
  go_ret
  exact ⟨_, rfl, decide_eq_true_iff, rfl⟩

theorem contains_off {B : Nat} {W : World} {a : Option Addr} {c : Nat} {zs : List Int} (h : MI B W a c zs) :
    Calls Tryz.prog 82 #[.slice a zs.length c, .func (.func 83) #[] #[]] W fun e w' => ∃ r : Bool, e = .returned (.bool r) ∧ (r = true ↔ ∃ z ∈ zs, offP z) ∧ W = w' := by
  go_enter Tryz.func82, Tryz.ntmps82
  go_wp2_with fail
  refine (index_off h).mono ?_
  rintro e w' ⟨r, rfl, hr, rfl⟩
  go_wp2_with fail
  go_ret
  exact ⟨_, rfl, decide_eq_true_iff, rfl⟩

end Go.Proofs.YtkjbidpafnmogaaGreat.Base
namespace Go.Proofs.YtkjbidpafnmogaaGreat.Base
open Go.RowKit
set_option linter.unusedVariables false
set_option linter.unusedSimpArgs false

/-- A moves nothing in a circle. -/
def badA (n : Int) (A : List Int) (j : Nat) : Prop := ∃ h : j < A.length, A[j] ≠ 0 ∧ ((j : Int) % n ≤ (j : Int) / n ∨ farP A[j])
def okA (n : Int) (A : List Int) : Prop := (∀ j, ¬ badA n A j) ∧ (A.length : Int) = n * n
def lastS (rows : List Rw) (j : Nat) : Int := if h : 0 < j ∧ j - 1 < rows.length then rows[j - 1].s else 1
def badR (n rmin : Int) (rows : List Rw) (j : Nat) : Prop :=
  ∃ h : j < rows.length, ¬ (lastS rows j ≤ rows[j].s ∧ rows[j].s ≤ 16) ∨ (rows[j].h.length : Int) ≠ n ∨ (∃ z ∈ rows[j].h, farP z) ∨ rows[j].r < rmin
def okR (n rmin : Int) (rows : List Rw) : Prop := (∀ j, ¬ badR n rmin rows j) ∧ rows.length ≤ 24
def okQ (n : Int) (Q : List Int) : Prop := (Q.length : Int) = n ∧ ¬ ∃ z ∈ Q, offP z
/-- The model may be. -/
structure okM (M : Mdl) : Prop where
  n : 1 ≤ M.n ∧ M.n ≤ 6
  a : okA M.n M.A
  q : okQ M.n M.Q
  t : (1 ≤ M.tick ∧ M.tick ≤ 4294967296) ∧ 1 ≤ M.gate ∧ 1 ≤ M.rmin
  r : okR M.n M.rmin M.rows

/-- It is told whether p is so. -/
def TellsB (e : Ending) (p : Prop) : Prop := ∃ r : Bool, e = .returned (.bool r) ∧ (r = true ↔ p)
theorem TellsB.yes {p : Prop} (h : p) : TellsB (.returned (.bool true)) p := ⟨true, rfl, fun _ => h, fun _ => rfl⟩
theorem TellsB.no {p : Prop} (h : ¬ p) : TellsB (.returned (.bool false)) p := ⟨false, rfl, fun e => (by cases e), fun e => absurd e h⟩

set_option maxHeartbeats 4000000 in
theorem moves_is {B : Nat} {W : World} {v : Value} {M : Mdl} (hM : MM B W v M) (hn : 1 ≤ M.n ∧ M.n ≤ 6) :
    Calls Tryz.prog 80 #[v] W fun e w' => TellsB e (okA M.n M.A) ∧ Below W.heap.size W w' := by
  obtain ⟨aA, cA, aQ, cQ, aR, cR, rfl, hA, hQ, hR⟩ := hM.ex
  obtain ⟨m, A, Q, tick, gate, rmin, rows⟩ := M
  clear hM hQ hR
  dsimp only at *
  have hl := hA.len
  unfold maxLen at hl
  obtain ⟨n, hnl⟩ : ∃ n, A.length = n := ⟨_, rfl⟩
  rw [hnl] at hl ⊢
  generalize Q.length = lQ at *
  generalize rows.length = lR at *
  obtain ⟨hn1, hn2⟩ := hn
  have hm0 : ¬ m = 0 := by omega
  have hmm : IntKind.i64.wrap (m * m) = m * m := by
    have h1 : 0 ≤ m * m := Int.mul_nonneg (by omega) (by omega)
    have h2 : m * m ≤ 6 * 6 := Int.mul_le_mul hn2 hn2 (by omega) (by omega)
    exact IntWalk.i64_in _ (by omega)
  go_enter Tryz.func80, Tryz.ntmps80
  go_wp2_with fail
  have hX := Blk.new W #[Value.int IntKind.i64 m, Value.slice aA n cA, Value.slice aQ lQ cQ, Value.int IntKind.i64 tick, Value.int IntKind.i64 gate, Value.int IntKind.i64 rmin, Value.slice aR lR cR] 54
  have hB : Below W.heap.size W (W.alloc (.cells #[Value.int IntKind.i64 m, Value.slice aA n cA, Value.slice aQ lQ cQ, Value.int IntKind.i64 tick, Value.int IntKind.i64 gate, Value.int IntKind.i64 rmin, Value.slice aR lR cR] 54)) := (Below.refl _ _).alloc (Nat.le_refl _) _
  have hA1 := hA.keep hB
  generalize W.alloc (.cells #[Value.int IntKind.i64 m, Value.slice aA n cA, Value.slice aQ lQ cQ, Value.int IntKind.i64 tick, Value.int IntKind.i64 gate, Value.int IntKind.i64 rmin, Value.slice aR lR cR] 54) = W1 at *
  have x0 := hX.cell 0
  have x1 := hX.cell 1
  simp at x0 x1
  clear hX
  go_loopw [8] (fun i wr => ∃ (k : Nat), k ≤ n ∧ i = .int .i64 k ∧ Hid (∀ j, j < k → ¬ badA m A j) ∧ Below W1.heap.size W1 wr) (fun i _ => n - (intOf i).toNat)
  case atStart => exact ⟨0, Nat.zero_le _, rfl, fun j hj => absurd hj (by omega), Below.refl _ _⟩
  case round =>
    obtain ⟨k, hk, rfl, hS, hBr⟩ := hrel
    have hW : Below W.heap.size W wr := more hB hBr
    have x0r := (hBr.cell (World.block_lt_of_cell? W1 _ x0)).trans x0
    have x1r := (hBr.cell (World.block_lt_of_cell? W1 _ x1)).trans x1
    have hAr := hA1.keep hBr
    clear x0 x1
    by_cases hkl : k < n
    · have hkl' : (k : Int) < (n : Int) := by omega
      have hk0 : (0 : Int) ≤ (k : Int) := by omega
      have hkz : k < A.length := by omega
      obtain ⟨x, rfl, hx, hxr⟩ := hAr.at k hkz
      obtain ⟨z, hz⟩ : ∃ z, A[k] = z := ⟨_, rfl⟩
      rw [hz] at hx hxr
      have HZ := Lib.hid hz
      clear hz
      have hr0 : (k : Int).tmod m = (k : Int) % m := Int.tmod_eq_emod_of_nonneg hk0
      have hd0 : (k : Int).tdiv m = (k : Int) / m := Int.tdiv_eq_ediv_of_nonneg hk0
      have hr1 : 0 ≤ (k : Int) % m := Int.emod_nonneg _ hm0
      have hr2 : (k : Int) % m < m := Int.emod_lt_of_pos _ (by omega)
      have hd1 : 0 ≤ (k : Int) / m := Int.ediv_nonneg hk0 (by omega)
      have hd2 : (k : Int) / m ≤ k := Int.ediv_le_self _ hk0
      have hbad : badA m A k ↔ z ≠ 0 ∧ ((k : Int) % m ≤ (k : Int) / m ∨ farP z) := by
        constructor
        · rintro ⟨h, hb⟩
          rw [HZ.out] at hb
          exact hb
        · intro hb
          refine ⟨hkz, ?_⟩
          rw [HZ.out]
          exact hb
      have HBD := Lib.hid hbad
      clear hbad
      obtain ⟨r, hr⟩ : ∃ r, (k : Int) % m = r := ⟨_, rfl⟩
      obtain ⟨d, hd⟩ : ∃ d, (k : Int) / m = d := ⟨_, rfl⟩
      rw [hr] at hr0 hr1 hr2
      rw [hd] at hd0 hd1 hd2
      have HR := Lib.hid hr
      have HD := Lib.hid hd
      clear hr hd
      have wr1 : IntKind.i64.wrap r = r := IntWalk.i64_in _ (by omega)
      have wd1 : IntKind.i64.wrap d = d := IntWalk.i64_in _ (by omega)
      have wr0 : IntKind.i64.wrap ((k : Int).tmod m) = r := by rw [hr0]; exact wr1
      have wd0 : IntKind.i64.wrap ((k : Int).tdiv m) = d := by rw [hd0]; exact wd1
      have hnext : ¬ badA m A k → Hid (∀ j, j < k + 1 → ¬ badA m A j) := fun hb j hj => by
        by_cases e : j = k
        · rw [e]; exact hb
        · exact hS.out j (by omega)
      have HN := Lib.hid hnext
      clear hnext hS
      by_cases hz0 : z = 0
      · go_wp2_with fail
        go_quiet (fail)
        go_wp2_with fail
        go_roundw
        case rel => exact ⟨k + 1, by omega, by go_num, HN.out (by rw [HBD.out]; intro h; exact h.1 hz0), more hBr (below_drewN _ _)⟩
        case measure => simp [intOf]; omega
      · by_cases hrd : r ≤ d
        · go_wp2_with fail
          go_quiet (fail)
          go_wp2_with fail
          go_ret
          exact ⟨TellsB.no (fun h => absurd (HBD.out.2 ⟨hz0, .inl (by rw [HR.out, HD.out]; exact hrd)⟩) (h.1 k)), more hW (below_drewN _ _)⟩
        · have hrd2 : d < r := by omega
          have hrd3 : decide (r ≤ d) = false := decide_eq_false hrd
          by_cases hf : farP z
          · have HF : ∀ w, Calls Tryz.prog 120 #[.int .i64 z] w fun e w' => e = .returned (.bool true) ∧ ∃ m, w' = w.drewN m := fun w => (far_is z w).mono fun _ _ ⟨he, hw⟩ => ⟨by rw [he, decide_eq_true hf], 0, hw.symm⟩
            go_wp2_with fail
            go_quiet (first | (go_at_call_of 120 (Value.int IntKind.i64 z); exact Calls.quiet_of (HF _)))
            go_wp2_with fail
            go_ret
            exact ⟨TellsB.no (fun h => absurd (HBD.out.2 ⟨hz0, .inr hf⟩) (h.1 k)), more hW (below_drewN _ _)⟩
          · have HF : ∀ w, Calls Tryz.prog 120 #[.int .i64 z] w fun e w' => e = .returned (.bool false) ∧ ∃ m, w' = w.drewN m := fun w => (far_is z w).mono fun _ _ ⟨he, hw⟩ => ⟨by rw [he, decide_eq_false hf], 0, hw.symm⟩
            go_wp2_with fail
            go_quiet (first | (go_at_call_of 120 (Value.int IntKind.i64 z); exact Calls.quiet_of (HF _)))
            go_wp2_with fail
            go_roundw
            case rel =>
              refine ⟨k + 1, by omega, by go_num, HN.out ?_, more hBr (below_drewN _ _)⟩
              rw [HBD.out, HR.out, HD.out]
              rintro ⟨_, h | h⟩
              · omega
              · exact hf h
            case measure => simp [intOf]; omega
    · have hge : ¬ (k : Int) < (n : Int) := by omega
      have hall : ∀ j, ¬ badA m A j := fun j hb => by
        obtain ⟨hj, hbb⟩ := hb
        exact hS.out j (by omega) ⟨hj, hbb⟩
      have HA := Lib.hid hall
      clear hall hS
      obtain ⟨mm, hmd⟩ : ∃ mm, m * m = mm := ⟨_, rfl⟩
      have HMD := Lib.hid hmd
      rw [hmd] at hmm
      by_cases hnm : (n : Int) = mm
      · go_wp2_with fail
        go_ret
        exact ⟨TellsB.yes ⟨HA.out, by rw [hnl, HMD.out]; exact hnm⟩, hW⟩
      · have hne : ((n : Int) == mm) = false := by simp; omega
        go_wp2_with fail
        go_ret
        exact ⟨TellsB.no (fun h => absurd h.2 (by rw [hnl, HMD.out]; exact hnm)), hW⟩

set_option maxHeartbeats 4000000 in
set_option maxRecDepth 100000 in
theorem sees_is {B : Nat} {W : World} {v : Value} {M : Mdl} (hM : MM B W v M) (hlen : M.rows.length ≤ 1000) :
    Calls Tryz.prog 86 #[v] W fun e w' => TellsB e (okR M.n M.rmin M.rows) ∧ Below W.heap.size W w' := by
  obtain ⟨aA, cA, aQ, cQ, aR, cR, rfl, hA, hQ, hR⟩ := hM.ex
  have hmn := hM.n
  have hmr := hM.rmin
  obtain ⟨m, A, Q, tick, gate, rmin, rows⟩ := M
  clear hM hQ hA
  dsimp only at *
  obtain ⟨n, hnl⟩ : ∃ n, rows.length = n := ⟨_, rfl⟩
  rw [hnl] at hlen ⊢
  generalize Q.length = lQ at *
  generalize A.length = lA at *
  unfold I64 at hmn hmr
  go_enter Tryz.func86, Tryz.ntmps86
  go_wp2_with fail
  have hX := Blk.new W #[Value.int IntKind.i64 m, Value.slice aA lA cA, Value.slice aQ lQ cQ, Value.int IntKind.i64 tick, Value.int IntKind.i64 gate, Value.int IntKind.i64 rmin, Value.slice aR n cR] 54
  have hB : Below W.heap.size W (W.alloc (.cells #[Value.int IntKind.i64 m, Value.slice aA lA cA, Value.slice aQ lQ cQ, Value.int IntKind.i64 tick, Value.int IntKind.i64 gate, Value.int IntKind.i64 rmin, Value.slice aR n cR] 54)) := (Below.refl _ _).alloc (Nat.le_refl _) _
  have hR1 := hR.keep hB
  generalize W.alloc (.cells #[Value.int IntKind.i64 m, Value.slice aA lA cA, Value.slice aQ lQ cQ, Value.int IntKind.i64 tick, Value.int IntKind.i64 gate, Value.int IntKind.i64 rmin, Value.slice aR n cR] 54) = W1 at *
  have x0 := hX.cell 0
  have x5 := hX.cell 5
  have x6 := hX.cell 6
  simp at x0 x5 x6
  clear hX
  go_loopw [3, 9] (fun l i wr => ∃ (k : Nat), k ≤ n ∧ i = .int .i64 k ∧ l = .int .i64 (lastS rows k) ∧ Hid (∀ j, j < k → ¬ badR m rmin rows j) ∧ Below W1.heap.size W1 wr) (fun _ i _ => n - (intOf i).toNat)
  case atStart => exact ⟨0, Nat.zero_le _, rfl, rfl, fun j hj => absurd hj (by omega), Below.refl _ _⟩
  case round =>
    obtain ⟨k, hk, rfl, rfl, hS, hBr⟩ := hrel
    have hW : Below W.heap.size W wr := more hB hBr
    have x0r := (hBr.cell (World.block_lt_of_cell? W1 _ x0)).trans x0
    have x5r := (hBr.cell (World.block_lt_of_cell? W1 _ x5)).trans x5
    have x6r := (hBr.cell (World.block_lt_of_cell? W1 _ x6)).trans x6
    have hRr := hR1.keep hBr
    clear x0 x5 x6
    by_cases hkl : k < n
    · have hkl' : (k : Int) < (n : Int) := by omega
      have hk0 : (0 : Int) ≤ (k : Int) := by omega
      have hkz : k < rows.length := by omega
      obtain ⟨x, rfl, hrow⟩ := hRr.at_ k hkz
      obtain ⟨⟨s, h, r⟩, hz⟩ : ∃ z, rows[k] = z := ⟨_, rfl⟩
      rw [hz] at hrow
      obtain ⟨aH, cH, y0, y1, y2, hH⟩ := hrow.ex
      have hs64 := hrow.s
      have hr64 := hrow.r
      clear hrow
      dsimp only at y0 y1 y2 hH hs64 hr64
      have HZ := Lib.hid hz
      clear hz
      obtain ⟨ls, hls⟩ : ∃ ls, lastS rows k = ls := ⟨_, rfl⟩
      have hbad : badR m rmin rows k ↔ (¬ (ls ≤ s ∧ s ≤ 16) ∨ (h.length : Int) ≠ m ∨ (∃ z ∈ h, farP z) ∨ r < rmin) := by
        rw [← hls]
        constructor
        · rintro ⟨_, hb⟩
          rw [HZ.out] at hb
          exact hb
        · intro hb
          refine ⟨hkz, ?_⟩
          rw [HZ.out]
          exact hb
      have hnl2 : lastS rows (k + 1) = s := by
        unfold lastS
        rw [dif_pos ⟨by omega, by simpa using hkz⟩]
        simp only [Nat.add_sub_cancel]
        rw [HZ.out]
      rw [hls]
      have HBD := Lib.hid hbad
      have HLS := Lib.hid hnl2
      have hnext : ¬ badR m rmin rows k → Hid (∀ j, j < k + 1 → ¬ badR m rmin rows j) := fun hb j hj => by
        by_cases e : j = k
        · rw [e]; exact hb
        · exact hS.out j (by omega)
      have HN := Lib.hid hnext
      clear hnext hS hbad hnl2 hls
      have hl1 := hH.len
      unfold maxLen at hl1
      obtain ⟨nh, hnh⟩ : ∃ nh, h.length = nh := ⟨_, rfl⟩
      have HNH := Lib.hid hnh
      simp only [hnh] at y1 hl1
      clear hnh
      go_wp2_with fail
      have hbx := Blk.new wr #[.int .i64 s, .slice aH nh cH, .int .i64 r] 100
      have hBx : Below wr.heap.size wr (wr.alloc (.cells #[.int .i64 s, .slice aH nh cH, .int .i64 r] 100)) := (Below.refl _ _).alloc (Nat.le_refl _) _
      generalize wr.alloc (.cells #[.int .i64 s, .slice aH nh cH, .int .i64 r] 100) = wx at *
      replace hBr := more hBr hBx
      replace hW := more hW hBx
      replace x0r := (hBx.cell (World.block_lt_of_cell? wr _ x0r)).trans x0r
      replace x5r := (hBx.cell (World.block_lt_of_cell? wr _ x5r)).trans x5r
      replace x6r := (hBx.cell (World.block_lt_of_cell? wr _ x6r)).trans x6r
      replace hH := hH.keep hBx
      have z0 := hbx.cell 0
      have z1 := hbx.cell 1
      have z2 := hbx.cell 2
      simp at z0 z1 z2
      clear hbx y0 y1 y2 hBx
      refine (within_is _ _ _ _).mono ?_
      rintro e w' ⟨rfl, rfl⟩
      by_cases g1 : ls ≤ s ∧ s ≤ 16
      · simp only [decide_eq_true g1]
        by_cases g2 : (nh : Int) = m
        · go_wp2_with fail
          have hC := contains_far hH
          rw [HNH.out] at hC
          refine hC.mono ?_
          rintro e w' ⟨b, rfl, hb, rfl⟩
          cases b with
          | true =>
            have hbb := Lib.hid (hb.1 rfl)
            clear hb
            go_wp2_with fail
            go_ret
            exact ⟨TellsB.no (fun h => h.1 k (HBD.out.2 (.inr (.inr (.inl hbb.out))))), hW⟩
          | false =>
            have hbb := Lib.hid (show ¬ ∃ z ∈ h, farP z from fun h => by cases hb.2 h)
            clear hb
            by_cases g3 : r < rmin
            · go_wp2_with fail
              go_ret
              exact ⟨TellsB.no (fun h => h.1 k (HBD.out.2 (.inr (.inr (.inr g3))))), hW⟩
            · go_wp2_with fail
              go_roundw
              case rel =>
                refine ⟨k + 1, by omega, by go_num, by rw [HLS.out], HN.out ?_, hBr⟩
                rw [HBD.out, HNH.out]
                rintro (h | h | h | h)
                · exact h g1
                · exact h g2
                · exact hbb.out h
                · omega
              case measure => simp [intOf]; omega
        · have hne : ((nh : Int) == m) = false := by simp; omega
          go_wp2_with fail
          go_ret
          exact ⟨TellsB.no (fun h => h.1 k (HBD.out.2 (.inr (.inl (by rw [HNH.out]; exact g2))))), hW⟩
      · simp only [decide_eq_false g1]
        go_wp2_with fail
        go_ret
        exact ⟨TellsB.no (fun h => h.1 k (HBD.out.2 (.inl g1))), hW⟩
    · have hge : ¬ (k : Int) < (n : Int) := by omega
      have hall : ∀ j, ¬ badR m rmin rows j := fun j hb => by
        obtain ⟨hj, hbb⟩ := hb
        exact hS.out j (by omega) ⟨hj, hbb⟩
      have HA := Lib.hid hall
      clear hall hS
      by_cases hn24 : n ≤ 24
      · have hn24' : (n : Int) ≤ 24 := by omega
        go_wp2_with fail
        go_ret
        exact ⟨TellsB.yes ⟨HA.out, by rw [hnl]; exact hn24⟩, hW⟩
      · have hn24' : ¬ (n : Int) ≤ 24 := by omega
        go_wp2_with fail
        go_ret
        exact ⟨TellsB.no (fun h => hn24 (by rw [← hnl]; exact h.2)), hW⟩

end Go.Proofs.YtkjbidpafnmogaaGreat.Base
namespace Go.Proofs.YtkjbidpafnmogaaGreat.Base
open Go.RowKit
set_option linter.unusedVariables false
set_option linter.unusedSimpArgs false

/-- OK is told if p is so, else the error r. -/
def TellsC (e : Ending) (r : Int) (p : Prop) : Prop := (p ∧ e = .returned (.int .i64 0)) ∨ (¬ p ∧ e = .returned (.int .i64 r))

theorem chk1_is {W : World} {bx : Nat} {m : Int} (x0 : W.cell? ⟨bx, 0, none⟩ = some (.int .i64 m)) :
    Calls Tryz.prog 77 #[.pointer (some ⟨bx, 0, none⟩)] W fun e w' => e = .returned (.bool (decide (1 ≤ m ∧ m ≤ 6))) ∧ W = w' := by
  go_enter Tryz.func77, Tryz.ntmps77
  go_wp2_with fail
  refine (within_is _ _ _ _).mono ?_
  rintro e w' ⟨rfl, rfl⟩
  obtain ⟨q, hq⟩ : ∃ q, decide (1 ≤ m ∧ m ≤ 6) = q := ⟨_, rfl⟩
  have HQ := Lib.hid hq
  rw [hq]
  clear hq
  go_wp2_with fail
  go_ret
  exact ⟨by rw [HQ.out]; rfl, rfl⟩
theorem chk2_is {B : Nat} {W : World} {bx : Nat} {M : Mdl} {aA aQ aR : Option Addr} {cA cQ cR : Nat} (hX : Blk W bx #[.int .i64 M.n, .slice aA M.A.length cA, .slice aQ M.Q.length cQ, .int .i64 M.tick, .int .i64 M.gate, .int .i64 M.rmin, .slice aR M.rows.length cR] 54)
    (hM : MM B W (.agg #[.int .i64 M.n, .slice aA M.A.length cA, .slice aQ M.Q.length cQ, .int .i64 M.tick, .int .i64 M.gate, .int .i64 M.rmin, .slice aR M.rows.length cR]) M) (hn : 1 ≤ M.n ∧ M.n ≤ 6) :
    Calls Tryz.prog 79 #[.pointer (some ⟨bx, 0, none⟩)] W fun e w' => TellsB e (okA M.n M.A) ∧ Below W.heap.size W w' := by
  have x0 := hX.cell 0
  have x1 := hX.cell 1
  have x2 := hX.cell 2
  have x3 := hX.cell 3
  have x4 := hX.cell 4
  have x5 := hX.cell 5
  have x6 := hX.cell 6
  simp at x0 x1 x2 x3 x4 x5 x6
  go_enter Tryz.func79, Tryz.ntmps79
  go_wp2_with fail
  refine (moves_is hM hn).mono ?_
  rintro e w' ⟨⟨q, rfl, hq⟩, hK⟩
  go_wp2_with fail
  go_ret
  exact ⟨⟨q, rfl, hq⟩, hK⟩
theorem chk5_is {B : Nat} {W : World} {bx : Nat} {M : Mdl} {aA aQ aR : Option Addr} {cA cQ cR : Nat} (hX : Blk W bx #[.int .i64 M.n, .slice aA M.A.length cA, .slice aQ M.Q.length cQ, .int .i64 M.tick, .int .i64 M.gate, .int .i64 M.rmin, .slice aR M.rows.length cR] 54)
    (hM : MM B W (.agg #[.int .i64 M.n, .slice aA M.A.length cA, .slice aQ M.Q.length cQ, .int .i64 M.tick, .int .i64 M.gate, .int .i64 M.rmin, .slice aR M.rows.length cR]) M) (hl : M.rows.length ≤ 1000) :
    Calls Tryz.prog 85 #[.pointer (some ⟨bx, 0, none⟩)] W fun e w' => TellsB e (okR M.n M.rmin M.rows) ∧ Below W.heap.size W w' := by
  have x0 := hX.cell 0
  have x1 := hX.cell 1
  have x2 := hX.cell 2
  have x3 := hX.cell 3
  have x4 := hX.cell 4
  have x5 := hX.cell 5
  have x6 := hX.cell 6
  simp at x0 x1 x2 x3 x4 x5 x6
  go_enter Tryz.func85, Tryz.ntmps85
  go_wp2_with fail
  refine (sees_is hM hl).mono ?_
  rintro e w' ⟨⟨q, rfl, hq⟩, hK⟩
  go_wp2_with fail
  go_ret
  exact ⟨⟨q, rfl, hq⟩, hK⟩
theorem chk3_is {B : Nat} {W : World} {bx : Nat} {m : Int} {aQ : Option Addr} {cQ : Nat} {Q : List Int} (x0 : W.cell? ⟨bx, 0, none⟩ = some (.int .i64 m)) (x2 : W.cell? ⟨bx, 2, none⟩ = some (.slice aQ Q.length cQ)) (hQ : MI B W aQ cQ Q) :
    Calls Tryz.prog 81 #[.pointer (some ⟨bx, 0, none⟩)] W fun e w' => TellsB e (okQ m Q) ∧ W = w' := by
  have hl := hQ.len
  unfold maxLen at hl
  have hC := Lib.hid (contains_off hQ)
  obtain ⟨n, hn⟩ : ∃ n, Q.length = n := ⟨_, rfl⟩
  rw [hn] at x2 hl hC
  have HN := Lib.hid hn
  clear hn
  by_cases g : (n : Int) = m
  · go_enter Tryz.func81, Tryz.ntmps81
    go_wp2_with fail
    refine hC.out.mono ?_
    rintro e w' ⟨q, rfl, hq, rfl⟩
    cases q with
    | true =>
      have HQ := Lib.hid (hq.1 rfl)
      clear hq
      go_wp2_with fail
      go_ret
      exact ⟨TellsB.no (fun h => h.2 HQ.out), rfl⟩
    | false =>
      have HQ := Lib.hid (show ¬ ∃ z ∈ Q, offP z from fun h => by cases hq.2 h)
      clear hq
      go_wp2_with fail
      go_ret
      exact ⟨TellsB.yes ⟨by rw [HN.out]; exact g, HQ.out⟩, rfl⟩
  · have hne : ((n : Int) == m) = false := by simp; omega
    go_enter Tryz.func81, Tryz.ntmps81
    go_wp2_with fail
    go_ret
    exact ⟨TellsB.no (fun h => g (by rw [← HN.out]; exact h.1)), rfl⟩
theorem chk4_is {W : World} {bx : Nat} {t g r : Int} (x3 : W.cell? ⟨bx, 3, none⟩ = some (.int .i64 t)) (x4 : W.cell? ⟨bx, 4, none⟩ = some (.int .i64 g)) (x5 : W.cell? ⟨bx, 5, none⟩ = some (.int .i64 r)) :
    Calls Tryz.prog 84 #[.pointer (some ⟨bx, 0, none⟩)] W fun e w' => TellsB e ((1 ≤ t ∧ t ≤ 4294967296) ∧ 1 ≤ g ∧ 1 ≤ r) ∧ W = w' := by
  by_cases g1 : 1 ≤ t ∧ t ≤ 4294967296
  · by_cases g2 : 1 ≤ g
    · by_cases g3 : 1 ≤ r
      · go_enter Tryz.func84, Tryz.ntmps84
        go_wp2_with fail
        refine (within_is _ _ _ _).mono ?_
        rintro e w' ⟨rfl, rfl⟩
        simp only [decide_eq_true g1]
        go_wp2_with fail
        go_ret
        exact ⟨TellsB.yes ⟨g1, g2, g3⟩, rfl⟩
      · go_enter Tryz.func84, Tryz.ntmps84
        go_wp2_with fail
        refine (within_is _ _ _ _).mono ?_
        rintro e w' ⟨rfl, rfl⟩
        simp only [decide_eq_true g1]
        go_wp2_with fail
        go_ret
        have e3 : decide (1 ≤ r) = false := decide_eq_false (by omega)
        show TellsB (.returned (.bool (decide (1 ≤ r)))) _ ∧ _
        rw [e3]
        exact ⟨TellsB.no (fun h => by omega), rfl⟩
    · go_enter Tryz.func84, Tryz.ntmps84
      go_wp2_with fail
      refine (within_is _ _ _ _).mono ?_
      rintro e w' ⟨rfl, rfl⟩
      simp only [decide_eq_true g1]
      go_wp2_with fail
      go_ret
      exact ⟨TellsB.no (fun h => by omega), rfl⟩
  · go_enter Tryz.func84, Tryz.ntmps84
    go_wp2_with fail
    refine (within_is _ _ _ _).mono ?_
    rintro e w' ⟨rfl, rfl⟩
    simp only [decide_eq_false g1]
    go_wp2_with fail
    go_ret
    exact ⟨TellsB.no (fun h => g1 h.1), rfl⟩

/-- Within Check: the model's box, and what is asked of it. -/
structure SCk (w0 : World) (M : Mdl) (aA : Option Addr) (cA : Nat) (aQ : Option Addr) (cQ : Nat) (aR : Option Addr) (cR : Nat) (W : World) : Prop where
  x : Blk W w0.heap.size #[Value.int .i64 M.n, .slice aA M.A.length cA, .slice aQ M.Q.length cQ, .int .i64 M.tick, .int .i64 M.gate, .int .i64 M.rmin, .slice aR M.rows.length cR] 54
  f : Blk W (w0.heap.size + 1) #[Value.func (Fn.func 77) #[] #[Value.pointer (some ⟨w0.heap.size, 0, none⟩)], Value.func (Fn.func 79) #[] #[Value.pointer (some ⟨w0.heap.size, 0, none⟩)], Value.func (Fn.func 81) #[] #[Value.pointer (some ⟨w0.heap.size, 0, none⟩)], Value.func (Fn.func 84) #[] #[Value.pointer (some ⟨w0.heap.size, 0, none⟩)], Value.func (Fn.func 85) #[] #[Value.pointer (some ⟨w0.heap.size, 0, none⟩)]] 29
  bel : Below w0.heap.size w0 W
theorem SCk.keep {w0 W W' : World} {M : Mdl} {aA : Option Addr} {cA : Nat} {aQ : Option Addr} {cQ : Nat} {aR : Option Addr} {cR : Nat} (h : SCk w0 M aA cA aQ cQ aR cR W) (hb : Below W.heap.size W W') : SCk w0 M aA cA aQ cQ aR cR W' :=
  ⟨h.x.keep hb, h.f.keep hb, more h.bel hb⟩

set_option maxHeartbeats 4000000 in
set_option maxRecDepth 100000 in
theorem check_is {B : Nat} {w0 : World} {v : Value} {M : Mdl} (hM : MM B w0 v M) (hlen : M.rows.length ≤ 1000) :
    Calls Tryz.prog 38 #[v] w0 fun e w' => TellsC e 2 (okM M) ∧ Below w0.heap.size w0 w' := by
  obtain ⟨aA, cA, aQ, cQ, aR, cR, rfl, hA, hQ, hR⟩ := hM.ex
  go_enter Tryz.func38, Tryz.ntmps38
  go_wp2_with fail
  obtain ⟨W, hW⟩ : ∃ W : World, (w0.alloc (.cells #[Value.int .i64 M.n, .slice aA M.A.length cA, .slice aQ M.Q.length cQ, .int .i64 M.tick, .int .i64 M.gate, .int .i64 M.rmin, .slice aR M.rows.length cR] 54)).alloc (.cells #[Value.func (Fn.func 77) #[] #[Value.pointer (some ⟨w0.heap.size, 0, none⟩)], Value.func (Fn.func 79) #[] #[Value.pointer (some ⟨w0.heap.size, 0, none⟩)], Value.func (Fn.func 81) #[] #[Value.pointer (some ⟨w0.heap.size, 0, none⟩)], Value.func (Fn.func 84) #[] #[Value.pointer (some ⟨w0.heap.size, 0, none⟩)], Value.func (Fn.func 85) #[] #[Value.pointer (some ⟨w0.heap.size, 0, none⟩)]] 29) = W := ⟨_, rfl⟩
  have hS : SCk w0 M aA cA aQ cQ aR cR W := by
    refine ⟨?_, ?_, ?_⟩
    · rw [← hW]; exact (Blk.new w0 _ _).alloc _
    · rw [← hW]
      have := Blk.new (w0.alloc (.cells #[Value.int .i64 M.n, .slice aA M.A.length cA, .slice aQ M.Q.length cQ, .int .i64 M.tick, .int .i64 M.gate, .int .i64 M.rmin, .slice aR M.rows.length cR] 54)) #[Value.func (Fn.func 77) #[] #[Value.pointer (some ⟨w0.heap.size, 0, none⟩)], Value.func (Fn.func 79) #[] #[Value.pointer (some ⟨w0.heap.size, 0, none⟩)], Value.func (Fn.func 81) #[] #[Value.pointer (some ⟨w0.heap.size, 0, none⟩)], Value.func (Fn.func 84) #[] #[Value.pointer (some ⟨w0.heap.size, 0, none⟩)], Value.func (Fn.func 85) #[] #[Value.pointer (some ⟨w0.heap.size, 0, none⟩)]] 29
      rw [World.size_alloc] at this; exact this
    · rw [← hW]; exact ((Below.refl _ _).alloc (Nat.le_refl _) _).alloc (by simp) _
  rw [hW]
  clear hW
  refine wp_loop_rounds 6 ?_
  rw [rounds_succ]
  have x0 := hS.x.cell 0
  have x1 := hS.x.cell 1
  have x2 := hS.x.cell 2
  have x3 := hS.x.cell 3
  have x4 := hS.x.cell 4
  have x5 := hS.x.cell 5
  have x6 := hS.x.cell 6
  have f0 := hS.f.cell 0
  have f1 := hS.f.cell 1
  have f2 := hS.f.cell 2
  have f3 := hS.f.cell 3
  have f4 := hS.f.cell 4
  simp at x0 x1 x2 x3 x4 x5 x6 f0 f1 f2 f3 f4
  go_wp2_with fail
  refine (chk1_is x0).mono ?_
  rintro e w' ⟨rfl, rfl⟩
  by_cases h1 : 1 ≤ M.n ∧ M.n ≤ 6
  case neg =>
    simp only [decide_eq_false h1]
    go_wp2_with fail
    go_ret
    exact ⟨.inr ⟨fun h => h1 h.n, rfl⟩, hS.bel⟩
  simp only [decide_eq_true h1]
  go_wp2_with fail
  rw [rounds_succ]
  go_wp2_with fail
  refine (chk2_is hS.x (hM.keep hS.bel) h1).mono ?_
  rintro e w2 ⟨⟨q, rfl, hq⟩, hK⟩
  replace hS := hS.keep hK
  clear hK
  cases q with
  | false =>
    have HQ := Lib.hid (show ¬ (okA M.n M.A) from fun h => by cases hq.2 h)
    clear hq
    go_wp2_with fail
    go_ret
    exact ⟨.inr ⟨fun h => HQ.out h.a, rfl⟩, hS.bel⟩
  | true =>
  have h2 := Lib.hid (hq.1 rfl)
  clear hq
  clear x0 x1 x2 x3 x4 x5 x6 f0 f1 f2 f3 f4
  have x0 := hS.x.cell 0
  have x1 := hS.x.cell 1
  have x2 := hS.x.cell 2
  have x3 := hS.x.cell 3
  have x4 := hS.x.cell 4
  have x5 := hS.x.cell 5
  have x6 := hS.x.cell 6
  have f0 := hS.f.cell 0
  have f1 := hS.f.cell 1
  have f2 := hS.f.cell 2
  have f3 := hS.f.cell 3
  have f4 := hS.f.cell 4
  simp at x0 x1 x2 x3 x4 x5 x6 f0 f1 f2 f3 f4
  go_wp2_with fail
  rw [rounds_succ]
  go_wp2_with fail
  refine (chk3_is x0 x2 (hQ.keep hS.bel)).mono ?_
  rintro e w' ⟨⟨q, rfl, hq⟩, rfl⟩
  cases q with
  | false =>
    have HQ := Lib.hid (show ¬ (okQ M.n M.Q) from fun h => by cases hq.2 h)
    clear hq
    go_wp2_with fail
    go_ret
    exact ⟨.inr ⟨fun h => HQ.out h.q, rfl⟩, hS.bel⟩
  | true =>
  have h3 := Lib.hid (hq.1 rfl)
  clear hq
  go_wp2_with fail
  rw [rounds_succ]
  go_wp2_with fail
  refine (chk4_is x3 x4 x5).mono ?_
  rintro e w' ⟨⟨q, rfl, hq⟩, rfl⟩
  cases q with
  | false =>
    have HQ := Lib.hid (show ¬ ((1 ≤ M.tick ∧ M.tick ≤ 4294967296) ∧ 1 ≤ M.gate ∧ 1 ≤ M.rmin) from fun h => by cases hq.2 h)
    clear hq
    go_wp2_with fail
    go_ret
    exact ⟨.inr ⟨fun h => HQ.out h.t, rfl⟩, hS.bel⟩
  | true =>
  have h4 := Lib.hid (hq.1 rfl)
  clear hq
  go_wp2_with fail
  rw [rounds_succ]
  go_wp2_with fail
  refine (chk5_is hS.x (hM.keep hS.bel) hlen).mono ?_
  rintro e w5 ⟨⟨q, rfl, hq⟩, hK⟩
  replace hS := hS.keep hK
  clear hK
  cases q with
  | false =>
    have HQ := Lib.hid (show ¬ (okR M.n M.rmin M.rows) from fun h => by cases hq.2 h)
    clear hq
    go_wp2_with fail
    go_ret
    exact ⟨.inr ⟨fun h => HQ.out h.r, rfl⟩, hS.bel⟩
  | true =>
  have h5 := Lib.hid (hq.1 rfl)
  clear hq
  clear x0 x1 x2 x3 x4 x5 x6 f0 f1 f2 f3 f4
  have x0 := hS.x.cell 0
  have x1 := hS.x.cell 1
  have x2 := hS.x.cell 2
  have x3 := hS.x.cell 3
  have x4 := hS.x.cell 4
  have x5 := hS.x.cell 5
  have x6 := hS.x.cell 6
  have f0 := hS.f.cell 0
  have f1 := hS.f.cell 1
  have f2 := hS.f.cell 2
  have f3 := hS.f.cell 3
  have f4 := hS.f.cell 4
  simp at x0 x1 x2 x3 x4 x5 x6 f0 f1 f2 f3 f4
  go_wp2_with fail
  rw [rounds_succ]
  go_wp2_with fail
  go_ret
  exact ⟨.inl ⟨⟨h1, h2.out, h3.out, h4.out, h5.out⟩, rfl⟩, hS.bel⟩

end Go.Proofs.YtkjbidpafnmogaaGreat.Base
namespace Go.Proofs.YtkjbidpafnmogaaGreat.Base
open Go.RowKit Go
set_option linter.unusedVariables false
set_option linter.unusedSimpArgs false

theorem app_mat {ops : Array Oper} {rest : List Oper} {o : Oper} {a : Act} {Q : Exit → Act → World → Prop} {w : World} {B : Nat} {v : Value} {ms : List Mt} {m : Mt} {aH : Option Addr} {cH : Nat}
    (hg : o.guard = none) (s x : Operand) (hop : o.op = Op.call { callee := Callee.builtin Builtin.append, args := #[s, x], argTypes := #[31, 31] })
    (hs : a.eval s = v) (h : OMs B w v ms) (hB : B ≤ w.heap.size) (e1 : Nat) (hx : a.eval x = .slice (some ⟨e1, 0, none⟩) 1 1) (nr nc : Int) (nh : Nat) (hnr : m.r = nr) (hnc : m.c = nc) (hnh : m.v.length = nh)
    (he : Blk w e1 #[.int .i64 nr, .int .i64 nc, .slice aH nh cH] 24) (hL : LI B w aH cH m.v) (h1 : I64 m.r) (h2 : I64 m.c) (hl : ms.length ≤ 1000)
    (hK : ∀ v' w', OMs B w' v' (ms ++ [m]) → w.grownBy w' v.ownBlock → (∀ k, v'.ownBlock = some k → v.ownBlock = some k ∨ w.heap.size ≤ k) → IsSl v' (ms.length + 1) → wpList Tryz.prog ops Q rest (a.put o.dst v') w') :
    wpList Tryz.prog ops Q (o :: rest) a w := by
  subst hnh hnr hnc
  obtain ⟨i0, hi, hz0, hz1, hz2⟩ : ∃ i, Tryz.prog.info? 24 = some i ∧ i.zero = some (.agg #[.int .i64 0, .int .i64 0, .slice none 0 0]) ∧ i.size = 3 ∧ i.bytes = 40 := info_parts (by kernel_rfl)
  obtain ⟨vs, ho, hr⟩ := h.ex
  have hne : 24 ≠ 3 := by decide
  refine wpList_append_own_at w hg s x 31 hop B 24 i0 _ 3 40 Tryz.underlying31 hi hz0 hz1 hz2 (by decide) (by decide) v ms.length vs hs ho ⟨e1, 0, none⟩ 1 1 [.int .i64 m.r, .int .i64 m.c, .slice aH m.v.length cH] hx rfl (fun j u hj => ?_) (fun u hu => ?_) (by unfold maxLen; omega) (by omega) hB (fun v' w' ho' hgr _ hat => ?_)
  · rw [Addr.add_lit, Nat.zero_add, he.cell]
    simpa using hj
  · simp at hu
    rcases hu with rfl | rfl | rfl <;> rfl
  · have hno := row_noInts ho hne
    have hf := ownsRow_succ ho'
    refine hK v' w' (OMs.snoc (fun k hk => ?_) ho.1 h.rng ho' (hL.grown hgr hno) h1 h2) hgr (fun k hk => ?_) hf
    · obtain ⟨a', c', e0, e1, e2, e3⟩ := (hr k hk).ex
      exact ⟨a', c', e0, e1, e2, e3.grown hgr hno⟩
    · rcases hat with e | e
      · exact .inl (e ▸ hk)
      · rw [hk] at e; cases e; exact .inr (Nat.le_refl _)


end Go.Proofs.YtkjbidpafnmogaaGreat.Base
namespace Go.Proofs.YtkjbidpafnmogaaGreat.Base
open Go.RowKit Go
set_option linter.unusedVariables false
set_option linter.unusedSimpArgs false

/-- A model's cells. -/
def mdlV (M : Mdl) (aA : Option Addr) (cA : Nat) (aQ : Option Addr) (cQ : Nat) (aR : Option Addr) (cR : Nat) (la lq lr : Nat) : Value := .agg #[.int .i64 M.n, .slice aA la cA, .slice aQ lq cQ, .int .i64 M.tick, .int .i64 M.gate, .int .i64 M.rmin, .slice aR lr cR]
/-- A model that a unit's work leaves as it is. -/
structure MW (b : Nat) (W : World) (v : Value) (M : Mdl) : Prop where
  ex : ∃ aA cA aQ cQ aR cR, v = .agg #[.int .i64 M.n, .slice aA M.A.length cA, .slice aQ M.Q.length cQ, .int .i64 M.tick, .int .i64 M.gate, .int .i64 M.rmin, .slice aR M.rows.length cR] ∧ ML b W aA cA M.A ∧ ML b W aQ cQ M.Q
  mm : ∀ W', But b W W' → MM 0 W' v M
theorem MW.but {b : Nat} {W W' : World} {v : Value} {M : Mdl} (h : MW b W v M) (k : But b W W') : MW b W' v M := by
  obtain ⟨aA, cA, aQ, cQ, aR, cR, h1, h2, h3⟩ := h.ex
  exact ⟨⟨aA, cA, aQ, cQ, aR, cR, h1, h2.but k, h3.but k⟩, fun W2 k2 => h.mm W2 (k.trans k2)⟩
theorem MW.keep {b : Nat} {W W' : World} {v : Value} {M : Mdl} (h : MW b W v M) (k : Below W.heap.size W W') : MW b W' v M := h.but (But.of k)
theorem MW.m {b : Nat} {W : World} {v : Value} {M : Mdl} (h : MW b W v M) : MM 0 W v M := h.mm W (But.refl _ _)
theorem MI.mlb {b : Nat} {W w0 : World} {a : Option Addr} {c : Nat} {zs : List Int} (h : MI 0 w0 a c zs) (hb : Below w0.heap.size w0 W) (hl : w0.heap.size ≤ b) : ML b W a c zs := by
  refine ⟨h.keep hb, fun x hx h0 => ?_⟩
  obtain ⟨y, hy, hc⟩ := h.cell 0 h0
  rw [hx] at hy
  cases hy
  have := World.block_lt_of_cell? w0 _ hc
  rw [add_block] at this
  omega
theorem MM.mw {b : Nat} {W w0 : World} {v : Value} {M : Mdl} (h : MM 0 w0 v M) (hb : Below w0.heap.size w0 W) (hl : w0.heap.size ≤ b) : MW b W v M := by
  obtain ⟨aA, cA, aQ, cQ, aR, cR, h1, h2, h3, _⟩ := h.ex
  exact ⟨⟨aA, cA, aQ, cQ, aR, cR, h1, h2.mlb hb hl, h3.mlb hb hl⟩, fun W' k => h.keep (hb.trans (k.below hl hb.size))⟩
theorem tellsC_ok {e : Ending} {r : Int} {p : Prop} (h : TellsC e r p) (hp : p) : e = .returned (.int .i64 0) := by
  rcases h with h | h
  · exact h.2
  · exact absurd hp h.1
theorem tellsC_no {e : Ending} {r : Int} {p : Prop} (h : TellsC e r p) (hp : ¬ p) : e = .returned (.int .i64 r) := by
  rcases h with h | h
  · exact absurd h.1 hp
  · exact h.2

set_option maxHeartbeats 1000000 in
set_option maxRecDepth 100000 in
theorem refuses_nil {W : World} {p : Value} (hp : ∀ W', Below W.heap.size W W' → Calls Tryz.prog 114 #[p] W' fun e w' => e = .returned (.bool true) ∧ W' = w') {v : Value} {M : Mdl} (hM : MM 0 W v M) (ticks least : Int) :
    Calls Tryz.prog 64 #[p, v, .int .i64 ticks, .int .i64 least] W fun e w' => e = .returned (.int .i64 1) ∧ Below W.heap.size W w' := by
  obtain ⟨aA, cA, aQ, cQ, aR, cR, rfl, _⟩ := hM.ex
  clear hM
  obtain ⟨la, hla⟩ : ∃ n, M.A.length = n := ⟨_, rfl⟩
  obtain ⟨lq, hlq⟩ : ∃ n, M.Q.length = n := ⟨_, rfl⟩
  obtain ⟨lr, hlr⟩ : ∃ n, M.rows.length = n := ⟨_, rfl⟩
  rw [hla, hlq, hlr]
  clear hla hlq hlr
  have hB := upA (upR W) (Obj.cells #[.int .i64 M.n, .slice aA la cA, .slice aQ lq cQ, .int .i64 M.tick, .int .i64 M.gate, .int .i64 M.rmin, .slice aR lr cR] 54)
  have hD := uDot_none (hp _ hB) (.slice none 0 0) (.slice none 0 0)
  go_enter Tryz.func64, Tryz.ntmps64
  go_wp2_with fail
  refine hD.mono ?_
  rintro e w' ⟨rfl, hw⟩
  rw [hw] at hB
  go_wp2_with fail
  go_ret
  exact ⟨rfl, hB⟩

set_option maxHeartbeats 2000000 in
set_option maxRecDepth 100000 in
theorem refuses_arg {W : World} {b : Nat} {c : Bool} (hU : UP W b c) {v : Value} {M : Mdl} (hM : MM 0 W v M) (hl : M.rows.length ≤ 1000) (hok : ¬ okM M) (ticks least : Int) :
    Calls Tryz.prog 64 #[.pointer (some ⟨b, 0, none⟩), v, .int .i64 ticks, .int .i64 least] W fun e w' => e = .returned (.int .i64 2) ∧ Below W.heap.size W w' := by
  have hM0 := hM
  obtain ⟨aA, cA, aQ, cQ, aR, cR, rfl, _⟩ := hM.ex
  clear hM
  have HCK := Lib.hid (fun (W' : World) (hb : Below W.heap.size W W') => check_is (hM0.keep hb) hl)
  obtain ⟨la, hla⟩ : ∃ n, M.A.length = n := ⟨_, rfl⟩
  obtain ⟨lq, hlq⟩ : ∃ n, M.Q.length = n := ⟨_, rfl⟩
  obtain ⟨lr, hlr⟩ : ∃ n, M.rows.length = n := ⟨_, rfl⟩
  rw [hla, hlq, hlr] at HCK ⊢
  clear hla hlq hlr hM0 hl
  have hB := upA (upR W) (Obj.cells #[.int .i64 M.n, .slice aA la cA, .slice aQ lq cQ, .int .i64 M.tick, .int .i64 M.gate, .int .i64 M.rmin, .slice aR lr cR] 54)
  have g0 := Blk.new W #[.int .i64 M.n, .slice aA la cA, .slice aQ lq cQ, .int .i64 M.tick, .int .i64 M.gate, .int .i64 M.rmin, .slice aR lr cR] 54
  have hD := uDot_ok (hU.keep hB) none none 0 0
  have HD := Lib.hid hD
  clear hD
  go_enter Tryz.func64, Tryz.ntmps64
  go_wp2_with fail
  refine HD.out.mono ?_
  rintro e w' ⟨rfl, hw⟩
  rw [← hw]
  clear hw w'
  have d0 := g0.cell
  clear HD
  go_wp2_with fail
  refine (HCK.out _ hB).mono ?_
  rintro e w2 ⟨he, hK⟩
  rw [tellsC_no he hok]
  replace hB := more hB hK
  go_wp2_with fail
  go_ret
  exact ⟨rfl, hB⟩
set_option maxHeartbeats 2000000 in
set_option maxRecDepth 100000 in
theorem refuses_ok {W : World} {b : Nat} {c : Bool} (hU : UP W b c) {v : Value} {M : Mdl} (hM : MM 0 W v M) (hl : M.rows.length ≤ 1000) (hok : okM M) (ticks least : Int) (h1 : least ≤ ticks) (h2 : ticks ≤ 1099511627776) :
    Calls Tryz.prog 64 #[.pointer (some ⟨b, 0, none⟩), v, .int .i64 ticks, .int .i64 least] W fun e w' => e = .returned (.int .i64 0) ∧ Below W.heap.size W w' := by
  have hM0 := hM
  obtain ⟨aA, cA, aQ, cQ, aR, cR, rfl, _⟩ := hM.ex
  clear hM
  have HCK := Lib.hid (fun (W' : World) (hb : Below W.heap.size W W') => check_is (hM0.keep hb) hl)
  obtain ⟨la, hla⟩ : ∃ n, M.A.length = n := ⟨_, rfl⟩
  obtain ⟨lq, hlq⟩ : ∃ n, M.Q.length = n := ⟨_, rfl⟩
  obtain ⟨lr, hlr⟩ : ∃ n, M.rows.length = n := ⟨_, rfl⟩
  rw [hla, hlq, hlr] at HCK ⊢
  clear hla hlq hlr hM0 hl
  have hB := upA (upR W) (Obj.cells #[.int .i64 M.n, .slice aA la cA, .slice aQ lq cQ, .int .i64 M.tick, .int .i64 M.gate, .int .i64 M.rmin, .slice aR lr cR] 54)
  have g0 := Blk.new W #[.int .i64 M.n, .slice aA la cA, .slice aQ lq cQ, .int .i64 M.tick, .int .i64 M.gate, .int .i64 M.rmin, .slice aR lr cR] 54
  have hD := uDot_ok (hU.keep hB) none none 0 0
  have HD := Lib.hid hD
  clear hD
  have q1 : ¬ ticks < least := by omega
  have q2 : ¬ 1099511627776 < ticks := by omega
  go_enter Tryz.func64, Tryz.ntmps64
  go_wp2_with fail
  refine HD.out.mono ?_
  rintro e w' ⟨rfl, hw⟩
  rw [← hw]
  clear hw w'
  have d0 := g0.cell
  clear HD
  go_wp2_with fail
  refine (HCK.out _ hB).mono ?_
  rintro e w2 ⟨he, hK⟩
  rw [tellsC_ok he hok]
  replace hB := more hB hK
  go_wp2_with fail
  go_ret
  exact ⟨rfl, hB⟩
set_option maxHeartbeats 2000000 in
set_option maxRecDepth 100000 in
theorem refuses_range {W : World} {b : Nat} {c : Bool} (hU : UP W b c) {v : Value} {M : Mdl} (hM : MM 0 W v M) (hl : M.rows.length ≤ 1000) (hok : okM M) (ticks least : Int) (h1 : ticks < least ∨ 1099511627776 < ticks) :
    Calls Tryz.prog 64 #[.pointer (some ⟨b, 0, none⟩), v, .int .i64 ticks, .int .i64 least] W fun e w' => e = .returned (.int .i64 4) ∧ Below W.heap.size W w' := by
  have hM0 := hM
  obtain ⟨aA, cA, aQ, cQ, aR, cR, rfl, _⟩ := hM.ex
  clear hM
  have HCK := Lib.hid (fun (W' : World) (hb : Below W.heap.size W W') => check_is (hM0.keep hb) hl)
  obtain ⟨la, hla⟩ : ∃ n, M.A.length = n := ⟨_, rfl⟩
  obtain ⟨lq, hlq⟩ : ∃ n, M.Q.length = n := ⟨_, rfl⟩
  obtain ⟨lr, hlr⟩ : ∃ n, M.rows.length = n := ⟨_, rfl⟩
  rw [hla, hlq, hlr] at HCK ⊢
  clear hla hlq hlr hM0 hl
  have hB := upA (upR W) (Obj.cells #[.int .i64 M.n, .slice aA la cA, .slice aQ lq cQ, .int .i64 M.tick, .int .i64 M.gate, .int .i64 M.rmin, .slice aR lr cR] 54)
  have g0 := Blk.new W #[.int .i64 M.n, .slice aA la cA, .slice aQ lq cQ, .int .i64 M.tick, .int .i64 M.gate, .int .i64 M.rmin, .slice aR lr cR] 54
  have hD := uDot_ok (hU.keep hB) none none 0 0
  have HD := Lib.hid hD
  clear hD
  have HT := Lib.hid h1
  by_cases q1 : ticks < least
  · clear h1
    go_enter Tryz.func64, Tryz.ntmps64
    go_wp2_with fail
    refine HD.out.mono ?_
    rintro e w' ⟨rfl, hw⟩
    rw [← hw]
    clear hw w'
    have d0 := g0.cell
    clear HD
    go_wp2_with fail
    refine (HCK.out _ hB).mono ?_
    rintro e w2 ⟨he, hK⟩
    rw [tellsC_ok he hok]
    replace hB := more hB hK
    go_wp2_with fail
    go_ret
    exact ⟨rfl, hB⟩
  · have q2 : 1099511627776 < ticks := by omega
    clear h1
    go_enter Tryz.func64, Tryz.ntmps64
    go_wp2_with fail
    refine HD.out.mono ?_
    rintro e w' ⟨rfl, hw⟩
    rw [← hw]
    clear hw w'
    have d0 := g0.cell
    clear HD
    go_wp2_with fail
    refine (HCK.out _ hB).mono ?_
    rintro e w2 ⟨he, hK⟩
    rw [tellsC_ok he hok]
    replace hB := more hB hK
    go_wp2_with fail
    go_ret
    exact ⟨rfl, hB⟩

set_option maxHeartbeats 1000000 in
set_option maxRecDepth 100000 in
theorem mmoves_is (n tick gate rmin : Int) (aA : Option Addr) (cA : Nat) (aQ : Option Addr) (cQ : Nat) (aR : Option Addr) (cR : Nat) (la lq lr : Nat) (W : World) :
    Calls Tryz.prog 67 #[.agg #[.int .i64 n, .slice aA la cA, .slice aQ lq cQ, .int .i64 tick, .int .i64 gate, .int .i64 rmin, .slice aR lr cR]] W fun e w' => e = .returned (.agg #[.int .i64 n, .int .i64 n, .slice aA la cA]) ∧ Below W.heap.size W w' := by
  go_enter Tryz.func67, Tryz.ntmps67
  go_wp2_with fail
  have hB := below_allocs W [Obj.cells #[.int .i64 n, .slice aA la cA, .slice aQ lq cQ, .int .i64 tick, .int .i64 gate, .int .i64 rmin, .slice aR lr cR] 54, Obj.cells #[.int .i64 n, .int .i64 n, .slice aA la cA] 24]
  have g1 := blk_at W [Obj.cells #[.int .i64 n, .slice aA la cA, .slice aQ lq cQ, .int .i64 tick, .int .i64 gate, .int .i64 rmin, .slice aR lr cR] 54, Obj.cells #[.int .i64 n, .int .i64 n, .slice aA la cA] 24] 1 _ _ rfl
  simp only [List.foldl_cons, List.foldl_nil] at hB g1
  refine bodyPost_ret (results_cell_row rfl _ _ _ 24 #[.int .i64 n, .int .i64 n, .slice aA la cA] (0, 0) _ rfl g1 Tryz.underlying24 rfl (by kernel_rfl)) rfl ?_
  exact ⟨rfl, hB.1⟩

end Go.Proofs.YtkjbidpafnmogaaGreat.Base
namespace Go.Proofs.YtkjbidpafnmogaaGreat.Base
open Go.RowKit Go Go.Shelf Go.Deep
set_option linter.unusedVariables false
set_option linter.unusedSimpArgs false

def spanM (tick ticks : Int) : Int × Bool := ((timesL [(wholeF ticks).1, tick]).1, (wholeF ticks).2 || (timesL [(wholeF ticks).1, tick]).2)
theorem spanM_fx (tick ticks : Int) : Fx (spanM tick ticks).1 := timesL_fx _
def movesM (M : Mdl) : Mt := ⟨M.n, M.n, M.A⟩

set_option maxHeartbeats 4000000 in
set_option maxRecDepth 100000 in
theorem span_is {w0 : World} {b : Nat} {c : Bool} (hU : UP w0 b c) (n tick gate rmin : Int) (aA : Option Addr) (cA : Nat) (aQ : Option Addr) (cQ : Nat) (aR : Option Addr) (cR : Nat) (la lq lr : Nat) (ticks : Int) (ht : I64 ticks) (htk : I64 tick) :
    Calls Tryz.prog 65 #[.pointer (some ⟨b, 0, none⟩), .agg #[.int .i64 n, .slice aA la cA, .slice aQ lq cQ, .int .i64 tick, .int .i64 gate, .int .i64 rmin, .slice aR lr cR], .int .i64 ticks] w0 fun e w' => e = .returned (.int .i64 (spanM tick ticks).1) ∧ UP w' b (c || (spanM tick ticks).2) ∧ But b w0 w' := by
  have hWH := fun (W : World) (cc : Bool) (h : UP W b cc) => uWhole_is h ticks ht
  have h64 := (wholeF_fx ticks).i64
  unfold spanM
  generalize wholeF ticks = wf at hWH h64 ⊢
  have hML := fun (W : World) (cc : Bool) (e1 : Nat) (h : UP W b cc) (hb : Blk W e1 #[Value.int .i64 wf.1, .int .i64 tick] 3) (hne : e1 ≠ b) => uMul_is h (a := some ⟨e1, 0, none⟩) (k := 2) (zs := [wf.1, tick]) ⟨MI.of_blk (zs := [wf.1, tick]) hb (Nat.zero_le _) (fun z hz => by simp at hz; rcases hz with rfl | rfl; exact h64; exact htk) (show (2 : Nat) ≤ 1000 by decide), fun x hx _ => by cases hx; exact hne⟩
  generalize timesL [wf.1, tick] = tm at hML ⊢
  have HWH := Lib.hid hWH
  have HML := Lib.hid hML
  clear hWH hML
  have hblt := hU.lt
  have hB := upA (upR w0) (Obj.cells #[.int .i64 n, .slice aA la cA, .slice aQ lq cQ, .int .i64 tick, .int .i64 gate, .int .i64 rmin, .slice aR lr cR] 54)
  have g0 := Blk.new w0 #[.int .i64 n, .slice aA la cA, .slice aQ lq cQ, .int .i64 tick, .int .i64 gate, .int .i64 rmin, .slice aR lr cR] 54
  have hU1 := hU.keep hB
  go_enter Tryz.func65, Tryz.ntmps65
  go_wp2_with fail
  generalize w0.alloc (Obj.cells #[.int .i64 n, .slice aA la cA, .slice aQ lq cQ, .int .i64 tick, .int .i64 gate, .int .i64 rmin, .slice aR lr cR] 54) = w1 at *
  obtain ⟨mb, hmb⟩ : ∃ mb, w0.heap.size = mb := ⟨_, rfl⟩
  have hne : mb ≠ b := by omega
  have hBt : But b w0 w1 := But.of hB
  rw [hmb] at g0 ⊢
  clear hmb hB hU hblt
  have HS0 : ((fun _ : Nat => false) 3 = false → UP w1.drew b c) ∧ ((fun _ : Nat => false) 3 = true → (fun _ : Nat => false) 7 = false → UP w1.drew b (c || wf.2)) ∧ ((fun _ : Nat => false) 7 = true → UP w1.drew b (c || wf.2 || tm.2)) ∧ Blk w1.drew mb #[.int .i64 n, .slice aA la cA, .slice aQ lq cQ, .int .i64 tick, .int .i64 gate, .int .i64 rmin, .slice aR lr cR] 54 ∧ But b w0 w1.drew :=
    ⟨fun _ => hU1.drew, fun h => (by cases h), fun h => (by cases h), g0.drew, hBt.drew⟩
  clear hU1 g0 hBt
  refine region_fp [some 7, some 8, some 9, some 10, some 11, some 12, some 13, some 14, some 6] [3, 7] [some (Value.pointer (some ⟨b, 0, none⟩)), some (Value.pointer (some ⟨b, 0, none⟩)), some (Value.int .i64 (ticks)), some (Value.int .i64 (wf.1)), some (Value.pointer (some ⟨mb, 3, none⟩)), some (Value.int .i64 (tick)), none, some (Value.int .i64 (tm.1)), some (Value.int .i64 (tm.1))]
    (fun i v W => match i with | 6 => ∃ e1, v = Value.slice (some ⟨e1, 0, none⟩) 2 2 ∧ Blk W e1 #[Value.int .i64 wf.1, .int .i64 tick] 3 ∧ e1 ≠ b | _ => True) (fun W W' => But b W W') (fun L f W => (L 3 = false → UP W b c) ∧ (L 3 = true → L 7 = false → UP W b (c || wf.2)) ∧ (L 7 = true → UP W b (c || wf.2 || tm.2)) ∧ Blk W mb #[.int .i64 n, .slice aA la cA, .slice aQ lq cQ, .int .i64 tick, .int .i64 gate, .int .i64 rmin, .slice aR lr cR] 54 ∧ But b w0 W)
    (by kernel_rfl) (by kernel_rfl) (by kernel_rfl) (by kernel_rfl) (by kernel_rfl) (fun _ => But.refl _ _) (fun i v W W' h hb => by
      match i, h with
      | 6, ⟨e1, h1, h2, h3⟩ => exact ⟨e1, h1, hb.blk h2 h3, h3⟩
      | 0, _ | 1, _ | 2, _ | 3, _ | 4, _ | 5, _ | 7, _ | 8, _ => trivial
      | (n + 9), _ => trivial) (fun L L' f f' W h hs => by have q3 := (h 3 (by decide)).1; have q7 := (h 7 (by decide)).1; (try dsimp only at hs ⊢); rw [← q3, ← q7]; exact hs) HS0 ?_ ?_
  · intro i hi b' L f W hSW hL hdep hsh he hsv hsl hFF K hK1 hK2
    replace hi : i < 9 := hi
    have hcs : i = 0 ∨ i = 1 ∨ i = 2 ∨ i = 3 ∨ i = 4 ∨ i = 5 ∨ i = 6 ∨ i = 7 ∨ i = 8 := by omega
    clear hi
    rcases hcs with rfl | rfl | rfl | rfl | rfl | rfl | rfl | rfl | rfl
    · refine wpOpS_go rfl rfl ?_
      have t0 : b'.tmps[0]?.getD undef = Value.pointer (some ⟨b, 0, none⟩) := he 0 (by kernel_rfl)
      have HK := Lib.hid hK1
      clear hK1 hK2 hdep hsh he hsv hsl hFF hL hSW
      go_simp
      exact HK.out rfl _ (fp_mk rfl rfl trivial)
    · refine wpOpS_go rfl rfl ?_
      have t0 : b'.tmps[0]?.getD undef = Value.pointer (some ⟨b, 0, none⟩) := he 0 (by kernel_rfl)
      have HK := Lib.hid hK1
      clear hK1 hK2 hdep hsh he hsv hsl hFF hL hSW
      go_simp
      exact HK.out rfl _ (fp_mk rfl rfl trivial)
    · refine wpOpS_go rfl rfl ?_
      have t2 : b'.tmps[2]?.getD undef = Value.int .i64 (ticks) := he 2 (by kernel_rfl)
      have HK := Lib.hid hK1
      clear hK1 hK2 hdep hsh he hsv hsl hFF hL hSW
      go_simp
      exact HK.out rfl _ (fp_mk rfl rfl trivial)
    · refine wpOpS_go rfl rfl ?_
      have t8 : b'.tmps[8]?.getD undef = Value.pointer (some ⟨b, 0, none⟩) := hsv 1 8 _ (by kernel_rfl) (by kernel_rfl) rfl
      have t9 : b'.tmps[9]?.getD undef = Value.int .i64 (ticks) := hsv 2 9 _ (by kernel_rfl) (by kernel_rfl) rfl
      obtain ⟨s0, s1, s2, s3, s4⟩ := hSW
      have hu := s0 hL
      have h7 := hsh 7 (by kernel_rfl)
      have HK := Lib.hid hK2
      clear hK1 hK2 hdep hsh he hsv hsl hFF hL
      go_simp
      refine (HWH.out _ _ hu).mono ?_
      rintro e w6 ⟨rfl, hU6, hB6⟩
      exact HK.out _ _ (fp_mk rfl rfl trivial) hB6 ⟨fun h => absurd h (by rw [updF_same]; decide), fun _ _ => hU6, fun h => absurd h (by show ¬ L 7 = true; rw [h7]; decide), hB6.blk s3 hne, s4.trans hB6⟩
    · refine wpOpS_go rfl rfl ?_
      have t4 : b'.tmps[4]?.getD undef = Value.pointer (some ⟨mb, 0, none⟩) := he 4 (by kernel_rfl)
      have HK := Lib.hid hK1
      clear hK1 hK2 hdep hsh he hsv hsl hFF hL hSW
      go_simp
      exact HK.out rfl _ (fp_mk rfl rfl trivial)
    · refine wpOpS_go rfl rfl ?_
      have t11 : b'.tmps[11]?.getD undef = Value.pointer (some ⟨mb, 3, none⟩) := hsv 4 11 _ (by kernel_rfl) (by kernel_rfl) rfl
      obtain ⟨s0, s1, s2, s3, s4⟩ := hSW
      have c0 := s3.cell
      have HK := Lib.hid hK1
      clear hK1 hK2 hdep hsh he hsv hsl hFF hL
      clear s0 s1 s2 s3 s4
      go_simp
      exact HK.out rfl _ (fp_mk rfl rfl trivial)
    · refine wpOpS_go rfl rfl ?_
      have t10 : b'.tmps[10]?.getD undef = Value.int .i64 (wf.1) := hsv 3 10 _ (by kernel_rfl) (by kernel_rfl) rfl
      have t12 : b'.tmps[12]?.getD undef = Value.int .i64 (tick) := hsv 5 12 _ (by kernel_rfl) (by kernel_rfl) rfl
      obtain ⟨s0, s1, s2, s3, s4⟩ := hSW
      have hlt := fun h3 => (s0 h3).lt
      have HK := Lib.hid hK2
      have h3 := hdep 3 (by kernel_rfl)
      have h7 := hsh 7 (by kernel_rfl)
      have hlt := (s1 h3 h7).lt
      clear hK1 hK2 hdep hsh he hsv hsl hFF hL
      go_simp
      have hb := upA (upR W) (Obj.cells #[Value.int .i64 wf.1, .int .i64 tick] 3)
      exact HK.out _ _ (fp_x rfl ⟨_, rfl, Blk.new _ _ _, by omega⟩) (But.of hb) ⟨fun h => (s0 h).keep hb, fun h h' => (s1 h h').keep hb, fun h => (s2 h).keep hb, s3.keep hb, s4.trans (But.of hb)⟩
    · refine wpOpS_go rfl rfl ?_
      have t7 : b'.tmps[7]?.getD undef = Value.pointer (some ⟨b, 0, none⟩) := hsv 0 7 _ (by kernel_rfl) (by kernel_rfl) rfl
      obtain ⟨t13, hx⟩ := hsl 6 13 (by kernel_rfl) (by kernel_rfl)
      obtain ⟨e1, e4, b4, n4⟩ := hx
      rw [e4] at t13
      obtain ⟨s0, s1, s2, s3, s4⟩ := hSW
      have h3 := hdep 3 (by kernel_rfl)
      have hu := s1 h3 hL
      have HK := Lib.hid hK2
      clear hK1 hK2 hdep hsh he hsv hsl hFF hL e4
      go_simp
      refine (HML.out _ _ _ hu b4 n4).mono ?_
      rintro e w6 ⟨rfl, hU6, hB6⟩
      exact HK.out _ _ (fp_mk rfl rfl trivial) hB6 ⟨fun h => absurd (show L 3 = false from h) (by rw [h3]; decide), fun _ h => absurd h (by rw [updF_same]; decide), fun _ => hU6, hB6.blk s3 hne, s4.trans hB6⟩
    · refine wpOpS_go rfl rfl ?_
      have t14 : b'.tmps[14]?.getD undef = Value.int .i64 (tm.1) := hsv 7 14 _ (by kernel_rfl) (by kernel_rfl) rfl
      have HK := Lib.hid hK1
      clear hK1 hK2 hdep hsh he hsv hsl hFF hL hSW
      go_simp
      exact HK.out rfl _ (fp_mk rfl rfl trivial)
  · intro f W hf L hL hS
    obtain ⟨s0, s1, s2, s3, s4⟩ := (hS : _ ∧ _ ∧ _ ∧ _ ∧ _)
    replace s2 := s2 (hL 7 (by decide))
    have e8 : f 8 = Value.int .i64 (tm.1) := (hf 8 (by decide)).1 _ rfl
    clear hf hL s0 s1
    simp only [puts2, Act.put]
    generalize f 0 = y0, f 1 = y1, f 2 = y2, f 3 = y3, f 4 = y4, f 5 = y5, f 6 = y6, f 7 = y7
    rw [e8]
    try simp only [List.setIfInBounds_toArray, List.set_cons_zero, List.set_cons_succ]
    go_wp2_with fail
    go_ret
    exact ⟨rfl, by rw [← Bool.or_assoc]; exact s2, s4⟩

set_option maxHeartbeats 4000000 in
set_option maxRecDepth 100000 in
theorem mSpan_is {w0 : World} {b : Nat} {c : Bool} (hU : UP w0 b c) {v : Value} {M : Mdl} (hM : MW b w0 v M) (hl : M.rows.length ≤ 1000) (hok : okM M) (ticks : Int) (h1 : -1099511627776 ≤ ticks) (h2 : ticks ≤ 1099511627776) :
    Calls Tryz.prog 35 #[.pointer (some ⟨b, 0, none⟩), v, .int .i64 ticks] w0 fun e w' => e = .returned (.tuple #[.int .i64 (spanM M.tick ticks).1, .int .i64 0]) ∧ UP w' b (c || (spanM M.tick ticks).2) ∧ But b w0 w' := by
  have hMW := hM
  obtain ⟨aA, cA, aQ, cQ, aR, cR, rfl, _⟩ := hM.ex
  clear hM
  have HRF := Lib.hid (fun (W : World) (hU' : UP W b c) (hb : Below w0.heap.size w0 W) => refuses_ok hU' (hMW.keep hb).m hl hok ticks (-1099511627776) h1 h2)
  obtain ⟨la, hla⟩ : ∃ n, M.A.length = n := ⟨_, rfl⟩
  obtain ⟨lq, hlq⟩ : ∃ n, M.Q.length = n := ⟨_, rfl⟩
  obtain ⟨lr, hlr⟩ : ∃ n, M.rows.length = n := ⟨_, rfl⟩
  rw [hla, hlq, hlr] at HRF ⊢
  have HSP := Lib.hid (fun (W : World) (hU' : UP W b c) => span_is hU' M.n M.tick M.gate M.rmin aA cA aQ cQ aR cR la lq lr ticks (by unfold I64; omega) hMW.m.tick)
  clear hla hlq hlr hMW hl hok
  generalize spanM M.tick ticks = sp at *
  have hB := upA (upR w0) (Obj.cells #[.int .i64 M.n, .slice aA la cA, .slice aQ lq cQ, .int .i64 M.tick, .int .i64 M.gate, .int .i64 M.rmin, .slice aR lr cR] 54)
  have g0 := Blk.new w0 #[.int .i64 M.n, .slice aA la cA, .slice aQ lq cQ, .int .i64 M.tick, .int .i64 M.gate, .int .i64 M.rmin, .slice aR lr cR] 54
  have hU1 := hU.keep hB
  go_enter Tryz.func35, Tryz.ntmps35
  have d0 := g0.cell
  go_wp2_with fail
  clear d0
  refine (HRF.out _ hU1 hB).mono ?_
  rintro e w2 ⟨rfl, hK⟩
  replace hB := more hB hK
  replace hU1 := hU1.keep hK
  have d0 := (g0.keep hK).cell
  clear g0 hK HRF
  go_wp2_with fail
  refine (HSP.out _ hU1).mono ?_
  rintro e w3 ⟨rfl, hU3, hK⟩
  clear d0
  go_wp2_with fail
  go_ret2
  exact ⟨rfl, hU3, (But.of hB).trans hK⟩

end Go.Proofs.YtkjbidpafnmogaaGreat.Base
namespace Go.Proofs.YtkjbidpafnmogaaGreat.Base
open Go.RowKit Go Go.Shelf Go.Deep
set_option linter.unusedVariables false
set_option linter.unusedSimpArgs false

theorem okM_up {M : Mdl} (h : okM M) : upM (movesM M) := by
  obtain ⟨n1, n6⟩ := h.n
  obtain ⟨ha, hl⟩ := h.a
  refine ⟨⟨⟨⟨n1, by show M.n ≤ 12; omega⟩, ⟨n1, by show M.n ≤ 12; omega⟩, hl⟩, rfl⟩, fun j hj hle => ?_⟩
  have hj' : j < M.A.length := hj
  show M.A.getD j 0 = 0
  rw [List.getD_eq_getElem?_getD, List.getElem?_eq_getElem hj', Option.getD_some]
  by_cases e : M.A[j] = 0
  · exact e
  · refine absurd ⟨hj', e, .inl ?_⟩ (ha j)
    have hn : ((M.n.toNat : Nat) : Int) = M.n := Int.toNat_of_nonneg (by omega)
    have hle' : j % M.n.toNat ≤ j / M.n.toNat := hle
    rw [← hn, ← Int.natCast_emod, ← Int.natCast_ediv]
    exact Int.ofNat_le.2 hle'
theorem flow_64 {m : Mt} (h : upM m) (t : Int) : I64 (flowM m t).1.r ∧ I64 (flowM m t).1.c := by
  obtain ⟨⟨ok, sq⟩, _⟩ := h
  obtain ⟨r, c, hr, hc, hr1, hr2, _⟩ := ok.nat
  have hp := poly_terms ok sq (n := m.r.toNat) (by rw [hr]; omega) (by rw [hr]; omega)
  obtain ⟨⟨⟨q1, q2⟩, ⟨q3, q4⟩, _⟩, _, _⟩ := horn_ok (t := t) (p0 := (termsL m m.r.toNat).headD default) (l := termsL m m.r.toNat) (by rw [termsL_len, hr]; omega) hp.2.2
  show I64 (hornM t (termsL m m.r.toNat)).1.r ∧ I64 (hornM t (termsL m m.r.toNat)).1.c
  unfold I64
  omega
def mflowM (M : Mdl) (ticks : Int) : Mt × Bool := ((flowM (movesM M) (spanM M.tick ticks).1).1, (spanM M.tick ticks).2 || (flowM (movesM M) (spanM M.tick ticks).1).2)

set_option maxHeartbeats 8000000 in
set_option maxRecDepth 100000 in
theorem mFlow_is {w0 : World} {b : Nat} {c : Bool} (hU : UP w0 b c) {v : Value} {M : Mdl} (hM : MW b w0 v M) (hl : M.rows.length ≤ 1000) (hok : okM M) (ticks : Int) (h1 : -1099511627776 ≤ ticks) (h2 : ticks ≤ 1099511627776) :
    Calls Tryz.prog 31 #[.pointer (some ⟨b, 0, none⟩), v, .int .i64 ticks] w0 fun e w' => ∃ v, e = .returned (.tuple #[v, .int .i64 0]) ∧ MO w0.heap.size w' v (mflowM M ticks).1 ∧ UP w' b (c || (mflowM M ticks).2) ∧ But b w0 w' := by
  have hMW := hM
  obtain ⟨aA, cA, aQ, cQ, aR, cR, rfl, hmA, _⟩ := hM.ex
  clear hM
  have HRF := Lib.hid (fun (W : World) (hU' : UP W b c) (hb : Below w0.heap.size w0 W) => refuses_ok hU' (hMW.keep hb).m hl hok ticks (-1099511627776) h1 h2)
  have hup := okM_up hok
  have hfx := (spanM_fx M.tick ticks).i64
  obtain ⟨la, hla⟩ : ∃ n, M.A.length = n := ⟨_, rfl⟩
  obtain ⟨lq, hlq⟩ : ∃ n, M.Q.length = n := ⟨_, rfl⟩
  obtain ⟨lr, hlr⟩ : ∃ n, M.rows.length = n := ⟨_, rfl⟩
  rw [hla, hlq, hlr] at HRF ⊢
  have HSP := Lib.hid (fun (W : World) (cc : Bool) (hU' : UP W b cc) => span_is hU' M.n M.tick M.gate M.rmin aA cA aQ cQ aR cR la lq lr ticks (by unfold I64; omega) hMW.m.tick)
  unfold mflowM
  generalize spanM M.tick ticks = sp at *
  have hFL := fun (W : World) (cc : Bool) (hU' : UP W b cc) (hb : But b w0 W) => Flow_is hU' (m := movesM M) (hmA.but hb) hup sp.1 hfx
  rw [show (movesM M).r = M.n from rfl, show (movesM M).c = M.n from rfl, show (movesM M).v.length = la from hla] at hFL
  have hr64 : I64 (flowM (movesM M) sp.1).1.r ∧ I64 (flowM (movesM M) sp.1).1.c := flow_64 hup _
  generalize flowM (movesM M) sp.1 = fl at *
  have HR64 := Lib.hid hr64.1
  have HC64 := Lib.hid hr64.2
  have HFL := Lib.hid hFL
  have HMV := Lib.hid (fun W => mmoves_is M.n M.tick M.gate M.rmin aA cA aQ cQ aR cR la lq lr W)
  generalize M.n = nM at *
  generalize M.tick = tk at *
  generalize M.gate = gt at *
  generalize M.rmin = rm at *
  clear hla hlq hlr hMW hl hok hup hfx hmA hFL hr64
  obtain ⟨nr, hnr⟩ : ∃ n, fl.1.r = n := ⟨_, rfl⟩
  obtain ⟨nc, hnc⟩ : ∃ n, fl.1.c = n := ⟨_, rfl⟩
  obtain ⟨nl, hnl⟩ : ∃ n, fl.1.v.length = n := ⟨_, rfl⟩
  have HNR := Lib.hid hnr
  have HNC := Lib.hid hnc
  have HNL := Lib.hid hnl
  clear hnr hnc hnl
  have hblt := hU.lt
  go_enter Tryz.func31, Tryz.ntmps31
  have hB := below_allocs w0 [Obj.cells #[.int .i64 nM, .slice aA la cA, .slice aQ lq cQ, .int .i64 tk, .int .i64 gt, .int .i64 rm, .slice aR lr cR] 54, Obj.cells #[Value.int .i64 0, .int .i64 0, .slice none 0 0] 24]
  have g0 := blk_at w0 [Obj.cells #[.int .i64 nM, .slice aA la cA, .slice aQ lq cQ, .int .i64 tk, .int .i64 gt, .int .i64 rm, .slice aR lr cR] 54, Obj.cells #[Value.int .i64 0, .int .i64 0, .slice none 0 0] 24] 0 _ _ rfl
  have g1 := blk_at w0 [Obj.cells #[.int .i64 nM, .slice aA la cA, .slice aQ lq cQ, .int .i64 tk, .int .i64 gt, .int .i64 rm, .slice aR lr cR] 54, Obj.cells #[Value.int .i64 0, .int .i64 0, .slice none 0 0] 24] 1 _ _ rfl
  simp only [List.foldl_cons, List.foldl_nil, Nat.add_zero] at hB g0 g1
  replace hB := hB.1
  have hU1 := hU.keep hB
  have d0 := g0.cell
  go_wp2_with fail
  clear d0
  generalize (w0.alloc (Obj.cells #[.int .i64 nM, .slice aA la cA, .slice aQ lq cQ, .int .i64 tk, .int .i64 gt, .int .i64 rm, .slice aR lr cR] 54)).alloc (Obj.cells #[Value.int .i64 0, .int .i64 0, .slice none 0 0] 24) = w1 at *
  refine (HRF.out _ hU1 hB).mono ?_
  rintro e w2 ⟨rfl, hK⟩
  replace hB := more hB hK
  replace hU1 := hU1.keep hK
  replace g0 := g0.keep hK
  replace g1 := g1.keep hK
  clear hK HRF hU
  go_wp2_with fail
  obtain ⟨mb, hmb⟩ : ∃ mb, w0.heap.size = mb := ⟨_, rfl⟩
  obtain ⟨rb, hrb⟩ : ∃ rb, w0.heap.size + 1 = rb := ⟨_, rfl⟩
  have hrb1 : w0.heap.size ≤ rb := by omega
  have ne0 : mb ≠ b := by omega
  have ne1 : rb ≠ b := by omega
  have ne2 : mb ≠ rb := by omega
  rw [hrb] at g1 ⊢
  have HMB := Lib.hid hmb
  rw [show (⟨w0.heap.size, 0, none⟩ : Addr) = ⟨mb, 0, none⟩ by rw [hmb]]
  rw [hmb] at g0
  clear hmb hrb hblt
  have HS0 : Blk w2.drew mb #[.int .i64 nM, .slice aA la cA, .slice aQ lq cQ, .int .i64 tk, .int .i64 gt, .int .i64 rm, .slice aR lr cR] 54 ∧ ((fun _ : Nat => false) 10 = false → Blk w2.drew rb #[.int .i64 0, .int .i64 0, .slice none 0 0] 24) ∧ ((fun _ : Nat => false) 10 = true → ∃ a k, Blk w2.drew rb #[.int .i64 nr, .int .i64 nc, .slice a nl k] 24 ∧ LI w0.heap.size w2.drew a k fl.1.v) ∧
      ((fun _ : Nat => false) 6 = false → UP w2.drew b c) ∧ ((fun _ : Nat => false) 6 = true → (fun _ : Nat => false) 7 = false → UP w2.drew b (c || sp.2)) ∧ ((fun _ : Nat => false) 7 = true → UP w2.drew b (c || sp.2 || fl.2)) ∧ But b w0 w2.drew :=
    ⟨g0.drew, fun _ => g1.drew, fun h => (by cases h), fun _ => hU1.drew, fun h => (by cases h), fun h => (by cases h), (But.of hB).drew⟩
  clear g0 g1 hU1 hB
  refine region_fp [some 17, some 18, some 19, some 20, some 21, some 22, some 23, some 24, some 25, some 26, none, some 7] [6, 7, 10] [some (Value.pointer (some ⟨b, 0, none⟩)), some (Value.agg #[.int .i64 nM, .slice aA la cA, .slice aQ lq cQ, .int .i64 tk, .int .i64 gt, .int .i64 rm, .slice aR lr cR]), some (Value.agg #[.int .i64 nM, .int .i64 nM, .slice aA la cA]), some (Value.pointer (some ⟨b, 0, none⟩)), some (Value.agg #[.int .i64 nM, .slice aA la cA, .slice aQ lq cQ, .int .i64 tk, .int .i64 gt, .int .i64 rm, .slice aR lr cR]), some (Value.int .i64 (ticks)), some (Value.int .i64 (sp.1)), none, none, some (Value.int .i64 (0)), none, some (Value.int .i64 (0))]
    (fun i v W => match i with | 7 => ∃ a k, v = Value.tuple #[.agg #[.int .i64 nr, .int .i64 nc, .slice a nl k], .int .i64 0] ∧ LI w0.heap.size W a k fl.1.v | 8 => ∃ a k, v = Value.agg #[.int .i64 nr, .int .i64 nc, .slice a nl k] ∧ LI w0.heap.size W a k fl.1.v | _ => True) (fun W W' => ∀ a k zs, LI w0.heap.size W a k zs → LI w0.heap.size W' a k zs) (fun L f W => Blk W mb #[.int .i64 nM, .slice aA la cA, .slice aQ lq cQ, .int .i64 tk, .int .i64 gt, .int .i64 rm, .slice aR lr cR] 54 ∧ (L 10 = false → Blk W rb #[.int .i64 0, .int .i64 0, .slice none 0 0] 24) ∧ (L 10 = true → ∃ a k, Blk W rb #[.int .i64 nr, .int .i64 nc, .slice a nl k] 24 ∧ LI w0.heap.size W a k fl.1.v) ∧ (L 6 = false → UP W b c) ∧ (L 6 = true → L 7 = false → UP W b (c || sp.2)) ∧ (L 7 = true → UP W b (c || sp.2 || fl.2)) ∧ But b w0 W)
    (by kernel_rfl) (by kernel_rfl) (by kernel_rfl) (by kernel_rfl) (by kernel_rfl) (fun _ _ _ _ h => h) (fun i v W W' h hb => by
      match i, h with
      | 7, ⟨a, k, h1, h2⟩ => exact ⟨a, k, h1, hb _ _ _ h2⟩
      | 8, ⟨a, k, h1, h2⟩ => exact ⟨a, k, h1, hb _ _ _ h2⟩
      | 0, _ | 1, _ | 2, _ | 3, _ | 4, _ | 5, _ | 6, _ | 9, _ | 10, _ | 11, _ => trivial
      | (n + 12), _ => trivial) (fun L L' f f' W h hs => by have q6 := (h 6 (by decide)).1; have q7 := (h 7 (by decide)).1; have q10 := (h 10 (by decide)).1; (try dsimp only at hs ⊢); rw [← q6, ← q7, ← q10]; exact hs) HS0 ?_ ?_
  · intro i hi b' L f W hSW hL hdep hsh he hsv hsl hFF K hK1 hK2
    replace hi : i < 12 := hi
    have hcs : i = 0 ∨ i = 1 ∨ i = 2 ∨ i = 3 ∨ i = 4 ∨ i = 5 ∨ i = 6 ∨ i = 7 ∨ i = 8 ∨ i = 9 ∨ i = 10 ∨ i = 11 := by omega
    clear hi
    rcases hcs with rfl | rfl | rfl | rfl | rfl | rfl | rfl | rfl | rfl | rfl | rfl | rfl
    · refine wpOpS_go rfl rfl ?_
      have t0 : b'.tmps[0]?.getD undef = Value.pointer (some ⟨b, 0, none⟩) := he 0 (by kernel_rfl)
      have HK := Lib.hid hK1
      clear hK1 hK2 hdep hsh he hsv hsl hFF hL hSW
      go_simp
      exact HK.out rfl _ (fp_mk rfl rfl trivial)
    · refine wpOpS_go rfl rfl ?_
      have t4 : b'.tmps[4]?.getD undef = Value.pointer (some ⟨mb, 0, none⟩) := he 4 (by kernel_rfl)
      obtain ⟨s0, s1, s2, s3, s4, s5, s6⟩ := hSW
      have c0 := s0.cell
      have HK := Lib.hid hK1
      clear hK1 hK2 hdep hsh he hsv hsl hFF hL
      clear s0 s1 s2 s3 s4 s5 s6
      go_simp
      exact HK.out rfl _ (fp_mk rfl rfl trivial)
    · refine wpOpS_go rfl rfl ?_
      have t18 : b'.tmps[18]?.getD undef = Value.agg #[.int .i64 nM, .slice aA la cA, .slice aQ lq cQ, .int .i64 tk, .int .i64 gt, .int .i64 rm, .slice aR lr cR] := hsv 1 18 _ (by kernel_rfl) (by kernel_rfl) rfl
      obtain ⟨s0, s1, s2, s3, s4, s5, s6⟩ := hSW
      have HK := Lib.hid hK2
      clear hK1 hK2 hdep hsh he hsv hsl hFF hL
      go_simp
      refine (HMV.out _).mono ?_
      rintro e w6 ⟨rfl, hK⟩
      exact HK.out _ _ (fp_mk rfl rfl trivial) (fun a k zs h => h.keep hK) ⟨s0.keep hK, fun h => (s1 h).keep hK, fun h => (by obtain ⟨a, k, q1, q2⟩ := s2 h; exact ⟨a, k, q1.keep hK, q2.keep hK⟩), fun h => (s3 h).keep hK, fun h h' => (s4 h h').keep hK, fun h => (s5 h).keep hK, s6.trans (But.of hK)⟩
    · refine wpOpS_go rfl rfl ?_
      have t0 : b'.tmps[0]?.getD undef = Value.pointer (some ⟨b, 0, none⟩) := he 0 (by kernel_rfl)
      have HK := Lib.hid hK1
      clear hK1 hK2 hdep hsh he hsv hsl hFF hL hSW
      go_simp
      exact HK.out rfl _ (fp_mk rfl rfl trivial)
    · refine wpOpS_go rfl rfl ?_
      have t4 : b'.tmps[4]?.getD undef = Value.pointer (some ⟨mb, 0, none⟩) := he 4 (by kernel_rfl)
      obtain ⟨s0, s1, s2, s3, s4, s5, s6⟩ := hSW
      have c0 := s0.cell
      have HK := Lib.hid hK1
      clear hK1 hK2 hdep hsh he hsv hsl hFF hL
      clear s0 s1 s2 s3 s4 s5 s6
      go_simp
      exact HK.out rfl _ (fp_mk rfl rfl trivial)
    · refine wpOpS_go rfl rfl ?_
      have t2 : b'.tmps[2]?.getD undef = Value.int .i64 (ticks) := he 2 (by kernel_rfl)
      have HK := Lib.hid hK1
      clear hK1 hK2 hdep hsh he hsv hsl hFF hL hSW
      go_simp
      exact HK.out rfl _ (fp_mk rfl rfl trivial)
    · refine wpOpS_go rfl rfl ?_
      have t20 : b'.tmps[20]?.getD undef = Value.pointer (some ⟨b, 0, none⟩) := hsv 3 20 _ (by kernel_rfl) (by kernel_rfl) rfl
      have t21 : b'.tmps[21]?.getD undef = Value.agg #[.int .i64 nM, .slice aA la cA, .slice aQ lq cQ, .int .i64 tk, .int .i64 gt, .int .i64 rm, .slice aR lr cR] := hsv 4 21 _ (by kernel_rfl) (by kernel_rfl) rfl
      have t22 : b'.tmps[22]?.getD undef = Value.int .i64 (ticks) := hsv 5 22 _ (by kernel_rfl) (by kernel_rfl) rfl
      obtain ⟨s0, s1, s2, s3, s4, s5, s6⟩ := hSW
      have hu := s3 hL
      have h7 := hsh 7 (by kernel_rfl)
      have h10 := hsh 10 (by kernel_rfl)
      have HK := Lib.hid hK2
      clear hK1 hK2 hdep hsh he hsv hsl hFF hL
      go_simp
      refine (HSP.out _ _ hu).mono ?_
      rintro e w6 ⟨rfl, hU6, hB6⟩
      exact HK.out _ _ (fp_mk rfl rfl trivial) (fun a k zs h => h.but hu hB6) ⟨hB6.blk s0 ne0, fun h => hB6.blk (s1 h) ne1, fun h => absurd h (by show ¬ L 10 = true; rw [h10]; decide), fun h => absurd h (by rw [updF_same]; decide), fun _ _ => hU6, fun h => absurd h (by show ¬ L 7 = true; rw [h7]; decide), s6.trans hB6⟩
    · refine wpOpS_go rfl rfl ?_
      have t17 : b'.tmps[17]?.getD undef = Value.pointer (some ⟨b, 0, none⟩) := hsv 0 17 _ (by kernel_rfl) (by kernel_rfl) rfl
      have t19 : b'.tmps[19]?.getD undef = Value.agg #[.int .i64 nM, .int .i64 nM, .slice aA la cA] := hsv 2 19 _ (by kernel_rfl) (by kernel_rfl) rfl
      have t23 : b'.tmps[23]?.getD undef = Value.int .i64 (sp.1) := hsv 6 23 _ (by kernel_rfl) (by kernel_rfl) rfl
      obtain ⟨s0, s1, s2, s3, s4, s5, s6⟩ := hSW
      have h6 := hdep 6 (by kernel_rfl)
      have hu := s4 h6 hL
      have h10 := hsh 10 (by kernel_rfl)
      have HK := Lib.hid hK2
      clear hK1 hK2 hdep hsh he hsv hsl hFF hL
      have hsz := s6.size
      go_simp
      refine (HFL.out _ _ hu s6).mono ?_
      rintro e w6 ⟨v, rfl, hmo, hU6, hB6⟩
      obtain ⟨av, kv, rfl, hLv⟩ := hmo.ex
      rw [HNR.out, HNC.out, HNL.out]
      exact HK.out _ _ (fp_x rfl ⟨av, kv, rfl, hLv.mono hsz⟩) (fun a k zs h => h.but hu hB6) ⟨hB6.blk s0 ne0, fun h => hB6.blk (s1 h) ne1, fun h => absurd h (by show ¬ L 10 = true; rw [h10]; decide), fun h => absurd (show L 6 = false from h) (by rw [h6]; decide), fun _ h => absurd h (by rw [updF_same]; decide), fun _ => hU6, s6.trans hB6⟩
    · refine wpOpS_go rfl rfl ?_
      obtain ⟨t24, hx⟩ := hsl 7 24 (by kernel_rfl) (by kernel_rfl)
      obtain ⟨av, kv, e4, l4⟩ := hx
      rw [e4] at t24
      have HK := Lib.hid hK1
      clear hK1 hK2 hdep hsh he hsv hsl hFF hL e4 hSW
      go_simp
      exact HK.out rfl _ (fp_x rfl ⟨av, kv, rfl, l4⟩)
    · refine wpOpS_go rfl rfl ?_
      obtain ⟨t24, hx⟩ := hsl 7 24 (by kernel_rfl) (by kernel_rfl)
      obtain ⟨av, kv, e4, l4⟩ := hx
      rw [e4] at t24
      have HK := Lib.hid hK1
      clear hK1 hK2 hdep hsh he hsv hsl hFF hL e4 hSW l4
      go_simp
      exact HK.out rfl _ (fp_mk rfl rfl trivial)
    · refine wpOpS_go rfl rfl ?_
      have t6 : b'.tmps[6]?.getD undef = Value.pointer (some ⟨rb, 0, none⟩) := he 6 (by kernel_rfl)
      obtain ⟨t25, hx⟩ := hsl 8 25 (by kernel_rfl) (by kernel_rfl)
      obtain ⟨av, kv, e4, l4⟩ := hx
      rw [e4] at t25
      obtain ⟨s0, s1, s2, s3, s4, s5, s6⟩ := hSW
      have hrb := s1 hL
      have HK := Lib.hid hK2
      clear hK1 hK2 hdep hsh he hsv hsl hFF e4
      refine op_store 24 _ _ rfl rfl hrb 0 (eval_tmp t6) (eval_tmp t25) [.int .i64 nr, .int .i64 nc, .slice av nl kv] rfl (by kernel_rfl) rfl rfl #[.int .i64 nr, .int .i64 nc, .slice av nl kv] rfl ?_
      intro w' h1 h2 h3
      have hli : ∀ a k zs, LI w0.heap.size W a k zs → LI w0.heap.size w' a k zs := fun a k zs h => h.eff h2 (fun j hj ht => by subst hj; exact absurd (ht.inj hrb.ty) (by decide))
      exact HK.out undef _ (fp_x (v := undef) rfl trivial) hli ⟨h2.blk s0 ne2, fun h => absurd h (by rw [updF_same]; decide), fun _ => ⟨av, kv, h1, hli _ _ _ l4⟩, fun h => (s3 h).off h2 (Ne.symm ne1), fun h h' => (s4 h h').off h2 (Ne.symm ne1), fun h => (s5 h).off h2 (Ne.symm ne1), ⟨h2.os.trans s6.os, h2.tape.trans s6.tape, h2.output.trans s6.output, Nat.le_trans s6.size h2.size, fun j hj hn => (h2.block j (Nat.lt_of_lt_of_le hj s6.size) (fun e => by omega)).trans (s6.block j hj hn)⟩⟩
    · refine wpOpS_go rfl rfl ?_
      have t26 : b'.tmps[26]?.getD undef = Value.int .i64 (0) := hsv 9 26 _ (by kernel_rfl) (by kernel_rfl) rfl
      have HK := Lib.hid hK1
      clear hK1 hK2 hdep hsh he hsv hsl hFF hL hSW
      go_simp
      exact HK.out rfl _ (fp_mk rfl rfl trivial)
  · intro f W hf L hL hS
    obtain ⟨s0, s1, s2, s3, s4, s5, s6⟩ := (hS : _ ∧ _ ∧ _ ∧ _ ∧ _ ∧ _ ∧ _)
    replace s5 := s5 (hL 7 (by decide))
    obtain ⟨av, kv, hrb, hli⟩ := s2 (hL 10 (by decide))
    have e11 : f 11 = Value.int .i64 (0) := (hf 11 (by decide)).1 _ rfl
    clear hf hL s0 s1 s3 s4 s2
    simp only [puts2, Act.put]
    generalize f 0 = y0, f 1 = y1, f 2 = y2, f 3 = y3, f 4 = y4, f 5 = y5, f 6 = y6, f 7 = y7, f 8 = y8, f 9 = y9, f 10 = y10
    rw [e11]
    try simp only [List.setIfInBounds_toArray, List.set_cons_zero, List.set_cons_succ]
    go_wp2_with fail
    refine bodyPost_ret (results_ct (g := rb) (cs := #[.int .i64 nr, .int .i64 nc, .slice av nl kv]) rfl _ _ rfl hrb Tryz.underlying24 rfl (by kernel_rfl)) rfl ?_
    exact ⟨_, rfl, ⟨⟨av, kv, by rw [HNR.out, HNC.out, HNL.out], hli⟩, HR64.out, HC64.out⟩, by rw [← Bool.or_assoc]; exact s5, s6⟩

end Go.Proofs.YtkjbidpafnmogaaGreat.Base
namespace Go.Proofs.YtkjbidpafnmogaaGreat.Base
open Go.RowKit Go Go.Shelf Go.Deep
set_option linter.unusedVariables false
set_option linter.unusedSimpArgs false

def coefS (A d : Mt) (k : Int) : Mt × Bool := ((divsM (sumM (mulM A d).1 (turnM (mulM A d).1)).1 k).1, (mulM A d).2 || (sumM (mulM A d).1 (turnM (mulM A d).1)).2 || (divsM (sumM (mulM A d).1 (turnM (mulM A d).1)).1 k).2)
def coefR (A : Mt) : Nat → Nat → Mt → List Mt × Bool
  | 0, _, d => ([d], false)
  | f + 1, k, d => (d :: (coefR A f (k + 1) (coefS A d k).1).1, (coefS A d k).2 || (coefR A f (k + 1) (coefS A d k).1).2)
/-- A square matrix of n rows. -/
structure Sq (n nn : Nat) (m : Mt) : Prop where
  ok : okMt m
  r : m.r = n
  c : m.c = n
  l : m.v.length = nn
theorem Sq.of {n nn : Nat} {m : Mt} (h1 : 1 ≤ n) (h2 : n ≤ 12) (hnn : n * n = nn) (hr : m.r = n) (hc : m.c = n) (hl : m.v.length = nn) : Sq n nn m :=
  ⟨⟨⟨by omega, by omega⟩, ⟨by omega, by omega⟩, by rw [hr, hc, hl, ← hnn, Int.natCast_mul]⟩, hr, hc, hl⟩
theorem madeF_sq {n nn : Nat} (h1 : 1 ≤ n) (h2 : n ≤ 12) (hnn : n * n = nn) (f : Nat → Nat → Int × Bool) : Sq n nn (madeF n n f).1 := Sq.of h1 h2 hnn rfl rfl (by simp [madeF, hnn])
theorem sq_mul {n nn : Nat} {a b : Mt} (h1 : 1 ≤ n) (h2 : n ≤ 12) (hnn : n * n = nn) (ha : Sq n nn a) (hb : Sq n nn b) : Sq n nn (mulM a b).1 := by
  unfold mulM
  rw [ha.r, hb.c, Int.toNat_natCast]
  exact madeF_sq h1 h2 hnn _
theorem sq_turn {n nn : Nat} {a : Mt} (h1 : 1 ≤ n) (h2 : n ≤ 12) (hnn : n * n = nn) (ha : Sq n nn a) : Sq n nn (turnM a) := by
  unfold turnM madeM
  rw [ha.r, ha.c, Int.toNat_natCast]
  exact Sq.of h1 h2 hnn rfl rfl (by simp [hnn])
theorem sq_sum {n nn : Nat} {a : Mt} (h1 : 1 ≤ n) (h2 : n ≤ 12) (hnn : n * n = nn) (ha : Sq n nn a) (b : Mt) : Sq n nn (sumM a b).1 := by
  unfold sumM eachM
  rw [ha.r, ha.c, Int.toNat_natCast]
  exact madeF_sq h1 h2 hnn _
theorem sq_scale {n nn : Nat} {a : Mt} (h1 : 1 ≤ n) (h2 : n ≤ 12) (hnn : n * n = nn) (ha : Sq n nn a) (s : Int) : Sq n nn (scaleM a s).1 := by
  unfold scaleM eachM
  rw [ha.r, ha.c, Int.toNat_natCast]
  exact madeF_sq h1 h2 hnn _
theorem sq_divs {n nn : Nat} {a : Mt} (h1 : 1 ≤ n) (h2 : n ≤ 12) (hnn : n * n = nn) (ha : Sq n nn a) (k : Int) : Sq n nn (divsM a k).1 := Sq.of h1 h2 hnn ha.r ha.c (by show (a.v.map _).length = nn; rw [List.length_map]; exact ha.l)
theorem sq_coef {n nn : Nat} {a d : Mt} (h1 : 1 ≤ n) (h2 : n ≤ 12) (hnn : n * n = nn) (ha : Sq n nn a) (hd : Sq n nn d) (k : Int) : Sq n nn (coefS a d k).1 :=
  sq_divs h1 h2 hnn (sq_sum h1 h2 hnn (sq_mul h1 h2 hnn ha hd) _) k
/-- What the coefficients' own memory is. -/
structure CfI (w0 : World) (b n₀ ub mb ob fb : Nat) (mv : Array Value) (fv : Value) (tf : TypeId) (cs : List Mt) (W : World) : Prop where
  u : Blk W ub #[.pointer (some ⟨b, 0, none⟩)] 25
  m : Blk W mb mv 54
  f : Blk W fb #[fv] tf
  o : ∃ ov, Blk W ob #[ov] 31 ∧ OMs n₀ W ov cs
  bt : But b w0 W
  sz : n₀ ≤ W.heap.size
structure CfN (w0 : World) (b n₀ ub mb ob fb : Nat) : Prop where
  b : b < w0.heap.size
  u : ub = w0.heap.size
  m : mb = w0.heap.size + 1
  o : ob = w0.heap.size + 2
  f : fb = w0.heap.size + 3
  n : n₀ = w0.heap.size + 4
theorem CfI.keep {w0 : World} {b n₀ ub mb ob fb : Nat} {mv : Array Value} {fv : Value} {tf : TypeId} {cs : List Mt} {W W' : World} (h : CfI w0 b n₀ ub mb ob fb mv fv tf cs W) (k : Below W.heap.size W W') : CfI w0 b n₀ ub mb ob fb mv fv tf cs W' := by
  obtain ⟨ov, h1, h2⟩ := h.o
  exact ⟨h.u.keep k, h.m.keep k, h.f.keep k, ⟨ov, h1.keep k, h2.keep k⟩, h.bt.trans (But.of k), Nat.le_trans h.sz k.size⟩
theorem CfI.but {w0 : World} {b n₀ ub mb ob fb : Nat} {mv : Array Value} {fv : Value} {tf : TypeId} {cs : List Mt} {c : Bool} {W W' : World} (h : CfI w0 b n₀ ub mb ob fb mv fv tf cs W) (hN : CfN w0 b n₀ ub mb ob fb) (hU : UP W b c) (k : But b W W') : CfI w0 b n₀ ub mb ob fb mv fv tf cs W' := by
  obtain ⟨ov, h1, h2⟩ := h.o
  obtain ⟨n1, n2, n3, n4, n5, n6⟩ := hN
  obtain ⟨mm, hm⟩ := hU
  refine ⟨k.blk h.u (by omega), k.blk h.m (by omega), k.blk h.f (by omega), ⟨ov, k.blk h1 (by omega), h2.eff (but_eff k) (fun j hj ht => by subst hj; exact absurd (ht.inj hm.ty) (by decide)) (fun j hj e => ?_)⟩, h.bt.trans k, Nat.le_trans h.sz k.size⟩
  obtain ⟨vs, ho, _⟩ := h2.ex
  have := (ho.lt j hj).1
  omega
def pb : Value → Nat
  | .pointer (some x) => x.block
  | _ => 0
theorem MO.litq {B : Nat} {W : World} {v : Value} {m : Mt} {n nn : Nat} (h : MO B W v m) (hs : Sq n nn m) : ∃ a k, v = .agg #[.int .i64 (n : Int), .int .i64 (n : Int), .slice a nn k] ∧ LI B W a k m.v := by
  obtain ⟨a, k, h1, h2⟩ := h.ex
  rw [hs.r, hs.c, hs.l] at h1
  exact ⟨a, k, h1, h2⟩
/-- A store into a matrix's block beyond. -/
theorem CfI.far {w0 : World} {b n₀ ub mb ob fb e : Nat} {mv : Array Value} {fv : Value} {tf : TypeId} {cs : List Mt} {W W' : World} {vs : Array Value} (h : CfI w0 b n₀ ub mb ob fb mv fv tf cs W) (hN : CfN w0 b n₀ ub mb ob fb) (hn : n₀ ≤ e) (hb : Blk W e vs 24) (he : Eff (fun k => k = e) W W') (hown : ∀ ov, Blk W ob #[ov] 31 → ¬ ov.ownBlock = some e) : CfI w0 b n₀ ub mb ob fb mv fv tf cs W' := by
  obtain ⟨ov, h1, h2⟩ := h.o
  obtain ⟨n1, n2, n3, n4, n5, n6⟩ := hN
  have hno := hown ov h1
  refine ⟨he.blk h.u (by omega), he.blk h.m (by omega), he.blk h.f (by omega), ⟨ov, he.blk h1 (by omega), h2.eff he (fun j hj ht => by subst hj; exact absurd (ht.inj hb.ty) (by decide)) (fun j hj e2 => hno (by rw [← e2]; exact hj))⟩, ⟨he.os.trans h.bt.os, he.tape.trans h.bt.tape, he.output.trans h.bt.output, Nat.le_trans h.bt.size he.size, fun j hj hn2 => (he.block j (Nat.lt_of_lt_of_le hj h.bt.size) (fun e2 => by omega)).trans (h.bt.block j hj hn2)⟩, Nat.le_trans h.sz he.size⟩
/-- Behind an append: the memory as it is then. -/
theorem CfI.app {w0 : World} {b n₀ ub mb ob fb : Nat} {mv : Array Value} {fv : Value} {tf : TypeId} {cs cs' : List Mt} {c : Bool} {W w5 w6 : World} {ov v' : Value} (h : CfI w0 b n₀ ub mb ob fb mv fv tf cs W) (hN : CfN w0 b n₀ ub mb ob fb) (hU : UP W b c) (hO : OMs n₀ W ov cs) (hob : Blk W ob #[ov] 31)
    (hg : W.grownBy w5 ov.ownBlock) (hO5 : OMs n₀ w5 v' cs') (h6 : Blk w6 ob #[v'] 31) (he : Eff (fun k => k = ob) w5 w6) : CfI w0 b n₀ ub mb ob fb mv fv tf cs' w6 ∧ UP w6 b c ∧ (∀ {B : Nat} {a : Option Addr} {k : Nat} {zs : List Int}, LI B W a k zs → LI B w6 a k zs) ∧ (∀ {g : Nat} {cs : Array Value} {t : TypeId}, Blk W g cs t → g < n₀ ∨ t ≠ 24 → g ≠ ob → Blk w6 g cs t) := by
  obtain ⟨n1, n2, n3, n4, n5, n6⟩ := hN
  obtain ⟨vs, ho, _⟩ := hO.ex
  have hE : Eff (fun k => k = ob ∨ ov.ownBlock = some k) W w6 := (Eff.grown (P := fun k => k = ob ∨ ov.ownBlock = some k) hg (fun k hk => .inr hk)).trans he (fun j _ e => .inl e)
  have hown : ∀ k, ov.ownBlock = some k → n₀ ≤ k ∧ k < W.heap.size := fun k hk => ho.lt k hk
  have hns : ∀ {g : Nat} {cs : Array Value} {t : TypeId}, Blk W g cs t → g < n₀ ∨ t ≠ 24 → g ≠ ob → Blk w6 g cs t := fun {g} {cs} {t} hb h1 h2 => hE.blk hb (fun e => by
    rcases e with e | e
    · exact h2 e
    · rcases h1 with h1 | h1
      · have := (hown g e).1; omega
      · obtain ⟨cs', q, hc⟩ := (row_ty ho g e).1
        have := (show W.heap[g]? = _ from hb).symm.trans hc
        simp at this
        exact h1 this.2.1)
  have hli : ∀ {B : Nat} {a : Option Addr} {k : Nat} {zs : List Int}, LI B W a k zs → LI B w6 a k zs := fun {B} {a} {k} {zs} hl => hl.eff hE (fun j hj ht => by
    rcases hj with e | e
    · subst e; exact absurd (ht.inj hob.ty) (by decide)
    · exact absurd (ht.inj (row_ty ho j e).1) (by decide))
  have hU6 : UP w6 b c := by
    obtain ⟨mm, hm⟩ := hU
    exact ⟨mm, hns hm (.inl (by omega)) (by omega)⟩
  have hob5 : Blk w5 ob #[ov] 31 := hob.grown hg (fun e => by have := (hown ob e.symm).1; omega)
  refine ⟨⟨hns h.u (.inl (by omega)) (by omega), hns h.m (.inl (by omega)) (by omega), hns h.f (.inl (by omega)) (by omega), ⟨v', h6, hO5.eff he (fun j hj ht => by subst hj; exact absurd (ht.inj hob5.ty) (by decide)) (fun j hj e => ?_)⟩, ⟨hE.os.trans h.bt.os, hE.tape.trans h.bt.tape, hE.output.trans h.bt.output, Nat.le_trans h.bt.size hE.size, fun j hj hn => (hE.block j (Nat.lt_of_lt_of_le hj h.bt.size) (fun e => ?_)).trans (h.bt.block j hj hn)⟩, Nat.le_trans h.sz hE.size⟩, hU6, hli, hns⟩
  · obtain ⟨vs', ho', _⟩ := hO5.ex
    have := (ho'.lt j hj).1
    omega
  · rcases e with e | e
    · omega
    · have := (hown j e).1; omega

set_option maxHeartbeats 8000000 in
set_option maxRecDepth 100000 in
theorem coef1_is {w0 : World} {b n₀ ub mb ob fb : Nat} {tf : TypeId} (hN : CfN w0 b n₀ ub mb ob fb) (n nn : Nat) (tick gate rmin : Int) (aA : Option Addr) (cA : Nat) (aQ : Option Addr) (cQ : Nat) (aR : Option Addr) (cR : Nat) (lq lr : Nat) (A : Mt) (hA : Sq n nn A) (hn1 : 1 ≤ n) (hn6 : n ≤ 6) (hnn : n * n = nn) (hmA : ML b w0 aA cA A.v) :
    ∀ (fuel k : Nat) (c : Bool) (cs : List Mt) (d : Mt) (a : Option Addr) (kd : Nat) (W : World), k + fuel = 2 * n → 2 ≤ k → cs.length + 2 = k →
      CfI w0 b n₀ ub mb ob fb #[.int .i64 (n : Int), .slice aA nn cA, .slice aQ lq cQ, .int .i64 tick, .int .i64 gate, .int .i64 rmin, .slice aR lr cR] (.func (.func 111) #[] #[.pointer (some ⟨ob, 0, none⟩), .pointer (some ⟨mb, 0, none⟩), .pointer (some ⟨ub, 0, none⟩), .pointer (some ⟨fb, 0, none⟩)]) tf cs W →
      UP W b c → LI n₀ W a kd d.v → Sq n nn d →
      Calls Tryz.prog 111 #[.int .i64 (k : Int), .agg #[.int .i64 (n : Int), .int .i64 (n : Int), .slice a nn kd], .pointer (some ⟨ob, 0, none⟩), .pointer (some ⟨mb, 0, none⟩), .pointer (some ⟨ub, 0, none⟩), .pointer (some ⟨fb, 0, none⟩)] W fun e w' => e = .returned (.tuple #[]) ∧
        CfI w0 b n₀ ub mb ob fb #[.int .i64 (n : Int), .slice aA nn cA, .slice aQ lq cQ, .int .i64 tick, .int .i64 gate, .int .i64 rmin, .slice aR lr cR] (.func (.func 111) #[] #[.pointer (some ⟨ob, 0, none⟩), .pointer (some ⟨mb, 0, none⟩), .pointer (some ⟨ub, 0, none⟩), .pointer (some ⟨fb, 0, none⟩)]) tf (cs ++ (coefR A fuel k d).1) w' ∧ UP w' b (c || (coefR A fuel k d).2) := by
  have hob_ne : ub ≠ ob ∧ mb ≠ ob ∧ fb ≠ ob ∧ ub ≠ b ∧ mb ≠ b ∧ ob ≠ b ∧ fb ≠ b := by
    obtain ⟨n1, n2, n3, n4, n5, n6⟩ := hN
    omega
  have hlow : ub < n₀ ∧ mb < n₀ ∧ ob < n₀ ∧ fb < n₀ ∧ b < n₀ := by
    obtain ⟨n1, n2, n3, n4, n5, n6⟩ := hN
    omega
  have HN := Lib.hid hN
  have HNN := Lib.hid hnn
  have HA := Lib.hid hA
  have HMA := Lib.hid hmA
  clear hN hnn hA hmA
  intro fuel
  induction fuel with
  | zero =>
    intro k c cs d a kd W hk hk2 hcs hI hU hL hSq
    have HCS := Lib.hid hcs
    have hlen : cs.length ≤ 1000 := by omega
    have hkn : (2 : Int) * (n : Int) - 1 < (k : Int) := by omega
    have hw1 : IntKind.i64.wrap (2 * (n : Int)) = 2 * (n : Int) := IntWalk.i64_in _ (by omega)
    have hw2 : IntKind.i64.wrap (2 * (n : Int) - 1) = 2 * (n : Int) - 1 := IntWalk.i64_in _ (by omega)
    clear hk hcs
    obtain ⟨ov, hob, hO⟩ := hI.o
    have hBA := upA (upR W) (Obj.cells #[Value.int .i64 (n : Int), .int .i64 (n : Int), .slice a nn kd] 24)
    have gd := Blk.new W #[Value.int .i64 (n : Int), .int .i64 (n : Int), .slice a nn kd] 24
    have hBB := upA hBA (Obj.cells #[Value.int .i64 (n : Int), .int .i64 (n : Int), .slice a nn kd] 24)
    have hBC := upA (upR (W.alloc (Obj.cells #[Value.int .i64 (n : Int), .int .i64 (n : Int), .slice a nn kd] 24))) (Obj.cells #[Value.int .i64 (n : Int), .int .i64 (n : Int), .slice a nn kd] 24)
    have ge := Blk.new (W.alloc (Obj.cells #[Value.int .i64 (n : Int), .int .i64 (n : Int), .slice a nn kd] 24)) #[Value.int .i64 (n : Int), .int .i64 (n : Int), .slice a nn kd] 24
    rw [World.size_alloc] at ge
    have gd1 := gd.keep hBC
    have hdb : n₀ ≤ W.heap.size := hI.sz
    have hI1 := hI.keep hBB
    have hU1 := hU.keep hBB
    have hO1 := hO.keep hBB
    have hob0 := hob.keep hBA
    have hob1 := hob.keep hBB
    have hL1 := hL.keep hBB
    have hm0 := (hI.keep hBA).m.cell
    have o0 := hob0.cell
    have d0 := gd.cell
    have hsz1 : n₀ ≤ ((W.alloc (Obj.cells #[Value.int .i64 (n : Int), .int .i64 (n : Int), .slice a nn kd] 24)).alloc (Obj.cells #[Value.int .i64 (n : Int), .int .i64 (n : Int), .slice a nn kd] 24)).heap.size := hI1.sz
    have hdr : d.r = (n : Int) := hSq.r
    have hdc : d.c = (n : Int) := hSq.c
    have hdl : d.v.length = nn := hSq.l
    have HDR := Lib.hid hdr
    have HDC := Lib.hid hdc
    have HDL := Lib.hid hdl
    have h64r : I64 d.r := by rw [hdr]; unfold I64; omega
    have h64c : I64 d.c := by rw [hdc]; unfold I64; omega
    have HNE := Lib.hid (show ¬ ov.ownBlock = some W.heap.size from fun e => by
      obtain ⟨vs, ho, _⟩ := hO.ex
      have := (ho.lt _ e).2
      omega)
    clear hdr hdc hdl hI hU hO hob hL hob0 hBB hBC hBA gd
    go_enter Tryz.func111, Tryz.ntmps111
    go_wp2_with (at_builtin; refine app_mat (B := n₀) (m := d) (aH := a) (cH := kd) rfl _ _ rfl rfl hO1 hsz1 (W.heap.size + 1) rfl (n : Int) (n : Int) nn HDR.out HDC.out HDL.out ge hL1 h64r h64c hlen ?_)
    intro u' w5 hO5 hg5 hown hu5
    generalize (W.alloc (Obj.cells #[Value.int .i64 (n : Int), .int .i64 (n : Int), .slice a nn kd] 24)).alloc (Obj.cells #[Value.int .i64 (n : Int), .int .i64 (n : Int), .slice a nn kd] 24) = w1 at *
    obtain ⟨db, hdb'⟩ : ∃ db, W.heap.size = db := ⟨_, rfl⟩
    rw [hdb'] at gd1 ge hdb HNE ⊢
    clear hm0 o0 d0 hdb'
    have hob5 : Blk w5 ob #[ov] 31 := by
      obtain ⟨vs, ho, _⟩ := hO1.ex
      exact hob1.grown hg5 (fun e => by have := (ho.lt ob e.symm).1; omega)
    have HC6 := Lib.hid (fun (w6 : World) (ef : Eff (fun k => k = ob) w5 w6) => (ef.blk (hI1.m.grown hg5 (fun e => by
      obtain ⟨vs, ho, _⟩ := hO1.ex
      have := (ho.lt mb e.symm).1; omega)) (show ¬ mb = ob from hob_ne.2.1)).cell)
    go_wp2_with ((with_reducible refine at_st (p := 2) (q := 18) rfl ?_); refine ev_store rfl 31 _ _ rfl rfl hob5 0 rfl rfl [u'] (by obtain ⟨g, c', e⟩ := hu5; rw [e]; rfl) (by kernel_rfl) (by obtain ⟨g, c', e⟩ := hu5; rw [e]; rfl) rfl #[u'] rfl ?_; intro w6 g6 ef hz6; have c6 := HC6.out w6 ef)
    obtain ⟨hI6, hU6, hli6, hns6⟩ := hI1.app HN.out hU1 hO1 hob1 hg5 hO5 g6 ef
    have hL6 := hli6 hL1
    have gd6 := ef.blk (gd1.grown hg5 (fun e => by
      obtain ⟨vs, ho, _⟩ := hO1.ex
      exact HNE.out e.symm)) (show ¬ db = ob by omega)
    have HOWN := Lib.hid (show ∀ j, u'.ownBlock = some j → j < w6.heap.size from fun j hj => by
      obtain ⟨vs, ho, _⟩ := hO5.ex
      have := (ho.lt j hj).2
      omega)
    clear hI1 hU1 hO1 hob1 hob5 hO5 ef hz6 hg5 hown hu5 hli6 hns6 gd1 ge hL1 HC6 c6
    refine bodyPost_ret (results_none rfl _ _ _) rfl ?_
    exact ⟨rfl, hI6, by rw [show (coefR A 0 k d).2 = false from rfl, Bool.or_false]; exact hU6⟩
  | succ fuel ih =>
    intro k c cs d a kd W hk hk2 hcs hI hU hL hSq
    have HCS := Lib.hid hcs
    have HK := Lib.hid hk
    have hlen : cs.length ≤ 1000 := by omega
    have hkn : ¬ (2 : Int) * (n : Int) - 1 < (k : Int) := by omega
    have hk24 : k ≤ 24 := by omega
    have hw1 : IntKind.i64.wrap (2 * (n : Int)) = 2 * (n : Int) := IntWalk.i64_in _ (by omega)
    have hw2 : IntKind.i64.wrap (2 * (n : Int) - 1) = 2 * (n : Int) - 1 := IntWalk.i64_in _ (by omega)
    clear hk hcs
    obtain ⟨ov, hob, hO⟩ := hI.o
    have hBA := upA (upR W) (Obj.cells #[Value.int .i64 (n : Int), .int .i64 (n : Int), .slice a nn kd] 24)
    have gd := Blk.new W #[Value.int .i64 (n : Int), .int .i64 (n : Int), .slice a nn kd] 24
    have hBB := upA hBA (Obj.cells #[Value.int .i64 (n : Int), .int .i64 (n : Int), .slice a nn kd] 24)
    have hBC := upA (upR (W.alloc (Obj.cells #[Value.int .i64 (n : Int), .int .i64 (n : Int), .slice a nn kd] 24))) (Obj.cells #[Value.int .i64 (n : Int), .int .i64 (n : Int), .slice a nn kd] 24)
    have ge := Blk.new (W.alloc (Obj.cells #[Value.int .i64 (n : Int), .int .i64 (n : Int), .slice a nn kd] 24)) #[Value.int .i64 (n : Int), .int .i64 (n : Int), .slice a nn kd] 24
    rw [World.size_alloc] at ge
    have gd1 := gd.keep hBC
    have hdb : n₀ ≤ W.heap.size := hI.sz
    have hI1 := hI.keep hBB
    have hU1 := hU.keep hBB
    have hO1 := hO.keep hBB
    have hob0 := hob.keep hBA
    have hob1 := hob.keep hBB
    have hL1 := hL.keep hBB
    have hm0 := (hI.keep hBA).m.cell
    have o0 := hob0.cell
    have d0 := gd.cell
    have hsz1 : n₀ ≤ ((W.alloc (Obj.cells #[Value.int .i64 (n : Int), .int .i64 (n : Int), .slice a nn kd] 24)).alloc (Obj.cells #[Value.int .i64 (n : Int), .int .i64 (n : Int), .slice a nn kd] 24)).heap.size := hI1.sz
    have hdr : d.r = (n : Int) := hSq.r
    have hdc : d.c = (n : Int) := hSq.c
    have hdl : d.v.length = nn := hSq.l
    have HDR := Lib.hid hdr
    have HDC := Lib.hid hdc
    have HDL := Lib.hid hdl
    have h64r : I64 d.r := by rw [hdr]; unfold I64; omega
    have h64c : I64 d.c := by rw [hdc]; unfold I64; omega
    have HNE := Lib.hid (show ¬ ov.ownBlock = some W.heap.size from fun e => by
      obtain ⟨vs, ho, _⟩ := hO.ex
      have := (ho.lt _ e).2
      omega)
    clear hdr hdc hdl hI hU hO hob hL hob0 hBB hBC hBA gd
    go_enter Tryz.func111, Tryz.ntmps111
    go_wp2_with (at_builtin; refine app_mat (B := n₀) (m := d) (aH := a) (cH := kd) rfl _ _ rfl rfl hO1 hsz1 (W.heap.size + 1) rfl (n : Int) (n : Int) nn HDR.out HDC.out HDL.out ge hL1 h64r h64c hlen ?_)
    intro u' w5 hO5 hg5 hown hu5
    generalize (W.alloc (Obj.cells #[Value.int .i64 (n : Int), .int .i64 (n : Int), .slice a nn kd] 24)).alloc (Obj.cells #[Value.int .i64 (n : Int), .int .i64 (n : Int), .slice a nn kd] 24) = w1 at *
    obtain ⟨db, hdb'⟩ : ∃ db, W.heap.size = db := ⟨_, rfl⟩
    rw [hdb'] at gd1 ge hdb HNE ⊢
    clear hm0 o0 d0 hdb'
    have hob5 : Blk w5 ob #[ov] 31 := by
      obtain ⟨vs, ho, _⟩ := hO1.ex
      exact hob1.grown hg5 (fun e => by have := (ho.lt ob e.symm).1; omega)
    have HC6 := Lib.hid (fun (w6 : World) (ef : Eff (fun k => k = ob) w5 w6) => (ef.blk (hI1.m.grown hg5 (fun e => by
      obtain ⟨vs, ho, _⟩ := hO1.ex
      have := (ho.lt mb e.symm).1; omega)) (show ¬ mb = ob from hob_ne.2.1)).cell)
    go_wp2_with ((with_reducible refine at_st (p := 2) (q := 18) rfl ?_); refine ev_store rfl 31 _ _ rfl rfl hob5 0 rfl rfl [u'] (by obtain ⟨g, c', e⟩ := hu5; rw [e]; rfl) (by kernel_rfl) (by obtain ⟨g, c', e⟩ := hu5; rw [e]; rfl) rfl #[u'] rfl ?_; intro w6 g6 ef hz6; have c6 := HC6.out w6 ef)
    obtain ⟨hI6, hU6, hli6, hns6⟩ := hI1.app HN.out hU1 hO1 hob1 hg5 hO5 g6 ef
    have hL6 := hli6 hL1
    have gd6 := ef.blk (gd1.grown hg5 (fun e => by
      obtain ⟨vs, ho, _⟩ := hO1.ex
      exact HNE.out e.symm)) (show ¬ db = ob by omega)
    have HOWN := Lib.hid (show ∀ j, u'.ownBlock = some j → j < w6.heap.size from fun j hj => by
      obtain ⟨vs, ho, _⟩ := hO5.ex
      have := (ho.lt j hj).2
      omega)
    clear hI1 hU1 hO1 hob1 hob5 hO5 ef hz6 hg5 hown hu5 hli6 hns6 gd1 ge hL1 HC6 c6
    have hmul := fun (W : World) (hU' : UP W b c) (hb : But b w0 W) (hl : LI n₀ W a kd d.v) => mmul_is hU' (m1 := A) (m2 := d) (HMA.out.but hb) (hl.ml hU') HA.out.ok hSq.ok (HA.out.c.trans hSq.r.symm)
    rw [HA.out.r, HA.out.c, HA.out.l, hSq.r, hSq.c, hSq.l] at hmul
    have hsx := sq_mul hn1 (show n ≤ 12 by omega) HNN.out HA.out hSq
    have HCO := Lib.hid (show coefS A d (k : Int) = ((divsM (sumM (mulM A d).1 (turnM (mulM A d).1)).1 (k : Int)).1, (mulM A d).2 || (sumM (mulM A d).1 (turnM (mulM A d).1)).2 || (divsM (sumM (mulM A d).1 (turnM (mulM A d).1)).1 (k : Int)).2) from rfl)
    have HCR := Lib.hid (show coefR A (fuel + 1) k d = (d :: (coefR A fuel (k + 1) (coefS A d k).1).1, (coefS A d k).2 || (coefR A fuel (k + 1) (coefS A d k).1).2) from rfl)
    generalize mulM A d = xm at *
    have HMUL := Lib.hid hmul
    have HSX := Lib.hid hsx
    have HMV := Lib.hid (fun W => mmoves_is (n : Int) tick gate rmin aA cA aQ cQ aR cR nn lq lr W)
    have HIH := Lib.hid ih
    clear hmul hsx ih
    have hdb1 : db ≠ b := by have := hlow.2.2.2.2; omega
    obtain ⟨wz, hwz'⟩ : ∃ z, w6.heap.size = z := ⟨_, rfl⟩
    have hwz : n₀ ≤ wz := by rw [← hwz']; exact hI6.sz
    rw [hwz'] at HOWN
    have HS0 : ((fun _ : Nat => false) 4 = false → UP w6.drew b c) ∧ ((fun _ : Nat => false) 4 = true → UP w6.drew b (c || xm.2)) ∧ CfI w0 b n₀ ub mb ob fb #[.int .i64 (n : Int), .slice aA nn cA, .slice aQ lq cQ, .int .i64 tick, .int .i64 gate, .int .i64 rmin, .slice aR lr cR] (.func (.func 111) #[] #[.pointer (some ⟨ob, 0, none⟩), .pointer (some ⟨mb, 0, none⟩), .pointer (some ⟨ub, 0, none⟩), .pointer (some ⟨fb, 0, none⟩)]) tf (cs ++ [d]) w6.drew ∧ Blk w6.drew db #[.int .i64 (n : Int), .int .i64 (n : Int), .slice a nn kd] 24 ∧ LI n₀ w6.drew a kd d.v ∧ ((fun _ : Nat => false) 8 = true → wz ≤ pb ((fun _ : Nat => undef) 8) ∧ pb ((fun _ : Nat => undef) 8) ≠ db) ∧ ((fun _ : Nat => false) 8 = true → (fun _ : Nat => false) 9 = false → Blk w6.drew (pb ((fun _ : Nat => undef) 8)) #[.int .i64 0, .int .i64 0, .slice none 0 0] 24) ∧ ((fun _ : Nat => false) 9 = true → ∃ av kv, Blk w6.drew (pb ((fun _ : Nat => undef) 8)) #[.int .i64 (n : Int), .int .i64 (n : Int), .slice av nn kv] 24 ∧ LI n₀ w6.drew av kv xm.1.v) ∧ Blk w6.drew ob #[u'] 31 ∧ wz ≤ w6.drew.heap.size :=
      ⟨fun _ => hU6.drew, fun h => (by cases h), hI6.keep (upD (upR _)), gd6.drew, hL6.keep (upD (upR _)), fun h => (by cases h), fun h => (by cases h), fun h => (by cases h), g6.drew, (by rw [← hwz']; exact (upD (upR w6)).size)⟩
    clear hU6 hI6 gd6 hL6 g6 hwz'
    refine region_fp [some 26, some 27, some 28, some 29, some 30, some 25, some 31, some 32, some 8, none, some 9] [4, 8, 9] [some (Value.pointer (some ⟨b, 0, none⟩)), some (Value.agg #[.int .i64 (n : Int), .slice aA nn cA, .slice aQ lq cQ, .int .i64 tick, .int .i64 gate, .int .i64 rmin, .slice aR lr cR]), some (Value.agg #[.int .i64 (n : Int), .int .i64 (n : Int), .slice aA nn cA]), some (Value.agg #[.int .i64 (n : Int), .int .i64 (n : Int), .slice a nn kd]), none, none, none, some (Value.int .i64 (0)), none, none, some (Value.int .i64 (0))]
      (fun i v W => match i with | 4 => ∃ av kv, v = Value.tuple #[.agg #[.int .i64 (n : Int), .int .i64 (n : Int), .slice av nn kv], .int .i64 0] ∧ LI n₀ W av kv xm.1.v | 5 => ∃ av kv, v = Value.tuple #[.agg #[.int .i64 (n : Int), .int .i64 (n : Int), .slice av nn kv], .int .i64 0] ∧ LI n₀ W av kv xm.1.v | 6 => ∃ av kv, v = Value.agg #[.int .i64 (n : Int), .int .i64 (n : Int), .slice av nn kv] ∧ LI n₀ W av kv xm.1.v | 8 => ∃ e, v = Value.pointer (some ⟨e, 0, none⟩) ∧ wz ≤ e | _ => True) (fun W W' => ∀ a k zs, LI n₀ W a k zs → LI n₀ W' a k zs) (fun L f W => (L 4 = false → UP W b c) ∧ (L 4 = true → UP W b (c || xm.2)) ∧ CfI w0 b n₀ ub mb ob fb #[.int .i64 (n : Int), .slice aA nn cA, .slice aQ lq cQ, .int .i64 tick, .int .i64 gate, .int .i64 rmin, .slice aR lr cR] (.func (.func 111) #[] #[.pointer (some ⟨ob, 0, none⟩), .pointer (some ⟨mb, 0, none⟩), .pointer (some ⟨ub, 0, none⟩), .pointer (some ⟨fb, 0, none⟩)]) tf (cs ++ [d]) W ∧ Blk W db #[.int .i64 (n : Int), .int .i64 (n : Int), .slice a nn kd] 24 ∧ LI n₀ W a kd d.v ∧ (L 8 = true → wz ≤ pb (f 8) ∧ pb (f 8) ≠ db) ∧ (L 8 = true → L 9 = false → Blk W (pb (f 8)) #[.int .i64 0, .int .i64 0, .slice none 0 0] 24) ∧ (L 9 = true → ∃ av kv, Blk W (pb (f 8)) #[.int .i64 (n : Int), .int .i64 (n : Int), .slice av nn kv] 24 ∧ LI n₀ W av kv xm.1.v) ∧ Blk W ob #[u'] 31 ∧ wz ≤ W.heap.size)
      (by kernel_rfl) (by kernel_rfl) (by kernel_rfl) (by kernel_rfl) (by kernel_rfl) (fun _ _ _ _ h => h) (fun i v W W' h hb => by
        match i, h with
        | 4, ⟨a, k, h1, h2⟩ => exact ⟨a, k, h1, hb _ _ _ h2⟩
        | 5, ⟨a, k, h1, h2⟩ => exact ⟨a, k, h1, hb _ _ _ h2⟩
        | 6, ⟨a, k, h1, h2⟩ => exact ⟨a, k, h1, hb _ _ _ h2⟩
        | 8, h => exact h
        | 0, _ | 1, _ | 2, _ | 3, _ | 7, _ | 9, _ | 10, _ => trivial
        | (n + 11), _ => trivial) (fun L L' f f' W h hs => by have q4 := (h 4 (by decide)).1; have q8 := h 8 (by decide); have q9 := (h 9 (by decide)).1; (try dsimp only at hs ⊢); rw [← q4, ← q8.1, ← q8.2, ← q9]; exact hs) HS0 ?_ ?_
    · intro i hi b' L f W hSW hL hdep hsh he hsv hsl hFF K hK1 hK2
      replace hi : i < 11 := hi
      have hcs : i = 0 ∨ i = 1 ∨ i = 2 ∨ i = 3 ∨ i = 4 ∨ i = 5 ∨ i = 6 ∨ i = 7 ∨ i = 8 ∨ i = 9 ∨ i = 10 := by omega
      clear hi
      rcases hcs with rfl | rfl | rfl | rfl | rfl | rfl | rfl | rfl | rfl | rfl | rfl
      · refine wpOpS_go rfl rfl ?_
        have t4 : b'.tmps[4]?.getD undef = Value.pointer (some ⟨ub, 0, none⟩) := he 4 (by kernel_rfl)
        obtain ⟨s0, s1, s2, s3, s4, s5, s6, s7, s8, s9⟩ := hSW
        have c0 := s2.u.cell
        have HK := Lib.hid hK1
        clear hK1 hK2 hdep hsh he hsv hsl hFF hL
        clear s0 s1 s2 s3 s4 s5 s6 s7 s8 s9
        go_simp
        exact HK.out rfl _ (fp_mk rfl rfl trivial)
      · refine wpOpS_go rfl rfl ?_
        have t3 : b'.tmps[3]?.getD undef = Value.pointer (some ⟨mb, 0, none⟩) := he 3 (by kernel_rfl)
        obtain ⟨s0, s1, s2, s3, s4, s5, s6, s7, s8, s9⟩ := hSW
        have c0 := s2.m.cell
        have HK := Lib.hid hK1
        clear hK1 hK2 hdep hsh he hsv hsl hFF hL
        clear s0 s1 s2 s3 s4 s5 s6 s7 s8 s9
        go_simp
        exact HK.out rfl _ (fp_mk rfl rfl trivial)
      · refine wpOpS_go rfl rfl ?_
        have t27 : b'.tmps[27]?.getD undef = Value.agg #[.int .i64 (n : Int), .slice aA nn cA, .slice aQ lq cQ, .int .i64 tick, .int .i64 gate, .int .i64 rmin, .slice aR lr cR] := hsv 1 27 _ (by kernel_rfl) (by kernel_rfl) rfl
        obtain ⟨s0, s1, s2, s3, s4, s5, s6, s7, s8, s9⟩ := hSW
        have HK := Lib.hid hK2
        clear hK1 hK2 hdep hsh he hsv hsl hFF hL
        go_simp
        refine (HMV.out _).mono ?_
        rintro e w6 ⟨rfl, hK⟩
        exact HK.out _ _ (fp_mk rfl rfl trivial) (fun a k zs h => h.keep hK) ⟨fun h => (s0 h).keep hK, fun h => (s1 h).keep hK, s2.keep hK, s3.keep hK, s4.keep hK, s5, fun h h' => (s6 h h').keep hK, fun h => (by obtain ⟨av, kv, q1, q2⟩ := s7 h; exact ⟨av, kv, q1.keep hK, q2.keep hK⟩), s8.keep hK, Nat.le_trans s9 hK.size⟩
      · refine wpOpS_go rfl rfl ?_
        have t7 : b'.tmps[7]?.getD undef = Value.pointer (some ⟨db, 0, none⟩) := he 7 (by kernel_rfl)
        obtain ⟨s0, s1, s2, s3, s4, s5, s6, s7, s8, s9⟩ := hSW
        have c0 := s3.cell
        have HK := Lib.hid hK1
        clear hK1 hK2 hdep hsh he hsv hsl hFF hL
        clear s0 s1 s2 s3 s4 s5 s6 s7 s8 s9
        go_simp
        exact HK.out rfl _ (fp_mk rfl rfl trivial)
      · refine wpOpS_go rfl rfl ?_
        have t26 : b'.tmps[26]?.getD undef = Value.pointer (some ⟨b, 0, none⟩) := hsv 0 26 _ (by kernel_rfl) (by kernel_rfl) rfl
        have t28 : b'.tmps[28]?.getD undef = Value.agg #[.int .i64 (n : Int), .int .i64 (n : Int), .slice aA nn cA] := hsv 2 28 _ (by kernel_rfl) (by kernel_rfl) rfl
        have t29 : b'.tmps[29]?.getD undef = Value.agg #[.int .i64 (n : Int), .int .i64 (n : Int), .slice a nn kd] := hsv 3 29 _ (by kernel_rfl) (by kernel_rfl) rfl
        obtain ⟨s0, s1, s2, s3, s4, s5, s6, s7, s8, s9⟩ := hSW
        have hu := s0 hL
        have h9 := hsh 9 (by kernel_rfl)
        have HK := Lib.hid hK2
        clear hK1 hK2 hdep hsh he hsv hsl hFF hL
        go_simp
        refine (HMUL.out _ hu s2.bt s4).mono ?_
        rintro e w6 ⟨v, rfl, hmo, hU6, hB6⟩
        obtain ⟨av, kv, rfl, hLv⟩ := hmo.litq HSX.out
        exact HK.out _ _ (fp_x rfl ⟨av, kv, rfl, hLv.mono s2.sz⟩) (fun a k zs h => h.but hu hB6) ⟨fun h => absurd h (by rw [updF_same]; decide), fun _ => hU6, s2.but HN.out hu hB6, hB6.blk s3 (by omega), s4.but hu hB6, s5, fun h h' => hB6.blk (s6 h h') (show pb (f 8) ≠ b from Nat.ne_of_gt (Nat.lt_of_lt_of_le (Nat.lt_of_lt_of_le hlow.2.2.2.2 hwz) (s5 h).1)), fun h => absurd h (by show ¬ L 9 = true; rw [h9]; decide), hB6.blk s8 hob_ne.2.2.2.2.2.1, Nat.le_trans s9 hB6.size⟩
      · refine wpOpS_go rfl rfl ?_
        obtain ⟨t30, hx⟩ := hsl 4 30 (by kernel_rfl) (by kernel_rfl)
        obtain ⟨av, kv, e4, l4⟩ := hx
        rw [e4] at t30
        have HK := Lib.hid hK1
        clear hK1 hK2 hdep hsh he hsv hsl hFF hL e4 hSW
        go_simp
        exact HK.out rfl _ (fp_x rfl ⟨av, kv, rfl, l4⟩)
      · refine wpOpS_go rfl rfl ?_
        obtain ⟨t25, hx⟩ := hsl 5 25 (by kernel_rfl) (by kernel_rfl)
        obtain ⟨av, kv, e4, l4⟩ := hx
        rw [e4] at t25
        have HK := Lib.hid hK1
        clear hK1 hK2 hdep hsh he hsv hsl hFF hL e4 hSW
        go_simp
        exact HK.out rfl _ (fp_x rfl ⟨av, kv, rfl, l4⟩)
      · refine wpOpS_go rfl rfl ?_
        obtain ⟨t25, hx⟩ := hsl 5 25 (by kernel_rfl) (by kernel_rfl)
        obtain ⟨av, kv, e4, l4⟩ := hx
        rw [e4] at t25
        have HK := Lib.hid hK1
        clear hK1 hK2 hdep hsh he hsv hsl hFF hL e4 hSW l4
        go_simp
        exact HK.out rfl _ (fp_mk rfl rfl trivial)
      · refine wpOpS_go rfl rfl ?_
        obtain ⟨s0, s1, s2, s3, s4, s5, s6, s7, s8, s9⟩ := hSW
        have h9 := hsh 9 (by kernel_rfl)
        have HK := Lib.hid hK2
        clear hK1 hK2 hdep hsh he hsv hsl hFF hL
        have hdlt := s3.lt
        refine op_new (cs := #[.int .i64 0, .int .i64 0, .slice none 0 0]) (t := 24) (by go_simp) ?_
        intro w6 hb6 hK hz6
        exact HK.out _ _ (fp_x rfl ⟨_, rfl, s9⟩) (fun a k zs h => h.keep hK) ⟨fun h => (s0 h).keep hK, fun h => (s1 h).keep hK, s2.keep hK, s3.keep hK, s4.keep hK, fun _ => (by rw [updF_same]; exact ⟨s9, Nat.ne_of_gt hdlt⟩), fun _ _ => (by rw [updF_same]; exact hb6), fun h => absurd h (by show ¬ L 9 = true; rw [h9]; decide), s8.keep hK, Nat.le_trans s9 hK.size⟩
      · refine wpOpS_go rfl rfl ?_
        obtain ⟨t8, hx8⟩ := hsl 8 8 (by kernel_rfl) (by kernel_rfl)
        obtain ⟨e8, e9, l8⟩ := hx8
        obtain ⟨t31, hx⟩ := hsl 6 31 (by kernel_rfl) (by kernel_rfl)
        obtain ⟨av, kv, e4, l4⟩ := hx
        rw [e4] at t31
        obtain ⟨s0, s1, s2, s3, s4, s5, s6, s7, s8, s9⟩ := hSW
        have h8 := hdep 8 (by kernel_rfl)
        have h4 := hdep 4 (by kernel_rfl)
        have hxb := s6 h8 hL
        have hxn := s5 h8
        rw [e9] at hxb t8 hxn
        have HE9 := Lib.hid e9
        have HK := Lib.hid hK2
        clear hK1 hK2 hdep hsh he hsv hsl hFF e4 e9
        change Blk W e8 #[.int .i64 0, .int .i64 0, .slice none 0 0] 24 at hxb
        change wz ≤ e8 ∧ e8 ≠ db at hxn
        refine op_store 24 _ _ rfl rfl hxb 0 (eval_tmp t8) (eval_tmp t31) [.int .i64 (n : Int), .int .i64 (n : Int), .slice av nn kv] rfl (by kernel_rfl) rfl rfl #[.int .i64 (n : Int), .int .i64 (n : Int), .slice av nn kv] rfl ?_
        intro w' h1 h2 h3
        have hli : ∀ a k zs, LI n₀ W a k zs → LI n₀ w' a k zs := fun a k zs h => h.eff h2 (fun j hj ht => by subst hj; exact absurd (ht.inj hxb.ty) (by decide))
        have hup : ∀ c, UP W b c → UP w' b c := fun c h => h.off h2 (by have := hxn.1; have := hlow.2.2.2.2; omega)
        exact HK.out undef _ (fp_x (v := undef) rfl trivial) hli ⟨fun h => absurd (show L 4 = false from h) (by rw [h4]; decide), fun h => hup _ (s1 h), s2.far HN.out (Nat.le_trans hwz hxn.1) hxb h2 (fun ov h e => by have h5 := (show W.heap[ob]? = _ from h).symm.trans s8; simp at h5; rw [h5] at e; have := HOWN.out _ e; have := hxn.1; omega), h2.blk s3 (Ne.symm hxn.2), hli _ _ _ s4, s5, fun _ h => absurd h (by rw [updF_same]; decide), fun _ => ⟨av, kv, (by show Blk w' (pb (f 8)) _ _; rw [HE9.out]; exact h1), hli _ _ _ l4⟩, h2.blk s8 (by have := hxn.1; have := hlow.2.2.1; omega), Nat.le_trans s9 h2.size⟩
      · refine wpOpS_go rfl rfl ?_
        have t32 : b'.tmps[32]?.getD undef = Value.int .i64 (0) := hsv 7 32 _ (by kernel_rfl) (by kernel_rfl) rfl
        have HK := Lib.hid hK1
        clear hK1 hK2 hdep hsh he hsv hsl hFF hL hSW
        go_simp
        exact HK.out rfl _ (fp_mk rfl rfl trivial)
    · intro f W hf L hL hS
      obtain ⟨s0, s1, s2, s3, s4, s5, s6, s7, s8, s9⟩ := (hS : _ ∧ _ ∧ _ ∧ _ ∧ _ ∧ _ ∧ _ ∧ _ ∧ _ ∧ _)
      have hU3 := s1 (hL 4 (by decide))
      obtain ⟨av, kv, hX, hLX⟩ := s7 (hL 9 (by decide))
      obtain ⟨e8, e8e, hxn⟩ : ∃ e, f 8 = Value.pointer (some ⟨e, 0, none⟩) ∧ wz ≤ e := (hf 8 (by decide)).2
      rw [e8e] at hX
      change Blk W e8 #[.int .i64 (n : Int), .int .i64 (n : Int), .slice av nn kv] 24 at hX
      have e10 : f 10 = Value.int .i64 0 := (hf 10 (by decide)).1 _ rfl
      clear hf hL s0 s1 s3 s4 s5 s6 s7 s8 s9
      simp only [puts2, Act.put]
      generalize f 0 = y0, f 1 = y1, f 2 = y2, f 3 = y3, f 4 = y4, f 5 = y5, f 6 = y6, f 7 = y7, f 9 = y9
      rw [e8e, e10]
      try simp only [List.setIfInBounds_toArray, List.set_cons_zero, List.set_cons_succ]
      clear e8e e10
      have hTU := fun (W : World) (h : MI 0 W av kv xm.1.v) => turn_is (m := xm.1) h HSX.out.ok
      rw [HSX.out.r, HSX.out.c, HSX.out.l] at hTU
      have HTU := Lib.hid hTU
      clear hTU HMUL HMV
      have d0 := hX.cell
      go_wp2_with fail
      clear d0
      refine (HTU.out _ (hLX.mi.mono (Nat.zero_le _))).mono ?_
      rintro e W1 ⟨v, rfl, hmo, hK⟩
      have hst := sq_turn hn1 (show n ≤ 12 by omega) HNN.out HSX.out
      obtain ⟨at_, kt, rfl, hLT⟩ := hmo.litq hst
      have hI1 := s2.keep hK
      have hU1 := hU3.keep hK
      have hLX1 := hLX.keep hK
      have hBA := upA (upR W1) (Obj.cells #[Value.int .i64 (n : Int), .int .i64 (n : Int), .slice at_ nn kt] 24)
      have gT := Blk.new W1 #[Value.int .i64 (n : Int), .int .i64 (n : Int), .slice at_ nn kt] 24
      have hI2 := hI1.keep hBA
      have hU2 := hU1.keep hBA
      have hLX2 := hLX1.keep hBA
      have hLT2 := (hLT.mono (B' := n₀) (by have := s2.sz; omega)).keep hBA
      have hX2 := (hX.keep hK).keep hBA
      have d0 := hX2.cell
      have d1 := gT.cell
      have u0 := hI2.u.cell
      clear HTU s2 hU3 hX hLX hK hmo hLT hI1 hU1 hLX1 gT
      go_wp2_with fail
      clear d0 d1 u0
      generalize W1.alloc (Obj.cells #[Value.int .i64 (n : Int), .int .i64 (n : Int), .slice at_ nn kt] 24) = W2 at *
      clear hBA
      have hSM := msum_is hU2 (m1 := xm.1) (m2 := turnM xm.1) (hLX2.ml hU2) (hLT2.ml hU2) HSX.out.ok hst.ok (HSX.out.r.trans hst.r.symm) (HSX.out.c.trans hst.c.symm)
      have hsy := sq_sum hn1 (show n ≤ 12 by omega) HNN.out HSX.out (turnM xm.1)
      rw [HSX.out.r, HSX.out.c, HSX.out.l, hst.r, hst.c, hst.l] at hSM
      generalize sumM xm.1 (turnM xm.1) = ym at *
      refine hSM.mono ?_
      clear hSM
      rintro e W3 ⟨v, rfl, hmo, hU3, hB3⟩
      obtain ⟨ay, kv2, rfl, hLY⟩ := hmo.litq hsy
      have hI3 := hI2.but HN.out hU2 hB3
      obtain ⟨wp, hwp⟩ : ∃ wp, wholeF (k : Int) = wp := ⟨_, rfl⟩
      have HWP := Lib.hid hwp
      have hw64 : I64 wp.1 := hwp ▸ (wholeF_fx _).i64
      clear hwp
      have hnn36 : nn ≤ 36 := by rw [← HNN.out]; exact Nat.mul_le_mul hn6 hn6
      have hnn1 : 1 ≤ nn := by rw [← HNN.out]; exact Nat.mul_le_mul hn1 hn1
      obtain ⟨x, rfl⟩ : ∃ x, ay = some x := by
        obtain ⟨x, hx, _⟩ := hLY.mi.cell 0 (by rw [hsy.l]; omega)
        exact ⟨x, hx⟩
      obtain ⟨nb, hnb⟩ : ∃ nb, W3.heap.size = nb := ⟨_, rfl⟩
      have n0 : nb ≠ b := by rw [← hnb]; exact Nat.ne_of_gt hU3.lt
      have n1 : ub ≠ b := hob_ne.2.2.2.1
      have hszW : n₀ ≤ W3.heap.size := hI3.sz
      have hBA := upA (upR W3) (Obj.cells #[Value.int .i64 (n : Int), .int .i64 (n : Int), .slice (some x) nn kv2] 24)
      have hD : DvI W2 b nb ub ((c || xm.2) || ym.2) (n : Int) x kv2 wp ym.1.v 0 (W3.alloc (Obj.cells #[Value.int .i64 (n : Int), .int .i64 (n : Int), .slice (some x) nn kv2] 24)) :=
        ⟨by rw [← hnb, hsy.l]; exact Blk.new _ _ _, hI3.u.keep hBA, by simpa using hLY.keep hBA, by simpa using hU3.keep hBA, (but_eff hB3).trans (Eff.of (P := fun k => k = b) hBA) (fun _ _ h => h)⟩
      have y0 := (Blk.new W3 #[Value.int .i64 (n : Int), .int .i64 (n : Int), .slice (some x) nn kv2] 24).cell
      go_wp2_with fail
      try rw [hnb]
      clear y0
      generalize W3.alloc (Obj.cells #[Value.int .i64 (n : Int), .int .i64 (n : Int), .slice (some x) nn kv2] 24) = W4 at *
      have HNV := Lib.hid hsy.l
      have HI2 := Lib.hid hI2
      have HU2 := Lib.hid hU2
      have hsz2 : n₀ ≤ W2.heap.size := hI2.sz
      have HSY := Lib.hid hsy
      have hk64 : I64 (k : Int) := by unfold I64; omega
      rw [hnb] at hszW
      clear hBA hI2 hU2 hLX2 hLT2 hX2 hst hsy hmo hLY hB3 hI3 hU3 hnb
      go_loopw [14, 48] (fun u i wr => ∃ j : Nat, j ≤ nn ∧ i = .int .i64 j ∧ DvI W2 b nb ub ((c || xm.2) || ym.2) (n : Int) x kv2 wp ym.1.v j wr) (fun u i _ => nn - (intOf i).toNat)
      case atStart => exact ⟨0, Nat.zero_le _, rfl, hD⟩
      case round =>
        clear hD
        obtain ⟨j, hj, rfl, hD⟩ := hrel
        by_cases hlt : j < nn
        · have hlt' : (j : Int) < (nn : Int) := by omega
          have hj0 : (0 : Int) ≤ (j : Int) := by omega
          have hjv : j < ym.1.v.length := by rw [HNV.out]; exact hlt
          generalize ym.1.v = vs at *
          have HSET := Lib.hid (set_at (d := dvw wp.1) hjv)
          have hzj : ∃ hh : j < ((vs.take j).map (dvw wp.1) ++ vs.drop j).length, ((vs.take j).map (dvw wp.1) ++ vs.drop j)[j] = vs[j] := ⟨by simp; omega, at_at hjv _⟩
          have HANY := Lib.hid (show (((c || xm.2) || ym.2) || (vs.take (j + 1)).any (flw wp)) = (((c || xm.2) || ym.2) || (vs.take j).any (flw wp) || wp.2 || (divF vs[j] wp.1).2) by
            rw [List.take_succ_eq_append_getElem hjv, List.any_append]
            simp only [List.any_cons, List.any_nil, Bool.or_false]
            rw [show flw wp vs[j] = (wp.2 || (divF vs[j] wp.1).2) from rfl]
            simp only [Bool.or_assoc])
          obtain ⟨s0, s1, s2, s3, s4⟩ := hD
          rw [HNV.out] at s0
          have hz64 : I64 vs[j] := by
            have := s2.mi.rng (vs[j]) (by rw [← hzj.2]; exact List.getElem_mem _)
            exact this
          generalize vs[j] = z at *
          generalize hzs : (vs.take j).map (dvw wp.1) ++ vs.drop j = zs at HSET s2 hzj
          obtain ⟨c2, hc2'⟩ : ∃ c2, (((c || xm.2) || ym.2) || (vs.take j).any (flw wp)) = c2 := ⟨_, rfl⟩
          rw [hc2'] at HANY s3
          clear hzs hc2'
          obtain ⟨hjz, hzj⟩ := hzj
          have hzl : 0 < zs.length := Nat.lt_of_le_of_lt (Nat.zero_le _) hjz
          have hZ : ∀ W, LI W2.heap.size W (some x) kv2 zs → W.cell? (x.add j) = some (.int .i64 z) := fun W h => by
            obtain ⟨y, hy, hcy⟩ := h.mi.cell j hjz
            cases hy
            rw [hcy, hzj]
          have hZf : ∀ W, LI W2.heap.size W (some x) kv2 zs → W.frozen? (x.add j) = false := fun W h => by
            obtain ⟨y, hy, _, hf, _⟩ := h.wj.wi.at_ j hjz
            cases hy
            exact hf
          have hWH : ∀ W c, UP W b c → Calls Tryz.prog 95 #[.pointer (some ⟨b, 0, none⟩), .int .i64 (k : Int)] W fun e w' => e = .returned (.int .i64 wp.1) ∧ UP w' b (c || wp.2) ∧ But b W w' := fun W c h => by
            have := uWhole_is h _ hk64
            rw [HWP.out] at this
            exact this
          have hDV : ∀ W c, UP W b c → Calls Tryz.prog 94 #[.pointer (some ⟨b, 0, none⟩), .int .i64 z, .int .i64 wp.1] W fun e w' => e = .returned (.int .i64 (dvw wp.1 z)) ∧ UP w' b (c || (divF z wp.1).2) ∧ But b W w' := fun W c h => uDiv_is h z wp.1 hz64 hw64
          have hd64 : I64 (dvw wp.1 z) := dvw_64 _ _
          clear hzj
          go_wp2_with fail
          have HS0 : Blk wr.drew nb #[.int .i64 (n : Int), .int .i64 (n : Int), .slice (some x) nn kv2] 24 ∧ Blk wr.drew ub #[.pointer (some ⟨b, 0, none⟩)] 25 ∧ ((fun _ : Nat => false) 14 = false → LI W2.heap.size wr.drew (some x) kv2 zs) ∧ ((fun _ : Nat => false) 14 = true → LI W2.heap.size wr.drew (some x) kv2 (zs.set j (dvw wp.1 z))) ∧ ((fun _ : Nat => false) 11 = false → UP wr.drew b c2) ∧ ((fun _ : Nat => false) 11 = true → (fun _ : Nat => false) 12 = false → UP wr.drew b (c2 || wp.2)) ∧ ((fun _ : Nat => false) 12 = true → UP wr.drew b (c2 || wp.2 || (divF z wp.1).2)) ∧ Eff (fun k => k = b) W2 wr.drew :=
            ⟨s0.drew, s1.drew, fun _ => s2.keep (upD (upR _)), fun h => (by cases h), fun _ => s3.drew, fun h => (by cases h), fun h => (by cases h), s4.trans (Eff.of (P := fun k => k = b) (upD (upR _))) (fun _ _ h => h)⟩
          clear s0 s1 s2 s3 s4
          refine region_fp [some 51, some 52, some 53, some 54, some 55, some 56, some 57, some 58, some 59, some 60, some 61, some 62, some 63, some 64, none] [11, 12, 14] [some (Value.pointer (some ⟨nb, 2, none⟩)), some (Value.slice (some x) nn kv2), some (Value.int .i64 (j : Int)), some (Value.pointer (some ⟨b, 0, none⟩)), some (Value.pointer (some ⟨nb, 2, none⟩)), some (Value.slice (some x) nn kv2), some (Value.int .i64 (j : Int)), some (Value.pointer (some (x.add j))), some (Value.int .i64 z), some (Value.pointer (some ⟨b, 0, none⟩)), some (Value.int .i64 (k : Int)), some (Value.int .i64 wp.1), some (Value.int .i64 (dvw wp.1 z)), some (Value.pointer (some (x.add j))), none]
            (fun _ _ _ => True) (fun _ _ => True) (fun L f W => Blk W nb #[.int .i64 (n : Int), .int .i64 (n : Int), .slice (some x) nn kv2] 24 ∧ Blk W ub #[.pointer (some ⟨b, 0, none⟩)] 25 ∧ (L 14 = false → LI W2.heap.size W (some x) kv2 zs) ∧ (L 14 = true → LI W2.heap.size W (some x) kv2 (zs.set j (dvw wp.1 z))) ∧ (L 11 = false → UP W b c2) ∧ (L 11 = true → L 12 = false → UP W b (c2 || wp.2)) ∧ (L 12 = true → UP W b (c2 || wp.2 || (divF z wp.1).2)) ∧ Eff (fun k => k = b) W2 W)
            (by kernel_rfl) (by kernel_rfl) (by kernel_rfl) (by kernel_rfl) (by kernel_rfl) (fun _ => trivial) (fun _ _ _ _ _ _ => trivial) (fun L L' f f' W h hs => by have q11 := (h 11 (by decide)).1; have q12 := (h 12 (by decide)).1; have q14 := (h 14 (by decide)).1; (try dsimp only at hs ⊢); rw [← q11, ← q12, ← q14]; exact hs) HS0 ?_ ?_
          · intro i hi b' L f W hSW hL hdep hsh he hsv hsl hFF K hK1 hK2
            replace hi : i < 15 := hi
            have hcs : i = 0 ∨ i = 1 ∨ i = 2 ∨ i = 3 ∨ i = 4 ∨ i = 5 ∨ i = 6 ∨ i = 7 ∨ i = 8 ∨ i = 9 ∨ i = 10 ∨ i = 11 ∨ i = 12 ∨ i = 13 ∨ i = 14 := by omega
            clear hi
            rcases hcs with rfl | rfl | rfl | rfl | rfl | rfl | rfl | rfl | rfl | rfl | rfl | rfl | rfl | rfl | rfl
            · refine wpOpS_go rfl rfl ?_
              have t12 : b'.tmps[12]?.getD undef = Value.pointer (some ⟨nb, 0, none⟩) := he 12 (by kernel_rfl)
              have HK := Lib.hid hK1
              clear hK1 hK2 hdep hsh he hsv hsl hFF hL hSW
              go_simp
              exact HK.out rfl _ (fp_mk rfl rfl trivial)
            · refine wpOpS_go rfl rfl ?_
              have t51 : b'.tmps[51]?.getD undef = Value.pointer (some ⟨nb, 2, none⟩) := hsv 0 51 _ (by kernel_rfl) (by kernel_rfl) rfl
              obtain ⟨s0, s1, s2, s3, s4, s5, s6, s7⟩ := hSW
              have c0 := s0.cell
              have HK := Lib.hid hK1
              clear hK1 hK2 hdep hsh he hsv hsl hFF hL
              clear s0 s1 s2 s3 s4 s5 s6 s7
              go_simp
              exact HK.out rfl _ (fp_mk rfl rfl trivial)
            · refine wpOpS_go rfl rfl ?_
              have t14 : b'.tmps[14]?.getD undef = Value.int .i64 (j : Int) := he 14 (by kernel_rfl)
              have HK := Lib.hid hK1
              clear hK1 hK2 hdep hsh he hsv hsl hFF hL hSW
              go_simp
              exact HK.out rfl _ (fp_mk rfl rfl trivial)
            · refine wpOpS_go rfl rfl ?_
              have t4 : b'.tmps[4]?.getD undef = Value.pointer (some ⟨ub, 0, none⟩) := he 4 (by kernel_rfl)
              obtain ⟨s0, s1, s2, s3, s4, s5, s6, s7⟩ := hSW
              have c0 := s1.cell
              have HK := Lib.hid hK1
              clear hK1 hK2 hdep hsh he hsv hsl hFF hL
              clear s0 s1 s2 s3 s4 s5 s6 s7
              go_simp
              exact HK.out rfl _ (fp_mk rfl rfl trivial)
            · refine wpOpS_go rfl rfl ?_
              have t12 : b'.tmps[12]?.getD undef = Value.pointer (some ⟨nb, 0, none⟩) := he 12 (by kernel_rfl)
              have HK := Lib.hid hK1
              clear hK1 hK2 hdep hsh he hsv hsl hFF hL hSW
              go_simp
              exact HK.out rfl _ (fp_mk rfl rfl trivial)
            · refine wpOpS_go rfl rfl ?_
              have t55 : b'.tmps[55]?.getD undef = Value.pointer (some ⟨nb, 2, none⟩) := hsv 4 55 _ (by kernel_rfl) (by kernel_rfl) rfl
              obtain ⟨s0, s1, s2, s3, s4, s5, s6, s7⟩ := hSW
              have c0 := s0.cell
              have HK := Lib.hid hK1
              clear hK1 hK2 hdep hsh he hsv hsl hFF hL
              clear s0 s1 s2 s3 s4 s5 s6 s7
              go_simp
              exact HK.out rfl _ (fp_mk rfl rfl trivial)
            · refine wpOpS_go rfl rfl ?_
              have t14 : b'.tmps[14]?.getD undef = Value.int .i64 (j : Int) := he 14 (by kernel_rfl)
              have HK := Lib.hid hK1
              clear hK1 hK2 hdep hsh he hsv hsl hFF hL hSW
              go_simp
              exact HK.out rfl _ (fp_mk rfl rfl trivial)
            · refine wpOpS_go rfl rfl ?_
              have t56 : b'.tmps[56]?.getD undef = Value.slice (some x) nn kv2 := hsv 5 56 _ (by kernel_rfl) (by kernel_rfl) rfl
              have t57 : b'.tmps[57]?.getD undef = Value.int .i64 (j : Int) := hsv 6 57 _ (by kernel_rfl) (by kernel_rfl) rfl
              have HK := Lib.hid hK1
              clear hK1 hK2 hdep hsh he hsv hsl hFF hL hSW
              go_simp
              exact HK.out rfl _ (fp_mk rfl rfl trivial)
            · refine wpOpS_go rfl rfl ?_
              have t58 : b'.tmps[58]?.getD undef = Value.pointer (some (x.add j)) := hsv 7 58 _ (by kernel_rfl) (by kernel_rfl) rfl
              obtain ⟨s0, s1, s2, s3, s4, s5, s6, s7⟩ := hSW
              have hz1 := hZ W (s2 (hsh 14 (by kernel_rfl)))
              have HK := Lib.hid hK1
              clear hK1 hK2 hdep hsh he hsv hsl hFF hL
              clear s0 s1 s2 s3 s4 s5 s6 s7
              go_simp
              exact HK.out rfl _ (fp_mk rfl rfl trivial)
            · refine wpOpS_go rfl rfl ?_
              have t4 : b'.tmps[4]?.getD undef = Value.pointer (some ⟨ub, 0, none⟩) := he 4 (by kernel_rfl)
              obtain ⟨s0, s1, s2, s3, s4, s5, s6, s7⟩ := hSW
              have c0 := s1.cell
              have HK := Lib.hid hK1
              clear hK1 hK2 hdep hsh he hsv hsl hFF hL
              clear s0 s1 s2 s3 s4 s5 s6 s7
              go_simp
              exact HK.out rfl _ (fp_mk rfl rfl trivial)
            · refine wpOpS_go rfl rfl ?_
              have t0 : b'.tmps[0]?.getD undef = Value.int .i64 (k : Int) := he 0 (by kernel_rfl)
              have HK := Lib.hid hK1
              clear hK1 hK2 hdep hsh he hsv hsl hFF hL hSW
              go_simp
              exact HK.out rfl _ (fp_mk rfl rfl trivial)
            · refine wpOpS_go rfl rfl ?_
              have t60 : b'.tmps[60]?.getD undef = Value.pointer (some ⟨b, 0, none⟩) := hsv 9 60 _ (by kernel_rfl) (by kernel_rfl) rfl
              have t61 : b'.tmps[61]?.getD undef = Value.int .i64 (k : Int) := hsv 10 61 _ (by kernel_rfl) (by kernel_rfl) rfl
              obtain ⟨s0, s1, s2, s3, s4, s5, s6, s7⟩ := hSW
              have hu := s4 hL
              have h12 := hsh 12 (by kernel_rfl)
              have HK := Lib.hid hK2
              clear hK1 hK2 hdep hsh he hsv hsl hFF hL
              go_simp
              refine (hWH _ _ hu).mono ?_
              rintro e w6 ⟨rfl, hU6, hB6⟩
              exact HK.out _ _ (fp_mk rfl rfl trivial) trivial ⟨hB6.blk s0 n0, hB6.blk s1 n1, fun h => (s2 h).but hu hB6, fun h => (s3 h).but hu hB6, fun h => absurd h (by rw [updF_same]; decide), fun _ _ => hU6, fun h => absurd h (by show ¬ L 12 = true; rw [h12]; decide), s7.trans (but_eff hB6) (fun _ _ h => h)⟩
            · refine wpOpS_go rfl rfl ?_
              have t54 : b'.tmps[54]?.getD undef = Value.pointer (some ⟨b, 0, none⟩) := hsv 3 54 _ (by kernel_rfl) (by kernel_rfl) rfl
              have t59 : b'.tmps[59]?.getD undef = Value.int .i64 z := hsv 8 59 _ (by kernel_rfl) (by kernel_rfl) rfl
              have t62 : b'.tmps[62]?.getD undef = Value.int .i64 wp.1 := hsv 11 62 _ (by kernel_rfl) (by kernel_rfl) rfl
              obtain ⟨s0, s1, s2, s3, s4, s5, s6, s7⟩ := hSW
              have hu := s5 (hdep 11 (by kernel_rfl)) hL
              have h11 := hdep 11 (by kernel_rfl)
              have HK := Lib.hid hK2
              clear hK1 hK2 hdep hsh he hsv hsl hFF hL
              go_simp
              refine (hDV _ _ hu).mono ?_
              rintro e w6 ⟨rfl, hU6, hB6⟩
              exact HK.out _ _ (fp_mk rfl rfl trivial) trivial ⟨hB6.blk s0 n0, hB6.blk s1 n1, fun h => (s2 h).but hu hB6, fun h => (s3 h).but hu hB6, fun h => absurd (show L 11 = false from h) (by rw [h11]; decide), fun _ h => absurd h (by rw [updF_same]; decide), fun _ => hU6, s7.trans (but_eff hB6) (fun _ _ h => h)⟩
            · refine wpOpS_go rfl rfl ?_
              have t52 : b'.tmps[52]?.getD undef = Value.slice (some x) nn kv2 := hsv 1 52 _ (by kernel_rfl) (by kernel_rfl) rfl
              have t53 : b'.tmps[53]?.getD undef = Value.int .i64 (j : Int) := hsv 2 53 _ (by kernel_rfl) (by kernel_rfl) rfl
              have HK := Lib.hid hK1
              clear hK1 hK2 hdep hsh he hsv hsl hFF hL hSW
              go_simp
              exact HK.out rfl _ (fp_mk rfl rfl trivial)
            · refine wpOpS_go rfl rfl ?_
              have t63 : b'.tmps[63]?.getD undef = Value.int .i64 (dvw wp.1 z) := hsv 12 63 _ (by kernel_rfl) (by kernel_rfl) rfl
              have t64 : b'.tmps[64]?.getD undef = Value.pointer (some (x.add j)) := hsv 13 64 _ (by kernel_rfl) (by kernel_rfl) rfl
              obtain ⟨s0, s1, s2, s3, s4, s5, s6, s7⟩ := hSW
              have hli := s2 hL
              have hz1 := hZ W hli
              have hfz := hZf W hli
              have HK := Lib.hid hK2
              clear hK1 hK2 hdep hsh he hsv hsl hFF hL
              go_simp
              have hw := hli.wj.ty x rfl hzl
              have hwb := LI.put hli j hjz (dvw wp.1 z) hd64
              have hbl := LI.lo0 hli hzl
              have hE : Eff (fun k => k = x.block) W (W.setCell (x.add j) (.int .i64 (dvw wp.1 z))) := Eff.set _ _ (by rw [add_block])
              have hux : ∀ c, UP W b c → UP (W.setCell (x.add j) (.int .i64 (dvw wp.1 z))) b c := fun c ⟨mm, h⟩ => ⟨mm, hE.blk h (blk_int h hw (by decide))⟩
              exact HK.out undef _ (fp_x (v := undef) rfl trivial) trivial ⟨hE.blk s0 (blk_int s0 hw (by decide)), hE.blk s1 (blk_int s1 hw (by decide)), fun h => absurd h (by rw [updF_same]; decide), fun _ => hwb, fun h => hux _ (s4 h), fun h h' => hux _ (s5 h h'), fun h => hux _ (s6 h), s7.trans hE (fun k hk h => by omega)⟩
          · intro f W hf L hL hS
            obtain ⟨s0, s1, s2, s3, s4, s5, s6, s7⟩ := (hS : _ ∧ _ ∧ _ ∧ _ ∧ _ ∧ _ ∧ _ ∧ _)
            replace s3 := s3 (hL 14 (by decide))
            replace s6 := s6 (hL 12 (by decide))
            clear hf hL s2 s4 s5
            simp only [puts2, Act.put]
            generalize f 0 = y0, f 1 = y1, f 2 = y2, f 3 = y3, f 4 = y4, f 5 = y5, f 6 = y6, f 7 = y7, f 8 = y8, f 9 = y9, f 10 = y10, f 11 = y11, f 12 = y12, f 13 = y13
            try simp only [List.setIfInBounds_toArray, List.set_cons_zero, List.set_cons_succ]
            go_wp2_with fail
            go_roundw
            case rel => exact ⟨j + 1, by omega, by go_num, ⟨by rw [HNV.out]; exact s0, s1, by rw [← HSET.out]; exact s3, by rw [HANY.out]; exact s6, s7⟩⟩
            case measure => simp [intOf]; omega
        · have hge : ¬ (j : Int) < (nn : Int) := by omega
          have hjn : j = nn := by omega
          have HNV2 := Lib.hid (show j = ym.1.v.length from hjn.trans HNV.out.symm)
          obtain ⟨s0, s1, s2, s3, s4⟩ := hD
          rw [HNV2.out, List.take_length, List.drop_length, List.append_nil] at s2
          rw [HNV2.out, List.take_length] at s3
          rw [HNV.out] at s0
          have hIw := HI2.out.but HN.out HU2.out (eff_but s4)
          have hL' := s2.mono hsz2
          obtain ⟨p, hp⟩ : ∃ p, coefS A d (k : Int) = p := ⟨_, rfl⟩
          have HP := Lib.hid hp
          rw [hp] at HCO HCR
          have hpv : p.1.v = ym.1.v.map (dvw wp.1) := by rw [HCO.out, ← HWP.out]; rfl
          have hp2 : p.2 = (xm.2 || ym.2 || ym.1.v.any (flw wp)) := by rw [HCO.out, ← HWP.out]; rfl
          have hsp : Sq n nn p.1 := by rw [HCO.out]; exact sq_divs hn1 (show n ≤ 12 by omega) HNN.out HSY.out _
          rw [← hpv] at hL'
          have hC := HIH.out (k + 1) (((c || xm.2) || ym.2) || ym.1.v.any (flw wp)) (cs ++ [d]) p.1 (some x) kv2 wr (by have := HK.out; omega) (by omega) (by have := HCS.out; rw [List.length_append, List.length_singleton]; omega) hIw s3 hL' hsp
          have hwk : IntKind.i64.wrap ((k : Int) + 1) = ((k + 1 : Nat) : Int) := IntWalk.i64_in _ (by omega)
          have HC := Lib.hid hC
          have HP2 := Lib.hid hp2
          have d0 := s0.cell
          have d1 := hIw.f.cell
          clear hC hp hpv hp2 hsp s0 s1 s2 s3 s4 hIw hL' hjn
          go_wp2_with fail
          refine HC.out.mono ?_
          rintro e w7 ⟨rfl, hI7, hU7⟩
          go_wp2_with fail
          go_end0
          rw [HCR.out, HP2.out]
          refine ⟨rfl, ?_, ?_⟩
          · rw [List.append_assoc] at hI7; exact hI7
          · simpa only [Bool.or_assoc] using hU7

end Go.Proofs.YtkjbidpafnmogaaGreat.Base
namespace Go.Proofs.YtkjbidpafnmogaaGreat.Base
open Go.RowKit Go Go.Shelf Go.Deep
set_option linter.unusedVariables false
set_option linter.unusedSimpArgs false

def coefL (M : Mdl) : List Mt × Bool := coefR (movesM M) (2 * M.n.toNat - 2) 2 (diagM M.Q)
theorem sq_diag {n nn : Nat} {l : List Int} (h1 : 1 ≤ n) (h2 : n ≤ 12) (hnn : n * n = nn) (hl : l.length = n) : Sq n nn (diagM l) := by
  subst hl
  exact Sq.of h1 h2 hnn rfl rfl (by simp [diagM, madeM, hnn])

set_option maxHeartbeats 8000000 in
set_option maxRecDepth 100000 in
theorem coef_is {w0 : World} {b : Nat} {c : Bool} (hU : UP w0 b c) {v : Value} {M : Mdl} (hM : MW b w0 v M) (hok : okM M) :
    Calls Tryz.prog 66 #[.pointer (some ⟨b, 0, none⟩), v] w0 fun e w' => ∃ v, e = .returned v ∧ OMs w0.heap.size w' v (coefL M).1 ∧ UP w' b (c || (coefL M).2) ∧ But b w0 w' := by
  obtain ⟨aA, cA, aQ, cQ, aR, cR, rfl, hmA, hmQ⟩ := hM.ex
  obtain ⟨n, hn⟩ : ∃ n : Nat, M.n = n := ⟨M.n.toNat, (Int.toNat_of_nonneg (by have := hok.n.1; omega)).symm⟩
  have hn1 : 1 ≤ n := by have := hok.n.1; omega
  have hn6 : n ≤ 6 := by have := hok.n.2; omega
  obtain ⟨nn, hnn⟩ : ∃ nn, n * n = nn := ⟨_, rfl⟩
  have hla : M.A.length = nn := by have := hok.a.2; rw [hn, ← Int.natCast_mul, hnn] at this; omega
  have hlq : M.Q.length = n := by have := hok.q.1; omega
  have hA : Sq n nn (movesM M) := Sq.of hn1 (by omega) hnn hn hn hla
  have hD : Sq n nn (diagM M.Q) := sq_diag hn1 (by omega) hnn hlq
  obtain ⟨cl, hcl⟩ : ∃ cl, coefL M = cl := ⟨_, rfl⟩
  have HCL := Lib.hid (show coefR (movesM M) (2 * n - 2) 2 (diagM M.Q) = cl by rw [← hcl]; unfold coefL; rw [hn, Int.toNat_natCast])
  rw [hcl]
  have hDG := fun (W : World) (h : MI 0 W aQ cQ M.Q) => diag_is h (by omega) (by omega)
  rw [hlq] at hDG
  have HDG := Lib.hid hDG
  obtain ⟨lr, hlr⟩ : ∃ n, M.rows.length = n := ⟨_, rfl⟩
  rw [hla, hlq, hlr, hn]
  have HC1 := Lib.hid (fun (b' n₀ ub mb ob fb : Nat) (h : CfN w0 b n₀ ub mb ob fb) => coef1_is (tf := 117) h n nn M.tick M.gate M.rmin aA cA aQ cQ aR cR n lr (movesM M) hA hn1 hn6 hnn hmA)
  generalize M.tick = tick at *
  generalize M.gate = gate at *
  generalize M.rmin = rmin at *
  have HMQ := Lib.hid hmQ
  have HSD := Lib.hid hD
  clear hM hok hn hnn hla hlq hlr hA hcl hDG hmA hmQ hD
  have hB := below_allocs w0 [Obj.cells #[Value.pointer (some ⟨b, 0, none⟩)] 25, Obj.cells #[Value.int .i64 (n : Int), .slice aA nn cA, .slice aQ n cQ, .int .i64 tick, .int .i64 gate, .int .i64 rmin, .slice aR lr cR] 54, Obj.cells #[Value.slice none 0 0] 31, Obj.cells #[Value.nilFunc] 117]
  have g0 := blk_at w0 [Obj.cells #[Value.pointer (some ⟨b, 0, none⟩)] 25, Obj.cells #[Value.int .i64 (n : Int), .slice aA nn cA, .slice aQ n cQ, .int .i64 tick, .int .i64 gate, .int .i64 rmin, .slice aR lr cR] 54, Obj.cells #[Value.slice none 0 0] 31, Obj.cells #[Value.nilFunc] 117] 0 _ _ rfl
  have g1 := blk_at w0 [Obj.cells #[Value.pointer (some ⟨b, 0, none⟩)] 25, Obj.cells #[Value.int .i64 (n : Int), .slice aA nn cA, .slice aQ n cQ, .int .i64 tick, .int .i64 gate, .int .i64 rmin, .slice aR lr cR] 54, Obj.cells #[Value.slice none 0 0] 31, Obj.cells #[Value.nilFunc] 117] 1 _ _ rfl
  have g2 := blk_at w0 [Obj.cells #[Value.pointer (some ⟨b, 0, none⟩)] 25, Obj.cells #[Value.int .i64 (n : Int), .slice aA nn cA, .slice aQ n cQ, .int .i64 tick, .int .i64 gate, .int .i64 rmin, .slice aR lr cR] 54, Obj.cells #[Value.slice none 0 0] 31, Obj.cells #[Value.nilFunc] 117] 2 _ _ rfl
  have g3 := blk_at w0 [Obj.cells #[Value.pointer (some ⟨b, 0, none⟩)] 25, Obj.cells #[Value.int .i64 (n : Int), .slice aA nn cA, .slice aQ n cQ, .int .i64 tick, .int .i64 gate, .int .i64 rmin, .slice aR lr cR] 54, Obj.cells #[Value.slice none 0 0] 31, Obj.cells #[Value.nilFunc] 117] 3 _ _ rfl
  simp only [List.foldl_cons, List.foldl_nil, Nat.add_zero] at hB g0 g1 g2 g3
  have hsz1 := hB.2
  simp only [List.length_cons, List.length_nil, Nat.zero_add, Nat.reduceAdd] at hsz1
  replace hB := hB.1
  have hNN : CfN w0 b (w0.heap.size + 4) w0.heap.size (w0.heap.size + 1) (w0.heap.size + 2) (w0.heap.size + 3) := ⟨hU.lt, rfl, rfl, rfl, rfl, rfl⟩
  have hU1 := hU.keep hB
  have HC6 := Lib.hid (fun (w6 : World) (ef : Eff (fun k => k = w0.heap.size + 3) _ w6) => (ef.blk g1 (by omega)).cell)
  go_enter Tryz.func66, Tryz.ntmps66
  go_wp2_with ((with_reducible refine at_st (p := 6) (q := 9) rfl ?_); refine ev_store rfl 117 _ _ rfl rfl g3 0 rfl rfl [(.func (.func 111) #[] #[.pointer (some ⟨w0.heap.size + 2, 0, none⟩), .pointer (some ⟨w0.heap.size + 1, 0, none⟩), .pointer (some ⟨w0.heap.size, 0, none⟩), .pointer (some ⟨w0.heap.size + 3, 0, none⟩)])] rfl (by kernel_rfl) rfl rfl #[(.func (.func 111) #[] #[.pointer (some ⟨w0.heap.size + 2, 0, none⟩), .pointer (some ⟨w0.heap.size + 1, 0, none⟩), .pointer (some ⟨w0.heap.size, 0, none⟩), .pointer (some ⟨w0.heap.size + 3, 0, none⟩)])] rfl ?_; intro w6 g6 ef hz6; have d0 := HC6.out w6 ef)
  clear d0 HC6
  have hB6 := ef.below hB (fun k hk => by omega)
  have hUw := hU1.off ef (by have := hU.lt; omega)
  have hI6 : CfI w0 b (w0.heap.size + 4) w0.heap.size (w0.heap.size + 1) (w0.heap.size + 2) (w0.heap.size + 3) #[.int .i64 (n : Int), .slice aA nn cA, .slice aQ n cQ, .int .i64 tick, .int .i64 gate, .int .i64 rmin, .slice aR lr cR] (.func (.func 111) #[] #[.pointer (some ⟨w0.heap.size + 2, 0, none⟩), .pointer (some ⟨w0.heap.size + 1, 0, none⟩), .pointer (some ⟨w0.heap.size, 0, none⟩), .pointer (some ⟨w0.heap.size + 3, 0, none⟩)]) 117 [] w6 :=
    ⟨ef.blk g0 (by omega), ef.blk g1 (by omega), g6, ⟨_, ef.blk g2 (by omega), OMs.nil _ _⟩, But.of hB6, by have := ef.size; omega⟩
  clear g0 g1 g2 g3 hB hU1 g6 ef hz6 hsz1
  refine (HDG.out w6 (HMQ.out.mi.keep hB6)).mono ?_
  rintro e w7 ⟨v, rfl, hmo, hK⟩
  obtain ⟨aD, kD, rfl, hLD⟩ := hmo.litq HSD.out
  have hBA := upA (upR w7) (Obj.cells #[Value.int .i64 (n : Int), .int .i64 (n : Int), .slice aD nn kD] 24)
  have hI7 := (hI6.keep hK).keep hBA
  have hU7 := (hUw.keep hK).keep hBA
  have hL7 := (hLD.mono (B' := w0.heap.size + 4) (by have := hI6.sz; omega)).keep hBA
  have c0 := (Blk.new w7 #[Value.int .i64 (n : Int), .int .i64 (n : Int), .slice aD nn kD] 24).cell
  have c1 := hI7.f.cell
  clear hmo hLD hK hI6 hUw hB6 HDG HMQ
  go_wp2_with fail
  clear c0 c1
  have hC := HC1.out b (w0.heap.size + 4) w0.heap.size (w0.heap.size + 1) (w0.heap.size + 2) (w0.heap.size + 3) hNN (2 * n - 2) 2 c [] (diagM M.Q) aD kD _ (by omega) (by omega) rfl hI7 hU7 hL7 HSD.out
  rw [HCL.out, List.nil_append] at hC
  refine hC.mono ?_
  clear hC
  rintro e w8 ⟨rfl, hI8, hU8⟩
  obtain ⟨ov, hob, hO⟩ := hI8.o
  have c0 := hob.cell
  have hbt := hI8.bt
  clear hI7 hU7 hL7 hI8 hBA
  go_wp2_with fail
  go_ret
  exact ⟨_, rfl, hO.mono (by omega), hU8, hbt⟩

end Go.Proofs.YtkjbidpafnmogaaGreat.Base
namespace Go.Proofs.YtkjbidpafnmogaaGreat.Base
open Go.RowKit Go Go.Shelf Go.Deep
set_option linter.unusedVariables false
set_option linter.unusedSimpArgs false

def noiseM (M : Mdl) (ticks : Int) : Mt × Bool :=
  ((scaleM (hornM (spanM M.tick ticks).1 (coefL M).1).1 (spanM M.tick ticks).1).1, (spanM M.tick ticks).2 || (coefL M).2 || (hornM (spanM M.tick ticks).1 (coefL M).1).2 || (scaleM (hornM (spanM M.tick ticks).1 (coefL M).1).1 (spanM M.tick ticks).1).2)
theorem coefR_sq {n nn : Nat} {A : Mt} (h1 : 1 ≤ n) (h2 : n ≤ 12) (hnn : n * n = nn) (hA : Sq n nn A) : ∀ (fuel k : Nat) (d : Mt), Sq n nn d → (coefR A fuel k d).1.length = fuel + 1 ∧ ∀ m ∈ (coefR A fuel k d).1, Sq n nn m
  | 0, k, d, hd => ⟨rfl, fun m hm => by
    have : m ∈ [d] := hm
    simp at this
    rw [this]; exact hd⟩
  | fuel + 1, k, d, hd => by
    obtain ⟨q1, q2⟩ := coefR_sq h1 h2 hnn hA fuel (k + 1) _ (sq_coef h1 h2 hnn hA hd (k : Int))
    refine ⟨by show (_ :: _).length = _; rw [List.length_cons, q1], fun m hm => ?_⟩
    have : m ∈ d :: (coefR A fuel (k + 1) (coefS A d k).1).1 := hm
    rcases List.mem_cons.1 this with e | e
    · rw [e]; exact hd
    · exact q2 m e
theorem sq_poly {n nn : Nat} {l : List Mt} (h0 : 1 ≤ l.length) (hl : l.length ≤ 25) (h : ∀ m ∈ l, Sq n nn m) : polyM l := by
  refine ⟨h0, hl, fun m hm => ?_⟩
  obtain ⟨a, l', rfl⟩ : ∃ a l', l = a :: l' := by cases l with | nil => simp at h0 | cons a l' => exact ⟨a, l', rfl⟩
  have ha := h a (by simp)
  have hm' := h m hm
  exact ⟨hm'.ok, hm'.r.trans ha.r.symm, hm'.c.trans ha.c.symm⟩
theorem sq_horn {n nn : Nat} (h1 : 1 ≤ n) (h2 : n ≤ 12) (hnn : n * n = nn) (t : Int) : ∀ (l : List Mt), 0 < l.length → (∀ m ∈ l, Sq n nn m) → Sq n nn (hornM t l).1
  | [], h, _ => by simp at h
  | [m], _, h => h m (by simp)
  | m :: m' :: l, _, h => by
    have h3 := sq_horn h1 h2 hnn t (m' :: l) (by simp) (fun x hx => h x (List.mem_cons_of_mem _ hx))
    rw [hornM_cons t m (by simp)]
    exact sq_sum h1 h2 hnn (sq_scale h1 h2 hnn h3 t) m
/-- A model that may be, in numbers. -/
theorem okM.nat {M : Mdl} (hok : okM M) : ∃ n nn : Nat, M.n = n ∧ 1 ≤ n ∧ n ≤ 6 ∧ n * n = nn ∧ M.A.length = nn ∧ M.Q.length = n ∧ Sq n nn (movesM M) ∧ Sq n nn (diagM M.Q) ∧ (coefL M).1.length = 2 * n - 1 ∧ (∀ m ∈ (coefL M).1, Sq n nn m) := by
  obtain ⟨n, hn⟩ : ∃ n : Nat, M.n = n := ⟨M.n.toNat, (Int.toNat_of_nonneg (by have := hok.n.1; omega)).symm⟩
  have hn1 : 1 ≤ n := by have := hok.n.1; omega
  have hn6 : n ≤ 6 := by have := hok.n.2; omega
  obtain ⟨nn, hnn⟩ : ∃ nn, n * n = nn := ⟨_, rfl⟩
  have hla : M.A.length = nn := by have := hok.a.2; rw [hn, ← Int.natCast_mul, hnn] at this; omega
  have hlq : M.Q.length = n := by have := hok.q.1; omega
  have hA : Sq n nn (movesM M) := Sq.of hn1 (by omega) hnn hn hn hla
  have hD : Sq n nn (diagM M.Q) := sq_diag hn1 (by omega) hnn hlq
  obtain ⟨q1, q2⟩ := coefR_sq hn1 (by omega) hnn hA (2 * n - 2) 2 _ hD
  have e : coefL M = coefR (movesM M) (2 * n - 2) 2 (diagM M.Q) := by unfold coefL; rw [hn, Int.toNat_natCast]
  rw [← e] at q1 q2
  exact ⟨n, nn, hn, hn1, hn6, hnn, hla, hlq, hA, hD, by omega, q2⟩

set_option maxHeartbeats 8000000 in
set_option maxRecDepth 100000 in
theorem mNoise_is {w0 : World} {b : Nat} {c : Bool} (hU : UP w0 b c) {v : Value} {M : Mdl} (hM : MW b w0 v M) (hl : M.rows.length ≤ 1000) (hok : okM M) (ticks : Int) (h1 : 0 ≤ ticks) (h2 : ticks ≤ 1099511627776) :
    Calls Tryz.prog 30 #[.pointer (some ⟨b, 0, none⟩), v, .int .i64 ticks] w0 fun e w' => ∃ v, e = .returned (.tuple #[v, .int .i64 0]) ∧ MO w0.heap.size w' v (noiseM M ticks).1 ∧ UP w' b (c || (noiseM M ticks).2) ∧ But b w0 w' := by
  have hMW := hM
  obtain ⟨aA, cA, aQ, cQ, aR, cR, rfl, hmA, _⟩ := hM.ex
  clear hM
  obtain ⟨n, nn, hn, hn1, hn6, hnn, _, _, _, _, hcl, hcs⟩ := hok.nat
  have HRF := Lib.hid (fun (W : World) (hU' : UP W b c) (hb : Below w0.heap.size w0 W) => refuses_ok hU' (hMW.keep hb).m hl hok ticks 0 h1 h2)
  have HCF := Lib.hid (fun (W : World) (cc : Bool) (hU' : UP W b cc) (hb : But b w0 W) => coef_is hU' (hMW.but hb) hok)
  have hfx := (spanM_fx M.tick ticks).i64
  obtain ⟨la, hla⟩ : ∃ n, M.A.length = n := ⟨_, rfl⟩
  obtain ⟨lq, hlq⟩ : ∃ n, M.Q.length = n := ⟨_, rfl⟩
  obtain ⟨lr, hlr⟩ : ∃ n, M.rows.length = n := ⟨_, rfl⟩
  rw [hla, hlq, hlr] at HRF HCF ⊢
  have HSP := Lib.hid (fun (W : World) (cc : Bool) (hU' : UP W b cc) => span_is hU' M.n M.tick M.gate M.rmin aA cA aQ cQ aR cR la lq lr ticks (by unfold I64; omega) hMW.m.tick)
  unfold noiseM
  generalize spanM M.tick ticks = sp at *
  generalize coefL M = cf at *
  have hpo := sq_poly (l := cf.1) (by omega) (by omega) hcs
  have hsh := sq_horn hn1 (show n ≤ 12 by omega) hnn sp.1 cf.1 (by omega) hcs
  have HAT := Lib.hid (fun (W : World) (cc : Bool) (x : Addr) (k : Nat) (hU' : UP W b cc) (hms : MLs b W x cf.1) (hk : cf.1.length ≤ k) => At_is hU' hms hk hpo sp.1 hfx)
  generalize hornM sp.1 cf.1 = hh at *
  have hss := sq_scale hn1 (show n ≤ 12 by omega) hnn hsh sp.1
  have hsc := fun (W : World) (cc : Bool) (a : Option Addr) (k : Nat) (hU' : UP W b cc) (hl : ML b W a k hh.1.v) => mscale_is hU' hl hsh.ok sp.1 hfx
  rw [hsh.r, hsh.c, hsh.l] at hsc
  generalize scaleM hh.1 sp.1 = rr at *
  have HSC := Lib.hid hsc
  have HSH := Lib.hid hsh
  have HSS := Lib.hid hss
  have HLN := Lib.hid hcl
  obtain ⟨tl, htl⟩ : ∃ t, cf.1.length = t := ⟨_, rfl⟩
  have htl1 : 1 ≤ tl := by omega
  have HTL := Lib.hid htl
  generalize M.n = nM at *
  generalize M.tick = tk at *
  generalize M.gate = gt at *
  generalize M.rmin = rm at *
  clear hla hlq hlr hMW hl hok hfx hmA hpo hsc hsh hss hcl hcs htl hn hnn
  have hblt := hU.lt
  go_enter Tryz.func30, Tryz.ntmps30
  have hB := below_allocs w0 [Obj.cells #[.int .i64 nM, .slice aA la cA, .slice aQ lq cQ, .int .i64 tk, .int .i64 gt, .int .i64 rm, .slice aR lr cR] 54, Obj.cells #[Value.int .i64 0, .int .i64 0, .slice none 0 0] 24]
  have g0 := blk_at w0 [Obj.cells #[.int .i64 nM, .slice aA la cA, .slice aQ lq cQ, .int .i64 tk, .int .i64 gt, .int .i64 rm, .slice aR lr cR] 54, Obj.cells #[Value.int .i64 0, .int .i64 0, .slice none 0 0] 24] 0 _ _ rfl
  have g1 := blk_at w0 [Obj.cells #[.int .i64 nM, .slice aA la cA, .slice aQ lq cQ, .int .i64 tk, .int .i64 gt, .int .i64 rm, .slice aR lr cR] 54, Obj.cells #[Value.int .i64 0, .int .i64 0, .slice none 0 0] 24] 1 _ _ rfl
  simp only [List.foldl_cons, List.foldl_nil, Nat.add_zero] at hB g0 g1
  replace hB := hB.1
  have hU1 := hU.keep hB
  have d0 := g0.cell
  go_wp2_with fail
  clear d0
  generalize (w0.alloc (Obj.cells #[.int .i64 nM, .slice aA la cA, .slice aQ lq cQ, .int .i64 tk, .int .i64 gt, .int .i64 rm, .slice aR lr cR] 54)).alloc (Obj.cells #[Value.int .i64 0, .int .i64 0, .slice none 0 0] 24) = w1 at *
  refine (HRF.out _ hU1 hB).mono ?_
  rintro e w2 ⟨rfl, hK⟩
  replace hB := more hB hK
  replace hU1 := hU1.keep hK
  replace g0 := g0.keep hK
  replace g1 := g1.keep hK
  have ne0 : w0.heap.size ≠ b := by omega
  have ne1 : w0.heap.size + 1 ≠ b := by omega
  clear hK HRF hU
  have d0 := g0.cell
  go_wp2_with fail
  clear d0
  refine (HSP.out _ _ hU1).mono ?_
  rintro e w3 ⟨rfl, hU3, hB3⟩
  have hBt := (But.of (b := b) hB).trans hB3
  replace g0 := hB3.blk g0 ne0
  replace g1 := hB3.blk g1 ne1
  clear hB hU1 hB3 HSP
  have d0 := g0.cell
  go_wp2_with fail
  clear d0
  refine (HCF.out _ _ hU3 hBt).mono ?_
  rintro e w4 ⟨v, rfl, hO, hU4, hB4⟩
  obtain ⟨x, kc, rfl, hck, hMLs⟩ := hO.mls hU4 (by rw [HTL.out]; omega)
  have hC := HAT.out _ _ x kc hU4 hMLs hck
  rw [HTL.out] at hC ⊢
  have hBu := hBt.trans hB4
  replace g1 := hB4.blk g1 ne1
  have HC := Lib.hid hC
  clear hC hO hMLs hck hU3 hBt hB4 HCF HAT g0
  go_wp2_with fail
  refine HC.out.mono ?_
  rintro e w5 ⟨v, rfl, hmo, hU5, hB5⟩
  obtain ⟨a5, k5, rfl, hL5⟩ := hmo.litq HSH.out
  have hBv := hBu.trans hB5
  replace g1 := hB5.blk g1 ne1
  have hBA := upA (upR w5) (Obj.cells #[Value.int .i64 (n : Int), .int .i64 (n : Int), .slice a5 nn k5] 24)
  have d0 := (Blk.new w5 #[Value.int .i64 (n : Int), .int .i64 (n : Int), .slice a5 nn k5] 24).cell
  replace g1 := g1.keep hBA
  have hU6 := hU5.keep hBA
  have hL6 := hL5.keep hBA
  have hBw := hBv.trans (But.of hBA)
  clear HC hmo hL5 hU5 hBu hB5 hBv hBA hU4
  go_wp2_with fail
  clear d0
  generalize w5.alloc (Obj.cells #[Value.int .i64 (n : Int), .int .i64 (n : Int), .slice a5 nn k5] 24) = w6 at *
  refine (HSC.out _ _ a5 k5 hU6 (hL6.ml hU6)).mono ?_
  rintro e w7 ⟨v, rfl, hmo, hU7, hB7⟩
  obtain ⟨a7, k7, rfl, hL7⟩ := hmo.litq HSS.out
  have hBx := hBw.trans hB7
  have hL8 := hL7.mono hBw.size
  replace g1 := hB7.blk g1 ne1
  clear hmo hL7 hBw hB7 hU6 hL6 HSC HSH
  go_wp2_with ((with_reducible refine at_st (p := 6) (q := 37) rfl ?_); refine ev_store rfl 24 _ _ rfl rfl g1 0 rfl rfl [.int .i64 (n : Int), .int .i64 (n : Int), .slice a7 nn k7] rfl (by kernel_rfl) rfl rfl #[.int .i64 (n : Int), .int .i64 (n : Int), .slice a7 nn k7] rfl ?_; intro w8 g8 ef hz8)
  have hL9 := hL8.eff ef (fun k hk ht => by subst hk; exact absurd (ht.inj g1.ty) (by decide))
  have hU8 := hU7.off ef (Ne.symm ne1)
  refine bodyPost_ret (results_ct (g := w0.heap.size + 1) (cs := #[.int .i64 (n : Int), .int .i64 (n : Int), .slice a7 nn k7]) rfl _ _ rfl g8 Tryz.underlying24 rfl (by kernel_rfl)) rfl ?_
  refine ⟨_, rfl, ⟨⟨a7, k7, by rw [HSS.out.r, HSS.out.c, HSS.out.l], hL9⟩, by rw [HSS.out.r]; unfold I64; omega, by rw [HSS.out.c]; unfold I64; omega⟩, by simpa only [Bool.or_assoc] using hU8, ⟨ef.os.trans hBx.os, ef.tape.trans hBx.tape, ef.output.trans hBx.output, Nat.le_trans hBx.size ef.size, fun j hj hn => (ef.block j (Nat.lt_of_lt_of_le hj hBx.size) (fun e => by omega)).trans (hBx.block j hj hn)⟩⟩

end Go.Proofs.YtkjbidpafnmogaaGreat.Base
