/- model: which models may be. -/
import Derived.Test.YtnofoommindocaaGreatMdlA
namespace Go.Proofs.YtnofoommindocaaGreat.Base
open Go.RowKit
set_option linter.unusedVariables false
set_option linter.unusedSimpArgs false

/-- A moves nothing in a circle. -/
def badA (n : Int) (A : List Int) (j : Nat) : Prop := ∃ h : j < A.length, A[j] ≠ 0 ∧ ((j : Int) % n ≤ (j : Int) / n ∨ farP A[j])
def okA (n : Int) (A : List Int) : Prop := (∀ j, ¬ badA n A j) ∧ (A.length : Int) = n * n
def lastS (rows : List Rw) (j : Nat) : Int := if h : 0 < j ∧ j - 1 < rows.length then rows[j - 1].s else 1
def badR (n rmin : Int) (rows : List Rw) (j : Nat) : Prop :=
  ∃ h : j < rows.length, ¬ (lastS rows j ≤ rows[j].s ∧ rows[j].s ≤ 16) ∨ (rows[j].h.length : Int) ≠ n ∨ (∃ z ∈ rows[j].h, farP z) ∨ rows[j].r < rmin
def okR (n rmin : Int) (rows : List Rw) : Prop := (∀ j, ¬ badR n rmin rows j) ∧ rows.length ≤ 24
def okQ (n : Int) (Q : List Int) : Prop := (Q.length : Int) = n ∧ ¬ ∃ z ∈ Q, offP z
/-- The model may be. -/
structure okM (M : Mdl) : Prop where
  n : 1 ≤ M.n ∧ M.n ≤ 6
  a : okA M.n M.A
  q : okQ M.n M.Q
  t : (1 ≤ M.tick ∧ M.tick ≤ 4294967296) ∧ 1 ≤ M.gate ∧ 1 ≤ M.rmin
  r : okR M.n M.rmin M.rows

/-- It is told whether p is so. -/
def TellsB (e : Ending) (p : Prop) : Prop := ∃ r : Bool, e = .returned (.bool r) ∧ (r = true ↔ p)
theorem TellsB.yes {p : Prop} (h : p) : TellsB (.returned (.bool true)) p := ⟨true, rfl, fun _ => h, fun _ => rfl⟩
theorem TellsB.no {p : Prop} (h : ¬ p) : TellsB (.returned (.bool false)) p := ⟨false, rfl, fun e => (by cases e), fun e => absurd e h⟩

set_option maxHeartbeats 4000000 in
theorem moves_is {B : Nat} {W : World} {v : Value} {M : Mdl} (hM : MM B W v M) (hn : 1 ≤ M.n ∧ M.n ≤ 6) :
    Calls Tryz.prog 112 #[v] W fun e w' => TellsB e (okA M.n M.A) ∧ Below W.heap.size W w' := by
  obtain ⟨aA, cA, aQ, cQ, aR, cR, rfl, hA, hQ, hR⟩ := hM.ex
  obtain ⟨m, A, Q, tick, gate, rmin, rows⟩ := M
  clear hM hQ hR
  dsimp only at *
  have hl := hA.len
  unfold maxLen at hl
  obtain ⟨n, hnl⟩ : ∃ n, A.length = n := ⟨_, rfl⟩
  rw [hnl] at hl ⊢
  generalize Q.length = lQ at *
  generalize rows.length = lR at *
  obtain ⟨hn1, hn2⟩ := hn
  have hm0 : ¬ m = 0 := by omega
  have hmm : IntKind.i64.wrap (m * m) = m * m := by
    have h1 : 0 ≤ m * m := Int.mul_nonneg (by omega) (by omega)
    have h2 : m * m ≤ 6 * 6 := Int.mul_le_mul hn2 hn2 (by omega) (by omega)
    exact IntWalk.i64_in _ (by omega)
  go_enter Tryz.func112, Tryz.ntmps112
  go_wp2_with fail
  have hX := Blk.new W #[Value.int IntKind.i64 m, Value.slice aA n cA, Value.slice aQ lQ cQ, Value.int IntKind.i64 tick, Value.int IntKind.i64 gate, Value.int IntKind.i64 rmin, Value.slice aR lR cR] 25
  have hB : Below W.heap.size W (W.alloc (.cells #[Value.int IntKind.i64 m, Value.slice aA n cA, Value.slice aQ lQ cQ, Value.int IntKind.i64 tick, Value.int IntKind.i64 gate, Value.int IntKind.i64 rmin, Value.slice aR lR cR] 25)) := (Below.refl _ _).alloc (Nat.le_refl _) _
  have hA1 := hA.keep hB
  generalize W.alloc (.cells #[Value.int IntKind.i64 m, Value.slice aA n cA, Value.slice aQ lQ cQ, Value.int IntKind.i64 tick, Value.int IntKind.i64 gate, Value.int IntKind.i64 rmin, Value.slice aR lR cR] 25) = W1 at *
  have x0 := hX.cell 0
  have x1 := hX.cell 1
  simp at x0 x1
  clear hX
  go_loopw [8] (fun i wr => ∃ (k : Nat), k ≤ n ∧ i = .int .i64 k ∧ Hid (∀ j, j < k → ¬ badA m A j) ∧ Below W1.heap.size W1 wr) (fun i _ => n - (intOf i).toNat)
  case atStart => exact ⟨0, Nat.zero_le _, rfl, fun j hj => absurd hj (by omega), Below.refl _ _⟩
  case round =>
    obtain ⟨k, hk, rfl, hS, hBr⟩ := hrel
    have hW : Below W.heap.size W wr := more hB hBr
    have x0r := (hBr.cell (World.block_lt_of_cell? W1 _ x0)).trans x0
    have x1r := (hBr.cell (World.block_lt_of_cell? W1 _ x1)).trans x1
    have hAr := hA1.keep hBr
    clear x0 x1
    by_cases hkl : k < n
    · have hkl' : (k : Int) < (n : Int) := by omega
      have hk0 : (0 : Int) ≤ (k : Int) := by omega
      have hkz : k < A.length := by omega
      obtain ⟨x, rfl, hx, hxr⟩ := hAr.at k hkz
      obtain ⟨z, hz⟩ : ∃ z, A[k] = z := ⟨_, rfl⟩
      rw [hz] at hx hxr
      have HZ := Lib.hid hz
      clear hz
      have hr0 : (k : Int).tmod m = (k : Int) % m := Int.tmod_eq_emod_of_nonneg hk0
      have hd0 : (k : Int).tdiv m = (k : Int) / m := Int.tdiv_eq_ediv_of_nonneg hk0
      have hr1 : 0 ≤ (k : Int) % m := Int.emod_nonneg _ hm0
      have hr2 : (k : Int) % m < m := Int.emod_lt_of_pos _ (by omega)
      have hd1 : 0 ≤ (k : Int) / m := Int.ediv_nonneg hk0 (by omega)
      have hd2 : (k : Int) / m ≤ k := Int.ediv_le_self _ hk0
      have hbad : badA m A k ↔ z ≠ 0 ∧ ((k : Int) % m ≤ (k : Int) / m ∨ farP z) := by
        constructor
        · rintro ⟨h, hb⟩
          rw [HZ.out] at hb
          exact hb
        · intro hb
          refine ⟨hkz, ?_⟩
          rw [HZ.out]
          exact hb
      have HBD := Lib.hid hbad
      clear hbad
      obtain ⟨r, hr⟩ : ∃ r, (k : Int) % m = r := ⟨_, rfl⟩
      obtain ⟨d, hd⟩ : ∃ d, (k : Int) / m = d := ⟨_, rfl⟩
      rw [hr] at hr0 hr1 hr2
      rw [hd] at hd0 hd1 hd2
      have HR := Lib.hid hr
      have HD := Lib.hid hd
      clear hr hd
      have wr1 : IntKind.i64.wrap r = r := IntWalk.i64_in _ (by omega)
      have wd1 : IntKind.i64.wrap d = d := IntWalk.i64_in _ (by omega)
      have wr0 : IntKind.i64.wrap ((k : Int).tmod m) = r := by rw [hr0]; exact wr1
      have wd0 : IntKind.i64.wrap ((k : Int).tdiv m) = d := by rw [hd0]; exact wd1
      have hnext : ¬ badA m A k → Hid (∀ j, j < k + 1 → ¬ badA m A j) := fun hb j hj => by
        by_cases e : j = k
        · rw [e]; exact hb
        · exact hS.out j (by omega)
      have HN := Lib.hid hnext
      clear hnext hS
      by_cases hz0 : z = 0
      · go_wp2_with fail
        go_quiet (fail)
        go_wp2_with fail
        go_roundw
        case rel => exact ⟨k + 1, by omega, by go_num, HN.out (by rw [HBD.out]; intro h; exact h.1 hz0), more hBr (below_drewN _ _)⟩
        case measure => simp [intOf]; omega
      · by_cases hrd : r ≤ d
        · go_wp2_with fail
          go_quiet (fail)
          go_wp2_with fail
          go_ret
          exact ⟨TellsB.no (fun h => absurd (HBD.out.2 ⟨hz0, .inl (by rw [HR.out, HD.out]; exact hrd)⟩) (h.1 k)), more hW (below_drewN _ _)⟩
        · have hrd2 : d < r := by omega
          have hrd3 : decide (r ≤ d) = false := decide_eq_false hrd
          by_cases hf : farP z
          · have HF : ∀ w, Calls Tryz.prog 169 #[.int .i64 z] w fun e w' => e = .returned (.bool true) ∧ ∃ m, w' = w.drewN m := fun w => (far_is z w).mono fun _ _ ⟨he, hw⟩ => ⟨by rw [he, decide_eq_true hf], 0, hw.symm⟩
            go_wp2_with fail
            go_quiet (first | (go_at_call_of 169 (Value.int IntKind.i64 z); exact Calls.quiet_of (HF _)))
            go_wp2_with fail
            go_ret
            exact ⟨TellsB.no (fun h => absurd (HBD.out.2 ⟨hz0, .inr hf⟩) (h.1 k)), more hW (below_drewN _ _)⟩
          · have HF : ∀ w, Calls Tryz.prog 169 #[.int .i64 z] w fun e w' => e = .returned (.bool false) ∧ ∃ m, w' = w.drewN m := fun w => (far_is z w).mono fun _ _ ⟨he, hw⟩ => ⟨by rw [he, decide_eq_false hf], 0, hw.symm⟩
            go_wp2_with fail
            go_quiet (first | (go_at_call_of 169 (Value.int IntKind.i64 z); exact Calls.quiet_of (HF _)))
            go_wp2_with fail
            go_roundw
            case rel =>
              refine ⟨k + 1, by omega, by go_num, HN.out ?_, more hBr (below_drewN _ _)⟩
              rw [HBD.out, HR.out, HD.out]
              rintro ⟨_, h | h⟩
              · omega
              · exact hf h
            case measure => simp [intOf]; omega
    · have hge : ¬ (k : Int) < (n : Int) := by omega
      have hall : ∀ j, ¬ badA m A j := fun j hb => by
        obtain ⟨hj, hbb⟩ := hb
        exact hS.out j (by omega) ⟨hj, hbb⟩
      have HA := Lib.hid hall
      clear hall hS
      obtain ⟨mm, hmd⟩ : ∃ mm, m * m = mm := ⟨_, rfl⟩
      have HMD := Lib.hid hmd
      rw [hmd] at hmm
      by_cases hnm : (n : Int) = mm
      · go_wp2_with fail
        go_ret
        exact ⟨TellsB.yes ⟨HA.out, by rw [hnl, HMD.out]; exact hnm⟩, hW⟩
      · have hne : ((n : Int) == mm) = false := by simp; omega
        go_wp2_with fail
        go_ret
        exact ⟨TellsB.no (fun h => absurd h.2 (by rw [hnl, HMD.out]; exact hnm)), hW⟩

set_option maxHeartbeats 4000000 in
set_option maxRecDepth 100000 in
theorem sees_is {B : Nat} {W : World} {v : Value} {M : Mdl} (hM : MM B W v M) (hlen : M.rows.length ≤ 1000) :
    Calls Tryz.prog 117 #[v] W fun e w' => TellsB e (okR M.n M.rmin M.rows) ∧ Below W.heap.size W w' := by
  obtain ⟨aA, cA, aQ, cQ, aR, cR, rfl, hA, hQ, hR⟩ := hM.ex
  have hmn := hM.n
  have hmr := hM.rmin
  obtain ⟨m, A, Q, tick, gate, rmin, rows⟩ := M
  clear hM hQ hA
  dsimp only at *
  obtain ⟨n, hnl⟩ : ∃ n, rows.length = n := ⟨_, rfl⟩
  rw [hnl] at hlen ⊢
  generalize Q.length = lQ at *
  generalize A.length = lA at *
  unfold I64 at hmn hmr
  go_enter Tryz.func117, Tryz.ntmps117
  go_wp2_with fail
  have hX := Blk.new W #[Value.int IntKind.i64 m, Value.slice aA lA cA, Value.slice aQ lQ cQ, Value.int IntKind.i64 tick, Value.int IntKind.i64 gate, Value.int IntKind.i64 rmin, Value.slice aR n cR] 25
  have hB : Below W.heap.size W (W.alloc (.cells #[Value.int IntKind.i64 m, Value.slice aA lA cA, Value.slice aQ lQ cQ, Value.int IntKind.i64 tick, Value.int IntKind.i64 gate, Value.int IntKind.i64 rmin, Value.slice aR n cR] 25)) := (Below.refl _ _).alloc (Nat.le_refl _) _
  have hR1 := hR.keep hB
  generalize W.alloc (.cells #[Value.int IntKind.i64 m, Value.slice aA lA cA, Value.slice aQ lQ cQ, Value.int IntKind.i64 tick, Value.int IntKind.i64 gate, Value.int IntKind.i64 rmin, Value.slice aR n cR] 25) = W1 at *
  have x0 := hX.cell 0
  have x5 := hX.cell 5
  have x6 := hX.cell 6
  simp at x0 x5 x6
  clear hX
  go_loopw [3, 9] (fun l i wr => ∃ (k : Nat), k ≤ n ∧ i = .int .i64 k ∧ l = .int .i64 (lastS rows k) ∧ Hid (∀ j, j < k → ¬ badR m rmin rows j) ∧ Below W1.heap.size W1 wr) (fun _ i _ => n - (intOf i).toNat)
  case atStart => exact ⟨0, Nat.zero_le _, rfl, rfl, fun j hj => absurd hj (by omega), Below.refl _ _⟩
  case round =>
    obtain ⟨k, hk, rfl, rfl, hS, hBr⟩ := hrel
    have hW : Below W.heap.size W wr := more hB hBr
    have x0r := (hBr.cell (World.block_lt_of_cell? W1 _ x0)).trans x0
    have x5r := (hBr.cell (World.block_lt_of_cell? W1 _ x5)).trans x5
    have x6r := (hBr.cell (World.block_lt_of_cell? W1 _ x6)).trans x6
    have hRr := hR1.keep hBr
    clear x0 x5 x6
    by_cases hkl : k < n
    · have hkl' : (k : Int) < (n : Int) := by omega
      have hk0 : (0 : Int) ≤ (k : Int) := by omega
      have hkz : k < rows.length := by omega
      obtain ⟨x, rfl, hrow⟩ := hRr.at_ k hkz
      obtain ⟨⟨s, h, r⟩, hz⟩ : ∃ z, rows[k] = z := ⟨_, rfl⟩
      rw [hz] at hrow
      obtain ⟨aH, cH, y0, y1, y2, hH⟩ := hrow.ex
      have hs64 := hrow.s
      have hr64 := hrow.r
      clear hrow
      dsimp only at y0 y1 y2 hH hs64 hr64
      have HZ := Lib.hid hz
      clear hz
      obtain ⟨ls, hls⟩ : ∃ ls, lastS rows k = ls := ⟨_, rfl⟩
      have hbad : badR m rmin rows k ↔ (¬ (ls ≤ s ∧ s ≤ 16) ∨ (h.length : Int) ≠ m ∨ (∃ z ∈ h, farP z) ∨ r < rmin) := by
        rw [← hls]
        constructor
        · rintro ⟨_, hb⟩
          rw [HZ.out] at hb
          exact hb
        · intro hb
          refine ⟨hkz, ?_⟩
          rw [HZ.out]
          exact hb
      have hnl2 : lastS rows (k + 1) = s := by
        unfold lastS
        rw [dif_pos ⟨by omega, by simpa using hkz⟩]
        simp only [Nat.add_sub_cancel]
        rw [HZ.out]
      rw [hls]
      have HBD := Lib.hid hbad
      have HLS := Lib.hid hnl2
      have hnext : ¬ badR m rmin rows k → Hid (∀ j, j < k + 1 → ¬ badR m rmin rows j) := fun hb j hj => by
        by_cases e : j = k
        · rw [e]; exact hb
        · exact hS.out j (by omega)
      have HN := Lib.hid hnext
      clear hnext hS hbad hnl2 hls
      have hl1 := hH.len
      unfold maxLen at hl1
      obtain ⟨nh, hnh⟩ : ∃ nh, h.length = nh := ⟨_, rfl⟩
      have HNH := Lib.hid hnh
      simp only [hnh] at y1 hl1
      clear hnh
      go_wp2_with fail
      have hbx := Blk.new wr #[.int .i64 s, .slice aH nh cH, .int .i64 r] 29
      have hBx : Below wr.heap.size wr (wr.alloc (.cells #[.int .i64 s, .slice aH nh cH, .int .i64 r] 29)) := (Below.refl _ _).alloc (Nat.le_refl _) _
      generalize wr.alloc (.cells #[.int .i64 s, .slice aH nh cH, .int .i64 r] 29) = wx at *
      replace hBr := more hBr hBx
      replace hW := more hW hBx
      replace x0r := (hBx.cell (World.block_lt_of_cell? wr _ x0r)).trans x0r
      replace x5r := (hBx.cell (World.block_lt_of_cell? wr _ x5r)).trans x5r
      replace x6r := (hBx.cell (World.block_lt_of_cell? wr _ x6r)).trans x6r
      replace hH := hH.keep hBx
      have z0 := hbx.cell 0
      have z1 := hbx.cell 1
      have z2 := hbx.cell 2
      simp at z0 z1 z2
      clear hbx y0 y1 y2 hBx
      refine (within_is _ _ _ _).mono ?_
      rintro e w' ⟨rfl, rfl⟩
      by_cases g1 : ls ≤ s ∧ s ≤ 16
      · simp only [decide_eq_true g1]
        by_cases g2 : (nh : Int) = m
        · go_wp2_with fail
          have hC := contains_far hH
          rw [HNH.out] at hC
          refine hC.mono ?_
          rintro e w' ⟨b, rfl, hb, rfl⟩
          cases b with
          | true =>
            have hbb := Lib.hid (hb.1 rfl)
            clear hb
            go_wp2_with fail
            go_ret
            exact ⟨TellsB.no (fun h => h.1 k (HBD.out.2 (.inr (.inr (.inl hbb.out))))), hW⟩
          | false =>
            have hbb := Lib.hid (show ¬ ∃ z ∈ h, farP z from fun h => by cases hb.2 h)
            clear hb
            by_cases g3 : r < rmin
            · go_wp2_with fail
              go_ret
              exact ⟨TellsB.no (fun h => h.1 k (HBD.out.2 (.inr (.inr (.inr g3))))), hW⟩
            · go_wp2_with fail
              go_roundw
              case rel =>
                refine ⟨k + 1, by omega, by go_num, by rw [HLS.out], HN.out ?_, hBr⟩
                rw [HBD.out, HNH.out]
                rintro (h | h | h | h)
                · exact h g1
                · exact h g2
                · exact hbb.out h
                · omega
              case measure => simp [intOf]; omega
        · have hne : ((nh : Int) == m) = false := by simp; omega
          go_wp2_with fail
          go_ret
          exact ⟨TellsB.no (fun h => h.1 k (HBD.out.2 (.inr (.inl (by rw [HNH.out]; exact g2))))), hW⟩
      · simp only [decide_eq_false g1]
        go_wp2_with fail
        go_ret
        exact ⟨TellsB.no (fun h => h.1 k (HBD.out.2 (.inl g1))), hW⟩
    · have hge : ¬ (k : Int) < (n : Int) := by omega
      have hall : ∀ j, ¬ badR m rmin rows j := fun j hb => by
        obtain ⟨hj, hbb⟩ := hb
        exact hS.out j (by omega) ⟨hj, hbb⟩
      have HA := Lib.hid hall
      clear hall hS
      by_cases hn24 : n ≤ 24
      · have hn24' : (n : Int) ≤ 24 := by omega
        go_wp2_with fail
        go_ret
        exact ⟨TellsB.yes ⟨HA.out, by rw [hnl]; exact hn24⟩, hW⟩
      · have hn24' : ¬ (n : Int) ≤ 24 := by omega
        go_wp2_with fail
        go_ret
        exact ⟨TellsB.no (fun h => hn24 (by rw [← hnl]; exact h.2)), hW⟩

end Go.Proofs.YtnofoommindocaaGreat.Base
