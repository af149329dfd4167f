/- The reference's model: Check. -/
import Derived.Test.YtnofoommindocaaGreatMdlE
import Derived.StillTailTactics
namespace Go.Proofs.YtnofoommindocaaGreat.Base
open Go.RowKit
set_option linter.unusedVariables false
set_option linter.unusedSimpArgs false

theorem lastS_pos {n rmin : Int} {rows : List Rw} : ∀ k, k ≤ rows.length → (∀ j, j < k → ¬ badR n rmin rows j) → 1 ≤ lastS rows k := by
  intro k
  induction k with
  | zero => intro _ _; simp [lastS]
  | succ k ih =>
    intro hk h
    have h1 := ih (by omega) (fun j hj => h j (by omega))
    have h2 := h k (by omega)
    have h3 : lastS rows (k + 1) = rows[k].s := by
      unfold lastS
      rw [dif_pos ⟨by omega, by simp; omega⟩]
      simp only [Nat.add_sub_cancel]
    rw [h3]
    by_cases hc : lastS rows k ≤ rows[k].s
    · omega
    · exact absurd ⟨by omega, .inl (fun h => hc h.1)⟩ h2
theorem badR_iff {n rmin : Int} {rows : List Rw} {k : Nat} (hk : k < rows.length) {s r : Int} {h : List Int} (hz : rows[k] = ⟨s, h, r⟩) : badR n rmin rows k ↔ rowBad n rmin (lastS rows k) s h r := by
  unfold rowBad
  constructor
  · rintro ⟨_, hb⟩
    rw [hz] at hb
    exact hb
  · intro hb
    refine ⟨hk, ?_⟩
    rw [hz]
    exact hb

set_option maxHeartbeats 8000000 in
set_option maxRecDepth 100000 in
theorem rcheck_is {B : Nat} {W : World} {v : Value} {M : Mdl} (hM : MM B W v M) (hlen : M.rows.length ≤ 1000) (hh : ∀ q ∈ M.rows, q.h.length ≤ 100000) :
    Calls Tryz.prog 102 #[v] W fun e w' => TellsC e 2 (okM M) ∧ Below W.heap.size W w' := by
  obtain ⟨aA, cA, aQ, cQ, aR, cR, rfl, hA, hQ, hR⟩ := hM.ex
  have hB : Below W.heap.size W (W.alloc (.cells #[Value.int .i64 M.n, .slice aA M.A.length cA, .slice aQ M.Q.length cQ, .int .i64 M.tick, .int .i64 M.gate, .int .i64 M.rmin, .slice aR M.rows.length cR] 25)) := (Below.refl _ _).alloc (Nat.le_refl _) _
  by_cases n1 : M.n < 1
  · have HN := Lib.hid (show ¬ okM M from fun h => by have := h.n; omega)
    go_enter Tryz.func102, Tryz.ntmps102
    go_wp2_with fail
    go_ret
    exact ⟨.inr ⟨HN.out, rfl⟩, hB⟩
  by_cases n2 : 6 < M.n
  · have HN := Lib.hid (show ¬ okM M from fun h => by have := h.n; omega)
    go_enter Tryz.func102, Tryz.ntmps102
    go_wp2_with fail
    go_ret
    exact ⟨.inr ⟨HN.out, rfl⟩, hB⟩
  have hn : 1 ≤ M.n ∧ M.n ≤ 6 := by omega
  have hM1 := hM.keep hB
  have hR1 := hR.keep hB
  go_enter Tryz.func102, Tryz.ntmps102
  go_wp2_with fail
  have hX := Blk.new W #[Value.int .i64 M.n, .slice aA M.A.length cA, .slice aQ M.Q.length cQ, .int .i64 M.tick, .int .i64 M.gate, .int .i64 M.rmin, .slice aR M.rows.length cR] 25
  generalize W.alloc (.cells #[Value.int .i64 M.n, .slice aA M.A.length cA, .slice aQ M.Q.length cQ, .int .i64 M.tick, .int .i64 M.gate, .int .i64 M.rmin, .slice aR M.rows.length cR] 25) = W1 at *
  refine (rmoves_is hM1 hn).mono ?_
  rintro e w2 ⟨⟨q, rfl, hq⟩, hK⟩
  replace hB := more hB hK
  replace hX := hX.keep hK
  replace hR1 := hR1.keep hK
  clear hK hM1 hA hQ hM
  have x0 := hX.cell 0
  have x1 := hX.cell 1
  have x2 := hX.cell 2
  have x3 := hX.cell 3
  have x4 := hX.cell 4
  have x5 := hX.cell 5
  have x6 := hX.cell 6
  simp at x0 x1 x2 x3 x4 x5 x6
  cases q with
  | false =>
    have HN := Lib.hid (show ¬ okM M from fun h => by cases hq.2 ⟨h.a, h.q⟩)
    clear hq
    go_wp2_with fail
    go_ret
    exact ⟨.inr ⟨HN.out, rfl⟩, hB⟩
  | true =>
  have HQ := Lib.hid (hq.1 rfl)
  clear hq
  by_cases t1 : M.tick < 1
  · have HN := Lib.hid (show ¬ okM M from fun h => by have := h.t; omega)
    go_wp2_with fail
    go_ret
    exact ⟨.inr ⟨HN.out, rfl⟩, hB⟩
  by_cases t2 : 4294967296 < M.tick
  · have HN := Lib.hid (show ¬ okM M from fun h => by have := h.t; omega)
    go_wp2_with fail
    go_ret
    exact ⟨.inr ⟨HN.out, rfl⟩, hB⟩
  by_cases t3 : M.gate < 1
  · have HN := Lib.hid (show ¬ okM M from fun h => by have := h.t; omega)
    go_wp2_with fail
    go_ret
    exact ⟨.inr ⟨HN.out, rfl⟩, hB⟩
  by_cases t4 : M.rmin < 1
  · have HN := Lib.hid (show ¬ okM M from fun h => by have := h.t; omega)
    go_wp2_with fail
    go_ret
    exact ⟨.inr ⟨HN.out, rfl⟩, hB⟩
  by_cases t5 : 24 < M.rows.length
  · have t5' : (24 : Int) < (M.rows.length : Int) := by omega
    have HN := Lib.hid (show ¬ okM M from fun h => by have := h.r.2; omega)
    go_wp2_with fail
    go_ret
    exact ⟨.inr ⟨HN.out, rfl⟩, hB⟩
  have t5' : ¬ (24 : Int) < (M.rows.length : Int) := by omega
  have d1 : decide (M.tick < 1) = false := decide_eq_false t1
  have d2 : decide (4294967296 < M.tick) = false := decide_eq_false t2
  have d3 : decide (M.gate < 1) = false := decide_eq_false t3
  have d4 : decide (M.rmin < 1) = false := decide_eq_false t4
  have d5 : decide ((24 : Int) < (M.rows.length : Int)) = false := decide_eq_false t5'
  have HT := Lib.hid (show ((1 ≤ M.tick ∧ M.tick ≤ 4294967296) ∧ 1 ≤ M.gate ∧ 1 ≤ M.rmin) ∧ M.rows.length ≤ 24 by omega)
  go_wp2_with fail
  try simp only [d1, d2, d3, d4, d5, Bool.or_false]
  clear d1 d2 d3 d4 d5 t1 t2 t3 t4 t5 t5' x0 x1 x2 x3 x4 x5 x6
  have hl24 := HT.out.2
  obtain ⟨n, hnl⟩ : ∃ n, M.rows.length = n := ⟨_, rfl⟩
  have HNL := Lib.hid hnl
  rw [hnl] at hX hl24 ⊢
  clear hnl
  go_loopw [3, 4] (fun l i wr => ∃ (k : Nat), k ≤ n ∧ i = .int .i64 k ∧ l = .int .i64 (lastS M.rows k) ∧ Hid (∀ j, j < k → ¬ badR M.n M.rmin M.rows j) ∧ Below w2.heap.size w2 wr) (fun _ i _ => n - (intOf i).toNat)
  case atStart => exact ⟨0, Nat.zero_le _, rfl, rfl, fun j hj => absurd hj (by omega), Below.refl _ _⟩
  case round =>
    obtain ⟨k, hk, rfl, rfl, hS, hBr⟩ := hrel
    have hW : Below W.heap.size W wr := more hB hBr
    have hXr := hX.keep hBr
    have hRr := hR1.keep hBr
    have x0 := hXr.cell 0
    have x1 := hXr.cell 1
    have x2 := hXr.cell 2
    have x3 := hXr.cell 3
    have x4 := hXr.cell 4
    have x5 := hXr.cell 5
    have x6 := hXr.cell 6
    simp at x0 x1 x2 x3 x4 x5 x6
    by_cases hkl : k < n
    · have hkl' : (k : Int) < (n : Int) := by omega
      have hk0 : (0 : Int) ≤ (k : Int) := by omega
      have hkz : k < M.rows.length := by rw [HNL.out]; exact hkl
      obtain ⟨x, rfl, hrow⟩ := hRr.at_ k hkz
      obtain ⟨⟨s, h, r⟩, hz⟩ : ∃ z, M.rows[k] = z := ⟨_, rfl⟩
      have hhl : h.length ≤ 100000 := by have := hh _ (List.getElem_mem hkz); rw [hz] at this; exact this
      rw [hz] at hrow
      obtain ⟨aH, cH, y0, y1, y2, hH⟩ := hrow.ex
      clear hrow
      dsimp only at y0 y1 y2 hH
      have hbad := badR_iff (n := M.n) (rmin := M.rmin) hkz hz
      have hls := lastS_pos k (by omega) hS.out
      have hnl2 : lastS M.rows (k + 1) = s := by
        unfold lastS
        rw [dif_pos ⟨by omega, by simpa using hkz⟩]
        simp only [Nat.add_sub_cancel]
        rw [hz]
      obtain ⟨ls, hlsd⟩ : ∃ ls, lastS M.rows k = ls := ⟨_, rfl⟩
      rw [hlsd] at hbad hls ⊢
      have HBD := Lib.hid hbad
      have HLS := Lib.hid hnl2
      clear hbad hnl2 hz hlsd
      have hHd := hH.keep (W' := wr.drew) (Below.refl _ _).drew
      go_wp2_with fail
      go_still_tail 7, (by kernel_rfl)
      go_wp2_with fail
      have hD : Below wr.heap.size wr wr.drew := (Below.refl _ _).drew
      refine (rsees_is hHd hls hhl).mono ?_
      rintro e w3 ⟨⟨q, rfl, hq⟩, hK⟩
      have hBr3 := more (more hBr hD) hK
      have hW3 := more (more hW hD) hK
      have hX3 := (hXr.keep hD).keep hK
      have y03 : w3.cell? (x.add (k * 3)) = some (.int .i64 s) := ((more hD hK).cell (World.block_lt_of_cell? wr _ y0)).trans y0
      clear x0 x1 x2 x3 x4 x5 x6 y0 y1 y2 hD hK hHd hH
      have x6 := hX3.cell 6
      simp at x6
      cases q with
      | false =>
        have HN := Lib.hid (show ¬ okM M from fun hm => by cases hq.2 (fun hb => hm.r.1 k (HBD.out.2 hb)))
        clear hq
        go_wp2_with fail
        go_ret
        exact ⟨.inr ⟨HN.out, rfl⟩, hW3⟩
      | true =>
        have HG := Lib.hid (show ¬ badR M.n M.rmin M.rows k from fun hb => hq.1 rfl (HBD.out.1 hb))
        clear hq
        go_wp2_with fail
        go_roundw
        case rel =>
          refine ⟨k + 1, by omega, by go_num, by rw [HLS.out], fun j hj => ?_, hBr3⟩
          by_cases e : j = k
          · subst e; exact HG.out
          · exact hS.out j (by omega)
        case measure => simp [intOf]; omega
    · have hge : ¬ (k : Int) < (n : Int) := by omega
      have HY := Lib.hid (show okM M from ⟨hn, HQ.out.1, HQ.out.2, HT.out.1, fun j hb => by
        obtain ⟨hj, hb'⟩ := hb
        exact hS.out j (by have := HNL.out; omega) ⟨hj, hb'⟩, HT.out.2⟩)
      go_wp2_with fail
      go_ret
      exact ⟨.inl ⟨HY.out, rfl⟩, hW⟩

end Go.Proofs.YtnofoommindocaaGreat.Base
