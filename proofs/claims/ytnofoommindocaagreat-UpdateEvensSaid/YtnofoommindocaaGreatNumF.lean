/- wide: Fit. -/
import Derived.Test.YtnofoommindocaaGreatNumE
import Derived.Deep.RegionHeld3
namespace Go.Proofs.YtnofoommindocaaGreat.Base
open Go.RowKit Go.Lib
set_option linter.unusedVariables false
set_option linter.unusedSimpArgs false

/-- What fits: cut at the ends, and whether it was. -/
def fitN (v : Int) : Int := if 9223372036854775807 < v then 9223372036854775807 else if v < -9223372036854775807 then -9223372036854775807 else v
def fitC (v : Int) : Bool := decide (9223372036854775807 < v) || decide (v < -9223372036854775807)
structure FitS (w : World) (a : Int) (W' : World) : Prop where
  b : Blk W' w.heap.size #[.int .i64 (hiW a), .int .u64 (loW a)] 146
  h : Below w.heap.size w W'
theorem FitS.cells {w : World} {a : Int} {W' : World} (h : FitS w a W') : FitS w a W' ∧ (W'.cell? ⟨w.heap.size, 0, none⟩ = some (.int .i64 (hiW a)) ∧ W'.cell? ⟨w.heap.size, 1, none⟩ = some (.int .u64 (loW a))) := ⟨h, h.b.cell 0, h.b.cell 1⟩
theorem FitS.keep {w : World} {a : Int} {W' W'' : World} (h : FitS w a W') (hK : Below W'.heap.size W' W'') : FitS w a W'' := ⟨h.b.keep hK, more h.h hK⟩
theorem FitS.drew {w : World} {a : Int} {W' : World} (h : FitS w a W') : FitS w a W'.drew := ⟨h.b.drew, upD h.h⟩

theorem idx0 (x y : Int) (w : World) : (Instr.index 176 (.agg #[.int .i64 x, .int .i64 y]) (.int .i64 0)).run Tryz.prog w = .ok (.int .i64 x) w := by
  obtain ⟨i0, hi, hz0, hz1, hz2⟩ : ∃ i, Tryz.prog.info? 3 = some i ∧ i.zero = some (.int .i64 0) ∧ i.size = 1 ∧ i.bytes = 8 := info_parts (by kernel_rfl)
  simp [Instr.index, run_underlying Tryz.underlying176, asIntOf, go_sem, sizeOf, typeInfo, hi, hz1]
theorem idx1 (x y : Int) (w : World) : (Instr.index 176 (.agg #[.int .i64 x, .int .i64 y]) (.int .i64 1)).run Tryz.prog w = .ok (.int .i64 y) w := by
  obtain ⟨i0, hi, hz0, hz1, hz2⟩ : ∃ i, Tryz.prog.info? 3 = some i ∧ i.zero = some (.int .i64 0) ∧ i.size = 1 ∧ i.bytes = 8 := info_parts (by kernel_rfl)
  simp [Instr.index, run_underlying Tryz.underlying176, asIntOf, go_sem, sizeOf, typeInfo, hi, hz1]

set_option maxHeartbeats 1000000 in
set_option maxRecDepth 100000 in
theorem wFit_is (a : Int) (h : W127 a) (W : World) : Calls Tryz.prog 171 #[wv a] W fun e w' => e = .returned (.tuple #[.int .i64 (fitN a), .bool (fitC a)]) ∧ Below W.heap.size W w' := by
  have hM : W127 9223372036854775807 := by unfold W127; omega
  have hm : W127 (-9223372036854775807) := by unfold W127; omega
  have hl := loW_rng a
  rw [wvU a]
  go_enter Tryz.func171, Tryz.ntmps171
  go_wp2_with fail
  go_loopw [8] (fun i wr => ∃ k : Nat, k ≤ 2 ∧ i = .int .i64 k ∧ Hid (1 ≤ k → a ≤ 9223372036854775807) ∧ Hid (2 ≤ k → -9223372036854775807 ≤ a) ∧ FitS W a wr) (fun i _ => 2 - (intOf i).toNat)
  case atStart => exact ⟨0, by omega, rfl, fun h => absurd h (by omega), fun h => absurd h (by omega), ⟨Blk.new W _ _, upA (upR W) _⟩⟩
  case round =>
    obtain ⟨k, hk, rfl, h1, h2, hS⟩ := hrel
    have hk3 : k = 0 ∨ k = 1 ∨ k = 2 := by omega
    have hS1 := hS.drew
    rcases hk3 with rfl | rfl | rfl
    · clear hS hk
      go_wp2_with (simp only [idx0])
      go_region_held3 (fun W' => FitS W a W' ∧ (W'.cell? ⟨W.heap.size, 0, none⟩ = some (.int .i64 (hiW a)) ∧ W'.cell? ⟨W.heap.size, 1, none⟩ = some (.int .u64 (loW a))))
        (exact FitS.cells (by assumption))
        (first
          | (go_at_call 173; refine (wOf_is (9223372036854775807) (by unfold I64; omega) _).mono ?_; rintro e w5 ⟨rfl, hK⟩; have hS5 := FitS.keep (by assumption) hK; clear hK)
          | (go_at_call 209; refine (wCmp_is a (9223372036854775807) h hM _).mono ?_; rintro e w6 ⟨rfl, hK⟩; have hS6 := FitS.keep (by assumption) hK; clear hK))
      have hc : (cmpI a (9223372036854775807) = 1 ∧ (9223372036854775807) < a) ∨ (cmpI a (9223372036854775807) = 0 ∧ a = (9223372036854775807)) ∨ (cmpI a (9223372036854775807) = -1 ∧ a < (9223372036854775807)) := by
        unfold cmpI
        by_cases e1 : a = (9223372036854775807)
        · exact .inr (.inl ⟨if_pos e1, e1⟩)
        · by_cases e2 : a < (9223372036854775807)
          · exact .inr (.inr ⟨by rw [if_neg e1, if_pos e2], e2⟩)
          · exact .inl ⟨by rw [if_neg e1, if_neg e2], by omega⟩
      clear hS1
      rcases hc with ⟨hc, ha⟩ | ⟨hc, ha⟩ | ⟨hc, ha⟩
      · skip
        have HN := Lib.hid (show fitN a = (9223372036854775807) by unfold fitN; rw [if_pos (by omega)])
        have HC := Lib.hid (show fitC a = true by unfold fitC; simp; omega)
        have HB := hS6.h
        rw [hc]
        clear hS6 hc ha
        go_wp2_with fail
        go_ret2
        rw [HN.out, HC.out]
        exact ⟨rfl, HB⟩
      · skip
        have HA := Lib.hid ha
        rw [hc]
        clear hc ha
        go_wp2_with fail
        go_roundw
        case rel => exact ⟨1, by omega, by go_num, fun _ => by have := HA.out; omega, fun h => absurd h (by omega), hS6⟩
        case measure => simp [intOf]
      · skip
        have HA := Lib.hid ha
        rw [hc]
        clear hc ha
        go_wp2_with fail
        go_roundw
        case rel => exact ⟨1, by omega, by go_num, fun _ => by have := HA.out; omega, fun h => absurd h (by omega), hS6⟩
        case measure => simp [intOf]
    · clear hS hk
      go_wp2_with (simp only [idx1])
      go_region_held3 (fun W' => FitS W a W' ∧ (W'.cell? ⟨W.heap.size, 0, none⟩ = some (.int .i64 (hiW a)) ∧ W'.cell? ⟨W.heap.size, 1, none⟩ = some (.int .u64 (loW a))))
        (exact FitS.cells (by assumption))
        (first
          | (go_at_call 173; refine (wOf_is (-9223372036854775807) (by unfold I64; omega) _).mono ?_; rintro e w5 ⟨rfl, hK⟩; have hS5 := FitS.keep (by assumption) hK; clear hK)
          | (go_at_call 209; refine (wCmp_is a (-9223372036854775807) h hm _).mono ?_; rintro e w6 ⟨rfl, hK⟩; have hS6 := FitS.keep (by assumption) hK; clear hK))
      have hc : (cmpI a (-9223372036854775807) = 1 ∧ (-9223372036854775807) < a) ∨ (cmpI a (-9223372036854775807) = 0 ∧ a = (-9223372036854775807)) ∨ (cmpI a (-9223372036854775807) = -1 ∧ a < (-9223372036854775807)) := by
        unfold cmpI
        by_cases e1 : a = (-9223372036854775807)
        · exact .inr (.inl ⟨if_pos e1, e1⟩)
        · by_cases e2 : a < (-9223372036854775807)
          · exact .inr (.inr ⟨by rw [if_neg e1, if_pos e2], e2⟩)
          · exact .inl ⟨by rw [if_neg e1, if_neg e2], by omega⟩
      clear hS1
      rcases hc with ⟨hc, ha⟩ | ⟨hc, ha⟩ | ⟨hc, ha⟩
      · skip
        have HA := Lib.hid ha
        rw [hc]
        clear hc ha
        go_wp2_with fail
        go_roundw
        case rel => exact ⟨2, by omega, by go_num, fun _ => h1.out (by omega), fun h => by have := HA.out; omega, hS6⟩
        case measure => simp [intOf]
      · skip
        have HA := Lib.hid ha
        rw [hc]
        clear hc ha
        go_wp2_with fail
        go_roundw
        case rel => exact ⟨2, by omega, by go_num, fun _ => h1.out (by omega), fun h => by have := HA.out; omega, hS6⟩
        case measure => simp [intOf]
      · skip
        have HN := Lib.hid (show fitN a = (-9223372036854775807) by unfold fitN; rw [if_neg (by omega), if_pos (by omega)])
        have HC := Lib.hid (show fitC a = true by unfold fitC; simp; omega)
        have HB := hS6.h
        rw [hc]
        clear hS6 hc ha
        go_wp2_with fail
        go_ret2
        rw [HN.out, HC.out]
        exact ⟨rfl, HB⟩
    · have h1' := h1.out (by omega)
      have h2' := h2.out (by omega)
      have HN := Lib.hid (show fitN a = a by unfold fitN; rw [if_neg (by omega), if_neg (by omega)])
      have HC := Lib.hid (show fitC a = false by unfold fitC; simp; omega)
      have HB := hS.h
      have c0 := hS.b.cell
      have e1 : IntKind.i64.wrap (loW a) = a := by rw [IntKind.wrap_i64]; unfold loW; omega
      clear h1 h2 h1' h2' hS hS1
      go_wp2_with fail
      go_ret2
      rw [HN.out, HC.out]
      first | exact ⟨rfl, HB⟩ | exact ⟨by simp [wrap64] at e1 ⊢; omega, HB⟩

end Go.Proofs.YtnofoommindocaaGreat.Base
