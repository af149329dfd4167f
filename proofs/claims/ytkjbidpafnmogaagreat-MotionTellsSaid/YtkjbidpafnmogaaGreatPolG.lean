/- poly.polynomial, slices.Backward over matrices. -/
import Derived.Test.YtkjbidpafnmogaaGreatPolF
namespace Go.Proofs.YtkjbidpafnmogaaGreat.Base
open Go.RowKit Go.Shelf Go.ChangeShapes Go.WideShapes Go.Deep
set_option linter.unusedVariables false
set_option linter.unusedSimpArgs false
attribute [local go_sem] Oper.semAt_some

theorem contains1_is {W : World} {pb : Nat} {x : Addr} {n k : Nat} {ms : List Mt} (hn : ms.length = n) (h0 : 0 < n) (hp : W.cell? ⟨pb, 0, none⟩ = some (.slice (some x) n k)) (hm : MsC W x ms) (hl : n ≤ 100) :
    Calls Tryz.prog 104 #[.slice (some x) n k, .func (.func 105) #[] #[.pointer (some ⟨pb, 0, none⟩)]] W fun e w' => e = .returned (.bool (ms.any (badM (ms.headD default)))) ∧ Below W.heap.size W w' := by
  have hI := index1_is hn h0 hp hm hl
  obtain ⟨ans, hans⟩ : ∃ ans, ms.any (badM (ms.headD default)) = ans := ⟨_, rfl⟩
  have HX := Lib.hid (show (∃ m ∈ ms, badM (ms.headD default) m = true) ↔ ans = true by rw [← hans]; simp [List.any_eq_true])
  rw [hans]
  clear hans
  go_enter Tryz.func104, Tryz.ntmps104
  go_wp2_with fail
  refine hI.mono ?_
  rintro e w1 ⟨⟨z, rfl, hz⟩, hK⟩
  have HZ := Lib.hid (hz.trans HX.out)
  clear hz HX hI
  by_cases h : 0 ≤ z
  · have HA := Lib.hid (HZ.out.1 h)
    go_wp2_with fail
    go_ret
    exact ⟨by rw [HA.out]; rfl, hK⟩
  · have HA := Lib.hid (show ans = false from Bool.eq_false_iff.2 fun hh => h (HZ.out.2 hh))
    go_wp2_with fail
    go_ret
    refine ⟨?_, hK⟩
    show Ending.returned (.bool (decide (0 ≤ z))) = _
    rw [decide_eq_false (show ¬ (0 ≤ z) by omega), HA.out]

set_option maxHeartbeats 1000000 in
set_option maxRecDepth 100000 in
theorem polynomial_is {W : World} {a : Option Addr} {k : Nat} {ms : List Mt} (hm : 0 < ms.length → ∃ x, a = some x ∧ MsC W x ms) :
    Calls Tryz.prog 57 #[.slice a ms.length k] W fun e w' => e = .returned (.bool (decide (polyM ms))) ∧ Below W.heap.size W w' := by
  obtain ⟨ans, hans⟩ : ∃ ans, decide (polyM ms) = ans := ⟨_, rfl⟩
  rw [hans]
  have HA := Lib.hid hans
  clear hans
  obtain ⟨n, hn⟩ : ∃ n, ms.length = n := ⟨_, rfl⟩
  rw [hn] at hm ⊢
  by_cases h1 : 1 ≤ n
  · have h1' : (1 : Int) ≤ (n : Int) := by omega
    by_cases h2 : n ≤ 25
    · have h2' : (n : Int) ≤ 25 := by omega
      obtain ⟨x, rfl, hms⟩ := hm h1
      have HX := Lib.hid (show ans = !ms.any (badM (ms.headD default)) by
        rw [← HA.out]
        by_cases hb : ms.any (badM (ms.headD default)) = true
        · rw [hb]
          refine decide_eq_false fun hh => ?_
          obtain ⟨m, hm, hb⟩ := List.any_eq_true.1 hb
          exact of_decide_eq_true hb (hh.2.2 m hm)
        · rw [Bool.eq_false_iff.2 hb]
          refine decide_eq_true ⟨by omega, by omega, fun m hm => ?_⟩
          exact Decidable.byContradiction fun hh => hb (List.any_eq_true.2 ⟨m, hm, decide_eq_true hh⟩))
      have HC := Lib.hid (fun (w : World) (pb : Nat) hp hm => contains1_is (W := w) (pb := pb) (x := x) (k := k) hn h1 hp hm (by omega))
      obtain ⟨bb, hbb⟩ : ∃ bb, ms.any (badM (ms.headD default)) = bb := ⟨_, rfl⟩
      rw [hbb] at HX HC
      clear HA hbb hm
      go_enter Tryz.func57, Tryz.ntmps57
      go_wp2_with fail
      have hB := upA (upR W) (Obj.cells #[Value.slice (some x) n k] 31)
      have g0 := Blk.new W #[Value.slice (some x) n k] 31
      refine (HC.out _ _ (g0.cell 0) (hms.keep hB)).mono ?_
      rintro e w2 ⟨rfl, hK⟩
      replace hB := more hB hK
      clear hK g0 HC
      cases bb with
      | false =>
        go_wp2_with fail
        go_ret
        exact ⟨by rw [HX.out]; rfl, hB⟩
      | true =>
        go_wp2_with fail
        go_ret
        exact ⟨by rw [HX.out]; rfl, hB⟩
    · have h2' : ¬ (n : Int) ≤ 25 := by omega
      have HF := Lib.hid (show ans = false by rw [← HA.out]; exact decide_eq_false fun h => h2 (hn ▸ h.2.1))
      clear hm HA
      go_enter Tryz.func57, Tryz.ntmps57
      go_wp2_with fail
      have hB := upA (upR W) (Obj.cells #[Value.slice a n k] 31)
      go_ret
      exact ⟨by rw [HF.out]; rfl, hB⟩
  · have h1' : ¬ (1 : Int) ≤ (n : Int) := by omega
    have HF := Lib.hid (show ans = false by rw [← HA.out]; exact decide_eq_false fun h => h1 (hn ▸ h.1))
    clear hm HA
    go_enter Tryz.func57, Tryz.ntmps57
    go_wp2_with fail
    have hB := upA (upR W) (Obj.cells #[Value.slice a n k] 31)
    go_ret
    exact ⟨by rw [HF.out]; rfl, hB⟩

end Go.Proofs.YtkjbidpafnmogaaGreat.Base
