/- SyncKnown: the chapter's examples of exchanges are answered as it says; no conditions. -/
import Derived.Test.YtfjdooloikofoaaSyncJ
namespace Go.Proofs.Ytfjdooloikofoaa.SyncA
open Go.RowKit Go.Shelf Go.Proofs.Ytfjdooloikofoaa.StampA Go.Proofs.Ytfjdooloikofoaa.Base
set_option linter.unusedVariables false

theorem not5 : ¬ okS ⟨5, 1, 0, 9⟩ := fun h => absurd h.2.2.1 (by decide)
theorem not9 : ¬ okS ⟨9, 1, 1, 5⟩ := fun h => absurd h.2.1 (by decide)

set_option maxHeartbeats 1000000 in
theorem known16 (w : World) : Calls Try.prog 9 #[] w fun e w' => e = .returned (.bool true) ∧ Below w.heap.size w w' := by
  have hO : Old w w := ⟨Below.refl _ _⟩
  go_enter Try.func9, Try.ntmps9
  go_wp2_with fail
  refine (begun_ok _).mono ?_
  rintro e w1 ⟨b, rfl, hb, hC, hK⟩
  replace hO := hO.keep hK
  clear hK
  go_wp2_with fail
  refine (swap_any _ _ _ _ _).mono ?_
  rintro e w2 ⟨rfl, hK⟩
  replace hO := hO.keep hK
  replace hC := hC.below hK
  clear hK
  go_wp2_with fail
  refine (add_e e2 ok2 hC rfl).mono ?_
  rintro e w3 ⟨rfl, hD, hK⟩
  replace hO := hO.but hK hb
  clear hK hC
  have hC := hD
  clear hD
  go_wp2_with fail
  refine (best_ck hC 98 1 (by decide +kernel)).mono ?_
  rintro e w4 ⟨rfl, hK⟩
  replace hO := hO.keep hK
  replace hC := hC.below hK
  clear hK
  go_wp2_with fail
  refine (swap_any _ _ _ _ _).mono ?_
  rintro e w5 ⟨rfl, hK⟩
  replace hO := hO.keep hK
  replace hC := hC.below hK
  clear hK
  go_wp2_with fail
  refine (add_e e3 ok3 hC rfl).mono ?_
  rintro e w6 ⟨rfl, hD, hK⟩
  replace hO := hO.but hK hb
  clear hK hC
  have hC := hD
  clear hD
  go_wp2_with fail
  refine (best_ck hC 98 1 (by decide +kernel)).mono ?_
  rintro e w7 ⟨rfl, hK⟩
  replace hO := hO.keep hK
  replace hC := hC.below hK
  clear hK
  go_wp2_with fail
  refine (swap_any _ _ _ _ _).mono ?_
  rintro e w8 ⟨rfl, hK⟩
  replace hO := hO.keep hK
  replace hC := hC.below hK
  clear hK
  go_wp2_with fail
  refine (add_e e4 ok4 hC rfl).mono ?_
  rintro e w9 ⟨rfl, hD, hK⟩
  replace hO := hO.but hK hb
  clear hK hC
  have hC := hD
  clear hD
  go_wp2_with fail
  refine (best_ck hC 107 5 (by decide +kernel)).mono ?_
  rintro e w10 ⟨rfl, hK⟩
  replace hO := hO.keep hK
  replace hC := hC.below hK
  clear hK
  go_wp2_with fail
  refine (new_bad 0 _ (by omega)).mono ?_
  rintro e w' ⟨rfl, rfl⟩
  go_wp2_with fail
  refine (new_bad 33 _ (by omega)).mono ?_
  rintro e w' ⟨rfl, rfl⟩
  go_wp2_with fail
  refine (awake16 _).mono ?_
  rintro e w13 ⟨rfl, hK⟩
  replace hO := hO.keep hK
  replace hC := hC.below hK
  clear hK
  go_wp2_with fail
  refine (swap_any _ _ _ _ _).mono ?_
  rintro e w14 ⟨rfl, hK⟩
  replace hO := hO.keep hK
  replace hC := hC.below hK
  clear hK
  go_wp2_with fail
  refine (add_bad b _ 2 ⟨5, 1, 0, 9⟩ (by omega) hC.cell0 not5).mono ?_
  rintro e w15 ⟨rfl, hK⟩
  replace hO := hO.keep hK
  replace hC := hC.below hK
  clear hK
  go_wp2_with fail
  refine (swap_any _ _ _ _ _).mono ?_
  rintro e w16 ⟨rfl, hK⟩
  replace hO := hO.keep hK
  replace hC := hC.below hK
  clear hK
  go_wp2_with fail
  refine (add_bad b _ 2 ⟨9, 1, 1, 5⟩ (by omega) hC.cell0 not9).mono ?_
  rintro e w17 ⟨rfl, hK⟩
  replace hO := hO.keep hK
  replace hC := hC.below hK
  clear hK
  go_wp2_with fail
  go_ret
  exact ⟨by rfl, hO.below⟩

end Go.Proofs.Ytfjdooloikofoaa.SyncA
