/- binnaclelaw09: chain; what its flow is (plain). -/
import Derived.Test.YtkjbidpafnmogaaGreatPolN
namespace Go.Proofs.YtkjbidpafnmogaaGreat.Base
open Go.RowKit Go
set_option linter.unusedVariables false
set_option linter.unusedSimpArgs false

def chainM : Mt := ofM 3 [0, 1, 0, 0, 0, 1, 0, 0, 0]
def wantM : Mt := ofM 3 [1, 4, 8, 0, 1, 4, 0, 0, 1]
theorem chain_upper : upM chainM := by
  refine ⟨⟨by decide, by decide⟩, ?_⟩
  decide
set_option maxRecDepth 100000 in
theorem chain_flow : (flowM chainM 17179869184).1.v = wantM.v := by kernel_rfl
set_option maxRecDepth 100000 in
theorem chain_flow2 : (flowM chainM 17179869184).1.r = 3 ∧ (flowM chainM 17179869184).1.c = 3 ∧ (flowM chainM 17179869184).2 = false := ⟨by kernel_rfl, by kernel_rfl, by kernel_rfl⟩

set_option maxHeartbeats 1000000 in
set_option maxRecDepth 100000 in
theorem chain_is (w0 : World) : Calls Tryz.prog 45 #[] w0 fun e w' => ∃ v, e = .returned v ∧ MO w0.heap.size w' v chainM ∧ Below w0.heap.size w0 w' := by
  go_enter Tryz.func45, Tryz.ntmps45
  go_wp2_with fail
  have hB := below_allocs w0 [Obj.cells #[Value.int .i64 0, .int .i64 0, .slice none 0 0] 24, Obj.cells (([0, 1, 0, 0, 0, 1, 0, 0, 0] : List Int).map fun z => Value.int .i64 z).toArray 3]
  have g0 := blk_at w0 [Obj.cells #[Value.int .i64 0, .int .i64 0, .slice none 0 0] 24, Obj.cells (([0, 1, 0, 0, 0, 1, 0, 0, 0] : List Int).map fun z => Value.int .i64 z).toArray 3] 0 _ _ rfl
  have g1 := blk_at w0 [Obj.cells #[Value.int .i64 0, .int .i64 0, .slice none 0 0] 24, Obj.cells (([0, 1, 0, 0, 0, 1, 0, 0, 0] : List Int).map fun z => Value.int .i64 z).toArray 3] 1 _ _ rfl
  simp only [List.foldl_cons, List.foldl_nil, Nat.add_zero] at hB g0 g1
  replace hB := hB.1
  have hmi := MI.of_blk g1 (Nat.zero_le _) (all_i64 (by decide)) (by decide)
  simp only [List.map_cons, List.map_nil] at hB g0 g1 hmi
  have hof := of_is hmi 3 (i64_lit (by decide)) (by decide) (by decide) (by decide)
  refine hof.mono ?_
  rintro e w2 ⟨v, rfl, hmo, hK⟩
  replace hB := more hB hK
  replace g0 := g0.keep hK
  obtain ⟨a, k, rfl, hLI⟩ := hmo.ex
  have hmo' := hmo.mono (show w0.heap.size ≤ _ by simp; omega)
  clear hK hof hmi g1 hLI hmo
  go_wp2_with ((with_reducible refine at_st (p := 0) (q := 2) rfl ?_); refine ev_store rfl 24 _ _ rfl rfl g0 0 rfl rfl [.int .i64 3, .int .i64 3, .slice a 9 k] rfl (by kernel_rfl) rfl rfl #[.int .i64 3, .int .i64 3, .slice a 9 k] rfl ?_; intro w6 g6 ef hz6)
  refine bodyPost_ret (results_cell_row rfl _ _ _ 24 #[.int .i64 3, .int .i64 3, .slice a 9 k] (0, 0) _ rfl g6 Tryz.underlying24 rfl (by kernel_rfl)) rfl ?_
  exact ⟨_, rfl, hmo'.eff ef (fun k hk ht => by subst hk; exact absurd (ht.inj g0.ty) (by decide)), ef.below hB (fun k hk => by omega)⟩

end Go.Proofs.YtkjbidpafnmogaaGreat.Base
