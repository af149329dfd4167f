/- wide: down, up by 1 and by 32. -/
import Derived.Test.YtnofoommindocaaGreatNumD
import Derived.StillTailTactics
namespace Go.Proofs.YtnofoommindocaaGreat.Base
open Go.RowKit Go.Lib
set_option linter.unusedVariables false
set_option linter.unusedSimpArgs false

/-- The bits of two numbers that share none. -/
theorem or_apart (k : Nat) (a b : Int) (ha : 0 ≤ a) (hak : a < 2 ^ k) (hb : 0 ≤ b) (hbk : b < 18446744073709551616) (hm : ∃ q : Nat, b = 2 ^ k * q) (hk : a < 18446744073709551616) : bits .or .u64 a b = a + b := by
  obtain ⟨x, rfl⟩ := Int.eq_ofNat_of_zero_le ha
  obtain ⟨q, rfl⟩ := hm
  have hx : x < 2 ^ k := by exact_mod_cast hak
  have e : ((2 ^ k * q : Int)) = ((2 ^ k * q : Nat) : Int) := by simp
  rw [e] at hbk ⊢
  rw [bits_or_u64_nat x (2 ^ k * q) (by omega) (by omega), Nat.or_comm, ← Nat.two_pow_add_eq_or_of_lt hx]
  omega
theorem bits_or_comm (a b : Int) (ha : 0 ≤ a ∧ a < 18446744073709551616) (hb : 0 ≤ b ∧ b < 18446744073709551616) : bits .or .u64 a b = bits .or .u64 b a := by
  obtain ⟨x, rfl⟩ := Int.eq_ofNat_of_zero_le ha.1
  obtain ⟨y, rfl⟩ := Int.eq_ofNat_of_zero_le hb.1
  rw [bits_or_u64_nat x y (by omega) (by omega), bits_or_u64_nat y x (by omega) (by omega), Nat.or_comm]

set_option maxRecDepth 100000 in
theorem down1_is (s : Int) (h : U128 s) (W : World) : Calls Tryz.prog 212 #[sv s, .int .i64 1] W fun e w' => e = .returned (sv (s / 2)) ∧ Below W.heap.size W w' := by
  have ls := loW_rng s
  have hs := hiS_rng s
  rw [svU s]
  go_enter Tryz.func212, Tryz.ntmps212
  go_wp2_with fail
  have hB := below_allocs W [Obj.cells #[Value.int IntKind.u64 (hiS s), Value.int IntKind.u64 (loW s)] 182, Obj.cells #[Value.int IntKind.u64 0, Value.int IntKind.u64 0] 182]
  have g0 := blk_at W [Obj.cells #[Value.int IntKind.u64 (hiS s), Value.int IntKind.u64 (loW s)] 182, Obj.cells #[Value.int IntKind.u64 0, Value.int IntKind.u64 0] 182] 0 _ _ rfl
  have g1 := blk_at W [Obj.cells #[Value.int IntKind.u64 (hiS s), Value.int IntKind.u64 (loW s)] 182, Obj.cells #[Value.int IntKind.u64 0, Value.int IntKind.u64 0] 182] 1 _ _ rfl
  simp only [List.foldl_cons, List.foldl_nil, Nat.add_zero] at hB g0 g1
  generalize (W.alloc (Obj.cells #[Value.int IntKind.u64 (hiS s), Value.int IntKind.u64 (loW s)] 182)).alloc (Obj.cells #[Value.int IntKind.u64 0, Value.int IntKind.u64 0] 182) = w1 at *
  have c0 := (g0.cell 0).trans (by rfl)
  have c1 := (g0.cell 1).trans (by rfl)
  replace hB := hB.1
  clear g0
  have k1 : IntKind.i64.wrap 63 = 63 := by decide
  go_still_tail 15, (by kernel_rfl)
  clear k1 c0 c1
  change wpList _ _ _ _ _ w1.drew
  have g2 := g1.drew
  replace hB := upD hB
  generalize w1.drew = w2 at *
  have f0 := g2.frozen
  have c2 := g2.cell
  go_wp2_with fail
  simp [bodyPost, results, Tryz.results212, go_sem, c2]
  clear c2 f0 g2
  refine ⟨sv_is ?_ ?_, upS (upS hB (p := ⟨_, _, _⟩) (Nat.le_succ _) _) (p := ⟨_, _, _⟩) (Nat.le_succ _) _⟩
  · unfold U128 at h; unfold hiS; omega
  · first | (rw [IntKind.wrap_u64, or_apart 63 _ _ (by omega) (by omega) (by omega) (by omega) ⟨((hiS s) % 2).toNat, by omega⟩ (by omega)]; unfold loW hiS; omega)

set_option maxRecDepth 100000 in
theorem down32_is (s : Int) (h : U128 s) (W : World) : Calls Tryz.prog 212 #[sv s, .int .i64 32] W fun e w' => e = .returned (sv (s / 4294967296)) ∧ Below W.heap.size W w' := by
  have ls := loW_rng s
  have hs := hiS_rng s
  rw [svU s]
  go_enter Tryz.func212, Tryz.ntmps212
  go_wp2_with fail
  have hB := below_allocs W [Obj.cells #[Value.int IntKind.u64 (hiS s), Value.int IntKind.u64 (loW s)] 182, Obj.cells #[Value.int IntKind.u64 0, Value.int IntKind.u64 0] 182]
  have g0 := blk_at W [Obj.cells #[Value.int IntKind.u64 (hiS s), Value.int IntKind.u64 (loW s)] 182, Obj.cells #[Value.int IntKind.u64 0, Value.int IntKind.u64 0] 182] 0 _ _ rfl
  have g1 := blk_at W [Obj.cells #[Value.int IntKind.u64 (hiS s), Value.int IntKind.u64 (loW s)] 182, Obj.cells #[Value.int IntKind.u64 0, Value.int IntKind.u64 0] 182] 1 _ _ rfl
  simp only [List.foldl_cons, List.foldl_nil, Nat.add_zero] at hB g0 g1
  generalize (W.alloc (Obj.cells #[Value.int IntKind.u64 (hiS s), Value.int IntKind.u64 (loW s)] 182)).alloc (Obj.cells #[Value.int IntKind.u64 0, Value.int IntKind.u64 0] 182) = w1 at *
  have c0 := (g0.cell 0).trans (by rfl)
  have c1 := (g0.cell 1).trans (by rfl)
  replace hB := hB.1
  clear g0
  have k1 : IntKind.i64.wrap 32 = 32 := by decide
  go_still_tail 15, (by kernel_rfl)
  clear k1 c0 c1
  change wpList _ _ _ _ _ w1.drew
  have g2 := g1.drew
  replace hB := upD hB
  generalize w1.drew = w2 at *
  have f0 := g2.frozen
  have c2 := g2.cell
  go_wp2_with fail
  simp [bodyPost, results, Tryz.results212, go_sem, c2]
  clear c2 f0 g2
  refine ⟨sv_is ?_ ?_, upS (upS hB (p := ⟨_, _, _⟩) (Nat.le_succ _) _) (p := ⟨_, _, _⟩) (Nat.le_succ _) _⟩
  · unfold U128 at h; unfold hiS; omega
  · first | (rw [IntKind.wrap_u64, or_apart 32 _ _ (by omega) (by omega) (by omega) (by omega) ⟨((hiS s) % 4294967296).toNat, by omega⟩ (by omega)]; unfold loW hiS; omega)

set_option maxRecDepth 100000 in
theorem up1_is (s : Int) (W : World) : Calls Tryz.prog 217 #[sv s, .int .i64 1] W fun e w' => e = .returned (sv (s * 2)) ∧ Below W.heap.size W w' := by
  have ls := loW_rng s
  have hs := hiS_rng s
  rw [svU s]
  go_enter Tryz.func217, Tryz.ntmps217
  go_wp2_with fail
  have hB := below_allocs W [Obj.cells #[Value.int IntKind.u64 (hiS s), Value.int IntKind.u64 (loW s)] 182, Obj.cells #[Value.int IntKind.u64 0, Value.int IntKind.u64 0] 182]
  have g0 := blk_at W [Obj.cells #[Value.int IntKind.u64 (hiS s), Value.int IntKind.u64 (loW s)] 182, Obj.cells #[Value.int IntKind.u64 0, Value.int IntKind.u64 0] 182] 0 _ _ rfl
  have g1 := blk_at W [Obj.cells #[Value.int IntKind.u64 (hiS s), Value.int IntKind.u64 (loW s)] 182, Obj.cells #[Value.int IntKind.u64 0, Value.int IntKind.u64 0] 182] 1 _ _ rfl
  simp only [List.foldl_cons, List.foldl_nil, Nat.add_zero] at hB g0 g1
  generalize (W.alloc (Obj.cells #[Value.int IntKind.u64 (hiS s), Value.int IntKind.u64 (loW s)] 182)).alloc (Obj.cells #[Value.int IntKind.u64 0, Value.int IntKind.u64 0] 182) = w1 at *
  have c0 := (g0.cell 0).trans (by rfl)
  have c1 := (g0.cell 1).trans (by rfl)
  replace hB := hB.1
  clear g0
  have k1 : IntKind.i64.wrap 63 = 63 := by decide
  go_still_tail 15, (by kernel_rfl)
  clear k1 c0 c1
  change wpList _ _ _ _ _ w1.drew
  have g2 := g1.drew
  replace hB := upD hB
  generalize w1.drew = w2 at *
  have f0 := g2.frozen
  have c2 := g2.cell
  go_wp2_with fail
  simp [bodyPost, results, Tryz.results217, go_sem, c2]
  clear c2 f0 g2
  refine ⟨sv_is ?_ ?_, upS (upS hB (p := ⟨_, _, _⟩) (Nat.le_succ _) _) (p := ⟨_, _, _⟩) (Nat.le_succ _) _⟩
  · first | (rw [IntKind.wrap_u64, bits_or_comm _ _ (by omega) (by omega), or_apart 1 _ _ (by omega) (by omega) (by omega) (by omega) ⟨((hiS s) % 9223372036854775808).toNat, by omega⟩ (by omega)]; unfold loW hiS; omega)
  · rw [IntKind.wrap_u64]; unfold loW; omega

set_option maxRecDepth 100000 in
theorem up32_is (s : Int) (W : World) : Calls Tryz.prog 217 #[sv s, .int .i64 32] W fun e w' => e = .returned (sv (s * 4294967296)) ∧ Below W.heap.size W w' := by
  have ls := loW_rng s
  have hs := hiS_rng s
  rw [svU s]
  go_enter Tryz.func217, Tryz.ntmps217
  go_wp2_with fail
  have hB := below_allocs W [Obj.cells #[Value.int IntKind.u64 (hiS s), Value.int IntKind.u64 (loW s)] 182, Obj.cells #[Value.int IntKind.u64 0, Value.int IntKind.u64 0] 182]
  have g0 := blk_at W [Obj.cells #[Value.int IntKind.u64 (hiS s), Value.int IntKind.u64 (loW s)] 182, Obj.cells #[Value.int IntKind.u64 0, Value.int IntKind.u64 0] 182] 0 _ _ rfl
  have g1 := blk_at W [Obj.cells #[Value.int IntKind.u64 (hiS s), Value.int IntKind.u64 (loW s)] 182, Obj.cells #[Value.int IntKind.u64 0, Value.int IntKind.u64 0] 182] 1 _ _ rfl
  simp only [List.foldl_cons, List.foldl_nil, Nat.add_zero] at hB g0 g1
  generalize (W.alloc (Obj.cells #[Value.int IntKind.u64 (hiS s), Value.int IntKind.u64 (loW s)] 182)).alloc (Obj.cells #[Value.int IntKind.u64 0, Value.int IntKind.u64 0] 182) = w1 at *
  have c0 := (g0.cell 0).trans (by rfl)
  have c1 := (g0.cell 1).trans (by rfl)
  replace hB := hB.1
  clear g0
  have k1 : IntKind.i64.wrap 32 = 32 := by decide
  go_still_tail 15, (by kernel_rfl)
  clear k1 c0 c1
  change wpList _ _ _ _ _ w1.drew
  have g2 := g1.drew
  replace hB := upD hB
  generalize w1.drew = w2 at *
  have f0 := g2.frozen
  have c2 := g2.cell
  go_wp2_with fail
  simp [bodyPost, results, Tryz.results217, go_sem, c2]
  clear c2 f0 g2
  refine ⟨sv_is ?_ ?_, upS (upS hB (p := ⟨_, _, _⟩) (Nat.le_succ _) _) (p := ⟨_, _, _⟩) (Nat.le_succ _) _⟩
  · first | (rw [IntKind.wrap_u64, bits_or_comm _ _ (by omega) (by omega), or_apart 32 _ _ (by omega) (by omega) (by omega) (by omega) ⟨((hiS s) % 4294967296).toNat, by omega⟩ (by omega)]; unfold loW hiS; omega)
  · rw [IntKind.wrap_u64]; unfold loW; omega

end Go.Proofs.YtnofoommindocaaGreat.Base
