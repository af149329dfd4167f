/- motion: what is refused; binnaclelaw11: two. -/
import Derived.Test.YtkjbidpafnmogaaGreatMotG
namespace Go.Proofs.YtkjbidpafnmogaaGreat.Base
open Go.RowKit Go Go.Shelf Go.Deep
set_option linter.unusedVariables false
set_option linter.unusedSimpArgs false

def zeroMat : Value := .agg #[.int .i64 0, .int .i64 0, .slice none 0 0]
/-- Why nothing is told. -/
def Ref (p v : Value) (ticks least r : Int) (w0 : World) : Prop := ∀ W, Below w0.heap.size w0 W → Calls Tryz.prog 64 #[p, v, .int .i64 ticks, .int .i64 least] W fun e w' => e = .returned (.int .i64 r) ∧ Below W.heap.size W w'

set_option maxHeartbeats 2000000 in
set_option maxRecDepth 100000 in
theorem mSpan_ref {w0 : World} {p : Value} {v : Value} {M : Mdl} (hM : MM 0 w0 v M) {ticks r : Int} (hr : r ≠ 0) (hR : Ref p v ticks (-1099511627776) r w0) :
    Calls Tryz.prog 35 #[p, v, .int .i64 ticks] w0 fun e w' => e = .returned (.tuple #[.int .i64 0, .int .i64 r]) ∧ Below w0.heap.size w0 w' := by
  obtain ⟨aA, cA, aQ, cQ, aR, cR, rfl, _⟩ := hM.ex
  clear hM
  unfold Ref at hR
  have HR := Lib.hid hR
  clear hR
  obtain ⟨la, hla⟩ : ∃ n, M.A.length = n := ⟨_, rfl⟩
  obtain ⟨lq, hlq⟩ : ∃ n, M.Q.length = n := ⟨_, rfl⟩
  obtain ⟨lr, hlr⟩ : ∃ n, M.rows.length = n := ⟨_, rfl⟩
  rw [hla, hlq, hlr] at HR ⊢
  clear hla hlq hlr
  have hr' : (r == 0) = false := beq_false_of_ne hr
  have hB := upA (upR w0) (Obj.cells #[.int .i64 M.n, .slice aA la cA, .slice aQ lq cQ, .int .i64 M.tick, .int .i64 M.gate, .int .i64 M.rmin, .slice aR lr cR] 54)
  have d0 := (Blk.new w0 #[.int .i64 M.n, .slice aA la cA, .slice aQ lq cQ, .int .i64 M.tick, .int .i64 M.gate, .int .i64 M.rmin, .slice aR lr cR] 54).cell
  go_enter Tryz.func35, Tryz.ntmps35
  go_wp2_with fail
  clear d0
  refine (HR.out _ hB).mono ?_
  rintro e w2 ⟨rfl, hK⟩
  replace hB := more hB hK
  go_wp2_with fail
  go_ret2
  exact ⟨rfl, hB⟩
set_option maxHeartbeats 2000000 in
set_option maxRecDepth 100000 in
theorem mFlow_ref {w0 : World} {p : Value} {v : Value} {M : Mdl} (hM : MM 0 w0 v M) {ticks r : Int} (hr : r ≠ 0) (hR : Ref p v ticks (-1099511627776) r w0) :
    Calls Tryz.prog 31 #[p, v, .int .i64 ticks] w0 fun e w' => e = .returned (.tuple #[.agg #[.int .i64 0, .int .i64 0, .slice none 0 0], .int .i64 r]) ∧ Below w0.heap.size w0 w' := by
  obtain ⟨aA, cA, aQ, cQ, aR, cR, rfl, _⟩ := hM.ex
  clear hM
  unfold Ref at hR
  have HR := Lib.hid hR
  clear hR
  obtain ⟨la, hla⟩ : ∃ n, M.A.length = n := ⟨_, rfl⟩
  obtain ⟨lq, hlq⟩ : ∃ n, M.Q.length = n := ⟨_, rfl⟩
  obtain ⟨lr, hlr⟩ : ∃ n, M.rows.length = n := ⟨_, rfl⟩
  rw [hla, hlq, hlr] at HR ⊢
  clear hla hlq hlr
  have hr' : (r == 0) = false := beq_false_of_ne hr
  have hB := below_allocs w0 [Obj.cells #[.int .i64 M.n, .slice aA la cA, .slice aQ lq cQ, .int .i64 M.tick, .int .i64 M.gate, .int .i64 M.rmin, .slice aR lr cR] 54, Obj.cells #[Value.int .i64 0, .int .i64 0, .slice none 0 0] 24]
  have g0 := blk_at w0 [Obj.cells #[.int .i64 M.n, .slice aA la cA, .slice aQ lq cQ, .int .i64 M.tick, .int .i64 M.gate, .int .i64 M.rmin, .slice aR lr cR] 54, Obj.cells #[Value.int .i64 0, .int .i64 0, .slice none 0 0] 24] 0 _ _ rfl
  have g1 := blk_at w0 [Obj.cells #[.int .i64 M.n, .slice aA la cA, .slice aQ lq cQ, .int .i64 M.tick, .int .i64 M.gate, .int .i64 M.rmin, .slice aR lr cR] 54, Obj.cells #[Value.int .i64 0, .int .i64 0, .slice none 0 0] 24] 1 _ _ rfl
  simp only [List.foldl_cons, List.foldl_nil, Nat.add_zero] at hB g0 g1
  replace hB := hB.1
  have d0 := g0.cell
  go_enter Tryz.func31, Tryz.ntmps31
  go_wp2_with fail
  clear d0 g0
  refine (HR.out _ hB).mono ?_
  rintro e w2 ⟨rfl, hK⟩
  replace hB := more hB hK
  replace g1 := g1.keep hK
  go_wp2_with ((with_reducible refine at_st (p := 6) (q := 15) rfl ?_); refine ev_store rfl 24 _ _ rfl rfl g1 0 rfl rfl [.int .i64 0, .int .i64 0, .slice none 0 0] rfl (by kernel_rfl) rfl rfl #[.int .i64 0, .int .i64 0, .slice none 0 0] rfl ?_; intro w8 g8 ef hz8)
  refine bodyPost_ret (results_ct (g := w0.heap.size + 1) (cs := #[.int .i64 0, .int .i64 0, .slice none 0 0]) rfl _ _ rfl g8 Tryz.underlying24 rfl (by kernel_rfl)) rfl ?_
  exact ⟨rfl, ef.below hB (fun k hk => by omega)⟩
set_option maxHeartbeats 2000000 in
set_option maxRecDepth 100000 in
theorem mNoise_ref {w0 : World} {p : Value} {v : Value} {M : Mdl} (hM : MM 0 w0 v M) {ticks r : Int} (hr : r ≠ 0) (hR : Ref p v ticks 0 r w0) :
    Calls Tryz.prog 30 #[p, v, .int .i64 ticks] w0 fun e w' => e = .returned (.tuple #[.agg #[.int .i64 0, .int .i64 0, .slice none 0 0], .int .i64 r]) ∧ Below w0.heap.size w0 w' := by
  obtain ⟨aA, cA, aQ, cQ, aR, cR, rfl, _⟩ := hM.ex
  clear hM
  unfold Ref at hR
  have HR := Lib.hid hR
  clear hR
  obtain ⟨la, hla⟩ : ∃ n, M.A.length = n := ⟨_, rfl⟩
  obtain ⟨lq, hlq⟩ : ∃ n, M.Q.length = n := ⟨_, rfl⟩
  obtain ⟨lr, hlr⟩ : ∃ n, M.rows.length = n := ⟨_, rfl⟩
  rw [hla, hlq, hlr] at HR ⊢
  clear hla hlq hlr
  have hr' : (r == 0) = false := beq_false_of_ne hr
  have hB := below_allocs w0 [Obj.cells #[.int .i64 M.n, .slice aA la cA, .slice aQ lq cQ, .int .i64 M.tick, .int .i64 M.gate, .int .i64 M.rmin, .slice aR lr cR] 54, Obj.cells #[Value.int .i64 0, .int .i64 0, .slice none 0 0] 24]
  have g0 := blk_at w0 [Obj.cells #[.int .i64 M.n, .slice aA la cA, .slice aQ lq cQ, .int .i64 M.tick, .int .i64 M.gate, .int .i64 M.rmin, .slice aR lr cR] 54, Obj.cells #[Value.int .i64 0, .int .i64 0, .slice none 0 0] 24] 0 _ _ rfl
  have g1 := blk_at w0 [Obj.cells #[.int .i64 M.n, .slice aA la cA, .slice aQ lq cQ, .int .i64 M.tick, .int .i64 M.gate, .int .i64 M.rmin, .slice aR lr cR] 54, Obj.cells #[Value.int .i64 0, .int .i64 0, .slice none 0 0] 24] 1 _ _ rfl
  simp only [List.foldl_cons, List.foldl_nil, Nat.add_zero] at hB g0 g1
  replace hB := hB.1
  have d0 := g0.cell
  go_enter Tryz.func30, Tryz.ntmps30
  go_wp2_with fail
  clear d0 g0
  refine (HR.out _ hB).mono ?_
  rintro e w2 ⟨rfl, hK⟩
  replace hB := more hB hK
  replace g1 := g1.keep hK
  go_wp2_with ((with_reducible refine at_st (p := 6) (q := 18) rfl ?_); refine ev_store rfl 24 _ _ rfl rfl g1 0 rfl rfl [.int .i64 0, .int .i64 0, .slice none 0 0] rfl (by kernel_rfl) rfl rfl #[.int .i64 0, .int .i64 0, .slice none 0 0] rfl ?_; intro w8 g8 ef hz8)
  refine bodyPost_ret (results_ct (g := w0.heap.size + 1) (cs := #[.int .i64 0, .int .i64 0, .slice none 0 0]) rfl _ _ rfl g8 Tryz.underlying24 rfl (by kernel_rfl)) rfl ?_
  exact ⟨rfl, ef.below hB (fun k hk => by omega)⟩

/-- A model of two numbers. -/
def twoM (mv a q : Int) : Mdl := ⟨2, [0, mv * 4294967296, 0, 0], [a * 4294967296, q * 4294967296], 4294967296, 1, 1, []⟩
theorem MR.nil (W : World) : MR 0 W none 0 [] := ⟨fun k hk => by simp at hk, by simp, fun x hx => by simp at hx, fun _ => rfl, by simp⟩
set_option maxHeartbeats 2000000 in
set_option maxRecDepth 100000 in
theorem two11_is {w0 : World} {b : Nat} {c : Bool} (hU : UP w0 b c) (mv a q : Int) (hm : mv.natAbs ≤ 1000) (ha : a.natAbs ≤ 1000) (hq : q.natAbs ≤ 1000) :
    Calls Tryz.prog 29 #[.int .i64 mv, .int .i64 a, .int .i64 q] w0 fun e w' => ∃ v, e = .returned v ∧ MW b w' v (twoM mv a q) ∧ Below w0.heap.size w0 w' := by
  have hw1 : IntKind.i64.wrap (mv * 4294967296) = mv * 4294967296 := IntWalk.i64_in _ (by omega)
  have hw2 : IntKind.i64.wrap (a * 4294967296) = a * 4294967296 := IntWalk.i64_in _ (by omega)
  have hw3 : IntKind.i64.wrap (q * 4294967296) = q * 4294967296 := IntWalk.i64_in _ (by omega)
  go_enter Tryz.func29, Tryz.ntmps29
  go_wp2_with fail
  have hB := below_allocs w0 [Obj.cells #[Value.int .i64 2, .slice (some ⟨w0.heap.size + 1, 0, none⟩) 4 4, .slice (some ⟨w0.heap.size + 1 + 1, 0, none⟩) 2 2, .int .i64 4294967296, .int .i64 1, .int .i64 1, .slice none 0 0] 54, Obj.cells #[Value.int .i64 0, .int .i64 (mv * 4294967296), .int .i64 0, .int .i64 0] 3, Obj.cells #[Value.int .i64 (a * 4294967296), .int .i64 (q * 4294967296)] 3]
  have g0 := blk_at w0 [Obj.cells #[Value.int .i64 2, .slice (some ⟨w0.heap.size + 1, 0, none⟩) 4 4, .slice (some ⟨w0.heap.size + 1 + 1, 0, none⟩) 2 2, .int .i64 4294967296, .int .i64 1, .int .i64 1, .slice none 0 0] 54, Obj.cells #[Value.int .i64 0, .int .i64 (mv * 4294967296), .int .i64 0, .int .i64 0] 3, Obj.cells #[Value.int .i64 (a * 4294967296), .int .i64 (q * 4294967296)] 3] 0 _ _ rfl
  have g1 := blk_at w0 [Obj.cells #[Value.int .i64 2, .slice (some ⟨w0.heap.size + 1, 0, none⟩) 4 4, .slice (some ⟨w0.heap.size + 1 + 1, 0, none⟩) 2 2, .int .i64 4294967296, .int .i64 1, .int .i64 1, .slice none 0 0] 54, Obj.cells #[Value.int .i64 0, .int .i64 (mv * 4294967296), .int .i64 0, .int .i64 0] 3, Obj.cells #[Value.int .i64 (a * 4294967296), .int .i64 (q * 4294967296)] 3] 1 _ _ rfl
  have g2 := blk_at w0 [Obj.cells #[Value.int .i64 2, .slice (some ⟨w0.heap.size + 1, 0, none⟩) 4 4, .slice (some ⟨w0.heap.size + 1 + 1, 0, none⟩) 2 2, .int .i64 4294967296, .int .i64 1, .int .i64 1, .slice none 0 0] 54, Obj.cells #[Value.int .i64 0, .int .i64 (mv * 4294967296), .int .i64 0, .int .i64 0] 3, Obj.cells #[Value.int .i64 (a * 4294967296), .int .i64 (q * 4294967296)] 3] 2 _ _ rfl
  simp only [List.foldl_cons, List.foldl_nil, Nat.add_zero] at hB g0 g1 g2
  replace hB := hB.1
  have hlt := hU.lt
  have hA : ML b _ (some ⟨w0.heap.size + 1, 0, none⟩) 4 [0, mv * 4294967296, 0, 0] := ⟨MI.of_blk (zs := [0, mv * 4294967296, 0, 0]) g1 (Nat.zero_le _) (fun z hz => by simp at hz; unfold I64; omega) (show (4 : Nat) ≤ 1000 by decide), fun x hx _ => by cases hx; show w0.heap.size + 1 ≠ b; omega⟩
  have hQ : ML b _ (some ⟨w0.heap.size + 2, 0, none⟩) 2 [a * 4294967296, q * 4294967296] := ⟨MI.of_blk (zs := [a * 4294967296, q * 4294967296]) g2 (Nat.zero_le _) (fun z hz => by simp at hz; unfold I64; omega) (show (2 : Nat) ≤ 1000 by decide), fun x hx _ => by cases hx; show w0.heap.size + 2 ≠ b; omega⟩
  refine bodyPost_ret (results_cell_row rfl _ _ _ 54 #[Value.int .i64 2, .slice (some ⟨w0.heap.size + 1, 0, none⟩) 4 4, .slice (some ⟨w0.heap.size + 1 + 1, 0, none⟩) 2 2, .int .i64 4294967296, .int .i64 1, .int .i64 1, .slice none 0 0] (0, 0) _ rfl g0 Tryz.underlying54 rfl (by kernel_rfl)) rfl ?_
  refine ⟨_, rfl, ⟨⟨_, _, _, _, none, 0, rfl, hA, hQ⟩, fun W' k => ⟨⟨_, _, _, _, none, 0, rfl, (hA.but k).mi, (hQ.but k).mi, MR.nil W'⟩, i64_lit (z := 2) (by decide), i64_lit (z := 4294967296) (by decide), i64_lit (z := 1) (by decide), i64_lit (z := 1) (by decide)⟩⟩, hB⟩

end Go.Proofs.YtkjbidpafnmogaaGreat.Base
