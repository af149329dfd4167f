/- fix, unit: differences, halves; a flag that is set. -/
import Derived.Test.YtnofoommindocaaGreatNumK
namespace Go.Proofs.YtnofoommindocaaGreat.Base
open Go.RowKit
set_option linter.unusedVariables false
set_option linter.unusedSimpArgs false

set_option maxHeartbeats 1000000 in
theorem half_is (a b : Int) (ha : Fx a) (hb : Fx b) (W : World) : Calls Tryz.prog 242 #[.int .i64 a, .int .i64 b] W fun e w' => e = .returned (wv (rndI (a + b) 2)) ∧ Below W.heap.size W w' := by
  go_enter Tryz.func242, Tryz.ntmps242
  go_wp2_with fail
  refine (sum_is a b ha hb _).mono ?_
  rintro e w1 ⟨rfl, hK⟩
  go_wp2_with fail
  refine (wRound1_is (a + b) (sum_w ha hb) _).mono ?_
  rintro e w2 ⟨rfl, hK2⟩
  have hb := more hK hK2
  have g := (Blk.new W #[Value.int IntKind.i64 0, Value.int IntKind.u64 0] 146).keep hb
  have hB := more (upA (upR W) _) hb
  have hl := g.lt
  clear hK hK2 hb
  have c0 := g.cell
  have f0 := g.frozen
  obtain ⟨r, hr⟩ : ∃ r, rndI (a + b) 2 = r := ⟨_, rfl⟩
  rw [hr]
  have HR := Lib.hid hr
  clear hr
  rw [wvU]
  go_wp2_with fail
  refine bodyPost_ret (results_cell_row rfl _ _ _ 146 #[.int .i64 (hiW r), .int .u64 (loW r)] (0, 0) _ rfl (((g.set 0 _).set 1 _).alloc _) Tryz.underlying146 rfl (by kernel_rfl)) rfl ?_
  exact ⟨by rw [HR.out]; rfl, upA (upS (upS hB (p := ⟨_, _, _⟩) (Nat.le_refl _) _) (p := ⟨_, _, _⟩) (Nat.le_refl _) _) _⟩
theorem half_w {a b : Int} (ha : Fx a) (hb : Fx b) : W127 (rndI (a + b) 2) := by
  unfold Fx at *
  exact rndI_w (by unfold W127; omega) (by omega) (by omega) (by decide)
theorem fixHalf_is (a b : Int) (ha : I64 a) (hb : I64 b) (W : World) : Calls Tryz.prog 227 #[.int .i64 a, .int .i64 b] W fun e w' => e = .returned (RetF (halfF a b)) ∧ Below W.heap.size W w' := by
  go_enter Tryz.func227, Tryz.ntmps227
  go_wp2_with fail
  refine (do_is 242 (enters_of Tryz.func242 (by kernel_rfl) rfl) a b _ (half_w (heldI_fx ha) (heldI_fx hb)) (fun W => half_is _ _ (heldI_fx ha) (heldI_fx hb) W) _).mono ?_
  rintro e w1 ⟨rfl, hK⟩
  go_wp2_with fail
  go_ret2
  exact ⟨rfl, hK⟩
set_option maxHeartbeats 1000000 in
theorem sub1_is (a b : Int) (ha : Fx a) (hb : Fx b) (W : World) : Calls Tryz.prog 152 #[.int .i64 a, .int .i64 b] W fun e w' => e = .returned (wv (a - b)) ∧ Below W.heap.size W w' := by
  have hn : Fx (-b) := by unfold Fx at *; omega
  have hw : wrap64 (-b) = -b := by unfold Fx at hb; unfold wrap64; omega
  have hS := sum_is a (-b) ha hn
  rw [show a + -b = a - b by omega] at hS
  obtain ⟨nb, hnb⟩ : ∃ nb, -b = nb := ⟨_, rfl⟩
  rw [hnb] at hS hw
  obtain ⟨d, hd⟩ : ∃ d, a - b = d := ⟨_, rfl⟩
  rw [hd] at hS
  rw [hd]
  clear hd ha hb hn
  go_enter Tryz.func152, Tryz.ntmps152
  go_wp2_with fail
  refine (hS _).mono ?_
  rintro e w1 ⟨rfl, hK⟩
  have g := (Blk.new W #[Value.int IntKind.i64 0, Value.int IntKind.u64 0] 146).keep hK
  have hB := more (upA (upR W) _) hK
  have hl := g.lt
  have c0 := g.cell
  have f0 := g.frozen
  clear hK hS hw hnb
  rw [wvU]
  go_wp2_with fail
  refine bodyPost_ret (results_cell_row rfl _ _ _ 146 #[.int .i64 (hiW d), .int .u64 (loW d)] (0, 0) _ rfl ((g.set 0 _).set 1 _) Tryz.underlying146 rfl (by kernel_rfl)) rfl ?_
  exact ⟨rfl, upS (upS hB (p := ⟨_, _, _⟩) (Nat.le_refl _) _) (p := ⟨_, _, _⟩) (Nat.le_refl _) _⟩
theorem sub_w {a b : Int} (ha : Fx a) (hb : Fx b) : W127 (a - b) := by unfold Fx at *; unfold W127; omega
theorem fixSub_is (a b : Int) (ha : I64 a) (hb : I64 b) (W : World) : Calls Tryz.prog 98 #[.int .i64 a, .int .i64 b] W fun e w' => e = .returned (RetF (subF a b)) ∧ Below W.heap.size W w' := by
  go_enter Tryz.func98, Tryz.ntmps98
  go_wp2_with fail
  refine (do_is 152 (enters_of Tryz.func152 (by kernel_rfl) rfl) a b _ (sub_w (heldI_fx ha) (heldI_fx hb)) (fun W => sub1_is _ _ (heldI_fx ha) (heldI_fx hb) W) _).mono ?_
  rintro e w1 ⟨rfl, hK⟩
  go_wp2_with fail
  go_ret2
  exact ⟨rfl, hK⟩

theorem uSub_is {W : World} {b : Nat} {c : Bool} (h : UP W b c) (x y : Int) (hx : I64 x) (hy : I64 y) :
    Calls Tryz.prog 53 #[.pointer (some ⟨b, 0, none⟩), .int .i64 x, .int .i64 y] W fun e w' => e = .returned (.int .i64 (subF x y).1) ∧ UP w' b (c || (subF x y).2) ∧ But b W w' := by
  go_enter Tryz.func53, Tryz.ntmps53
  go_wp2_with fail
  refine (one_is0 h 98 (enters_of Tryz.func98 (by kernel_rfl) rfl) x y _ (fun W => fixSub_is x y hx hy W)).mono ?_
  rintro e w1 ⟨rfl, hU, hB⟩
  go_wp2_with fail
  go_ret
  exact ⟨rfl, hU, hB⟩
theorem uHalf_is {W : World} {b : Nat} {c : Bool} (h : UP W b c) (x y : Int) (hx : I64 x) (hy : I64 y) :
    Calls Tryz.prog 189 #[.pointer (some ⟨b, 0, none⟩), .int .i64 x, .int .i64 y] W fun e w' => e = .returned (.int .i64 (halfF x y).1) ∧ UP w' b (c || (halfF x y).2) ∧ But b W w' := by
  go_enter Tryz.func189, Tryz.ntmps189
  go_wp2_with fail
  refine (one_is0 h 227 (enters_of Tryz.func227 (by kernel_rfl) rfl) x y _ (fun W => fixHalf_is x y hx hy W)).mono ?_
  rintro e w1 ⟨rfl, hU, hB⟩
  go_wp2_with fail
  go_ret
  exact ⟨rfl, hU, hB⟩
theorem uSet_is {W : World} {b : Nat} {c : Bool} (h : UP W b c) (k : Bool) :
    Calls Tryz.prog 19 #[.pointer (some ⟨b, 0, none⟩), .bool k] W fun e w' => e = .returned (.tuple #[]) ∧ UP w' b (c || k) ∧ But b W w' := by
  obtain ⟨n, hb⟩ := h
  refine (set_is hb k).mono ?_
  rintro e w1 ⟨rfl, h1, h2⟩
  exact ⟨rfl, ⟨n, h1⟩, h2⟩

end Go.Proofs.YtnofoommindocaaGreat.Base
