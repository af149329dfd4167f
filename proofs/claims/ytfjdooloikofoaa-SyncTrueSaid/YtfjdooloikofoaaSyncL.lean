/- SyncNone: a clock that is nil, or that nobody made, takes no exchange, and tells none; no conditions. -/
import Derived.Test.YtfjdooloikofoaaSyncK
import Derived.Test.YtfjdooloikofoaaOpen4
import Derived.StillTailTactics
namespace Go.Proofs.Ytfjdooloikofoaa.SyncA
open Go.RowKit Go.Shelf Go.Proofs.Ytfjdooloikofoaa.StampA Go.Proofs.Ytfjdooloikofoaa.Base
set_option linter.unusedVariables false

theorem addN (w : World) (x1 x2 x3 x4 : Int) :
    Calls Try.prog 27 #[.pointer none, .agg #[.int .i64 x1, .int .i64 x2, .int .i64 x3, .int .i64 x4]] w fun e w' => e = .returned (.int .i64 1) ∧ Below w.heap.size w w' := by
  go_enter Try.func27, Try.ntmps27
  go_wp2
  go_ret
  exact ⟨rfl, by go_grown⟩
theorem addZ (w : World) (b : Nat) (h : w.cell? ⟨b, 0, none⟩ = some (.int .i64 0)) (x1 x2 x3 x4 : Int) :
    Calls Try.prog 27 #[.pointer (some ⟨b, 0, none⟩), .agg #[.int .i64 x1, .int .i64 x2, .int .i64 x3, .int .i64 x4]] w fun e w' => e = .returned (.int .i64 1) ∧ Below w.heap.size w w' := by
  have hb := World.block_lt_of_cell? w _ h
  dsimp only at hb
  go_enter Try.func27, Try.ntmps27
  go_wp2
  go_ret
  exact ⟨rfl, by go_grown⟩
theorem bestZ (w : World) (b : Nat) (h : w.cell? ⟨b, 0, none⟩ = some (.int .i64 0)) :
    Calls Try.prog 34 #[.pointer (some ⟨b, 0, none⟩)] w fun e w' => e = .returned (.tuple #[.int .i64 0, .int .i64 0, .int .i64 1]) ∧ w = w' := by
  go_enter Try.func34, Try.ntmps34
  go_wp2
  go_ret3
  exact ⟨rfl, rfl⟩
theorem bestN' (w : World) :
    Calls Try.prog 34 #[.pointer none] w fun e w' => e = .returned (.tuple #[.int .i64 0, .int .i64 0, .int .i64 1]) ∧ w = w' := by
  go_enter Try.func34, Try.ntmps34
  go_wp2
  go_ret3
  exact ⟨rfl, rfl⟩
theorem lenZ (w : World) (b : Nat) (h : w.cell? ⟨b, 0, none⟩ = some (.int .i64 0)) :
    Calls Try.prog 36 #[.pointer (some ⟨b, 0, none⟩)] w fun e w' => e = .returned (.int .i64 0) ∧ w = w' := by
  go_enter Try.func36, Try.ntmps36
  go_wp2
  go_ret
  exact ⟨rfl, rfl⟩
theorem lenN (w : World) :
    Calls Try.prog 36 #[.pointer none] w fun e w' => e = .returned (.int .i64 0) ∧ w = w' := by
  go_enter Try.func36, Try.ntmps36
  go_wp2
  go_ret
  exact ⟨rfl, rfl⟩

structure SN (w : World) (x1 x2 x3 x4 : Int) (W : World) : Prop where
  x : Blk W w.heap.size #[.int .i64 x1, .int .i64 x2, .int .i64 x3, .int .i64 x4] 48
  z : Blk W (w.heap.size + 1) zc 62
  s : Blk W (w.heap.size + 1 + 1) #[.pointer none, .pointer (some ⟨w.heap.size + 1, 0, none⟩)] 44
  below : Below w.heap.size w W
theorem SN.keep {w W W' : World} {x1 x2 x3 x4 : Int} (h : SN w x1 x2 x3 x4 W) (hK : Below W.heap.size W W') : SN w x1 x2 x3 x4 W' :=
  ⟨h.x.keep hK, h.z.keep hK, h.s.keep hK, h.below.trans (hK.mono h.below.size)⟩
theorem SN.drew {w W : World} {x1 x2 x3 x4 : Int} (h : SN w x1 x2 x3 x4 W) : SN w x1 x2 x3 x4 W.drew := ⟨h.x, h.z, h.s, h.below.drew⟩
theorem SN.cells {w W : World} {x1 x2 x3 x4 : Int} (h : SN w x1 x2 x3 x4 W) :
    W.cell? ⟨w.heap.size, 0, none⟩ = some (.int .i64 x1) ∧ W.cell? ⟨w.heap.size, 1, none⟩ = some (.int .i64 x2) ∧ W.cell? ⟨w.heap.size, 2, none⟩ = some (.int .i64 x3) ∧ W.cell? ⟨w.heap.size, 3, none⟩ = some (.int .i64 x4) ∧
    W.cell? ⟨w.heap.size + 1, 0, none⟩ = some (.int .i64 0) ∧ W.cell? ⟨w.heap.size + 1 + 1, 0, none⟩ = some (.pointer none) ∧ W.cell? ⟨w.heap.size + 1 + 1, 1, none⟩ = some (.pointer (some ⟨w.heap.size + 1, 0, none⟩)) :=
  ⟨h.x.cell 0, h.x.cell 1, h.x.cell 2, h.x.cell 3, (h.z.cell 0).trans (zc_get 0 (by omega)), h.s.cell 0, h.s.cell 1⟩

set_option maxHeartbeats 2000000 in
theorem none16 (x1 x2 x3 x4 : Int) (w : World) (_ : In64 ⟨x1, x2, x3, x4⟩) :
    Calls Try.prog 11 #[.agg #[.int .i64 x1, .int .i64 x2, .int .i64 x3, .int .i64 x4]] w fun e w' => e = .returned (.bool true) ∧ Below w.heap.size w w' := by
  have hzv : ∀ w, Sem.run Try.prog (zeroValue 62) w = .ok (.agg zc) w := fun _ => by kernel_rfl
  have hzn := zc_ne
  go_enter Try.func11, Try.ntmps11
  go_wp2_with fail
  obtain ⟨W, hW⟩ : ∃ W : World, ((w.alloc (.cells #[.int .i64 x1, .int .i64 x2, .int .i64 x3, .int .i64 x4] 48)).alloc (.cells zc 62)).alloc (.cells #[.pointer none, .pointer (some ⟨w.heap.size + 1, 0, none⟩)] 44) = W := ⟨_, rfl⟩
  have hS : SN w x1 x2 x3 x4 W := by
    refine ⟨?_, ?_, ?_, ?_⟩
    · rw [← hW]; exact ((Blk.new w _ _).alloc _).alloc _
    · rw [← hW]
      have := (Blk.new (w.alloc (.cells #[.int .i64 x1, .int .i64 x2, .int .i64 x3, .int .i64 x4] 48)) zc 62).alloc (.cells #[.pointer none, .pointer (some ⟨w.heap.size + 1, 0, none⟩)] 44)
      rw [World.size_alloc] at this; exact this
    · rw [← hW]
      have := Blk.new ((w.alloc (.cells #[.int .i64 x1, .int .i64 x2, .int .i64 x3, .int .i64 x4] 48)).alloc (.cells zc 62)) #[.pointer none, .pointer (some ⟨w.heap.size + 1, 0, none⟩)] 44
      rw [World.size_alloc, World.size_alloc] at this; exact this
    · rw [← hW]; exact (((Below.refl _ _).alloc (Nat.le_refl _) _).alloc (by simp) _).alloc (by simp; omega) _
  rw [hW]
  clear hW hzn hzv
  refine wp_loop_rounds 3 ?_
  rw [rounds_succ]
  obtain ⟨c0, c1, c2, c3, c4, c5, c6⟩ := hS.cells
  go_wp2_with fail
  go_still_tail 5, (by kernel_rfl)
  go_wp2_with fail
  refine (addN _ _ _ _ _).mono ?_
  rintro e w1 ⟨rfl, hK⟩
  have hS1 := hS.drew.keep hK
  clear hK c0 c1 c2 c3 c4 c5 c6 hS
  obtain ⟨c0, c1, c2, c3, c4, c5, c6⟩ := hS1.cells
  go_wp2_with fail
  refine (bestN' _).mono ?_
  rintro e w' ⟨rfl, rfl⟩
  go_wp2_with fail
  refine (lenN _).mono ?_
  rintro e w' ⟨rfl, rfl⟩
  go_wp2_with fail
  rw [rounds_succ]
  go_wp2_with fail
  go_still_tail 5, (by kernel_rfl)
  go_wp2_with fail
  refine (addZ w1.drew _ c4 _ _ _ _).mono ?_
  rintro e w2 ⟨rfl, hK⟩
  have hS2 := hS1.drew.keep hK
  clear hK c0 c1 c2 c3 c4 c5 c6 hS1
  obtain ⟨c0, c1, c2, c3, c4, c5, c6⟩ := hS2.cells
  go_wp2_with fail
  refine (bestZ _ _ c4).mono ?_
  rintro e w' ⟨rfl, rfl⟩
  go_wp2_with fail
  refine (lenZ _ _ c4).mono ?_
  rintro e w' ⟨rfl, rfl⟩
  go_wp2_with fail
  rw [rounds_succ]
  go_wp2_with fail
  refine (awake16 _).mono ?_
  rintro e w3 ⟨rfl, hK⟩
  have hS3 := hS2.keep hK
  go_wp2_with fail
  go_ret
  exact ⟨rfl, hS3.below⟩

end Go.Proofs.Ytfjdooloikofoaa.SyncA
