/- StampNone: a record that is nil or that nobody made tells nothing and is told nothing; no conditions. -/
import Derived.Test.YtfjdooloikofoaaStampA
import Derived.Test.YtfjdooloikofoaaPureStampTells
import Derived.LoopN
import Derived.LoopTactic
import Derived.Deep.LoopGhost
namespace Go.Proofs.Ytfjdooloikofoaa.StampA
open Go.RowKit

theorem awake_ok (w : World) : Calls Try.prog 16 #[] w fun e w' => e = .returned (.bool true) ∧ Below w.heap.size w w' :=
  PStampTells.binnaclelaw17_awake.calls 4 true w (Pure.awake_f 0)

theorem bcell {W w1 : World} (hb : Below W.heap.size W w1) : (∀ b o, b < W.heap.size → w1.cell? ⟨b, o, none⟩ = W.cell? ⟨b, o, none⟩) ∧ (∀ b o, b < W.heap.size → w1.frozen? ⟨b, o, none⟩ = W.frozen? ⟨b, o, none⟩) :=
  ⟨fun b o h => hb.cell (p := ⟨b, o, none⟩) h, fun b o h => hb.frozen (p := ⟨b, o, none⟩) h⟩

theorem heap_alloc_at {w : World} {o : Obj} {b : Nat} {x : Obj} (h : w.heap[b]? = some x) : (w.alloc o).heap[b]? = some x := by
  have hb : b < w.heap.size := (Array.getElem?_eq_some_iff.1 h).1
  rw [Below.heap_alloc _ _ _ hb]; exact h

theorem none_walk (x : Int) (w : World) (_ : (Lit.int .i64 x).wf = true) : Calls Try.prog 4 #[.int .i64 x] w fun e w' => e = .returned (.bool true) ∧ Below w.heap.size w w' := by
  go_enter Try.func4, Try.ntmps4
  go_wp2_with fail
  obtain ⟨W, hW⟩ : ∃ W : World, (w.alloc (.cells #[.bool false, .int .i64 0, .int .i64 0, .int .i64 0, .int .i64 0] 30)).alloc (.cells #[.pointer none, .pointer (some ⟨w.heap.size, 0, none⟩)] 27) = W := ⟨_, rfl⟩
  have hr : W.heap[w.heap.size]? = some (recObj false 0 0 0 0) := by rw [← hW]; exact heap_alloc_at (heap_alloc_new _ _)
  have hs : w.heap.size + 2 = W.heap.size := by rw [← hW]; simp
  have hc0 : W.cell? ⟨w.heap.size + 1, 0, none⟩ = some (.pointer none) := by rw [← hW, show w.heap.size + 1 = (w.alloc (.cells #[.bool false, .int .i64 0, .int .i64 0, .int .i64 0, .int .i64 0] 30)).heap.size by simp]; exact World.cell?_alloc_new _ _ _ _
  have hc1 : W.cell? ⟨w.heap.size + 1, 1, none⟩ = some (.pointer (some ⟨w.heap.size, 0, none⟩)) := by rw [← hW, show w.heap.size + 1 = (w.alloc (.cells #[.bool false, .int .i64 0, .int .i64 0, .int .i64 0, .int .i64 0] 30)).heap.size by simp]; exact World.cell?_alloc_new _ _ _ _
  have hB : Below w.heap.size w W := by rw [← hW]; exact ((Below.refl _ _).alloc (Nat.le_refl _) _).alloc (by simp) _
  rw [hW]
  have HR := Lib.hid hr
  have HS := Lib.hid hs
  have hlt : w.heap.size + 1 < W.heap.size := by omega
  clear hW hr hs
  refine wp_loop_rounds 3 ?_
  rw [rounds_succ]
  go_wp2_with fail
  refine (add_nil _ _).mono ?_
  rintro e w' ⟨rfl, rfl⟩
  go_wp2_with fail
  refine (count_nil _).mono ?_
  rintro e w1 ⟨rfl, hb1⟩
  go_wp2_with fail
  refine (least_nil _).mono ?_
  rintro e w2 ⟨rfl, hb2⟩
  go_wp2_with fail
  refine (most_nil _).mono ?_
  rintro e w3 ⟨rfl, hb3⟩
  go_wp2_with fail
  refine (mean_nil _).mono ?_
  rintro e w4 ⟨rfl, hb4⟩
  have hb : Below W.heap.size W w4 := ((hb1.trans (hb2.mono hb1.size)).trans (hb3.mono (Nat.le_trans hb1.size hb2.size))).trans (hb4.mono (Nat.le_trans (Nat.le_trans hb1.size hb2.size) hb3.size))
  have hc1' := ((bcell hb).1 (w.heap.size + 1) 1 hlt).trans hc1
  have HR4 := Lib.hid ((hb.block w.heap.size (by omega)).trans HR.out)
  clear hb1 hb2 hb3 hb4
  go_wp2_with fail
  rw [rounds_succ]
  go_wp2_with fail
  refine (add_un _ _ _ _ _ _ _ HR4.out).mono ?_
  rintro e w' ⟨rfl, rfl⟩
  go_wp2_with fail
  refine (count_un _ _ _ _ _ _ HR4.out).mono ?_
  rintro e w5 ⟨rfl, hb5⟩
  have HR5 := Lib.hid ((hb5.block w.heap.size (by have := hb.size; omega)).trans HR4.out)
  go_wp2_with fail
  refine (least_un _ _ _ _ _ _ HR5.out).mono ?_
  rintro e w6 ⟨rfl, hb6⟩
  have HR6 := Lib.hid ((hb6.block w.heap.size (by have := hb.size; have := hb5.size; omega)).trans HR5.out)
  go_wp2_with fail
  refine (most_un _ _ _ _ _ _ HR6.out).mono ?_
  rintro e w7 ⟨rfl, hb7⟩
  have HR7 := Lib.hid ((hb7.block w.heap.size (by have := hb.size; have := hb5.size; have := hb6.size; omega)).trans HR6.out)
  go_wp2_with fail
  refine (mean_un _ _ _ _ _ _ HR7.out).mono ?_
  rintro e w8 ⟨rfl, hb8⟩
  go_wp2_with fail
  rw [rounds_succ]
  go_wp2_with fail
  refine (awake_ok _).mono ?_
  rintro e w9 ⟨rfl, hb9⟩
  go_wp2_with fail
  go_ret
  refine ⟨rfl, ?_⟩
  have s5 := hb5.size
  have s6 := hb6.size
  have s7 := hb7.size
  have s8 := hb8.size
  have s := hb.size
  have h0 := HS.out
  exact (((((hB.trans (hb.mono (by omega))).trans (hb5.mono (by omega))).trans (hb6.mono (by omega))).trans (hb7.mono (by omega))).trans (hb8.mono (by omega))).trans (hb9.mono (by omega))

end Go.Proofs.Ytfjdooloikofoaa.StampA
