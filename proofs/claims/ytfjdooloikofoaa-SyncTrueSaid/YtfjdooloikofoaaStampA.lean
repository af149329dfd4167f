/- Contracts of stamp.Record. -/
import Derived.Test.YtfjdooloikofoaaProg
import Derived.WalkKit
import Derived.KernelRfl
import Derived.Deep.QuietTactic
import Derived.BigQuiet
import Derived.WalkLawsBesides
import Derived.Lib.Hide
namespace Go.Proofs.Ytfjdooloikofoaa.StampA
open Go.RowKit

/-- Blocks other than b stand as they stood. -/
structure But (b : Nat) (w w' : World) : Prop where
  os : w'.os = w.os
  tape : w'.tape = w.tape
  output : w'.output = w.output
  size : w.heap.size ≤ w'.heap.size
  block : ∀ k, k < w.heap.size → k ≠ b → w'.heap[k]? = w.heap[k]?

def recObj (made : Bool) (n m lo hi : Int) : Obj := .cells #[.bool made, .int .i64 n, .int .i64 m, .int .i64 lo, .int .i64 hi] 30 (0, 0)

theorem rec_cells {w : World} {b : Nat} {made : Bool} {n m lo hi : Int} (h : w.heap[b]? = some (recObj made n m lo hi)) :
    w.cell? ⟨b, 0, none⟩ = some (.bool made) ∧ w.cell? ⟨b, 1, none⟩ = some (.int .i64 n) ∧ w.cell? ⟨b, 2, none⟩ = some (.int .i64 m) ∧ w.cell? ⟨b, 3, none⟩ = some (.int .i64 lo) ∧ w.cell? ⟨b, 4, none⟩ = some (.int .i64 hi) := by
  simp [World.cell?, h, recObj]

theorem none_rec (b : Nat) (w : World) (made : Bool) (n m lo hi : Int) (h : w.heap[b]? = some (recObj made n m lo hi)) :
    Calls Try.prog 41 #[.pointer (some ⟨b, 0, none⟩)] w fun e w' => e = .returned (.bool (!made)) ∧ w = w' := by
  obtain ⟨h0, h1, h2, h3, h4⟩ := rec_cells h
  clear h
  go_enter Try.func41, Try.ntmps41
  go_wp2
  go_ret
  exact ⟨rfl, rfl⟩

theorem none_nil (w : World) :
    Calls Try.prog 41 #[.pointer none] w fun e w' => e = .returned (.bool true) ∧ w = w' := by
  go_enter Try.func41, Try.ntmps41
  go_wp2
  go_ret
  exact ⟨rfl, rfl⟩

theorem count_rec (b : Nat) (w : World) (n m lo hi : Int) (h : w.heap[b]? = some (recObj true n m lo hi)) :
    Calls Try.prog 18 #[.pointer (some ⟨b, 0, none⟩)] w fun e w' => e = .returned (.int .i64 n) ∧ Below w.heap.size w w' := by
  obtain ⟨h0, h1, h2, h3, h4⟩ := rec_cells h
  have hb : b < w.heap.size := World.block_lt_of_cell? w _ h0
  clear h
  go_enter Try.func18, Try.ntmps18
  go_wp2
  go_ret
  exact ⟨rfl, (Below.refl _ _).alloc (Nat.le_refl _) _⟩

theorem count_un (b : Nat) (w : World) (n m lo hi : Int) (h : w.heap[b]? = some (recObj false n m lo hi)) :
    Calls Try.prog 18 #[.pointer (some ⟨b, 0, none⟩)] w fun e w' => e = .returned (.int .i64 0) ∧ Below w.heap.size w w' := by
  obtain ⟨h0, h1, h2, h3, h4⟩ := rec_cells h
  have hb : b < w.heap.size := World.block_lt_of_cell? w _ h0
  clear h
  go_enter Try.func18, Try.ntmps18
  go_wp2
  go_ret
  exact ⟨rfl, (Below.refl _ _).alloc (Nat.le_refl _) _⟩

theorem count_nil (w : World) :
    Calls Try.prog 18 #[.pointer none] w fun e w' => e = .returned (.int .i64 0) ∧ Below w.heap.size w w' := by
  go_enter Try.func18, Try.ntmps18
  go_wp2
  go_ret
  exact ⟨rfl, (Below.refl _ _).alloc (Nat.le_refl _) _⟩

theorem least_rec (b : Nat) (w : World) (n m lo hi : Int) (h : w.heap[b]? = some (recObj true n m lo hi)) :
    Calls Try.prog 19 #[.pointer (some ⟨b, 0, none⟩)] w fun e w' => e = .returned (.int .i64 lo) ∧ Below w.heap.size w w' := by
  obtain ⟨h0, h1, h2, h3, h4⟩ := rec_cells h
  have hb : b < w.heap.size := World.block_lt_of_cell? w _ h0
  clear h
  go_enter Try.func19, Try.ntmps19
  go_wp2
  go_ret
  exact ⟨rfl, (Below.refl _ _).alloc (Nat.le_refl _) _⟩

theorem least_un (b : Nat) (w : World) (n m lo hi : Int) (h : w.heap[b]? = some (recObj false n m lo hi)) :
    Calls Try.prog 19 #[.pointer (some ⟨b, 0, none⟩)] w fun e w' => e = .returned (.int .i64 0) ∧ Below w.heap.size w w' := by
  obtain ⟨h0, h1, h2, h3, h4⟩ := rec_cells h
  have hb : b < w.heap.size := World.block_lt_of_cell? w _ h0
  clear h
  go_enter Try.func19, Try.ntmps19
  go_wp2
  go_ret
  exact ⟨rfl, (Below.refl _ _).alloc (Nat.le_refl _) _⟩

theorem least_nil (w : World) :
    Calls Try.prog 19 #[.pointer none] w fun e w' => e = .returned (.int .i64 0) ∧ Below w.heap.size w w' := by
  go_enter Try.func19, Try.ntmps19
  go_wp2
  go_ret
  exact ⟨rfl, (Below.refl _ _).alloc (Nat.le_refl _) _⟩

theorem most_rec (b : Nat) (w : World) (n m lo hi : Int) (h : w.heap[b]? = some (recObj true n m lo hi)) :
    Calls Try.prog 20 #[.pointer (some ⟨b, 0, none⟩)] w fun e w' => e = .returned (.int .i64 hi) ∧ Below w.heap.size w w' := by
  obtain ⟨h0, h1, h2, h3, h4⟩ := rec_cells h
  have hb : b < w.heap.size := World.block_lt_of_cell? w _ h0
  clear h
  go_enter Try.func20, Try.ntmps20
  go_wp2
  go_ret
  exact ⟨rfl, (Below.refl _ _).alloc (Nat.le_refl _) _⟩

theorem most_un (b : Nat) (w : World) (n m lo hi : Int) (h : w.heap[b]? = some (recObj false n m lo hi)) :
    Calls Try.prog 20 #[.pointer (some ⟨b, 0, none⟩)] w fun e w' => e = .returned (.int .i64 0) ∧ Below w.heap.size w w' := by
  obtain ⟨h0, h1, h2, h3, h4⟩ := rec_cells h
  have hb : b < w.heap.size := World.block_lt_of_cell? w _ h0
  clear h
  go_enter Try.func20, Try.ntmps20
  go_wp2
  go_ret
  exact ⟨rfl, (Below.refl _ _).alloc (Nat.le_refl _) _⟩

theorem most_nil (w : World) :
    Calls Try.prog 20 #[.pointer none] w fun e w' => e = .returned (.int .i64 0) ∧ Below w.heap.size w w' := by
  go_enter Try.func20, Try.ntmps20
  go_wp2
  go_ret
  exact ⟨rfl, (Below.refl _ _).alloc (Nat.le_refl _) _⟩

theorem mean_rec (b : Nat) (w : World) (n m lo hi : Int) (h : w.heap[b]? = some (recObj true n m lo hi)) :
    Calls Try.prog 21 #[.pointer (some ⟨b, 0, none⟩)] w fun e w' => e = .returned (.int .i64 m) ∧ Below w.heap.size w w' := by
  obtain ⟨h0, h1, h2, h3, h4⟩ := rec_cells h
  have hb : b < w.heap.size := World.block_lt_of_cell? w _ h0
  clear h
  go_enter Try.func21, Try.ntmps21
  go_wp2
  go_ret
  exact ⟨rfl, (Below.refl _ _).alloc (Nat.le_refl _) _⟩

theorem mean_un (b : Nat) (w : World) (n m lo hi : Int) (h : w.heap[b]? = some (recObj false n m lo hi)) :
    Calls Try.prog 21 #[.pointer (some ⟨b, 0, none⟩)] w fun e w' => e = .returned (.int .i64 0) ∧ Below w.heap.size w w' := by
  obtain ⟨h0, h1, h2, h3, h4⟩ := rec_cells h
  have hb : b < w.heap.size := World.block_lt_of_cell? w _ h0
  clear h
  go_enter Try.func21, Try.ntmps21
  go_wp2
  go_ret
  exact ⟨rfl, (Below.refl _ _).alloc (Nat.le_refl _) _⟩

theorem mean_nil (w : World) :
    Calls Try.prog 21 #[.pointer none] w fun e w' => e = .returned (.int .i64 0) ∧ Below w.heap.size w w' := by
  go_enter Try.func21, Try.ntmps21
  go_wp2
  go_ret
  exact ⟨rfl, (Below.refl _ _).alloc (Nat.le_refl _) _⟩


theorem heap_alloc_new (w : World) (o : Obj) : (w.alloc o).heap[w.heap.size]? = some o := by
  show (w.heap.push o)[w.heap.size]? = _
  simp

theorem new_any (w : World) :
    Calls Try.prog 22 #[] w fun e w' => ∃ b, e = .returned (.pointer (some ⟨b, 0, none⟩)) ∧ b = w.heap.size ∧ w'.heap[b]? = some (recObj true 0 0 0 0) ∧ w'.heap.size = b + 1 ∧ Below w.heap.size w w' := by
  go_enter Try.func22, Try.ntmps22
  go_wp2
  go_ret
  exact ⟨_, rfl, rfl, heap_alloc_new _ _, by simp, (Below.refl _ _).alloc (Nat.le_refl _) _⟩

theorem add_nil (w : World) (x : Int) :
    Calls Try.prog 17 #[.pointer none, .int .i64 x] w fun e w' => e = .returned (.int .i64 1) ∧ w = w' := by
  go_enter Try.func17, Try.ntmps17
  go_wp2
  go_ret
  exact ⟨rfl, rfl⟩

theorem add_un (b : Nat) (w : World) (x n m lo hi : Int) (h : w.heap[b]? = some (recObj false n m lo hi)) :
    Calls Try.prog 17 #[.pointer (some ⟨b, 0, none⟩), .int .i64 x] w fun e w' => e = .returned (.int .i64 1) ∧ w = w' := by
  obtain ⟨h0, h1, h2, h3, h4⟩ := rec_cells h
  clear h
  go_enter Try.func17, Try.ntmps17
  go_wp2
  go_ret
  exact ⟨rfl, rfl⟩

theorem add_out (b : Nat) (w : World) (x n m lo hi : Int) (hx : x < 0 ∨ 1099511627776 < x) (h : w.heap[b]? = some (recObj true n m lo hi)) :
    Calls Try.prog 17 #[.pointer (some ⟨b, 0, none⟩), .int .i64 x] w fun e w' => e = .returned (.int .i64 2) ∧ w = w' := by
  obtain ⟨h0, h1, h2, h3, h4⟩ := rec_cells h
  clear h
  rcases hx with hx | hx
  · go_enter Try.func17, Try.ntmps17
    go_wp2
    go_ret
    exact ⟨rfl, rfl⟩
  · have hx' : ¬ x < 0 := by omega
    go_enter Try.func17, Try.ntmps17
    go_wp2
    go_ret
    exact ⟨rfl, rfl⟩

theorem rec_frozen {w : World} {b : Nat} {made : Bool} {n m lo hi : Int} (h : w.heap[b]? = some (recObj made n m lo hi)) (o : Nat) : w.frozen? ⟨b, o, none⟩ = false := by
  simp [World.frozen?, h, recObj]

theorem heap_setCell_same {w : World} {b o : Nat} {v : Value} {cs : Array Value} {t : TypeId} {f : Nat × Nat} (h : w.heap[b]? = some (.cells cs t f)) : (w.setCell ⟨b, o, none⟩ v).heap[b]? = some (.cells (cs.setIfInBounds o v) t f) := by
  simp [World.setCell, Array.getElem?_modify, h]

theorem But.refl (b : Nat) (w : World) : But b w w := ⟨rfl, rfl, rfl, Nat.le_refl _, fun _ _ _ => rfl⟩
theorem But.setCell {b : Nat} {a w : World} (h : But b a w) (o : Nat) (v : Value) : But b a (w.setCell ⟨b, o, none⟩ v) :=
  ⟨h.os, h.tape, h.output, by simpa using h.size, fun k hk hne => (Below.heap_setCell _ _ _ _ hne).trans (h.block k hk hne)⟩
theorem But.drew {b : Nat} {a w : World} (h : But b a w) : But b a w.drew := ⟨h.os, h.tape, h.output, h.size, h.block⟩

theorem add_first (b : Nat) (w : World) (x m lo hi : Int) (hx : 0 ≤ x) (hx2 : x ≤ 1099511627776) (h : w.heap[b]? = some (recObj true 0 m lo hi)) :
    Calls Try.prog 17 #[.pointer (some ⟨b, 0, none⟩), .int .i64 x] w fun e w' => e = .returned (.int .i64 0) ∧ w'.heap[b]? = some (recObj true 1 x x x) ∧ But b w w' := by
  obtain ⟨h0, h1, h2, h3, h4⟩ := rec_cells h
  have f1 := rec_frozen h 1
  have f2 := rec_frozen h 2
  have f3 := rec_frozen h 3
  have f4 := rec_frozen h 4
  have HB := Lib.hid h
  clear h
  go_enter Try.func17, Try.ntmps17
  go_wp2
  go_ret
  refine ⟨rfl, ?_, ?_⟩
  · exact heap_setCell_same (heap_setCell_same (heap_setCell_same (heap_setCell_same HB.out)))
  · exact ((((But.refl b w).setCell _ _).setCell _ _).setCell _ _).setCell _ _

theorem rec_final {w : World} {b : Nat} {n m lo hi n' m' lo' hi' lo2 hi2 : Int} (h : w.heap[b]? = some (recObj true n m lo hi)) (e1 : lo' = lo2) (e2 : hi' = hi2) :
    (((((w.setCell ⟨b, 1, none⟩ (.int .i64 n')).setCell ⟨b, 2, none⟩ (.int .i64 m')).setCell ⟨b, 3, none⟩ (.int .i64 lo')).setCell ⟨b, 4, none⟩ (.int .i64 hi')).drew).heap[b]? = some (recObj true n' m' lo2 hi2) := by
  subst e1 e2
  exact heap_setCell_same (heap_setCell_same (heap_setCell_same (heap_setCell_same h)))

theorem add_next (b : Nat) (w : World) (x n m lo hi : Int) (hx : 0 ≤ x) (hx2 : x ≤ 1099511627776) (hn : 1 ≤ n) (hn2 : n ≤ 1000000) (hm : 0 ≤ m) (hm2 : m ≤ 1099511627776) (h : w.heap[b]? = some (recObj true n m lo hi)) :
    Calls Try.prog 17 #[.pointer (some ⟨b, 0, none⟩), .int .i64 x] w fun e w' => e = .returned (.int .i64 0) ∧ w'.heap[b]? = some (recObj true (n + 1) ((7 * m + x) / 8) (min lo x) (max hi x)) ∧ But b w w' := by
  obtain ⟨h0, h1, h2, h3, h4⟩ := rec_cells h
  have f1 := rec_frozen h 1
  have f2 := rec_frozen h 2
  have f3 := rec_frozen h 3
  have f4 := rec_frozen h 4
  have HB := Lib.hid h
  clear h
  have hz : (n == 0) = false := by simp; omega
  go_enter Try.func17, Try.ntmps17
  go_wp2
  go_region
  all_goals go_wp2
  all_goals go_ret
  · exact ⟨rfl, rec_final HB.out (by omega) (by omega), (((((But.refl b w).setCell _ _).setCell _ _).setCell _ _).setCell _ _).drew⟩
  · exact ⟨rfl, rec_final HB.out (by omega) (by omega), (((((But.refl b w).setCell _ _).setCell _ _).setCell _ _).setCell _ _).drew⟩
  · exact ⟨rfl, rec_final HB.out (by omega) (by omega), (((((But.refl b w).setCell _ _).setCell _ _).setCell _ _).setCell _ _).drew⟩
  · exact ⟨rfl, rec_final HB.out (by omega) (by omega), (((((But.refl b w).setCell _ _).setCell _ _).setCell _ _).setCell _ _).drew⟩

def refObj (n lo hi m : Int) : Obj := .cells #[.int .i64 n, .int .i64 lo, .int .i64 hi, .int .i64 m] 38 (0, 0)

theorem ref_cells {w : World} {b : Nat} {n lo hi m : Int} (h : w.heap[b]? = some (refObj n lo hi m)) :
    w.cell? ⟨b, 0, none⟩ = some (.int .i64 n) ∧ w.cell? ⟨b, 1, none⟩ = some (.int .i64 lo) ∧ w.cell? ⟨b, 2, none⟩ = some (.int .i64 hi) ∧ w.cell? ⟨b, 3, none⟩ = some (.int .i64 m) := by
  simp [World.cell?, h, refObj]
theorem ref_frozen {w : World} {b : Nat} {n lo hi m : Int} (h : w.heap[b]? = some (refObj n lo hi m)) (o : Nat) : w.frozen? ⟨b, o, none⟩ = false := by
  simp [World.frozen?, h, refObj]

theorem radd_out (b : Nat) (w : World) (x n lo hi m : Int) (hx : x < 0 ∨ 1099511627776 < x) (h : w.heap[b]? = some (refObj n lo hi m)) :
    Calls Try.prog 23 #[.pointer (some ⟨b, 0, none⟩), .int .i64 x] w fun e w' => e = .returned (.int .i64 2) ∧ w = w' := by
  obtain ⟨h0, h1, h2, h3⟩ := ref_cells h
  clear h
  rcases hx with hx | hx
  · go_enter Try.func23, Try.ntmps23
    go_wp2
    go_ret
    exact ⟨rfl, rfl⟩
  · have hx' : 0 ≤ x := by omega
    have hx2 : ¬ x ≤ 1099511627776 := by omega
    go_enter Try.func23, Try.ntmps23
    go_wp2
    go_ret
    exact ⟨rfl, rfl⟩

theorem radd_first (b : Nat) (w : World) (x lo hi m : Int) (hx : 0 ≤ x) (hx2 : x ≤ 1099511627776) (h : w.heap[b]? = some (refObj 0 lo hi m)) :
    Calls Try.prog 23 #[.pointer (some ⟨b, 0, none⟩), .int .i64 x] w fun e w' => e = .returned (.int .i64 0) ∧ w'.heap[b]? = some (refObj 1 x x x) ∧ But b w w' := by
  obtain ⟨h0, h1, h2, h3⟩ := ref_cells h
  have f0 := ref_frozen h 0
  have f1 := ref_frozen h 1
  have f2 := ref_frozen h 2
  have f3 := ref_frozen h 3
  have HB := Lib.hid h
  clear h
  go_enter Try.func23, Try.ntmps23
  go_wp2
  go_ret
  exact ⟨rfl, heap_setCell_same (heap_setCell_same (heap_setCell_same (heap_setCell_same HB.out))), ((((But.refl b w).setCell _ _).setCell _ _).setCell _ _).setCell _ _⟩

theorem ref_final {w : World} {b : Nat} {n m lo hi n' m' lo' hi' lo2 hi2 : Int} (h : w.heap[b]? = some (refObj n lo hi m)) (e1 : lo' = lo2) (e2 : hi' = hi2) :
    (((((w.setCell ⟨b, 0, none⟩ (.int .i64 n')).setCell ⟨b, 1, none⟩ (.int .i64 lo')).setCell ⟨b, 2, none⟩ (.int .i64 hi')).setCell ⟨b, 3, none⟩ (.int .i64 m'))).heap[b]? = some (refObj n' lo2 hi2 m') := by
  subst e1 e2
  exact heap_setCell_same (heap_setCell_same (heap_setCell_same (heap_setCell_same h)))

theorem radd_next (b : Nat) (w : World) (x n lo hi m : Int) (hx : 0 ≤ x) (hx2 : x ≤ 1099511627776) (hn : 1 ≤ n) (hn2 : n ≤ 1000000) (hm : 0 ≤ m) (hm2 : m ≤ 1099511627776) (h : w.heap[b]? = some (refObj n lo hi m)) :
    Calls Try.prog 23 #[.pointer (some ⟨b, 0, none⟩), .int .i64 x] w fun e w' => e = .returned (.int .i64 0) ∧ w'.heap[b]? = some (refObj (n + 1) (min lo x) (max hi x) ((7 * m + x) / 8)) ∧ But b w w' := by
  obtain ⟨h0, h1, h2, h3⟩ := ref_cells h
  have f0 := ref_frozen h 0
  have f1 := ref_frozen h 1
  have f2 := ref_frozen h 2
  have f3 := ref_frozen h 3
  have HB := Lib.hid h
  clear h
  have hz : (n == 0) = false := by simp; omega
  go_enter Try.func23, Try.ntmps23
  go_wp2
  all_goals go_ret
  all_goals exact ⟨rfl, ref_final HB.out (by omega) (by omega), ((((But.refl b w).setCell _ _).setCell _ _).setCell _ _).setCell _ _⟩

end Go.Proofs.Ytfjdooloikofoaa.StampA
