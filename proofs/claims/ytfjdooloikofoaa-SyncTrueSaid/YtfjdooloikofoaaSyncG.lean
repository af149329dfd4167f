/- sync.best over a clock's exchanges. -/
import Derived.Test.YtfjdooloikofoaaSyncE
import Derived.Test.YtfjdooloikofoaaBlk
import Derived.Deep.RegionHeld3
namespace Go.Proofs.Ytfjdooloikofoaa.SyncA
open Go.RowKit Go.Shelf Go.Proofs.Ytfjdooloikofoaa.StampA Go.Proofs.Ytfjdooloikofoaa.Base
set_option linter.unusedVariables false
attribute [local go_sem] Oper.semAt_some

def swc (x : Sw) : Array Value := #[.int .i64 x.t1, .int .i64 x.t2, .int .i64 x.t3, .int .i64 x.t4]

def S2 (w : World) (bx : Nat) (a1 a2 a3 a4 b1 b2 b3 b4 : Int) (W' : World) : Prop :=
  Blk W' bx #[.int .i64 a1, .int .i64 a2, .int .i64 a3, .int .i64 a4] 48 ∧ Blk W' (bx + 1) #[.int .i64 b1, .int .i64 b2, .int .i64 b3, .int .i64 b4] 48 ∧ Below bx w W'
theorem S2.cells {w : World} {bx : Nat} {a1 a2 a3 a4 b1 b2 b3 b4 : Int} {W' : World} (h : S2 w bx a1 a2 a3 a4 b1 b2 b3 b4 W') :
    S2 w bx a1 a2 a3 a4 b1 b2 b3 b4 W' ∧ (W'.cell? ⟨bx, 0, none⟩ = some (.int .i64 a1) ∧ W'.cell? ⟨bx, 1, none⟩ = some (.int .i64 a2) ∧ W'.cell? ⟨bx, 2, none⟩ = some (.int .i64 a3) ∧ W'.cell? ⟨bx, 3, none⟩ = some (.int .i64 a4)) ∧ (W'.cell? ⟨bx + 1, 0, none⟩ = some (.int .i64 b1) ∧ W'.cell? ⟨bx + 1, 1, none⟩ = some (.int .i64 b2) ∧ W'.cell? ⟨bx + 1, 2, none⟩ = some (.int .i64 b3) ∧ W'.cell? ⟨bx + 1, 3, none⟩ = some (.int .i64 b4)) :=
  ⟨h, ⟨h.1.cell 0, h.1.cell 1, h.1.cell 2, h.1.cell 3⟩, ⟨h.2.1.cell 0, h.2.1.cell 1, h.2.1.cell 2, h.2.1.cell 3⟩⟩
theorem S2.keep {w : World} {bx : Nat} {a1 a2 a3 a4 b1 b2 b3 b4 : Int} {W' W'' : World} (h : S2 w bx a1 a2 a3 a4 b1 b2 b3 b4 W') (hK : Below W'.heap.size W' W'') : S2 w bx a1 a2 a3 a4 b1 b2 b3 b4 W'' :=
  ⟨h.1.keep hK, h.2.1.keep hK, h.2.2.trans (hK.mono (Nat.le_of_lt h.1.lt))⟩
theorem S2.below {w : World} {a1 a2 a3 a4 b1 b2 b3 b4 : Int} {W' : World} (h : S2 w w.heap.size a1 a2 a3 a4 b1 b2 b3 b4 W') : Below w.heap.size w W' := h.2.2
theorem S2.drew {w : World} {bx : Nat} {a1 a2 a3 a4 b1 b2 b3 b4 : Int} {W' : World} (h : S2 w bx a1 a2 a3 a4 b1 b2 b3 b4 W') : S2 w bx a1 a2 a3 a4 b1 b2 b3 b4 W'.drew := ⟨h.1, h.2.1, h.2.2.drew⟩

set_option maxHeartbeats 1000000 in
theorem better_any (a1 a2 a3 a4 b1 b2 b3 b4 : Int) (w : World) (hx : Tm ⟨a1, a2, a3, a4⟩) (hy : Tm ⟨b1, b2, b3, b4⟩) :
    Calls Try.prog 53 #[.agg #[.int .i64 a1, .int .i64 a2, .int .i64 a3, .int .i64 a4], .agg #[.int .i64 b1, .int .i64 b2, .int .i64 b3, .int .i64 b4]] w
      fun e w' => e = .returned (.bool (decide (a4 - a1 - (a3 - a2) ≤ b4 - b1 - (b3 - b2)))) ∧ Below w.heap.size w w' := by
  have qa := hx.a
  have qb := hx.b
  have qc := hx.c
  have qd := hx.d
  have ra := hy.a
  have rb := hy.b
  have rc := hy.c
  have rd := hy.d
  dsimp only at *
  clear hx hy
  go_enter Try.func53, Try.ntmps53
  go_wp2
  obtain ⟨W, hW⟩ : ∃ W : World, ((w.alloc (.cells #[.int .i64 a1, .int .i64 a2, .int .i64 a3, .int .i64 a4] 48)).alloc (.cells #[.int .i64 b1, .int .i64 b2, .int .i64 b3, .int .i64 b4] 48)) = W := ⟨_, rfl⟩
  have kB : Below w.heap.size w W := by rw [← hW]; exact ((Below.refl _ _).alloc (Nat.le_refl _) _).alloc (by simp) _
  have kx : Blk W w.heap.size #[.int .i64 a1, .int .i64 a2, .int .i64 a3, .int .i64 a4] 48 := by rw [← hW]; exact (Blk.new w _ _).alloc _
  have ky : Blk W (w.heap.size + 1) #[.int .i64 b1, .int .i64 b2, .int .i64 b3, .int .i64 b4] 48 := by
    have := Blk.new (w.alloc (.cells #[.int .i64 a1, .int .i64 a2, .int .i64 a3, .int .i64 a4] 48)) #[.int .i64 b1, .int .i64 b2, .int .i64 b3, .int .i64 b4] 48
    rw [World.size_alloc] at this
    rw [← hW]; exact this
  rw [hW]
  clear hW
  have hS : S2 w w.heap.size a1 a2 a3 a4 b1 b2 b3 b4 W := ⟨kx, ky, kB⟩
  have hS1 := hS.drew
  clear kx ky kB hS
  go_region_held3 (fun W' => S2 w w.heap.size a1 a2 a3 a4 b1 b2 b3 b4 W' ∧ (W'.cell? ⟨w.heap.size, 0, none⟩ = some (.int .i64 a1) ∧ W'.cell? ⟨w.heap.size, 1, none⟩ = some (.int .i64 a2) ∧ W'.cell? ⟨w.heap.size, 2, none⟩ = some (.int .i64 a3) ∧ W'.cell? ⟨w.heap.size, 3, none⟩ = some (.int .i64 a4)) ∧ (W'.cell? ⟨w.heap.size + 1, 0, none⟩ = some (.int .i64 b1) ∧ W'.cell? ⟨w.heap.size + 1, 1, none⟩ = some (.int .i64 b2) ∧ W'.cell? ⟨w.heap.size + 1, 2, none⟩ = some (.int .i64 b3) ∧ W'.cell? ⟨w.heap.size + 1, 3, none⟩ = some (.int .i64 b4)))
    (exact S2.cells (by assumption))
    (first
      | (go_at_call_of 48 (Value.agg #[Value.int IntKind.i64 a1, Value.int IntKind.i64 a2, Value.int IntKind.i64 a3, Value.int IntKind.i64 a4]); refine (round_any a1 a2 a3 a4 _ qa qb qc qd).mono ?_; rintro e w5 ⟨rfl, hK⟩; have hS5 := S2.keep (by assumption) hK; clear hK)
      | (go_at_call 48; refine (round_any b1 b2 b3 b4 _ ra rb rc rd).mono ?_; rintro e w6 ⟨rfl, hK⟩; have hS6 := S2.keep (by assumption) hK; clear hK))
  go_wp2
  go_ret
  exact ⟨rfl, S2.below (by assumption)⟩

end Go.Proofs.Ytfjdooloikofoaa.SyncA
