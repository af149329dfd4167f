/- The chapter's model and belief (law 10). -/
import Derived.Test.YtagakcnhhhlolaaCpN
namespace Go.Proofs.Ytagakcnhhhlolaa.Base
open Go.RowKit
set_option linter.unusedVariables false
set_option linter.unusedSimpArgs false

theorem MI.of_blk {B : Nat} {W : World} {b : Nat} {zs : List Int} (h : Blk W b ((zs.map fun z => Value.int .i64 z).toArray) 3) (hB : B ≤ b) (hr : ∀ z ∈ zs, I64 z) (hl : zs.length ≤ 1000) : MI B W (some ⟨b, 0, none⟩) zs.length zs := by
  refine ⟨fun k hk => ⟨_, rfl, ?_⟩, hr, by unfold maxLen; omega, fun x hx _ => by cases hx; exact hB, fun e => (by cases e), Nat.le_refl _⟩
  rw [Addr.add_lit, Nat.zero_add, h.cell]
  simp [hk]
theorem i64_lit {z : Int} (h : decide (-9223372036854775808 ≤ z ∧ z ≤ 9223372036854775807) = true) : I64 z := by unfold I64; exact of_decide_eq_true h

theorem all_i64 {zs : List Int} (h : zs.all (fun z => decide (-9223372036854775808 ≤ z ∧ z ≤ 9223372036854775807)) = true) : ∀ z ∈ zs, I64 z := fun z hz => i64_lit (List.all_eq_true.1 h z hz)
/-- What a chain of new blocks leaves. -/
theorem below_allocs (w : World) (os : List Obj) : Below w.heap.size w (os.foldl World.alloc w) ∧ (os.foldl World.alloc w).heap.size = w.heap.size + os.length := by
  induction os generalizing w with
  | nil => exact ⟨Below.refl _ _, rfl⟩
  | cons o os ih =>
    obtain ⟨h1, h2⟩ := ih (w.alloc o)
    refine ⟨((Below.refl w.heap.size w).alloc (Nat.le_refl _) o).trans (h1.mono (by simp)), ?_⟩
    show (os.foldl World.alloc (w.alloc o)).heap.size = _
    rw [h2, World.size_alloc, List.length_cons]
    omega
theorem blk_at (w : World) (os : List Obj) (k : Nat) (cs : Array Value) (t : TypeId) (h : os[k]? = some (Obj.cells cs t)) : Blk (os.foldl World.alloc w) (w.heap.size + k) cs t := by
  induction os generalizing w k with
  | nil => simp at h
  | cons o os ih =>
    cases k with
    | zero =>
      simp at h
      subst h
      exact (Blk.new w cs t).below (below_allocs (w.alloc _) os).1 (by simp)
    | succ k =>
      have := ih (w.alloc o) k (by simpa using h)
      rw [World.size_alloc] at this
      rw [show w.heap.size + (k + 1) = w.heap.size + 1 + k by omega]
      exact this

theorem LI.of_blk {B : Nat} {W : World} {b : Nat} {zs : List Int} (h : Blk W b ((zs.map fun z => Value.int .i64 z).toArray) 3) (hB : B ≤ b) (hr : ∀ z ∈ zs, I64 z) (hl : zs.length ≤ 1000) : LI B W (some ⟨b, 0, none⟩) zs.length zs := by
  have hO : OI B W b zs.length zs := ⟨⟨_, h, by simp, fun j hj => by simp [hj]⟩, hr, Nat.le_refl _, by unfold maxLen; omega, hB⟩
  exact hO.li

/-- Three rows in a block. -/
structure R3 (B : Nat) (W : World) (b : Nat) (q0 q1 q2 : Rw) : Prop where
  ex : ∃ h0 h1 h2, Blk W b #[.int .i64 q0.s, .slice (some ⟨h0, 0, none⟩) q0.h.length q0.h.length, .int .i64 q0.r, .int .i64 q1.s, .slice (some ⟨h1, 0, none⟩) q1.h.length q1.h.length, .int .i64 q1.r, .int .i64 q2.s, .slice (some ⟨h2, 0, none⟩) q2.h.length q2.h.length, .int .i64 q2.r] 41 ∧
    LI B W (some ⟨h0, 0, none⟩) q0.h.length q0.h ∧ LI B W (some ⟨h1, 0, none⟩) q1.h.length q1.h ∧ LI B W (some ⟨h2, 0, none⟩) q2.h.length q2.h
  lo : B ≤ b
  r0 : I64 q0.s ∧ I64 q0.r
  r1 : I64 q1.s ∧ I64 q1.r
  r2 : I64 q2.s ∧ I64 q2.r
theorem R3.mr {B : Nat} {W : World} {b : Nat} {q0 q1 q2 : Rw} (h : R3 B W b q0 q1 q2) : MR B W (some ⟨b, 0, none⟩) 3 [q0, q1, q2] := by
  obtain ⟨h0, h1, h2, hb, m0, m1, m2⟩ := h.ex
  refine ⟨fun k hk => ⟨_, rfl, ?_⟩, by simp [maxLen], fun x hx _ => by cases hx; exact h.lo, fun e => (by cases e), by simp⟩
  have : k = 0 ∨ k = 1 ∨ k = 2 := by simp at hk; omega
  rcases this with rfl | rfl | rfl
  · exact ⟨⟨_, _, hb.cell 0, hb.cell 1, hb.cell 2, m0.mi⟩, h.r0.1, h.r0.2⟩
  · exact ⟨⟨_, _, hb.cell 3, hb.cell 4, hb.cell 5, m1.mi⟩, h.r1.1, h.r1.2⟩
  · exact ⟨⟨_, _, hb.cell 6, hb.cell 7, hb.cell 8, m2.mi⟩, h.r2.1, h.r2.2⟩
theorem R3.mr2 {B : Nat} {W : World} {b : Nat} {q0 q1 q2 : Rw} (h : R3 B W b q0 q1 q2) : MR B W (some ⟨b, 6, none⟩) 1 [q2] := by
  obtain ⟨h0, h1, h2, hb, m0, m1, m2⟩ := h.ex
  refine ⟨fun k hk => ⟨_, rfl, ?_⟩, by simp [maxLen], fun x hx _ => by cases hx; exact h.lo, fun e => (by cases e), by simp⟩
  have : k = 0 := by simp at hk; omega
  subst this
  exact ⟨⟨_, _, hb.cell 6, hb.cell 7, hb.cell 8, m2.mi⟩, h.r2.1, h.r2.2⟩

def row0 : Rw := ⟨3, [4294967296, 0], 5⟩
def row1 : Rw := ⟨3, [0, 4294967296], 5⟩
def row2 : Rw := ⟨7, [4294967296, 4294967296], 1⟩
def twoM : Mdl := ⟨2, [0, 4294967296, 0, 0], [0, 1], 4294967296, 38654705664, 1, [row0, row1, row2]⟩
def beliefB (p : Int) : Blf := ⟨4, [1, 2], [3, 1, p, 3], false, 0, 0⟩
/-- The chapter's model, in blocks of its own. -/
structure Two (B : Nat) (W : World) (v : Value) (b : Nat) : Prop where
  ex : ∃ gA gQ, v = .agg #[.int .i64 2, .slice (some ⟨gA, 0, none⟩) 4 4, .slice (some ⟨gQ, 0, none⟩) 2 2, .int .i64 4294967296, .int .i64 38654705664, .int .i64 1, .slice (some ⟨b, 0, none⟩) 3 3] ∧ LI B W (some ⟨gA, 0, none⟩) 4 [0, 4294967296, 0, 0] ∧ LI B W (some ⟨gQ, 0, none⟩) 2 [0, 1]
  rows : R3 B W b row0 row1 row2
theorem Two.mm {B : Nat} {W : World} {v : Value} {b : Nat} (h : Two B W v b) : MM B W v twoM := by
  obtain ⟨gA, gQ, rfl, h1, h2⟩ := h.ex
  exact ⟨⟨_, _, _, _, _, _, rfl, h1.mi, h2.mi, h.rows.mr⟩, i64_lit rfl, i64_lit rfl, i64_lit rfl, i64_lit rfl⟩
theorem R3.keep {B : Nat} {W W' : World} {b : Nat} {q0 q1 q2 : Rw} (h : R3 B W b q0 q1 q2) (hb : Below W.heap.size W W') : R3 B W' b q0 q1 q2 := by
  obtain ⟨h0, h1, h2, hk, m0, m1, m2⟩ := h.ex
  exact ⟨⟨h0, h1, h2, hk.keep hb, m0.keep hb, m1.keep hb, m2.keep hb⟩, h.lo, h.r0, h.r1, h.r2⟩
theorem Two.keep {B : Nat} {W W' : World} {v : Value} {b : Nat} (h : Two B W v b) (hb : Below W.heap.size W W') : Two B W' v b := by
  obtain ⟨gA, gQ, hv, h1, h2⟩ := h.ex
  exact ⟨⟨gA, gQ, hv, h1.keep hb, h2.keep hb⟩, h.rows.keep hb⟩

set_option maxHeartbeats 4000000 in
set_option maxRecDepth 100000 in
theorem two_is (w : World) : Calls Try.prog 29 #[] w fun e w' => ∃ v b, e = .returned v ∧ Two w.heap.size w' v b ∧ Below w.heap.size w w' := by
  go_enter Try.func29, Try.ntmps29
  go_wp2_with fail
  obtain ⟨W, hW⟩ : ∃ W, [Obj.cells #[Value.int IntKind.i64 2, Value.slice (some { block := w.heap.size + 1 + 1 + 1 + 1 + 1, off := 0 }) 4 4, Value.slice (some { block := w.heap.size + 1 + 1 + 1 + 1 + 1 + 1, off := 0 }) 2 2, Value.int IntKind.i64 4294967296, Value.int IntKind.i64 38654705664, Value.int IntKind.i64 1, Value.slice (some { block := w.heap.size + 1 + 1 + 1 + 1, off := 0 }) 3 3] 25,
    Obj.cells #[Value.int IntKind.i64 4294967296, Value.int IntKind.i64 0] 3, Obj.cells #[Value.int IntKind.i64 0, Value.int IntKind.i64 4294967296] 3, Obj.cells #[Value.int IntKind.i64 4294967296, Value.int IntKind.i64 4294967296] 3,
    Obj.cells #[Value.int IntKind.i64 3, Value.slice (some { block := w.heap.size + 1, off := 0 }) 2 2, Value.int IntKind.i64 5, Value.int IntKind.i64 3, Value.slice (some { block := w.heap.size + 1 + 1, off := 0 }) 2 2, Value.int IntKind.i64 5, Value.int IntKind.i64 7, Value.slice (some { block := w.heap.size + 1 + 1 + 1, off := 0 }) 2 2, Value.int IntKind.i64 1] 41,
    Obj.cells #[Value.int IntKind.i64 0, Value.int IntKind.i64 4294967296, Value.int IntKind.i64 0, Value.int IntKind.i64 0] 3, Obj.cells #[Value.int IntKind.i64 0, Value.int IntKind.i64 1] 3].foldl World.alloc w = W := ⟨_, rfl⟩
  have hb := (below_allocs w _).1.trans (by rw [hW]; exact Below.refl _ _)
  have b0 := blk_at w _ 0 _ _ rfl |> fun h => (hW ▸ h : Blk W _ _ _)
  have b1 := blk_at w _ 1 _ _ rfl |> fun h => (hW ▸ h : Blk W _ _ _)
  have b2 := blk_at w _ 2 _ _ rfl |> fun h => (hW ▸ h : Blk W _ _ _)
  have b3 := blk_at w _ 3 _ _ rfl |> fun h => (hW ▸ h : Blk W _ _ _)
  have b4 := blk_at w _ 4 _ _ rfl |> fun h => (hW ▸ h : Blk W _ _ _)
  have b5 := blk_at w _ 5 _ _ rfl |> fun h => (hW ▸ h : Blk W _ _ _)
  have b6 := blk_at w _ 6 _ _ rfl |> fun h => (hW ▸ h : Blk W _ _ _)
  have hT : Two w.heap.size W (.agg #[.int .i64 2, .slice (some ⟨w.heap.size + 5, 0, none⟩) 4 4, .slice (some ⟨w.heap.size + 6, 0, none⟩) 2 2, .int .i64 4294967296, .int .i64 38654705664, .int .i64 1, .slice (some ⟨w.heap.size + 4, 0, none⟩) 3 3]) (w.heap.size + 4) :=
    ⟨⟨_, _, rfl, LI.of_blk (zs := [0, 4294967296, 0, 0]) b5 (by omega) (all_i64 (by decide)) (by simp), LI.of_blk (zs := [0, 1]) b6 (by omega) (all_i64 (by decide)) (by simp)⟩,
      ⟨⟨_, _, _, b4, LI.of_blk (zs := row0.h) b1 (by omega) (all_i64 (by decide)) (by simp [row0]), LI.of_blk (zs := row1.h) b2 (by omega) (all_i64 (by decide)) (by simp [row1]), LI.of_blk (zs := row2.h) b3 (by omega) (all_i64 (by decide)) (by simp [row2])⟩, by omega,
        ⟨i64_lit rfl, i64_lit rfl⟩, ⟨i64_lit rfl, i64_lit rfl⟩, ⟨i64_lit rfl, i64_lit rfl⟩⟩⟩
  subst hW
  clear b0 b1 b2 b3 b4 b5 b6
  refine bodyPost_ret (v := .agg #[.int .i64 2, .slice (some ⟨w.heap.size + 5, 0, none⟩) 4 4, .slice (some ⟨w.heap.size + 6, 0, none⟩) 2 2, .int .i64 4294967296, .int .i64 38654705664, .int .i64 1, .slice (some ⟨w.heap.size + 4, 0, none⟩) 3 3]) (by simp [results, Try.results29, go_sem]) rfl ?_
  exact ⟨_, _, rfl, hT, hb⟩
/-- A belief whose lists are one's own. -/
structure LB (B : Nat) (W : World) (v : Value) (b : Blf) : Prop where
  ex : ∃ aX cX aP cP, v = .agg #[.int .i64 b.t, .slice aX b.X.length cX, .slice aP b.P.length cP, .bool b.flag, .int .i64 b.pass, .int .i64 b.fail] ∧ LI B W aX cX b.X ∧ LI B W aP cP b.P
  t : I64 b.t
  pass : I64 b.pass
  fail : I64 b.fail
theorem LB.mb {B : Nat} {W : World} {v : Value} {b : Blf} (h : LB B W v b) : MB B W v b := by
  obtain ⟨aX, cX, aP, cP, hv, h1, h2⟩ := h.ex
  exact ⟨⟨aX, cX, aP, cP, hv, h1.mi, h2.mi⟩, h.t, h.pass, h.fail⟩
theorem LB.keep {B : Nat} {W W' : World} {v : Value} {b : Blf} (h : LB B W v b) (hb : Below W.heap.size W W') : LB B W' v b := by
  obtain ⟨aX, cX, aP, cP, hv, h1, h2⟩ := h.ex
  exact ⟨⟨aX, cX, aP, cP, hv, h1.keep hb, h2.keep hb⟩, h.t, h.pass, h.fail⟩
set_option maxHeartbeats 4000000 in
set_option maxRecDepth 100000 in
theorem beliefL_is (w : World) (p : Int) (hp : I64 p) : Calls Try.prog 30 #[.int .i64 p] w fun e w' => ∃ v, e = .returned v ∧ LB w.heap.size w' v (beliefB p) ∧ Below w.heap.size w w' := by
  have HP := Lib.hid hp
  clear hp
  go_enter Try.func30, Try.ntmps30
  go_wp2_with fail
  obtain ⟨W, hW⟩ : ∃ W, [Obj.cells #[Value.int .i64 4, .slice (some ⟨w.heap.size + 1, 0, none⟩) 2 2, .slice (some ⟨w.heap.size + 1 + 1, 0, none⟩) 4 4, .bool false, .int .i64 0, .int .i64 0] 27,
    Obj.cells #[Value.int .i64 1, .int .i64 2] 3, Obj.cells #[Value.int .i64 3, .int .i64 1, .int .i64 p, .int .i64 3] 3].foldl World.alloc w = W := ⟨_, rfl⟩
  have hb := (below_allocs w _).1.trans (by rw [hW]; exact Below.refl _ _)
  have b1 := blk_at w _ 1 _ _ rfl |> fun h => (hW ▸ h : Blk W _ _ _)
  have b2 := blk_at w _ 2 _ _ rfl |> fun h => (hW ▸ h : Blk W _ _ _)
  have hT : LB w.heap.size W (.agg #[.int .i64 4, .slice (some ⟨w.heap.size + 1, 0, none⟩) 2 2, .slice (some ⟨w.heap.size + 2, 0, none⟩) 4 4, .bool false, .int .i64 0, .int .i64 0]) (beliefB p) :=
    ⟨⟨_, _, _, _, rfl, LI.of_blk (zs := [1, 2]) b1 (by omega) (all_i64 (by decide)) (by simp), LI.of_blk (zs := [3, 1, p, 3]) b2 (by omega) (by intro z hz; simp at hz; rcases hz with rfl | rfl | rfl | rfl <;> first | exact HP.out | exact i64_lit rfl) (by simp)⟩, i64_lit rfl, i64_lit rfl, i64_lit rfl⟩
  subst hW
  clear b1 b2
  refine bodyPost_ret (v := .agg #[.int .i64 4, .slice (some ⟨w.heap.size + 1, 0, none⟩) 2 2, .slice (some ⟨w.heap.size + 2, 0, none⟩) 4 4, .bool false, .int .i64 0, .int .i64 0]) (by simp [results, Try.results30, go_sem]) rfl ?_
  exact ⟨_, rfl, hT, hb⟩
theorem belief_is (w : World) (p : Int) (hp : I64 p) : Calls Try.prog 30 #[.int .i64 p] w fun e w' => ∃ v, e = .returned v ∧ MB w.heap.size w' v (beliefB p) ∧ Below w.heap.size w w' :=
  (beliefL_is w p hp).mono fun _ _ ⟨v, he, h, hb⟩ => ⟨v, he, h.mb, hb⟩

end Go.Proofs.Ytagakcnhhhlolaa.Base
