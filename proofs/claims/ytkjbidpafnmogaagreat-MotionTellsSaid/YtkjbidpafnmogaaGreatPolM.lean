/- unit.New, Cut, SameMat. -/
import Derived.Test.YtkjbidpafnmogaaGreatPolL
namespace Go.Proofs.YtkjbidpafnmogaaGreat.Base
open Go.RowKit Go
set_option linter.unusedVariables false
set_option linter.unusedSimpArgs false

theorem uNew_is (W : World) : Calls Tryz.prog 10 #[] W fun e w' => e = .returned (.pointer (some ⟨W.heap.size, 0, none⟩)) ∧ UP w' W.heap.size false ∧ Below W.heap.size W w' := by
  go_enter Tryz.func10, Tryz.ntmps10
  go_wp2_with fail
  go_ret
  exact ⟨rfl, ⟨0, Blk.new _ _ _⟩, upA (upR W) _⟩
theorem uCut_is {W : World} {b : Nat} {c : Bool} (h : UP W b c) : Calls Tryz.prog 20 #[.pointer (some ⟨b, 0, none⟩)] W fun e w' => e = .returned (.bool c) ∧ W = w' := by
  obtain ⟨m, hm⟩ := h
  have c0 := hm.cell
  clear hm
  go_enter Tryz.func20, Tryz.ntmps20
  go_wp2_with fail
  go_ret
  exact ⟨rfl, rfl⟩

set_option maxHeartbeats 2000000 in
set_option maxRecDepth 100000 in
theorem sameMat_is {W : World} {m1 m2 : Mt} {a1 a2 : Option Addr} {k1 k2 : Nat} (h1 : MI 0 W a1 k1 m1.v) (h2 : MI 0 W a2 k2 m2.v) :
    Calls Tryz.prog 19 #[.agg #[.int .i64 m1.r, .int .i64 m1.c, .slice a1 m1.v.length k1], .agg #[.int .i64 m2.r, .int .i64 m2.c, .slice a2 m2.v.length k2]] W fun e w' => e = .returned (.bool (decide (m1.r = m2.r ∧ m1.c = m2.c ∧ m1.v = m2.v))) ∧ Below W.heap.size W w' := by
  obtain ⟨ans, hans⟩ : ∃ ans, decide (m1.r = m2.r ∧ m1.c = m2.c ∧ m1.v = m2.v) = ans := ⟨_, rfl⟩
  rw [hans]
  have hS := fun (W' : World) (hb : Below W.heap.size W W') => sameInts_is (h1.keep hb) (h2.keep hb)
  obtain ⟨r1, c1, v1⟩ := m1
  obtain ⟨r2, c2, v2⟩ := m2
  dsimp only at *
  obtain ⟨n1, hn1⟩ : ∃ n1, v1.length = n1 := ⟨_, rfl⟩
  obtain ⟨n2, hn2⟩ : ∃ n2, v2.length = n2 := ⟨_, rfl⟩
  rw [hn1, hn2] at hS ⊢
  have HA := Lib.hid hans
  clear hans hn1 hn2 h1 h2
  by_cases hr : r1 = r2
  · by_cases hc : c1 = c2
    · have HX := Lib.hid (show ans = decide (v1 = v2) by rw [← HA.out]; exact decide_eq_decide.2 ⟨fun h => h.2.2, fun h => ⟨hr, hc, h⟩⟩)
      subst hr hc
      clear HA
      go_enter Tryz.func19, Tryz.ntmps19
      go_wp2_with fail
      have hB := below_allocs W [Obj.cells #[Value.int .i64 r1, .int .i64 c1, .slice a1 n1 k1] 24, Obj.cells #[Value.int .i64 r1, .int .i64 c1, .slice a2 n2 k2] 24]
      simp only [List.foldl_cons, List.foldl_nil, Nat.add_zero] at hB
      replace hB := hB.1
      refine (hS _ hB).mono ?_
      rintro e w2 ⟨rfl, nd, hw⟩
      have hB2 : Below W.heap.size W w2 := by rw [hw]; exact more hB (below_drewN _ _)
      clear hw hB
      go_wp2_with fail
      go_ret
      exact ⟨by rw [HX.out]; rfl, hB2⟩
    · have HX := Lib.hid (show ans = false by rw [← HA.out]; exact decide_eq_false fun h => hc h.2.1)
      have hb : (c1 == c2) = false := by simpa using hc
      subst hr
      clear HA hS
      go_enter Tryz.func19, Tryz.ntmps19
      go_wp2_with fail
      have hB := below_allocs W [Obj.cells #[Value.int .i64 r1, .int .i64 c1, .slice a1 n1 k1] 24, Obj.cells #[Value.int .i64 r1, .int .i64 c2, .slice a2 n2 k2] 24]
      simp only [List.foldl_cons, List.foldl_nil, Nat.add_zero] at hB
      replace hB := hB.1
      go_ret
      exact ⟨by rw [HX.out]; rfl, hB⟩
  · have HX := Lib.hid (show ans = false by rw [← HA.out]; exact decide_eq_false fun h => hr h.1)
    have hb : (r1 == r2) = false := by simpa using hr
    clear HA hS
    go_enter Tryz.func19, Tryz.ntmps19
    go_wp2_with fail
    have hB := below_allocs W [Obj.cells #[Value.int .i64 r1, .int .i64 c1, .slice a1 n1 k1] 24, Obj.cells #[Value.int .i64 r2, .int .i64 c2, .slice a2 n2 k2] 24]
    simp only [List.foldl_cons, List.foldl_nil, Nat.add_zero] at hB
    replace hB := hB.1
    go_ret
    exact ⟨by rw [HX.out]; rfl, hB⟩

end Go.Proofs.YtkjbidpafnmogaaGreat.Base
