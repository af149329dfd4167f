/- sync.Clock.Add of an exchange that is refused. -/
import Derived.Test.YtfjdooloikofoaaSyncC
namespace Go.Proofs.Ytfjdooloikofoaa.SyncA
open Go.RowKit Go.Proofs.Ytfjdooloikofoaa.StampA
set_option linter.unusedVariables false

def okS (x : Sw) : Prop := Tm x ∧ x.t1 ≤ x.t4 ∧ x.t2 ≤ x.t3 ∧ 0 ≤ rnd x

theorem bad0 (b : Nat) (w : World) (win x1 x2 x3 x4 : Int) (hw : 1 ≤ win) (hc : w.cell? ⟨b, 0, none⟩ = some (.int .i64 win)) (h0 : x1 < 0) :
    Calls Try.prog 27 #[.pointer (some ⟨b, 0, none⟩), .agg #[.int .i64 x1, .int .i64 x2, .int .i64 x3, .int .i64 x4]] w fun e w' => e = .returned (.int .i64 2) ∧ Below w.heap.size w w' := by
  go_enter Try.func27, Try.ntmps27
  go_wp2_with (go_at_call 47; refine (none_clk _ _ _ hw (cell_alloc hc)).mono ?_; rintro e w' ⟨rfl, rfl⟩)
  go_rounds 5
  go_ret
  exact ⟨rfl, by go_grown⟩

theorem bad1 (b : Nat) (w : World) (win x1 x2 x3 x4 : Int) (hw : 1 ≤ win) (hc : w.cell? ⟨b, 0, none⟩ = some (.int .i64 win)) (h0 : 0 ≤ x1) (h1 : 1099511627776 < x1) :
    Calls Try.prog 27 #[.pointer (some ⟨b, 0, none⟩), .agg #[.int .i64 x1, .int .i64 x2, .int .i64 x3, .int .i64 x4]] w fun e w' => e = .returned (.int .i64 2) ∧ Below w.heap.size w w' := by
  go_enter Try.func27, Try.ntmps27
  go_wp2_with (go_at_call 47; refine (none_clk _ _ _ hw (cell_alloc hc)).mono ?_; rintro e w' ⟨rfl, rfl⟩)
  go_rounds 5
  go_ret
  exact ⟨rfl, by go_grown⟩

theorem bad2 (b : Nat) (w : World) (win x1 x2 x3 x4 : Int) (hw : 1 ≤ win) (hc : w.cell? ⟨b, 0, none⟩ = some (.int .i64 win)) (h0 : 0 ≤ x1) (h1 : x1 ≤ 1099511627776) (h2 : x2 < 0) :
    Calls Try.prog 27 #[.pointer (some ⟨b, 0, none⟩), .agg #[.int .i64 x1, .int .i64 x2, .int .i64 x3, .int .i64 x4]] w fun e w' => e = .returned (.int .i64 2) ∧ Below w.heap.size w w' := by
  go_enter Try.func27, Try.ntmps27
  go_wp2_with (go_at_call 47; refine (none_clk _ _ _ hw (cell_alloc hc)).mono ?_; rintro e w' ⟨rfl, rfl⟩)
  go_rounds 5
  go_ret
  exact ⟨rfl, by go_grown⟩

theorem bad3 (b : Nat) (w : World) (win x1 x2 x3 x4 : Int) (hw : 1 ≤ win) (hc : w.cell? ⟨b, 0, none⟩ = some (.int .i64 win)) (h0 : 0 ≤ x1) (h1 : x1 ≤ 1099511627776) (h2 : 0 ≤ x2) (h3 : 1099511627776 < x2) :
    Calls Try.prog 27 #[.pointer (some ⟨b, 0, none⟩), .agg #[.int .i64 x1, .int .i64 x2, .int .i64 x3, .int .i64 x4]] w fun e w' => e = .returned (.int .i64 2) ∧ Below w.heap.size w w' := by
  go_enter Try.func27, Try.ntmps27
  go_wp2_with (go_at_call 47; refine (none_clk _ _ _ hw (cell_alloc hc)).mono ?_; rintro e w' ⟨rfl, rfl⟩)
  go_rounds 5
  go_ret
  exact ⟨rfl, by go_grown⟩

theorem bad4 (b : Nat) (w : World) (win x1 x2 x3 x4 : Int) (hw : 1 ≤ win) (hc : w.cell? ⟨b, 0, none⟩ = some (.int .i64 win)) (h0 : 0 ≤ x1) (h1 : x1 ≤ 1099511627776) (h2 : 0 ≤ x2) (h3 : x2 ≤ 1099511627776) (h4 : x3 < 0) :
    Calls Try.prog 27 #[.pointer (some ⟨b, 0, none⟩), .agg #[.int .i64 x1, .int .i64 x2, .int .i64 x3, .int .i64 x4]] w fun e w' => e = .returned (.int .i64 2) ∧ Below w.heap.size w w' := by
  go_enter Try.func27, Try.ntmps27
  go_wp2_with (go_at_call 47; refine (none_clk _ _ _ hw (cell_alloc hc)).mono ?_; rintro e w' ⟨rfl, rfl⟩)
  go_rounds 5
  go_ret
  exact ⟨rfl, by go_grown⟩

theorem bad5 (b : Nat) (w : World) (win x1 x2 x3 x4 : Int) (hw : 1 ≤ win) (hc : w.cell? ⟨b, 0, none⟩ = some (.int .i64 win)) (h0 : 0 ≤ x1) (h1 : x1 ≤ 1099511627776) (h2 : 0 ≤ x2) (h3 : x2 ≤ 1099511627776) (h4 : 0 ≤ x3) (h5 : 1099511627776 < x3) :
    Calls Try.prog 27 #[.pointer (some ⟨b, 0, none⟩), .agg #[.int .i64 x1, .int .i64 x2, .int .i64 x3, .int .i64 x4]] w fun e w' => e = .returned (.int .i64 2) ∧ Below w.heap.size w w' := by
  go_enter Try.func27, Try.ntmps27
  go_wp2_with (go_at_call 47; refine (none_clk _ _ _ hw (cell_alloc hc)).mono ?_; rintro e w' ⟨rfl, rfl⟩)
  go_rounds 5
  go_ret
  exact ⟨rfl, by go_grown⟩

theorem bad6 (b : Nat) (w : World) (win x1 x2 x3 x4 : Int) (hw : 1 ≤ win) (hc : w.cell? ⟨b, 0, none⟩ = some (.int .i64 win)) (h0 : 0 ≤ x1) (h1 : x1 ≤ 1099511627776) (h2 : 0 ≤ x2) (h3 : x2 ≤ 1099511627776) (h4 : 0 ≤ x3) (h5 : x3 ≤ 1099511627776) (h6 : x4 < 0) :
    Calls Try.prog 27 #[.pointer (some ⟨b, 0, none⟩), .agg #[.int .i64 x1, .int .i64 x2, .int .i64 x3, .int .i64 x4]] w fun e w' => e = .returned (.int .i64 2) ∧ Below w.heap.size w w' := by
  go_enter Try.func27, Try.ntmps27
  go_wp2_with (go_at_call 47; refine (none_clk _ _ _ hw (cell_alloc hc)).mono ?_; rintro e w' ⟨rfl, rfl⟩)
  go_rounds 5
  go_ret
  exact ⟨rfl, by go_grown⟩

theorem bad7 (b : Nat) (w : World) (win x1 x2 x3 x4 : Int) (hw : 1 ≤ win) (hc : w.cell? ⟨b, 0, none⟩ = some (.int .i64 win)) (h0 : 0 ≤ x1) (h1 : x1 ≤ 1099511627776) (h2 : 0 ≤ x2) (h3 : x2 ≤ 1099511627776) (h4 : 0 ≤ x3) (h5 : x3 ≤ 1099511627776) (h6 : 0 ≤ x4) (h7 : 1099511627776 < x4) :
    Calls Try.prog 27 #[.pointer (some ⟨b, 0, none⟩), .agg #[.int .i64 x1, .int .i64 x2, .int .i64 x3, .int .i64 x4]] w fun e w' => e = .returned (.int .i64 2) ∧ Below w.heap.size w w' := by
  go_enter Try.func27, Try.ntmps27
  go_wp2_with (go_at_call 47; refine (none_clk _ _ _ hw (cell_alloc hc)).mono ?_; rintro e w' ⟨rfl, rfl⟩)
  go_rounds 5
  go_ret
  exact ⟨rfl, by go_grown⟩

theorem bad8 (b : Nat) (w : World) (win x1 x2 x3 x4 : Int) (hw : 1 ≤ win) (hc : w.cell? ⟨b, 0, none⟩ = some (.int .i64 win)) (h0 : 0 ≤ x1) (h1 : x1 ≤ 1099511627776) (h2 : 0 ≤ x2) (h3 : x2 ≤ 1099511627776) (h4 : 0 ≤ x3) (h5 : x3 ≤ 1099511627776) (h6 : 0 ≤ x4) (h7 : x4 ≤ 1099511627776) (h8 : x4 < x1) :
    Calls Try.prog 27 #[.pointer (some ⟨b, 0, none⟩), .agg #[.int .i64 x1, .int .i64 x2, .int .i64 x3, .int .i64 x4]] w fun e w' => e = .returned (.int .i64 2) ∧ Below w.heap.size w w' := by
  go_enter Try.func27, Try.ntmps27
  go_wp2_with (go_at_call 47; refine (none_clk _ _ _ hw (cell_alloc hc)).mono ?_; rintro e w' ⟨rfl, rfl⟩)
  go_rounds 5
  go_ret
  exact ⟨rfl, by go_grown⟩

theorem bad9 (b : Nat) (w : World) (win x1 x2 x3 x4 : Int) (hw : 1 ≤ win) (hc : w.cell? ⟨b, 0, none⟩ = some (.int .i64 win)) (h0 : 0 ≤ x1) (h1 : x1 ≤ 1099511627776) (h2 : 0 ≤ x2) (h3 : x2 ≤ 1099511627776) (h4 : 0 ≤ x3) (h5 : x3 ≤ 1099511627776) (h6 : 0 ≤ x4) (h7 : x4 ≤ 1099511627776) (h8 : x1 ≤ x4) (h9 : x3 < x2) :
    Calls Try.prog 27 #[.pointer (some ⟨b, 0, none⟩), .agg #[.int .i64 x1, .int .i64 x2, .int .i64 x3, .int .i64 x4]] w fun e w' => e = .returned (.int .i64 2) ∧ Below w.heap.size w w' := by
  go_enter Try.func27, Try.ntmps27
  go_wp2_with (go_at_call 47; refine (none_clk _ _ _ hw (cell_alloc hc)).mono ?_; rintro e w' ⟨rfl, rfl⟩)
  go_rounds 5
  go_ret
  exact ⟨rfl, by go_grown⟩

theorem bad10 (b : Nat) (w : World) (win x1 x2 x3 x4 : Int) (hw : 1 ≤ win) (hc : w.cell? ⟨b, 0, none⟩ = some (.int .i64 win)) (h0 : 0 ≤ x1) (h1 : x1 ≤ 1099511627776) (h2 : 0 ≤ x2) (h3 : x2 ≤ 1099511627776) (h4 : 0 ≤ x3) (h5 : x3 ≤ 1099511627776) (h6 : 0 ≤ x4) (h7 : x4 ≤ 1099511627776) (h8 : x1 ≤ x4) (h9 : x2 ≤ x3) (h10 : x4 - x1 - (x3 - x2) < 0) :
    Calls Try.prog 27 #[.pointer (some ⟨b, 0, none⟩), .agg #[.int .i64 x1, .int .i64 x2, .int .i64 x3, .int .i64 x4]] w fun e w' => e = .returned (.int .i64 2) ∧ Below w.heap.size w w' := by
  go_enter Try.func27, Try.ntmps27
  go_wp2_with (go_at_call 47; refine (none_clk _ _ _ hw (cell_alloc hc)).mono ?_; rintro e w' ⟨rfl, rfl⟩)
  go_rounds 5
  go_ret
  exact ⟨rfl, by go_grown⟩

theorem add_bad (b : Nat) (w : World) (win : Int) (x : Sw) (hw : 1 ≤ win) (hc : w.cell? ⟨b, 0, none⟩ = some (.int .i64 win)) (h : ¬ okS x) :
    Calls Try.prog 27 #[.pointer (some ⟨b, 0, none⟩), x.val] w fun e w' => e = .returned (.int .i64 2) ∧ Below w.heap.size w w' := by
  obtain ⟨x1, x2, x3, x4⟩ := x
  unfold Sw.val
  dsimp only
  by_cases c0 : x1 < 0
  · exact bad0 b w win x1 x2 x3 x4 hw hc (by omega)
  by_cases c1 : 1099511627776 < x1
  · exact bad1 b w win x1 x2 x3 x4 hw hc (by omega) (by omega)
  by_cases c2 : x2 < 0
  · exact bad2 b w win x1 x2 x3 x4 hw hc (by omega) (by omega) (by omega)
  by_cases c3 : 1099511627776 < x2
  · exact bad3 b w win x1 x2 x3 x4 hw hc (by omega) (by omega) (by omega) (by omega)
  by_cases c4 : x3 < 0
  · exact bad4 b w win x1 x2 x3 x4 hw hc (by omega) (by omega) (by omega) (by omega) (by omega)
  by_cases c5 : 1099511627776 < x3
  · exact bad5 b w win x1 x2 x3 x4 hw hc (by omega) (by omega) (by omega) (by omega) (by omega) (by omega)
  by_cases c6 : x4 < 0
  · exact bad6 b w win x1 x2 x3 x4 hw hc (by omega) (by omega) (by omega) (by omega) (by omega) (by omega) (by omega)
  by_cases c7 : 1099511627776 < x4
  · exact bad7 b w win x1 x2 x3 x4 hw hc (by omega) (by omega) (by omega) (by omega) (by omega) (by omega) (by omega) (by omega)
  by_cases c8 : x4 < x1
  · exact bad8 b w win x1 x2 x3 x4 hw hc (by omega) (by omega) (by omega) (by omega) (by omega) (by omega) (by omega) (by omega) (by omega)
  by_cases c9 : x3 < x2
  · exact bad9 b w win x1 x2 x3 x4 hw hc (by omega) (by omega) (by omega) (by omega) (by omega) (by omega) (by omega) (by omega) (by omega) (by omega)
  by_cases c10 : x4 - x1 - (x3 - x2) < 0
  · exact bad10 b w win x1 x2 x3 x4 hw hc (by omega) (by omega) (by omega) (by omega) (by omega) (by omega) (by omega) (by omega) (by omega) (by omega) (by omega)
  · exact absurd ⟨⟨⟨by simp; omega, by simp; omega⟩, ⟨by simp; omega, by simp; omega⟩, ⟨by simp; omega, by simp; omega⟩, ⟨by simp; omega, by simp; omega⟩⟩, by simp; omega, by simp; omega, by simp [rnd]; omega⟩ h

end Go.Proofs.Ytfjdooloikofoaa.SyncA
