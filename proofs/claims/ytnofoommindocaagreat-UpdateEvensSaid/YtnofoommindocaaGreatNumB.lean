/- wide: Of, Add, Neg, Cmp, sizes, of, signed, next, less, without, nearer. -/
import Derived.Test.YtnofoommindocaaGreatNumA
namespace Go.Proofs.YtnofoommindocaaGreat.Base
open Go.RowKit
set_option linter.unusedVariables false
set_option linter.unusedSimpArgs false

theorem upR (w : World) : Below w.heap.size w w := Below.refl _ _
theorem upA {w w' : World} (h : Below w.heap.size w w') (o : Obj) : Below w.heap.size w (w'.alloc o) := h.alloc h.size o
theorem upD {w w' : World} (h : Below w.heap.size w w') : Below w.heap.size w w'.drew := h.drew
theorem wv_is {n h l : Int} (e1 : h = hiW n) (e2 : l = loW n) : Value.agg #[.int .i64 h, .int .u64 l] = wv n := by rw [e1, e2]; rfl
theorem sv_is {n h l : Int} (e1 : h = hiS n) (e2 : l = loW n) : Value.agg #[.int .u64 h, .int .u64 l] = sv n := by rw [e1, e2]; rfl
theorem wvU (n : Int) : wv n = .agg #[.int .i64 (hiW n), .int .u64 (loW n)] := rfl
theorem svU (n : Int) : sv n = .agg #[.int .u64 (hiS n), .int .u64 (loW n)] := rfl
theorem wrap_hiW (n : Int) : IntKind.u64.wrap (hiW n) = hiS n := by rw [IntKind.wrap_u64, hiW_s]
theorem wrap_hiS (n : Int) : wrap64 (hiS n) = hiW n := by unfold wrap64 hiS hiW; omega
def absI (z : Int) : Int := if z < 0 then -z else z
theorem absI_nn (z : Int) : 0 ≤ absI z := by unfold absI; split <;> omega
def U128 (n : Int) : Prop := 0 ≤ n ∧ n < 340282366920938463463374607431768211456

theorem wOf_is (z : Int) (hz : I64 z) (W : World) : Calls Tryz.prog 173 #[.int .i64 z] W fun e w' => e = .returned (wv z) ∧ Below W.heap.size W w' := by
  unfold I64 at hz
  go_enter Tryz.func173, Tryz.ntmps173
  go_wp2_with fail
  simp [bodyPost, results, Tryz.results173, go_sem]
  refine ⟨wv_is ?_ ?_, ?_⟩
  · unfold hiW; omega
  · rw [IntKind.wrap_u64]; unfold loW; omega
  · (repeat (first | refine upA ?_ _ | refine upD ?_)); exact upR _

set_option maxRecDepth 100000 in
theorem wAdd_is (a b : Int) (W : World) : Calls Tryz.prog 172 #[wv a, wv b] W fun e w' => e = .returned (wv (a + b)) ∧ Below W.heap.size W w' := by
  have la := loW_rng a
  have lb := loW_rng b
  have c0 := carry_rng la lb (c := 0) (by omega)
  rw [wvU a, wvU b]
  go_enter Tryz.func172, Tryz.ntmps172
  go_wp2_with (first | simp only [add64_0 (loW a) (loW b) la.1 lb.1] | simp only [wrap_hiW, add64 (hiS a) (hiS b) _ (hiS_rng a).1 (hiS_rng b).1 c0.1 c0.2])
  simp [bodyPost, results, Tryz.results172, go_sem]
  refine ⟨wv_is ?_ ?_, ?_⟩
  · unfold wrap64 carry hiW hiS loW; omega
  · unfold loW; omega
  · (repeat (first | refine upA ?_ _ | refine upD ?_)); exact upR _

set_option maxRecDepth 100000 in
theorem wNeg_is (a : Int) (W : World) : Calls Tryz.prog 235 #[wv a] W fun e w' => e = .returned (wv (-a)) ∧ Below W.heap.size W w' := by
  have la := loW_rng a
  have ha := hiS_rng a
  have c0 := borrow_rng 0 (loW a) 0
  rw [wvU a]
  go_enter Tryz.func235, Tryz.ntmps235
  go_wp2_with (first | simp only [sub64_0 0 (loW a) (Int.le_refl 0) la.1 la.2] | simp only [wrap_hiW, sub64 0 (hiS a) _ (Int.le_refl 0) ha.1 ha.2 c0.1 c0.2])
  simp [bodyPost, results, Tryz.results235, go_sem]
  refine ⟨wv_is ?_ ?_, ?_⟩
  · unfold wrap64 borrow hiW hiS loW; split <;> omega
  · unfold loW; omega
  · (repeat (first | refine upA ?_ _ | refine upD ?_)); exact upR _

theorem far_u (z : Int) (hz : I64 z) (W : World) : Calls Tryz.prog 238 #[.int .i64 z] W fun e w' => e = .returned (.int .u64 (absI z)) ∧ W = w' := by
  unfold I64 at hz
  unfold absI
  by_cases h : z < 0
  · rw [if_pos h]
    go_enter Tryz.func238, Tryz.ntmps238
    go_wp2_with fail
    go_ret
    have e : IntKind.u64.wrap (-IntKind.u64.wrap z) = -z := by rw [IntKind.wrap_u64, IntKind.wrap_u64]; omega
    rw [e]
    exact ⟨rfl, rfl⟩
  · rw [if_neg h]
    go_enter Tryz.func238, Tryz.ntmps238
    go_wp2_with fail
    go_ret
    exact ⟨rfl, rfl⟩

theorem sizes_is (a b : Int) (ha : I64 a) (hb : I64 b) (W : World) : Calls Tryz.prog 219 #[.int .i64 a, .int .i64 b] W fun e w' => e = .returned (.tuple #[.int .u64 (absI a), .int .u64 (absI b)]) ∧ W = w' := by
  go_enter Tryz.func219, Tryz.ntmps219
  go_wp2_with fail
  refine (far_u a ha _).mono ?_
  rintro e w' ⟨rfl, rfl⟩
  go_wp2_with fail
  refine (far_u b hb _).mono ?_
  rintro e w' ⟨rfl, rfl⟩
  go_wp2_with fail
  go_ret2
  exact ⟨rfl, rfl⟩

/-- What a struct of two numbers in a result's block says. -/
theorem signed_is (s : Int) (b : Bool) (W : World) : Calls Tryz.prog 213 #[sv s, .bool b] W fun e w' => e = .returned (wv (if b then -s else s)) ∧ Below W.heap.size W w' := by
  rw [svU s]
  cases b with
  | false =>
    go_enter Tryz.func213, Tryz.ntmps213
    go_wp2_with fail
    simp [bodyPost, results, Tryz.results213, go_sem]
    refine ⟨wv_is ?_ ?_, ?_⟩
    · exact wrap_hiS s
    · rfl
    · (repeat (first | refine upA ?_ _ | refine upD ?_)); exact upR _
  | true =>
    go_enter Tryz.func213, Tryz.ntmps213
    go_wp2_with fail
    rw [wrap_hiS, ← wvU]
    have hB := below_allocs W [Obj.cells #[Value.int IntKind.u64 (hiS s), Value.int IntKind.u64 (loW s)] 182, Obj.cells #[Value.int IntKind.i64 0, Value.int IntKind.u64 0] 146, Obj.cells #[Value.int IntKind.i64 (hiW s), Value.int IntKind.u64 (loW s)] 146]
    have g := blk_at W [Obj.cells #[Value.int IntKind.u64 (hiS s), Value.int IntKind.u64 (loW s)] 182, Obj.cells #[Value.int IntKind.i64 0, Value.int IntKind.u64 0] 146, Obj.cells #[Value.int IntKind.i64 (hiW s), Value.int IntKind.u64 (loW s)] 146] 1 _ _ rfl
    simp only [List.foldl_cons, List.foldl_nil] at hB g
    refine (wNeg_is s _).mono ?_
    rintro e w1 ⟨rfl, hK⟩
    replace g := g.keep hK
    replace hB := more hB.1 hK
    have c0 := g.cell
    have f0 := g.frozen
    clear hK
    rw [wvU]
    go_wp2_with fail
    simp [bodyPost, results, Tryz.results213, go_sem, c0]
    exact ⟨rfl, (hB.setCell (p := ⟨W.heap.size + 1, 0, none⟩) (by simp) _).setCell (p := ⟨W.heap.size + 1, 1, none⟩) (by simp) _⟩

theorem sv_cells {a b : Int} (ha : U128 a) (hb : U128 b) : (hiS a = hiS b ∧ loW a = loW b) ↔ a = b := by unfold U128 at *; unfold hiS loW; omega
theorem next_is (s : Int) (b : Bool) (W : World) : Calls Tryz.prog 214 #[sv s, .bool b] W fun e w' => e = .returned (sv (if b then s + 1 else s)) ∧ Below W.heap.size W w' := by
  have la := loW_rng s
  rw [svU s]
  cases b with
  | false =>
    go_enter Tryz.func214, Tryz.ntmps214
    go_wp2_with fail
    simp [bodyPost, results, Tryz.results214, go_sem]
    refine ⟨rfl, ?_⟩
    (repeat (first | refine upA ?_ _ | refine upD ?_)); exact upR _
  | true =>
    go_enter Tryz.func214, Tryz.ntmps214
    go_wp2_with (simp only [add64_0 (loW s) 1 la.1 (by decide)])
    simp [bodyPost, results, Tryz.results214, go_sem]
    refine ⟨sv_is ?_ ?_, ?_⟩
    · try rw [IntKind.wrap_u64]
      unfold carry hiS loW; omega
    · unfold loW; omega
    · (repeat (first | refine upA ?_ _ | refine upD ?_)); exact upR _

theorem less_is (s t : Int) (hs : U128 s) (ht : U128 t) (W : World) : Calls Tryz.prog 236 #[sv s, sv t] W fun e w' => e = .returned (.bool (decide (s < t))) ∧ Below W.heap.size W w' := by
  unfold U128 at hs ht
  rw [svU s, svU t]
  have e1 : hiS s = s / 18446744073709551616 := by unfold hiS; omega
  have e2 : hiS t = t / 18446744073709551616 := by unfold hiS; omega
  have l1 : loW s = s % 18446744073709551616 := rfl
  have l2 : loW t = t % 18446744073709551616 := rfl
  by_cases h1 : hiS s < hiS t
  · have hr : s < t := by omega
    clear e1 e2 l1 l2
    go_enter Tryz.func236, Tryz.ntmps236
    go_wp2_with fail
    go_ret
    refine ⟨by simp [hr], ?_⟩
    (repeat (first | refine upA ?_ _ | refine upD ?_)); exact upR _
  · by_cases h2 : hiS s = hiS t
    · have hr : (s < t) = (loW s < loW t) := by apply propext; omega
      simp only [hr]
      clear e1 e2 l1 l2 hr
      rw [h2]
      go_enter Tryz.func236, Tryz.ntmps236
      go_wp2_with fail
      go_ret
      refine ⟨by simp, ?_⟩
      (repeat (first | refine upA ?_ _ | refine upD ?_)); exact upR _
    · have hr : ¬ (s < t) := by omega
      clear e1 e2 l1 l2
      have h3 : (hiS s == hiS t) = false := by simp [h2]
      go_enter Tryz.func236, Tryz.ntmps236
      go_wp2_with fail
      go_ret
      refine ⟨by simp [hr], ?_⟩
      (repeat (first | refine upA ?_ _ | refine upD ?_)); exact upR _

set_option maxRecDepth 100000 in
theorem without_is (s t : Int) (W : World) : Calls Tryz.prog 216 #[sv s, sv t] W fun e w' => e = .returned (sv (s - t)) ∧ Below W.heap.size W w' := by
  have la := loW_rng s
  have lb := loW_rng t
  have ha := hiS_rng s
  have hb := hiS_rng t
  have c0 := borrow_rng (loW s) (loW t) 0
  rw [svU s, svU t]
  go_enter Tryz.func216, Tryz.ntmps216
  go_wp2_with (first | simp only [sub64_0 (loW s) (loW t) la.1 lb.1 lb.2] | simp only [sub64 (hiS s) (hiS t) _ ha.1 hb.1 hb.2 c0.1 c0.2])
  simp [bodyPost, results, Tryz.results216, go_sem]
  refine ⟨sv_is ?_ ?_, ?_⟩
  · unfold borrow hiS loW; split <;> omega
  · unfold loW; omega
  · (repeat (first | refine upA ?_ _ | refine upD ?_)); exact upR _

end Go.Proofs.YtnofoommindocaaGreat.Base
