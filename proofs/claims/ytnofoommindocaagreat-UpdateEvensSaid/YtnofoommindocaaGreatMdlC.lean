/- model.Check. -/
import Derived.Test.YtnofoommindocaaGreatMdlB
namespace Go.Proofs.YtnofoommindocaaGreat.Base
open Go.RowKit
set_option linter.unusedVariables false
set_option linter.unusedSimpArgs false

/-- OK is told if p is so, else the error r. -/
def TellsC (e : Ending) (r : Int) (p : Prop) : Prop := (p ∧ e = .returned (.int .i64 0)) ∨ (¬ p ∧ e = .returned (.int .i64 r))

theorem chk1_is {W : World} {bx : Nat} {m : Int} (x0 : W.cell? ⟨bx, 0, none⟩ = some (.int .i64 m)) :
    Calls Tryz.prog 110 #[.pointer (some ⟨bx, 0, none⟩)] W fun e w' => e = .returned (.bool (decide (1 ≤ m ∧ m ≤ 6))) ∧ W = w' := by
  go_enter Tryz.func110, Tryz.ntmps110
  go_wp2_with fail
  refine (within_is _ _ _ _).mono ?_
  rintro e w' ⟨rfl, rfl⟩
  obtain ⟨q, hq⟩ : ∃ q, decide (1 ≤ m ∧ m ≤ 6) = q := ⟨_, rfl⟩
  have HQ := Lib.hid hq
  rw [hq]
  clear hq
  go_wp2_with fail
  go_ret
  exact ⟨by rw [HQ.out]; rfl, rfl⟩
theorem chk2_is {B : Nat} {W : World} {bx : Nat} {M : Mdl} {aA aQ aR : Option Addr} {cA cQ cR : Nat} (hX : Blk W bx #[.int .i64 M.n, .slice aA M.A.length cA, .slice aQ M.Q.length cQ, .int .i64 M.tick, .int .i64 M.gate, .int .i64 M.rmin, .slice aR M.rows.length cR] 25)
    (hM : MM B W (.agg #[.int .i64 M.n, .slice aA M.A.length cA, .slice aQ M.Q.length cQ, .int .i64 M.tick, .int .i64 M.gate, .int .i64 M.rmin, .slice aR M.rows.length cR]) M) (hn : 1 ≤ M.n ∧ M.n ≤ 6) :
    Calls Tryz.prog 111 #[.pointer (some ⟨bx, 0, none⟩)] W fun e w' => TellsB e (okA M.n M.A) ∧ Below W.heap.size W w' := by
  have x0 := hX.cell 0
  have x1 := hX.cell 1
  have x2 := hX.cell 2
  have x3 := hX.cell 3
  have x4 := hX.cell 4
  have x5 := hX.cell 5
  have x6 := hX.cell 6
  simp at x0 x1 x2 x3 x4 x5 x6
  go_enter Tryz.func111, Tryz.ntmps111
  go_wp2_with fail
  refine (moves_is hM hn).mono ?_
  rintro e w' ⟨⟨q, rfl, hq⟩, hK⟩
  go_wp2_with fail
  go_ret
  exact ⟨⟨q, rfl, hq⟩, hK⟩
theorem chk5_is {B : Nat} {W : World} {bx : Nat} {M : Mdl} {aA aQ aR : Option Addr} {cA cQ cR : Nat} (hX : Blk W bx #[.int .i64 M.n, .slice aA M.A.length cA, .slice aQ M.Q.length cQ, .int .i64 M.tick, .int .i64 M.gate, .int .i64 M.rmin, .slice aR M.rows.length cR] 25)
    (hM : MM B W (.agg #[.int .i64 M.n, .slice aA M.A.length cA, .slice aQ M.Q.length cQ, .int .i64 M.tick, .int .i64 M.gate, .int .i64 M.rmin, .slice aR M.rows.length cR]) M) (hl : M.rows.length ≤ 1000) :
    Calls Tryz.prog 116 #[.pointer (some ⟨bx, 0, none⟩)] W fun e w' => TellsB e (okR M.n M.rmin M.rows) ∧ Below W.heap.size W w' := by
  have x0 := hX.cell 0
  have x1 := hX.cell 1
  have x2 := hX.cell 2
  have x3 := hX.cell 3
  have x4 := hX.cell 4
  have x5 := hX.cell 5
  have x6 := hX.cell 6
  simp at x0 x1 x2 x3 x4 x5 x6
  go_enter Tryz.func116, Tryz.ntmps116
  go_wp2_with fail
  refine (sees_is hM hl).mono ?_
  rintro e w' ⟨⟨q, rfl, hq⟩, hK⟩
  go_wp2_with fail
  go_ret
  exact ⟨⟨q, rfl, hq⟩, hK⟩
theorem chk3_is {B : Nat} {W : World} {bx : Nat} {m : Int} {aQ : Option Addr} {cQ : Nat} {Q : List Int} (x0 : W.cell? ⟨bx, 0, none⟩ = some (.int .i64 m)) (x2 : W.cell? ⟨bx, 2, none⟩ = some (.slice aQ Q.length cQ)) (hQ : MI B W aQ cQ Q) :
    Calls Tryz.prog 113 #[.pointer (some ⟨bx, 0, none⟩)] W fun e w' => TellsB e (okQ m Q) ∧ W = w' := by
  have hl := hQ.len
  unfold maxLen at hl
  have hC := Lib.hid (contains_off hQ)
  obtain ⟨n, hn⟩ : ∃ n, Q.length = n := ⟨_, rfl⟩
  rw [hn] at x2 hl hC
  have HN := Lib.hid hn
  clear hn
  by_cases g : (n : Int) = m
  · go_enter Tryz.func113, Tryz.ntmps113
    go_wp2_with fail
    refine hC.out.mono ?_
    rintro e w' ⟨q, rfl, hq, rfl⟩
    cases q with
    | true =>
      have HQ := Lib.hid (hq.1 rfl)
      clear hq
      go_wp2_with fail
      go_ret
      exact ⟨TellsB.no (fun h => h.2 HQ.out), rfl⟩
    | false =>
      have HQ := Lib.hid (show ¬ ∃ z ∈ Q, offP z from fun h => by cases hq.2 h)
      clear hq
      go_wp2_with fail
      go_ret
      exact ⟨TellsB.yes ⟨by rw [HN.out]; exact g, HQ.out⟩, rfl⟩
  · have hne : ((n : Int) == m) = false := by simp; omega
    go_enter Tryz.func113, Tryz.ntmps113
    go_wp2_with fail
    go_ret
    exact ⟨TellsB.no (fun h => g (by rw [← HN.out]; exact h.1)), rfl⟩
theorem chk4_is {W : World} {bx : Nat} {t g r : Int} (x3 : W.cell? ⟨bx, 3, none⟩ = some (.int .i64 t)) (x4 : W.cell? ⟨bx, 4, none⟩ = some (.int .i64 g)) (x5 : W.cell? ⟨bx, 5, none⟩ = some (.int .i64 r)) :
    Calls Tryz.prog 115 #[.pointer (some ⟨bx, 0, none⟩)] W fun e w' => TellsB e ((1 ≤ t ∧ t ≤ 4294967296) ∧ 1 ≤ g ∧ 1 ≤ r) ∧ W = w' := by
  by_cases g1 : 1 ≤ t ∧ t ≤ 4294967296
  · by_cases g2 : 1 ≤ g
    · by_cases g3 : 1 ≤ r
      · go_enter Tryz.func115, Tryz.ntmps115
        go_wp2_with fail
        refine (within_is _ _ _ _).mono ?_
        rintro e w' ⟨rfl, rfl⟩
        simp only [decide_eq_true g1]
        go_wp2_with fail
        go_ret
        exact ⟨TellsB.yes ⟨g1, g2, g3⟩, rfl⟩
      · go_enter Tryz.func115, Tryz.ntmps115
        go_wp2_with fail
        refine (within_is _ _ _ _).mono ?_
        rintro e w' ⟨rfl, rfl⟩
        simp only [decide_eq_true g1]
        go_wp2_with fail
        go_ret
        have e3 : decide (1 ≤ r) = false := decide_eq_false (by omega)
        show TellsB (.returned (.bool (decide (1 ≤ r)))) _ ∧ _
        rw [e3]
        exact ⟨TellsB.no (fun h => by omega), rfl⟩
    · go_enter Tryz.func115, Tryz.ntmps115
      go_wp2_with fail
      refine (within_is _ _ _ _).mono ?_
      rintro e w' ⟨rfl, rfl⟩
      simp only [decide_eq_true g1]
      go_wp2_with fail
      go_ret
      exact ⟨TellsB.no (fun h => by omega), rfl⟩
  · go_enter Tryz.func115, Tryz.ntmps115
    go_wp2_with fail
    refine (within_is _ _ _ _).mono ?_
    rintro e w' ⟨rfl, rfl⟩
    simp only [decide_eq_false g1]
    go_wp2_with fail
    go_ret
    exact ⟨TellsB.no (fun h => g1 h.1), rfl⟩

/-- Within Check: the model's box, and what is asked of it. -/
structure SCk (w0 : World) (M : Mdl) (aA : Option Addr) (cA : Nat) (aQ : Option Addr) (cQ : Nat) (aR : Option Addr) (cR : Nat) (W : World) : Prop where
  x : Blk W w0.heap.size #[Value.int .i64 M.n, .slice aA M.A.length cA, .slice aQ M.Q.length cQ, .int .i64 M.tick, .int .i64 M.gate, .int .i64 M.rmin, .slice aR M.rows.length cR] 25
  f : Blk W (w0.heap.size + 1) #[Value.func (Fn.func 110) #[] #[Value.pointer (some ⟨w0.heap.size, 0, none⟩)], Value.func (Fn.func 111) #[] #[Value.pointer (some ⟨w0.heap.size, 0, none⟩)], Value.func (Fn.func 113) #[] #[Value.pointer (some ⟨w0.heap.size, 0, none⟩)], Value.func (Fn.func 115) #[] #[Value.pointer (some ⟨w0.heap.size, 0, none⟩)], Value.func (Fn.func 116) #[] #[Value.pointer (some ⟨w0.heap.size, 0, none⟩)]] 36
  bel : Below w0.heap.size w0 W
theorem SCk.keep {w0 W W' : World} {M : Mdl} {aA : Option Addr} {cA : Nat} {aQ : Option Addr} {cQ : Nat} {aR : Option Addr} {cR : Nat} (h : SCk w0 M aA cA aQ cQ aR cR W) (hb : Below W.heap.size W W') : SCk w0 M aA cA aQ cQ aR cR W' :=
  ⟨h.x.keep hb, h.f.keep hb, more h.bel hb⟩

set_option maxHeartbeats 4000000 in
set_option maxRecDepth 100000 in
theorem check_is {B : Nat} {w0 : World} {v : Value} {M : Mdl} (hM : MM B w0 v M) (hlen : M.rows.length ≤ 1000) :
    Calls Tryz.prog 67 #[v] w0 fun e w' => TellsC e 2 (okM M) ∧ Below w0.heap.size w0 w' := by
  obtain ⟨aA, cA, aQ, cQ, aR, cR, rfl, hA, hQ, hR⟩ := hM.ex
  go_enter Tryz.func67, Tryz.ntmps67
  go_wp2_with fail
  obtain ⟨W, hW⟩ : ∃ W : World, (w0.alloc (.cells #[Value.int .i64 M.n, .slice aA M.A.length cA, .slice aQ M.Q.length cQ, .int .i64 M.tick, .int .i64 M.gate, .int .i64 M.rmin, .slice aR M.rows.length cR] 25)).alloc (.cells #[Value.func (Fn.func 110) #[] #[Value.pointer (some ⟨w0.heap.size, 0, none⟩)], Value.func (Fn.func 111) #[] #[Value.pointer (some ⟨w0.heap.size, 0, none⟩)], Value.func (Fn.func 113) #[] #[Value.pointer (some ⟨w0.heap.size, 0, none⟩)], Value.func (Fn.func 115) #[] #[Value.pointer (some ⟨w0.heap.size, 0, none⟩)], Value.func (Fn.func 116) #[] #[Value.pointer (some ⟨w0.heap.size, 0, none⟩)]] 36) = W := ⟨_, rfl⟩
  have hS : SCk w0 M aA cA aQ cQ aR cR W := by
    refine ⟨?_, ?_, ?_⟩
    · rw [← hW]; exact (Blk.new w0 _ _).alloc _
    · rw [← hW]
      have := Blk.new (w0.alloc (.cells #[Value.int .i64 M.n, .slice aA M.A.length cA, .slice aQ M.Q.length cQ, .int .i64 M.tick, .int .i64 M.gate, .int .i64 M.rmin, .slice aR M.rows.length cR] 25)) #[Value.func (Fn.func 110) #[] #[Value.pointer (some ⟨w0.heap.size, 0, none⟩)], Value.func (Fn.func 111) #[] #[Value.pointer (some ⟨w0.heap.size, 0, none⟩)], Value.func (Fn.func 113) #[] #[Value.pointer (some ⟨w0.heap.size, 0, none⟩)], Value.func (Fn.func 115) #[] #[Value.pointer (some ⟨w0.heap.size, 0, none⟩)], Value.func (Fn.func 116) #[] #[Value.pointer (some ⟨w0.heap.size, 0, none⟩)]] 36
      rw [World.size_alloc] at this; exact this
    · rw [← hW]; exact ((Below.refl _ _).alloc (Nat.le_refl _) _).alloc (by simp) _
  rw [hW]
  clear hW
  refine wp_loop_rounds 6 ?_
  rw [rounds_succ]
  have x0 := hS.x.cell 0
  have x1 := hS.x.cell 1
  have x2 := hS.x.cell 2
  have x3 := hS.x.cell 3
  have x4 := hS.x.cell 4
  have x5 := hS.x.cell 5
  have x6 := hS.x.cell 6
  have f0 := hS.f.cell 0
  have f1 := hS.f.cell 1
  have f2 := hS.f.cell 2
  have f3 := hS.f.cell 3
  have f4 := hS.f.cell 4
  simp at x0 x1 x2 x3 x4 x5 x6 f0 f1 f2 f3 f4
  go_wp2_with fail
  refine (chk1_is x0).mono ?_
  rintro e w' ⟨rfl, rfl⟩
  by_cases h1 : 1 ≤ M.n ∧ M.n ≤ 6
  case neg =>
    simp only [decide_eq_false h1]
    go_wp2_with fail
    go_ret
    exact ⟨.inr ⟨fun h => h1 h.n, rfl⟩, hS.bel⟩
  simp only [decide_eq_true h1]
  go_wp2_with fail
  rw [rounds_succ]
  go_wp2_with fail
  refine (chk2_is hS.x (hM.keep hS.bel) h1).mono ?_
  rintro e w2 ⟨⟨q, rfl, hq⟩, hK⟩
  replace hS := hS.keep hK
  clear hK
  cases q with
  | false =>
    have HQ := Lib.hid (show ¬ (okA M.n M.A) from fun h => by cases hq.2 h)
    clear hq
    go_wp2_with fail
    go_ret
    exact ⟨.inr ⟨fun h => HQ.out h.a, rfl⟩, hS.bel⟩
  | true =>
  have h2 := Lib.hid (hq.1 rfl)
  clear hq
  clear x0 x1 x2 x3 x4 x5 x6 f0 f1 f2 f3 f4
  have x0 := hS.x.cell 0
  have x1 := hS.x.cell 1
  have x2 := hS.x.cell 2
  have x3 := hS.x.cell 3
  have x4 := hS.x.cell 4
  have x5 := hS.x.cell 5
  have x6 := hS.x.cell 6
  have f0 := hS.f.cell 0
  have f1 := hS.f.cell 1
  have f2 := hS.f.cell 2
  have f3 := hS.f.cell 3
  have f4 := hS.f.cell 4
  simp at x0 x1 x2 x3 x4 x5 x6 f0 f1 f2 f3 f4
  go_wp2_with fail
  rw [rounds_succ]
  go_wp2_with fail
  refine (chk3_is x0 x2 (hQ.keep hS.bel)).mono ?_
  rintro e w' ⟨⟨q, rfl, hq⟩, rfl⟩
  cases q with
  | false =>
    have HQ := Lib.hid (show ¬ (okQ M.n M.Q) from fun h => by cases hq.2 h)
    clear hq
    go_wp2_with fail
    go_ret
    exact ⟨.inr ⟨fun h => HQ.out h.q, rfl⟩, hS.bel⟩
  | true =>
  have h3 := Lib.hid (hq.1 rfl)
  clear hq
  go_wp2_with fail
  rw [rounds_succ]
  go_wp2_with fail
  refine (chk4_is x3 x4 x5).mono ?_
  rintro e w' ⟨⟨q, rfl, hq⟩, rfl⟩
  cases q with
  | false =>
    have HQ := Lib.hid (show ¬ ((1 ≤ M.tick ∧ M.tick ≤ 4294967296) ∧ 1 ≤ M.gate ∧ 1 ≤ M.rmin) from fun h => by cases hq.2 h)
    clear hq
    go_wp2_with fail
    go_ret
    exact ⟨.inr ⟨fun h => HQ.out h.t, rfl⟩, hS.bel⟩
  | true =>
  have h4 := Lib.hid (hq.1 rfl)
  clear hq
  go_wp2_with fail
  rw [rounds_succ]
  go_wp2_with fail
  refine (chk5_is hS.x (hM.keep hS.bel) hlen).mono ?_
  rintro e w5 ⟨⟨q, rfl, hq⟩, hK⟩
  replace hS := hS.keep hK
  clear hK
  cases q with
  | false =>
    have HQ := Lib.hid (show ¬ (okR M.n M.rmin M.rows) from fun h => by cases hq.2 h)
    clear hq
    go_wp2_with fail
    go_ret
    exact ⟨.inr ⟨fun h => HQ.out h.r, rfl⟩, hS.bel⟩
  | true =>
  have h5 := Lib.hid (hq.1 rfl)
  clear hq
  clear x0 x1 x2 x3 x4 x5 x6 f0 f1 f2 f3 f4
  have x0 := hS.x.cell 0
  have x1 := hS.x.cell 1
  have x2 := hS.x.cell 2
  have x3 := hS.x.cell 3
  have x4 := hS.x.cell 4
  have x5 := hS.x.cell 5
  have x6 := hS.x.cell 6
  have f0 := hS.f.cell 0
  have f1 := hS.f.cell 1
  have f2 := hS.f.cell 2
  have f3 := hS.f.cell 3
  have f4 := hS.f.cell 4
  simp at x0 x1 x2 x3 x4 x5 x6 f0 f1 f2 f3 f4
  go_wp2_with fail
  rw [rounds_succ]
  go_wp2_with fail
  go_ret
  exact ⟨.inl ⟨⟨h1, h2.out, h3.out, h4.out, h5.out⟩, rfl⟩, hS.bel⟩

end Go.Proofs.YtnofoommindocaaGreat.Base
