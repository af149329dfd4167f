/- mat: which ones may be. -/
import Derived.Test.YtnofoommindocaaGreatNumK
import Derived.Test.YtnofoommindocaaGreatRegI
namespace Go.Proofs.YtnofoommindocaaGreat.Base
open Go.RowKit
set_option linter.unusedVariables false
set_option linter.unusedSimpArgs false

/-- A matrix. -/
structure Mt where
  r : Int
  c : Int
  v : List Int
deriving Inhabited
def okD (n : Int) : Prop := 1 ≤ n ∧ n ≤ 12
instance (n : Int) : Decidable (okD n) := by unfold okD; infer_instance
def okMt (m : Mt) : Prop := okD m.r ∧ okD m.c ∧ (m.v.length : Int) = m.r * m.c
instance (m : Mt) : Decidable (okMt m) := by unfold okMt; infer_instance
/-- A matrix whose list does not lie in block b. -/
structure MP (b : Nat) (W : World) (x : Value) (m : Mt) : Prop where
  ex : ∃ a k, x = .agg #[.int .i64 m.r, .int .i64 m.c, .slice a m.v.length k] ∧ ML b W a k m.v
  r : I64 m.r
  c : I64 m.c
theorem MP.but {b : Nat} {W W' : World} {x : Value} {m : Mt} (h : MP b W x m) (k : But b W W') : MP b W' x m := by
  obtain ⟨a, c, h1, h2⟩ := h.ex
  exact ⟨⟨a, c, h1, h2.but k⟩, h.r, h.c⟩
theorem MP.keep {b : Nat} {W W' : World} {x : Value} {m : Mt} (h : MP b W x m) (k : Below W.heap.size W W') : MP b W' x m := h.but (But.of k)
/-- A matrix whose list is one's own, of block B on. -/
structure MO (B : Nat) (W : World) (x : Value) (m : Mt) : Prop where
  ex : ∃ a k, x = .agg #[.int .i64 m.r, .int .i64 m.c, .slice a m.v.length k] ∧ LI B W a k m.v
  r : I64 m.r
  c : I64 m.c
theorem MO.keep {B : Nat} {W W' : World} {x : Value} {m : Mt} (h : MO B W x m) (k : Below W.heap.size W W') : MO B W' x m := by
  obtain ⟨a, c, h1, h2⟩ := h.ex
  exact ⟨⟨a, c, h1, h2.keep k⟩, h.r, h.c⟩
theorem MO.mono {B B' : Nat} {W : World} {x : Value} {m : Mt} (h : MO B W x m) (hB : B' ≤ B) : MO B' W x m := by
  obtain ⟨a, c, h1, h2⟩ := h.ex
  exact ⟨⟨a, c, h1, h2.mono hB⟩, h.r, h.c⟩
theorem MO.but {B b : Nat} {W W' : World} {c : Bool} {x : Value} {m : Mt} (h : MO B W x m) (hu : UP W b c) (k : But b W W') : MO B W' x m := by
  obtain ⟨a, c, h1, h2⟩ := h.ex
  exact ⟨⟨a, c, h1, h2.but hu k⟩, h.r, h.c⟩
theorem MO.mp {B b : Nat} {W : World} {c : Bool} {x : Value} {m : Mt} (h : MO B W x m) (hu : UP W b c) : MP b W x m := by
  obtain ⟨a, c, h1, h2⟩ := h.ex
  exact ⟨⟨a, c, h1, h2.ml hu⟩, h.r, h.c⟩

theorem sized_is (n : Int) (W : World) : Calls Tryz.prog 149 #[.int .i64 n] W fun e w' => e = .returned (.bool (decide (okD n))) ∧ W = w' := by
  by_cases h1 : 1 ≤ n
  · by_cases h2 : n ≤ 12
    · have HD := Lib.hid (decide_eq_true (show okD n from ⟨h1, h2⟩))
      go_enter Tryz.func149, Tryz.ntmps149
      go_wp2_with fail
      go_ret
      exact ⟨by rw [HD.out]; rfl, rfl⟩
    · have HD := Lib.hid (decide_eq_false (show ¬ okD n from fun h => h2 h.2))
      go_enter Tryz.func149, Tryz.ntmps149
      go_wp2_with fail
      go_ret
      exact ⟨by rw [HD.out]; rfl, rfl⟩
  · have HD := Lib.hid (decide_eq_false (show ¬ okD n from fun h => h1 h.1))
    go_enter Tryz.func149, Tryz.ntmps149
    go_wp2_with fail
    go_ret
    exact ⟨by rw [HD.out]; rfl, rfl⟩

def chkMt (m : Mt) : Int := if okMt m then 0 else 3
set_option maxRecDepth 100000 in
theorem mcheck_is (m : Mt) (a : Option Addr) (k : Nat) (W : World) : Calls Tryz.prog 89 #[.agg #[.int .i64 m.r, .int .i64 m.c, .slice a m.v.length k]] W fun e w' => e = .returned (.int .i64 (chkMt m)) ∧ Below W.heap.size W w' := by
  obtain ⟨r, c, v⟩ := m
  obtain ⟨ans, hans⟩ : ∃ ans, chkMt ⟨r, c, v⟩ = ans := ⟨_, rfl⟩
  rw [hans]
  obtain ⟨n, hn⟩ : ∃ n, v.length = n := ⟨_, rfl⟩
  dsimp only
  rw [hn]
  have hA : ans = if okD r ∧ okD c ∧ (n : Int) = r * c then 0 else 3 := by rw [← hans, ← hn]; rfl
  clear hans hn
  by_cases h1 : okD r
  · by_cases h2 : okD c
    · have hw : wrap64 (r * c) = r * c := by
        have h3 : r * c ≤ 12 * 12 := Int.le_trans (Int.mul_le_mul_of_nonneg_right h1.2 (by have := h2.1; omega)) (Int.mul_le_mul_of_nonneg_left h2.2 (by decide))
        have h4 : 0 ≤ r * c := Int.mul_nonneg (by have := h1.1; omega) (by have := h2.1; omega)
        unfold wrap64; omega
      by_cases h5 : (n : Int) = r * c
      · have HA := Lib.hid (show ans = 0 by rw [hA, if_pos ⟨h1, h2, h5⟩])
        have h6 : ((n : Int) == r * c) = true := by simp [h5]
        clear hA
        go_enter Tryz.func89, Tryz.ntmps89
        go_wp2_with fail
        refine (sized_is r _).mono ?_
        rintro e w1 ⟨rfl, hw1⟩
        rw [decide_eq_true h1, ← hw1]
        clear hw1
        go_wp2_with fail
        refine (sized_is c _).mono ?_
        rintro e w2 ⟨rfl, hw2⟩
        rw [decide_eq_true h2, ← hw2]
        clear hw2
        go_wp2_with fail
        go_ret
        refine ⟨by rw [HA.out]; rfl, ?_⟩
        (repeat (first | refine upA ?_ _ | refine upD ?_)); exact upR _
      · have HA := Lib.hid (show ans = 3 by rw [hA, if_neg (fun h => h5 h.2.2)])
        have h6 : ((n : Int) == r * c) = false := by simp [h5]
        clear hA
        go_enter Tryz.func89, Tryz.ntmps89
        go_wp2_with fail
        refine (sized_is r _).mono ?_
        rintro e w1 ⟨rfl, hw1⟩
        rw [decide_eq_true h1, ← hw1]
        clear hw1
        go_wp2_with fail
        refine (sized_is c _).mono ?_
        rintro e w2 ⟨rfl, hw2⟩
        rw [decide_eq_true h2, ← hw2]
        clear hw2
        go_wp2_with fail
        go_ret
        refine ⟨by rw [HA.out]; rfl, ?_⟩
        (repeat (first | refine upA ?_ _ | refine upD ?_)); exact upR _
    · have HA := Lib.hid (show ans = 3 by rw [hA, if_neg (fun h => h2 h.2.1)])
      clear hA
      go_enter Tryz.func89, Tryz.ntmps89
      go_wp2_with fail
      refine (sized_is r _).mono ?_
      rintro e w1 ⟨rfl, hw1⟩
      rw [decide_eq_true h1, ← hw1]
      clear hw1
      go_wp2_with fail
      refine (sized_is c _).mono ?_
      rintro e w2 ⟨rfl, hw2⟩
      rw [decide_eq_false h2, ← hw2]
      clear hw2
      go_wp2_with fail
      go_ret
      refine ⟨by rw [HA.out]; rfl, ?_⟩
      (repeat (first | refine upA ?_ _ | refine upD ?_)); exact upR _
  · have HA := Lib.hid (show ans = 3 by rw [hA, if_neg (fun h => h1 h.1)])
    clear hA
    go_enter Tryz.func89, Tryz.ntmps89
    go_wp2_with fail
    refine (sized_is r _).mono ?_
    rintro e w1 ⟨rfl, hw1⟩
    rw [decide_eq_false h1, ← hw1]
    clear hw1
    go_wp2_with fail
    go_ret
    refine ⟨by rw [HA.out]; rfl, ?_⟩
    (repeat (first | refine upA ?_ _ | refine upD ?_)); exact upR _

theorem mnone_ok {W : World} {b : Nat} {c : Bool} (h : UP W b c) : Calls Tryz.prog 151 #[.pointer (some ⟨b, 0, none⟩)] W fun e w' => e = .returned (.bool false) ∧ W = w' := by
  go_enter Tryz.func151, Tryz.ntmps151
  go_wp2_with fail
  refine (uDot_ok h _ _ _ _).mono ?_
  rintro e w1 ⟨rfl, rfl⟩
  go_wp2_with fail
  go_ret
  exact ⟨rfl, rfl⟩

end Go.Proofs.YtnofoommindocaaGreat.Base
