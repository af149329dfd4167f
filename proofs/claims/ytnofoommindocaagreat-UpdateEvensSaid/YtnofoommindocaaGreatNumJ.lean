/- fix: what one operation answers. -/
import Derived.Test.YtnofoommindocaaGreatNumI
namespace Go.Proofs.YtnofoommindocaaGreat.Base
open Go.RowKit
set_option linter.unusedVariables false
set_option linter.unusedSimpArgs false

/-- What is taken for a number. -/
def heldI (a : Int) : Int := if a < -9223372036854775807 then -9223372036854775807 else a
def oddI (a : Int) : Bool := decide (a < -9223372036854775807)
/-- An operation: its number, and whether something was cut. -/
def opF (g : Int → Int → Int) (a b : Int) : Int × Bool := (fitN (g (heldI a) (heldI b)), (fitC (g (heldI a) (heldI b)) || oddI a) || oddI b)
def addF : Int → Int → Int × Bool := opF fun a b => a + b
def subF : Int → Int → Int × Bool := opF fun a b => a - b
def halfF : Int → Int → Int × Bool := opF fun a b => rndI (a + b) 2
def mulF : Int → Int → Int × Bool := opF fun a b => rndI (a * b) 4294967296
def divF (a b : Int) : Int × Bool := if b = 0 then (if a = 0 then (0, true) else if a < 0 then (-9223372036854775807, true) else (9223372036854775807, true)) else opF (fun a b => divI (a * 4294967296) b) a b
def wholeF (n : Int) : Int × Bool := (fitN (n * 4294967296), fitC (n * 4294967296))
def Fx (n : Int) : Prop := -9223372036854775807 ≤ n ∧ n ≤ 9223372036854775807
theorem Fx.i64 {n : Int} (h : Fx n) : I64 n := by unfold Fx at h; unfold I64; omega
theorem heldI_fx {a : Int} (h : I64 a) : Fx (heldI a) := by unfold I64 at h; unfold Fx heldI; split <;> omega
theorem fitN_fx (v : Int) : Fx (fitN v) := by unfold fitN Fx; split; omega; split <;> omega
theorem opF_fx (g : Int → Int → Int) (a b : Int) : Fx (opF g a b).1 := fitN_fx _
theorem divF_fx (a b : Int) : Fx (divF a b).1 := by
  unfold divF
  split
  · split
    · unfold Fx; simp
    · split <;> (unfold Fx; simp)
  · exact opF_fx _ _ _
theorem wholeF_fx (n : Int) : Fx (wholeF n).1 := fitN_fx _
/-- A function's answer of a number and a flag. -/
def RetF (p : Int × Bool) : Value := .tuple #[.int .i64 p.1, .bool p.2]

theorem held_is (a : Int) (W : World) : Calls Tryz.prog 170 #[.int .i64 a] W fun e w' => e = .returned (.tuple #[.int .i64 (heldI a), .bool (oddI a)]) ∧ W = w' := by
  unfold heldI oddI
  by_cases h : a < -9223372036854775807
  · rw [if_pos h, decide_eq_true h]
    go_enter Tryz.func170, Tryz.ntmps170
    go_wp2_with fail
    go_ret2
    refine ⟨?_, rfl⟩
    first | rfl | (congr 3; omega) | (simp; omega)
  · rw [if_neg h, decide_eq_false h]
    go_enter Tryz.func170, Tryz.ntmps170
    go_wp2_with fail
    go_ret2
    refine ⟨?_, rfl⟩
    first | rfl | (congr 3; omega) | (simp; omega)

theorem or_val (a b c : Bool) : (Value.bool (a || b || c)) = .bool ((a || b) || c) := rfl
set_option maxHeartbeats 1000000 in
theorem do_is (g : FuncId) (eg : ∀ args w, (callFunc g args).run Tryz.prog w = .ok (.enter g args) w) (a b v : Int) (hv : W127 v) (hop : ∀ W, Calls Tryz.prog g #[.int .i64 (heldI a), .int .i64 (heldI b)] W fun e w' => e = .returned (wv v) ∧ Below W.heap.size W w') (W : World) :
    Calls Tryz.prog 120 #[.func (.func g) #[] #[], .int .i64 a, .int .i64 b] W fun e w' => e = .returned (.tuple #[.int .i64 (fitN v), .bool ((fitC v || oddI a) || oddI b)]) ∧ Below W.heap.size W w' := by
  go_enter Tryz.func120, Tryz.ntmps120
  go_wp2_with fail
  refine (held_is a _).mono ?_
  rintro e w1 ⟨rfl, rfl⟩
  go_wp2_with fail
  refine (held_is b _).mono ?_
  rintro e w1 ⟨rfl, rfl⟩
  go_wp2_with fail
  refine (hop _).mono ?_
  rintro e w1 ⟨rfl, hK⟩
  go_wp2_with fail
  refine (wFit_is v hv _).mono ?_
  rintro e w2 ⟨rfl, hK2⟩
  have hB := more hK hK2
  clear hK hK2
  cases hc : fitC v
  · cases ho : oddI a
    · go_wp2_with fail
      go_ret2
      exact ⟨by simp [hc, ho], hB⟩
    · go_wp2_with fail
      go_ret2
      exact ⟨by simp [hc, ho], hB⟩
  · go_wp2_with fail
    go_ret2
    exact ⟨by simp [hc], hB⟩

set_option maxHeartbeats 1000000 in
theorem sum_is (a b : Int) (ha : Fx a) (hb : Fx b) (W : World) : Calls Tryz.prog 121 #[.int .i64 a, .int .i64 b] W fun e w' => e = .returned (wv (a + b)) ∧ Below W.heap.size W w' := by
  go_enter Tryz.func121, Tryz.ntmps121
  go_wp2_with fail
  refine (wOf_is a ha.i64 _).mono ?_
  rintro e w1 ⟨rfl, hK⟩
  go_wp2_with fail
  refine (wOf_is b hb.i64 _).mono ?_
  rintro e w2 ⟨rfl, hK2⟩
  go_wp2_with fail
  refine (wAdd_is a b _).mono ?_
  rintro e w3 ⟨rfl, hK3⟩
  have hb := more (more hK hK2) hK3
  have g := (Blk.new W #[Value.int IntKind.i64 0, Value.int IntKind.u64 0] 146).keep hb
  have hB := more (upA (upR W) _) hb
  have c0 := g.cell
  have f0 := g.frozen
  clear hK hK2 hK3
  rw [wvU]
  go_wp2_with fail
  simp [bodyPost, results, Tryz.results121, go_sem, c0]
  exact ⟨rfl, upS (upS hB (p := ⟨_, _, _⟩) (Nat.le_refl _) _) (p := ⟨_, _, _⟩) (Nat.le_refl _) _⟩

theorem mul_w {a b : Int} (ha : Fx a) (hb : Fx b) : W127 (a * b) := by
  have h1 := absI_mul a b
  have xa := absI_nn a
  have xb := absI_nn b
  have la : absI a ≤ 9223372036854775807 := by unfold Fx at ha; unfold absI; split <;> omega
  have lb : absI b ≤ 9223372036854775807 := by unfold Fx at hb; unfold absI; split <;> omega
  have hxy : absI a * absI b ≤ 9223372036854775807 * 9223372036854775807 := Int.le_trans (Int.mul_le_mul_of_nonneg_right la xb) (Int.mul_le_mul_of_nonneg_left lb (by decide))
  have h0 : 0 ≤ absI a * absI b := Int.mul_nonneg xa xb
  unfold W127
  split at h1 <;> omega
theorem rheI_le (s d : Int) (hs : 0 ≤ s) (hd : 1 ≤ d) : 0 ≤ rheI s d ∧ rheI s d ≤ s + 1 := by
  have h0 := Int.ediv_nonneg hs (by omega : 0 ≤ d)
  have h1 := Int.ediv_le_self d hs
  unfold rheI
  split <;> omega
theorem rndI_w {a d : Int} (ha : W127 a) (h1 : a < 170141183460469231731687303715884105727) (h2 : -170141183460469231731687303715884105727 < a) (hd : 1 ≤ d) : W127 (rndI a d) := by
  have hx : absI a ≤ 170141183460469231731687303715884105726 := by unfold absI; split <;> omega
  have := rheI_le (absI a) d (absI_nn a) hd
  unfold rndI W127
  split <;> omega
theorem mul_w2 {a b : Int} (ha : Fx a) (hb : Fx b) : a * b ≤ 85070591730234615847396907784232501249 ∧ -85070591730234615847396907784232501249 ≤ a * b := by
  have h1 := absI_mul a b
  have xa := absI_nn a
  have xb := absI_nn b
  have la : absI a ≤ 9223372036854775807 := by unfold Fx at ha; unfold absI; split <;> omega
  have lb : absI b ≤ 9223372036854775807 := by unfold Fx at hb; unfold absI; split <;> omega
  have hxy : absI a * absI b ≤ 9223372036854775807 * 9223372036854775807 := Int.le_trans (Int.mul_le_mul_of_nonneg_right la xb) (Int.mul_le_mul_of_nonneg_left lb (by decide))
  have h0 : 0 ≤ absI a * absI b := Int.mul_nonneg xa xb
  split at h1 <;> omega

set_option maxHeartbeats 1000000 in
theorem product_is (a b : Int) (ha : Fx a) (hb : Fx b) (W : World) : Calls Tryz.prog 122 #[.int .i64 a, .int .i64 b] W fun e w' => e = .returned (wv (rndI (a * b) 4294967296)) ∧ Below W.heap.size W w' := by
  go_enter Tryz.func122, Tryz.ntmps122
  go_wp2_with fail
  refine (wMul_is a b ha.i64 hb.i64 _).mono ?_
  rintro e w1 ⟨rfl, hK⟩
  go_wp2_with fail
  refine (wRound32_is (a * b) (mul_w ha hb) _).mono ?_
  rintro e w2 ⟨rfl, hK2⟩
  have hb := more hK hK2
  have g := (Blk.new W #[Value.int IntKind.i64 0, Value.int IntKind.u64 0] 146).keep hb
  have hB := more (upA (upR W) _) hb
  have hl := g.lt
  clear hK hK2 hb
  have c0 := g.cell
  have f0 := g.frozen
  obtain ⟨r, hr⟩ : ∃ r, rndI (a * b) 4294967296 = r := ⟨_, rfl⟩
  rw [hr]
  have HR := Lib.hid hr
  clear hr
  rw [wvU]
  go_wp2_with fail
  refine bodyPost_ret (results_cell_row rfl _ _ _ 146 #[.int .i64 (hiW r), .int .u64 (loW r)] (0, 0) _ rfl (((g.set 0 _).set 1 _).alloc _) Tryz.underlying146 rfl (by kernel_rfl)) rfl ?_
  exact ⟨by rw [HR.out]; rfl, upA (upS (upS hB (p := ⟨_, _, _⟩) (Nat.le_refl _) _) (p := ⟨_, _, _⟩) (Nat.le_refl _) _) _⟩

theorem shift_w {a : Int} (ha : Fx a) : W127 (a * 4294967296) := by unfold Fx at ha; unfold W127; omega
set_option maxHeartbeats 1000000 in
theorem quotient_is (a b : Int) (ha : Fx a) (hb : Fx b) (hn : b ≠ 0) (W : World) : Calls Tryz.prog 153 #[.int .i64 a, .int .i64 b] W fun e w' => e = .returned (wv (divI (a * 4294967296) b)) ∧ Below W.heap.size W w' := by
  have hw := shift_w ha
  go_enter Tryz.func153, Tryz.ntmps153
  go_wp2_with fail
  refine (wMul_is a 4294967296 ha.i64 (by unfold I64; omega) _).mono ?_
  rintro e w1 ⟨rfl, hK⟩
  go_wp2_with fail
  refine (wDiv_is (a * 4294967296) b hw hb.i64 hn _).mono ?_
  rintro e w2 ⟨rfl, hK2⟩
  have hb := more hK hK2
  have g := (Blk.new W #[Value.int IntKind.i64 0, Value.int IntKind.u64 0] 146).keep hb
  have hB := more (upA (upR W) _) hb
  have hl := g.lt
  clear hK hK2 hb
  have c0 := g.cell
  have f0 := g.frozen
  obtain ⟨r, hr⟩ : ∃ r, divI (a * 4294967296) b = r := ⟨_, rfl⟩
  rw [hr]
  have HR := Lib.hid hr
  clear hr
  rw [wvU]
  go_wp2_with fail
  refine bodyPost_ret (results_cell_row rfl _ _ _ 146 #[.int .i64 (hiW r), .int .u64 (loW r)] (0, 0) _ rfl (((g.set 0 _).set 1 _).alloc _) Tryz.underlying146 rfl (by kernel_rfl)) rfl ?_
  exact ⟨by rw [HR.out]; rfl, upA (upS (upS hB (p := ⟨_, _, _⟩) (Nat.le_refl _) _) (p := ⟨_, _, _⟩) (Nat.le_refl _) _) _⟩

theorem sum_w {a b : Int} (ha : Fx a) (hb : Fx b) : W127 (a + b) := by unfold Fx at *; unfold W127; omega
theorem prod_w {a b : Int} (ha : Fx a) (hb : Fx b) : W127 (rndI (a * b) 4294967296) := by
  have := mul_w2 ha hb
  exact rndI_w (mul_w ha hb) (by omega) (by omega) (by decide)
theorem divI_w {a b : Int} (ha : Fx a) (hn : b ≠ 0) : W127 (divI (a * 4294967296) b) := by
  have hx : absI (a * 4294967296) ≤ 39614081257132168792477073408 := by unfold Fx at ha; unfold absI; split <;> omega
  have hb : 1 ≤ absI b := by unfold absI; split <;> omega
  have := rheI_le (absI (a * 4294967296)) (absI b) (absI_nn _) hb
  unfold divI sgnI W127
  split <;> omega
theorem fixAdd_is (a b : Int) (ha : I64 a) (hb : I64 b) (W : World) : Calls Tryz.prog 72 #[.int .i64 a, .int .i64 b] W fun e w' => e = .returned (RetF (addF a b)) ∧ Below W.heap.size W w' := by
  go_enter Tryz.func72, Tryz.ntmps72
  go_wp2_with fail
  refine (do_is 121 (enters_of Tryz.func121 (by kernel_rfl) rfl) a b _ (sum_w (heldI_fx ha) (heldI_fx hb)) (fun W => sum_is _ _ (heldI_fx ha) (heldI_fx hb) W) _).mono ?_
  rintro e w1 ⟨rfl, hK⟩
  go_wp2_with fail
  go_ret2
  exact ⟨rfl, hK⟩
theorem fixMul_is (a b : Int) (ha : I64 a) (hb : I64 b) (W : World) : Calls Tryz.prog 73 #[.int .i64 a, .int .i64 b] W fun e w' => e = .returned (RetF (mulF a b)) ∧ Below W.heap.size W w' := by
  go_enter Tryz.func73, Tryz.ntmps73
  go_wp2_with fail
  refine (do_is 122 (enters_of Tryz.func122 (by kernel_rfl) rfl) a b _ (prod_w (heldI_fx ha) (heldI_fx hb)) (fun W => product_is _ _ (heldI_fx ha) (heldI_fx hb) W) _).mono ?_
  rintro e w1 ⟨rfl, hK⟩
  go_wp2_with fail
  go_ret2
  exact ⟨rfl, hK⟩
theorem fixDiv_is (a b : Int) (ha : I64 a) (hb : I64 b) (W : World) : Calls Tryz.prog 99 #[.int .i64 a, .int .i64 b] W fun e w' => e = .returned (RetF (divF a b)) ∧ Below W.heap.size W w' := by
  obtain ⟨r, hr⟩ : ∃ r, divF a b = r := ⟨_, rfl⟩
  rw [hr]
  by_cases h0 : b = 0
  · by_cases h1 : a = 0
    · have HR := Lib.hid (show r = (0, true) by rw [← hr]; unfold divF; rw [if_pos h0, if_pos h1])
      subst h0 h1
      clear hr
      go_enter Tryz.func99, Tryz.ntmps99
      go_wp2_with fail
      go_ret2
      rw [HR.out]
      exact ⟨rfl, upR _⟩
    · have h3 : (a == 0) = false := by simp [h1]
      by_cases h2 : a < 0
      · have HR := Lib.hid (show r = (-9223372036854775807, true) by rw [← hr]; unfold divF; rw [if_pos h0, if_neg h1, if_pos h2])
        subst h0
        clear hr
        go_enter Tryz.func99, Tryz.ntmps99
        go_wp2_with fail
        go_ret2
        rw [HR.out]
        exact ⟨rfl, upR _⟩
      · have HR := Lib.hid (show r = (9223372036854775807, true) by rw [← hr]; unfold divF; rw [if_pos h0, if_neg h1, if_neg h2])
        subst h0
        clear hr
        go_enter Tryz.func99, Tryz.ntmps99
        go_wp2_with fail
        go_ret2
        rw [HR.out]
        exact ⟨rfl, upR _⟩
  · have HR := Lib.hid (show r = opF (fun a b => divI (a * 4294967296) b) a b by rw [← hr]; unfold divF; rw [if_neg h0])
    have h3 : (b == 0) = false := by simp [h0]
    have hn : heldI b ≠ 0 := by unfold heldI; split <;> omega
    clear hr
    go_enter Tryz.func99, Tryz.ntmps99
    go_wp2_with fail
    refine (do_is 153 (enters_of Tryz.func153 (by kernel_rfl) rfl) a b _ (divI_w (heldI_fx ha) hn) (fun W => quotient_is _ _ (heldI_fx ha) (heldI_fx hb) hn W) _).mono ?_
    rintro e w1 ⟨rfl, hK⟩
    go_wp2_with fail
    go_ret2
    rw [HR.out]
    exact ⟨rfl, hK⟩
theorem fixWhole_is (n : Int) (hn : I64 n) (W : World) : Calls Tryz.prog 222 #[.int .i64 n] W fun e w' => e = .returned (RetF (wholeF n)) ∧ Below W.heap.size W w' := by
  go_enter Tryz.func222, Tryz.ntmps222
  go_wp2_with fail
  refine (wMul_is n 4294967296 hn (by unfold I64; omega) _).mono ?_
  rintro e w1 ⟨rfl, hK⟩
  go_wp2_with fail
  refine (wFit_is (n * 4294967296) (by unfold I64 at hn; unfold W127; omega) _).mono ?_
  rintro e w2 ⟨rfl, hK2⟩
  go_wp2_with fail
  go_ret2
  exact ⟨rfl, more hK hK2⟩

end Go.Proofs.YtnofoommindocaaGreat.Base
