/- wide: Mul, Cmp; bits.Mul64. -/
import Derived.Test.YtnofoommindocaaGreatNumC
namespace Go.Proofs.YtnofoommindocaaGreat.Base
open Go.RowKit Go.Lib
set_option linter.unusedVariables false
set_option linter.unusedSimpArgs false

theorem m_mask (a : Nat) (ha : a < 18446744073709551616) : bits .and .u64 (a : Int) 4294967295 = ((a % 4294967296 : Nat) : Int) := by
  have h := bits_and_u64_nat a 4294967295 ha (by omega)
  have e : a &&& 4294967295 = a % 4294967296 := Nat.and_two_pow_sub_one_eq_mod a 32
  rw [e] at h
  exact h
theorem m_div (a : Nat) : (a : Int) / 4294967296 = ((a / 4294967296 : Nat) : Int) := by omega
theorem m_mul (a b : Nat) : (a : Int) * (b : Int) = ((a * b : Nat) : Int) := (Int.natCast_mul a b).symm
theorem m_add (a b : Nat) : (a : Int) + (b : Int) = ((a + b : Nat) : Int) := (Int.natCast_add a b).symm
theorem m_wrap (a : Nat) (ha : a < 18446744073709551616) : IntKind.u64.wrap (a : Int) = (a : Int) := by rw [IntKind.wrap_u64]; omega
theorem m_wrapM (a : Nat) : IntKind.u64.wrap (a : Int) = ((a % 18446744073709551616 : Nat) : Int) := by rw [IntKind.wrap_u64]; omega

set_option maxHeartbeats 1000000 in
theorem mul64N (x y : Nat) (hx : x < 18446744073709551616) (hy : y < 18446744073709551616) (w : World) :
    Calls Tryz.prog 218 #[.int .u64 x, .int .u64 y] w fun e w' => e = .returned (.tuple #[.int .u64 ((x * y / 18446744073709551616 : Nat) : Int), .int .u64 ((x * y % 18446744073709551616 : Nat) : Int)]) ∧ w = w' := by
  obtain ⟨bd, bt, bw, hhi⟩ := Lib.mul64_hi x y hx hy
  have ba := Lib.half_mul_le (a := x / 4294967296) (b := y / 4294967296) (by omega) (by omega)
  have bb := Lib.half_mul_le (a := x / 4294967296) (b := y % 4294967296) (by omega) (by omega)
  have bc := Lib.half_mul_le (a := x % 4294967296) (b := y / 4294967296) (by omega) (by omega)
  have ba' : x / 4294967296 * (y / 4294967296) < 18446744073709551616 := by omega
  have bb' : x / 4294967296 * (y % 4294967296) < 18446744073709551616 := by omega
  have bc' : x % 4294967296 * (y / 4294967296) < 18446744073709551616 := by omega
  have bh1 : x / 4294967296 * (y / 4294967296) + (x / 4294967296 * (y % 4294967296) + x % 4294967296 * (y % 4294967296) / 4294967296) / 4294967296 < 18446744073709551616 := by omega
  have bh : x / 4294967296 * (y / 4294967296) + (x / 4294967296 * (y % 4294967296) + x % 4294967296 * (y % 4294967296) / 4294967296) / 4294967296 + ((x / 4294967296 * (y % 4294967296) + x % 4294967296 * (y % 4294967296) / 4294967296) % 4294967296 + x % 4294967296 * (y / 4294967296)) / 4294967296 < 18446744073709551616 := by omega
  go_enter Tryz.func218, Tryz.ntmps218
  go_wp2_with fail
  simp only [m_mask x hx, m_mask y hy, m_div, m_mul, m_add, m_wrap _ bd, m_wrap _ bb', m_wrap _ bt, m_mask _ bt, m_wrap _ bc', m_wrap _ bw, m_wrap _ ba', m_wrap _ bh1, m_wrap _ bh, m_wrapM (x * y)]
  rw [hhi]
  go_ret2
  exact ⟨rfl, rfl⟩
theorem mul64_is (x y : Int) (hx : 0 ≤ x ∧ x < 18446744073709551616) (hy : 0 ≤ y ∧ y < 18446744073709551616) (w : World) :
    Calls Tryz.prog 218 #[.int .u64 x, .int .u64 y] w fun e w' => e = .returned (.tuple #[.int .u64 (x * y / 18446744073709551616), .int .u64 (x * y % 18446744073709551616)]) ∧ w = w' := by
  obtain ⟨x, rfl⟩ := Int.eq_ofNat_of_zero_le hx.1
  obtain ⟨y, rfl⟩ := Int.eq_ofNat_of_zero_le hy.1
  refine (mul64N x y (by omega) (by omega) w).mono ?_
  rintro e w' ⟨rfl, rfl⟩
  refine ⟨?_, rfl⟩
  rw [Int.natCast_ediv, Int.natCast_emod, Int.natCast_mul]
  rfl
theorem absI_lt {z : Int} (h : I64 z) : absI z ≤ 9223372036854775808 := by unfold I64 at h; unfold absI; split <;> omega
theorem absI_mul (a b : Int) : (if decide (a < 0) != decide (b < 0) then -(absI a * absI b) else absI a * absI b) = a * b := by
  unfold absI
  by_cases ha : a < 0 <;> by_cases hb : b < 0 <;> simp [ha, hb, Int.neg_mul, Int.mul_neg]

set_option maxRecDepth 100000 in
theorem wMul_is (a b : Int) (ha : I64 a) (hb : I64 b) (W : World) : Calls Tryz.prog 175 #[.int .i64 a, .int .i64 b] W fun e w' => e = .returned (wv (a * b)) ∧ Below W.heap.size W w' := by
  have xa := absI_nn a
  have xb := absI_nn b
  have la := absI_lt ha
  have lb := absI_lt hb
  obtain ⟨x, hx⟩ : ∃ x, absI a = x := ⟨_, rfl⟩
  obtain ⟨y, hy⟩ : ∃ y, absI b = y := ⟨_, rfl⟩
  have hxy : x * y ≤ 9223372036854775808 * 9223372036854775808 := by
    rw [← hx, ← hy]
    exact Int.le_trans (Int.mul_le_mul_of_nonneg_right la xb) (Int.mul_le_mul_of_nonneg_left lb (by decide))
  have h0 : 0 ≤ x * y := by rw [← hx, ← hy]; exact Int.mul_nonneg xa xb
  have hm := absI_mul a b
  rw [hx, hy] at hm
  rw [hx] at xa la
  rw [hy] at xb lb
  have HM := Lib.hid hm
  have HX := Lib.hid hx
  have HY := Lib.hid hy
  clear hm hx hy
  go_enter Tryz.func175, Tryz.ntmps175
  go_wp2_with fail
  refine (sizes_is a b ha hb _).mono ?_
  rintro e w' ⟨rfl, hw⟩
  rw [HX.out, HY.out, ← hw]
  clear hw
  go_wp2_with fail
  refine (mul64_is x y ⟨xa, by omega⟩ ⟨xb, by omega⟩ _).mono ?_
  rintro e w' ⟨rfl, hw⟩
  rw [← hw]
  clear hw
  have e1 : Value.agg #[.int .u64 (x * y / 18446744073709551616), .int .u64 (x * y % 18446744073709551616)] = sv (x * y) := sv_is (by unfold hiS; omega) rfl
  go_wp2_with fail
  clear e1
  have hs := signed_is (x * y) (decide (a < 0) != decide (b < 0)) (W.alloc (Obj.cells #[Value.int IntKind.i64 0, Value.int IntKind.u64 0] 146))
  rw [HM.out] at hs
  refine hs.mono ?_
  rintro e w1 ⟨rfl, hK⟩
  have g := (Blk.new W #[Value.int IntKind.i64 0, Value.int IntKind.u64 0] 146).keep hK
  have hB := more (upA (upR W) _) hK
  have c0 := g.cell
  have f0 := g.frozen
  clear hK hs
  rw [wvU]
  go_wp2_with fail
  simp [bodyPost, results, Tryz.results175, go_sem, c0]
  exact ⟨rfl, upS (upS hB (p := ⟨_, _, _⟩) (Nat.le_refl _) _) (p := ⟨_, _, _⟩) (Nat.le_refl _) _⟩

def cmpI (a b : Int) : Int := if a = b then 0 else if a < b then -1 else 1
set_option maxRecDepth 100000 in
theorem wCmp_is (a b : Int) (ha : W127 a) (hb : W127 b) (W : World) : Calls Tryz.prog 209 #[wv a, wv b] W fun e w' => e = .returned (.int .i64 (cmpI a b)) ∧ Below W.heap.size W w' := by
  have h1 := hiW_of ha
  have h2 := hiW_of hb
  have l1 : loW a = a % 18446744073709551616 := rfl
  have l2 : loW b = b % 18446744073709551616 := rfl
  obtain ⟨ans, hans⟩ : ∃ ans, cmpI a b = ans := ⟨_, rfl⟩
  rw [hans]
  rw [wvU a, wvU b]
  by_cases e1 : hiW a = hiW b
  · by_cases e2 : loW a = loW b
    · have : ans = 0 := by rw [← hans]; unfold cmpI; rw [if_pos (by omega)]
      subst this
      rw [e1, e2]
      clear hans e1 e2 h1 h2 l1 l2
      go_enter Tryz.func209, Tryz.ntmps209
      go_wp2_with fail
      go_ret
      refine ⟨rfl, ?_⟩
      (repeat (first | refine upA ?_ _ | refine upD ?_)); exact upR _
    · have e3 : (loW a == loW b) = false := by simp [e2]
      by_cases e4 : loW a < loW b
      · have : ans = -1 := by rw [← hans]; unfold cmpI; rw [if_neg (by omega), if_pos (by omega)]
        subst this
        rw [e1]
        clear hans e1 h1 h2 l1 l2
        go_enter Tryz.func209, Tryz.ntmps209
        go_wp2_with fail
        go_ret
        refine ⟨rfl, ?_⟩
        (repeat (first | refine upA ?_ _ | refine upD ?_)); exact upR _
      · have : ans = 1 := by rw [← hans]; unfold cmpI; rw [if_neg (by omega), if_neg (by omega)]
        subst this
        rw [e1]
        clear hans e1 h1 h2 l1 l2
        go_enter Tryz.func209, Tryz.ntmps209
        go_wp2_with fail
        go_ret
        refine ⟨rfl, ?_⟩
        (repeat (first | refine upA ?_ _ | refine upD ?_)); exact upR _
  · have e3 : (hiW a == hiW b) = false := by simp [e1]
    by_cases e4 : hiW a < hiW b
    · have : ans = -1 := by rw [← hans]; unfold cmpI; rw [if_neg (by omega), if_pos (by omega)]
      subst this
      clear hans e1 h1 h2 l1 l2
      go_enter Tryz.func209, Tryz.ntmps209
      go_wp2_with fail
      go_ret
      refine ⟨rfl, ?_⟩
      (repeat (first | refine upA ?_ _ | refine upD ?_)); exact upR _
    · have : ans = 1 := by rw [← hans]; unfold cmpI; rw [if_neg (by omega), if_neg (by omega)]
      subst this
      clear hans e1 h1 h2 l1 l2
      go_enter Tryz.func209, Tryz.ntmps209
      go_wp2_with fail
      go_ret
      refine ⟨rfl, ?_⟩
      (repeat (first | refine upA ?_ _ | refine upD ?_)); exact upR _

end Go.Proofs.YtnofoommindocaaGreat.Base
