/- bits.Div64. -/
import Derived.Test.YtnofoommindocaaGreatNumG
import Derived.Shelf.Small.Bits
import Derived.Lib.ItoaNum
namespace Go.Proofs.YtnofoommindocaaGreat.Base
open Go.RowKit Go.Lib Go.Shelf
set_option linter.unusedVariables false
set_option linter.unusedSimpArgs false

def lays134_ren : Go.Shelf.Ren := ⟨fun | 134 => 243 | 129 => 245 | n => n, fun | 53 => 144 | 3 => 3 | 4 => 4 | 46 => 180 | 5 => 5 | 9 => 9 | n => n, fun | n => n⟩
theorem lays134 : Go.Proofs.Lays.n134 Tryz.prog lays134_ren := {
  mixed := by kernel_rfl
  f129 := Tryz.func245.trans (congrArg some (by kernel_rfl))
  f134 := Tryz.func243.trans (congrArg some (by kernel_rfl))
  t3 := Tryz.underlying3
  a3 := Tryz.isAgg3
  z3 := Tryz.sizeOf3
  v3 := Tryz.zeroValue3
  t4 := Tryz.underlying4
  a4 := Tryz.isAgg4
  z4 := Tryz.sizeOf4
  v4 := Tryz.zeroValue4
  t5 := Tryz.underlying5
  a5 := Tryz.isAgg5
  z5 := Tryz.sizeOf5
  v5 := Tryz.zeroValue5
  t9 := Tryz.underlying9
  a9 := Tryz.isAgg9
  z9 := Tryz.sizeOf9
  v9 := Tryz.zeroValue9
  t46 := Tryz.underlying180
  a46 := Tryz.isAgg180
  z46 := Tryz.sizeOf180
  v46 := Tryz.zeroValue180
  t53 := Tryz.underlying144
  a53 := Tryz.isAgg144
  z53 := Tryz.sizeOf144
  v53 := Tryz.zeroValue144 }

/-- One digit of a division: what a guess that is too great says. -/
theorem dig_gt {y1 y0 u u1 q r : Int} (h : q * y1 + r = u) : q * y0 > 4294967296 * r + u1 ↔ q * (y1 * 4294967296 + y0) > u * 4294967296 + u1 := by
  have e : q * (y1 * 4294967296 + y0) = (q * y1) * 4294967296 + q * y0 := by rw [Int.mul_add, Int.mul_assoc]
  rw [e]
  generalize q * y1 = a at *
  generalize q * y0 = b at *
  omega
theorem quo_lt {y n q : Int} (hy : 0 < y) : q * y > n ↔ n / y < q := by
  constructor
  · intro h
    exact Int.ediv_lt_of_lt_mul hy h
  · intro h
    have h2 : n < (n / y + 1) * y := Int.lt_mul_of_ediv_lt hy (Int.lt_succ _)
    have h3 : (n / y + 1) * y ≤ q * y := Int.mul_le_mul_of_nonneg_right (by omega) (by omega)
    omega
theorem dig_first {y1 y0 u u1 : Int} (h1 : 2147483648 ≤ y1) (h1' : y1 < 4294967296) (h0 : 0 ≤ y0) (h0' : y0 < 4294967296) (hu : 0 ≤ u) (hu' : u < y1 * 4294967296 + y0) (k0 : 0 ≤ u1) (k1 : u1 < 4294967296) :
    (u * 4294967296 + u1) / (y1 * 4294967296 + y0) ≤ u / y1 ∧ u / y1 ≤ 4294967297 := by
  have hy : 0 < y1 * 4294967296 + y0 := by omega
  constructor
  · refine Int.le_of_not_gt fun hc => ?_
    have h2 : u < (u / y1 + 1) * y1 := Int.lt_mul_of_ediv_lt (by omega) (Int.lt_succ _)
    have h3 : (u * 4294967296 + u1) / (y1 * 4294967296 + y0) * (y1 * 4294967296 + y0) ≤ u * 4294967296 + u1 := Int.ediv_mul_le _ (by omega)
    have h4 : (u / y1 + 1) * (y1 * 4294967296 + y0) ≤ (u * 4294967296 + u1) / (y1 * 4294967296 + y0) * (y1 * 4294967296 + y0) := Int.mul_le_mul_of_nonneg_right (by omega) (by omega)
    have h5 : (u / y1 + 1) * (y1 * 4294967296 + y0) = ((u / y1 + 1) * y1) * 4294967296 + (u / y1 + 1) * y0 := by rw [Int.mul_add, Int.mul_assoc]
    have h6 : 0 ≤ (u / y1 + 1) * y0 := Int.mul_nonneg (by have := Int.ediv_nonneg hu (by omega : 0 ≤ y1); omega) h0
    omega
  · have h2 : u / y1 * y1 ≤ u := Int.ediv_mul_le _ (by omega)
    refine Int.le_of_not_gt fun hc => ?_
    have h3 : 4294967298 * y1 ≤ u / y1 * y1 := Int.mul_le_mul_of_nonneg_right (by omega) (by omega)
    omega
theorem dig_lt {y u u1 : Int} (hu : 0 ≤ u) (hu' : u < y) (k0 : 0 ≤ u1) (k1 : u1 < 4294967296) : 0 ≤ (u * 4294967296 + u1) / y ∧ (u * 4294967296 + u1) / y < 4294967296 := by
  refine ⟨Int.ediv_nonneg (by omega) (by omega), Int.ediv_lt_of_lt_mul (by omega) ?_⟩
  omega
theorem dig_two {U y a1 a0 : Int} (hy : 0 < y) : 
    (U * 4294967296 * 4294967296 + a1 * 4294967296 + a0) = (((U * 4294967296 + a1) / y) * 4294967296 + (((U * 4294967296 + a1) % y) * 4294967296 + a0) / y) * y + (((U * 4294967296 + a1) % y) * 4294967296 + a0) % y := by
  have e1 := Int.mul_ediv_add_emod (U * 4294967296 + a1) y
  have e2 := Int.mul_ediv_add_emod (((U * 4294967296 + a1) % y) * 4294967296 + a0) y
  generalize (U * 4294967296 + a1) / y = q at *
  generalize (U * 4294967296 + a1) % y = r at *
  generalize (r * 4294967296 + a0) / y = q2 at *
  generalize (r * 4294967296 + a0) % y = r2 at *
  rw [Int.add_mul, Int.mul_right_comm q 4294967296 y]
  rw [Int.mul_comm y q] at e1
  rw [Int.mul_comm y q2] at e2
  generalize q * y = z at *
  generalize q2 * y = z2 at *
  omega
theorem quo_scaled {N y P q r : Int} (hy : 0 < y) (hP : 0 < P) (h : N * P = q * (y * P) + r) (h0 : 0 ≤ r) (h1 : r < y * P) : N / y = q ∧ r / P = N % y := by
  have e : r = (N - q * y) * P := by rw [Int.sub_mul, Int.mul_assoc]; omega
  have k0 : 0 ≤ N - q * y := by
    refine Int.le_of_not_gt fun hc => ?_
    have : (N - q * y) * P ≤ (-1) * P := Int.mul_le_mul_of_nonneg_right (by omega) (by omega)
    omega
  have k1 : N - q * y < y := by
    refine Int.lt_of_not_ge fun hc => ?_
    have : y * P ≤ (N - q * y) * P := Int.mul_le_mul_of_nonneg_right hc (by omega)
    omega
  have e1 : N = y * q + (N - q * y) := by rw [Int.mul_comm y q]; omega
  have hd : N / y = q := by
    rw [e1, Int.mul_add_ediv_left _ _ (by omega : y ≠ 0), Int.ediv_eq_zero_of_lt k0 k1]; omega
  have hm : N % y = N - q * y := by
    have := Int.mul_ediv_add_emod N y
    rw [hd, Int.mul_comm] at this
    omega
  exact ⟨hd, by rw [hm, e, Int.mul_ediv_cancel _ (by omega)]⟩
theorem div_pre (hi lo y : Int) (s : Nat) (h0 : 0 ≤ hi) (h1 : hi < y) (hl0 : 0 ≤ lo) (hl1 : lo < 18446744073709551616) (hs : s ≤ 63) (hY : y * 2 ^ s < 18446744073709551616) :
    hi * 2 ^ s < 18446744073709551616 ∧ 0 ≤ hi * 2 ^ s ∧ lo / 2 ^ (64 - s) < 2 ^ s ∧ 0 ≤ lo / 2 ^ (64 - s) ∧ lo / 2 ^ (64 - s) < 18446744073709551616 ∧
    (hi * 18446744073709551616 + lo) * 2 ^ s = (hi * 2 ^ s + lo / 2 ^ (64 - s)) * 18446744073709551616 + lo * 2 ^ s % 18446744073709551616 ∧ hi * 2 ^ s + lo / 2 ^ (64 - s) < y * 2 ^ s := by
  have hP : (0 : Int) < 2 ^ s := Int.pow_pos (by decide)
  have hR : (0 : Int) < 2 ^ (64 - s) := Int.pow_pos (by decide)
  have hPR : (2 : Int) ^ (64 - s) * 2 ^ s = 18446744073709551616 := by rw [← Int.pow_add, show 64 - s + s = 64 by omega]; decide
  have a1 : hi * 2 ^ s < y * 2 ^ s := Int.mul_lt_mul_of_pos_right h1 hP
  have a2 : 0 ≤ hi * 2 ^ s := Int.mul_nonneg h0 (by omega)
  have a3 : (hi + 1) * 2 ^ s ≤ y * 2 ^ s := Int.mul_le_mul_of_nonneg_right (by omega) (by omega)
  have a4 : lo / 2 ^ (64 - s) < 2 ^ s := Int.ediv_lt_of_lt_mul hR (by rw [Int.mul_comm, hPR]; exact hl1)
  have a5 : 0 ≤ lo / 2 ^ (64 - s) := Int.ediv_nonneg hl0 (by omega)
  have a6 : lo / 2 ^ (64 - s) ≤ lo := Int.ediv_le_self _ hl0
  have a7 : lo * 2 ^ s / 18446744073709551616 = lo / 2 ^ (64 - s) := by rw [← hPR]; exact Int.mul_ediv_mul_of_pos_left _ _ hP
  have a8 := Int.mul_ediv_add_emod (lo * 2 ^ s) 18446744073709551616
  rw [a7] at a8
  have a9 : (hi * 18446744073709551616 + lo) * 2 ^ s = (hi * 2 ^ s) * 18446744073709551616 + lo * 2 ^ s := by rw [Int.add_mul, Int.mul_right_comm]
  rw [Int.add_mul, Int.one_mul] at a3
  refine ⟨by omega, a2, a4, a5, by omega, ?_, by omega⟩
  rw [a9]
  generalize lo / 2 ^ (64 - s) = c at *
  generalize lo * 2 ^ s = d at *
  generalize hi * 2 ^ s = e at *
  omega

theorem lz_is (y : Int) (h0 : 1 ≤ y) (h1 : y < 18446744073709551616) (W : World) : Calls Tryz.prog 243 #[.int .u64 y] W fun e w' => (∃ s : Nat, s ≤ 63 ∧ e = .returned (.int .i64 s) ∧ 9223372036854775808 ≤ y * 2 ^ s ∧ y * 2 ^ s < 18446744073709551616) ∧ W = w' := by
  refine (Any.bits_LeadingZeros64 lays134 y W (by omega) (by omega)).mono ?_
  rintro e w' ⟨rfl, rfl⟩
  refine ⟨?_, rfl⟩
  obtain ⟨n, rfl⟩ := Int.eq_ofNat_of_zero_le (show 0 ≤ y by omega)
  have hn : n < 2 ^ 64 := by omega
  obtain ⟨b1, b2, b3⟩ := bitLenAux_bounds 64 n hn (by omega)
  have hle := Any.bitLen_le64 (n : Int) (by omega) (by omega)
  simp only [Int.toNat_natCast] at hle ⊢
  have hb : Go.Lib.bitLen n = bitLenAux 64 n := rfl
  rw [← hb] at b1 b2 b3
  generalize Go.Lib.bitLen n = k at *
  refine ⟨64 - k, by omega, by congr 2; omega, ?_, ?_⟩
  · have e : (2 : Nat) ^ (k - 1) * 2 ^ (64 - k) = 2 ^ 63 := by rw [← Nat.pow_add]; congr 1; omega
    have := Nat.mul_le_mul_right (2 ^ (64 - k)) b2
    rw [e, show (2 : Nat) ^ 63 = 9223372036854775808 by decide] at this
    rw [show ((n : Int) * 2 ^ (64 - k)) = ((n * 2 ^ (64 - k) : Nat) : Int) by simp]
    omega
  · have e : (2 : Nat) ^ k * 2 ^ (64 - k) = 2 ^ 64 := by rw [← Nat.pow_add]; congr 1; omega
    have := Nat.mul_lt_mul_of_pos_right b3 (show 0 < 2 ^ (64 - k) from Nat.pow_pos (by decide))
    rw [e, show (2 : Nat) ^ 64 = 18446744073709551616 by decide] at this
    rw [show ((n : Int) * 2 ^ (64 - k)) = ((n * 2 ^ (64 - k) : Nat) : Int) by simp]
    omega

theorem and32 (n : Int) (h : 0 ≤ n ∧ n < 18446744073709551616) : bits .and .u64 n 4294967295 = n % 4294967296 := by
  obtain ⟨k, rfl⟩ := Int.eq_ofNat_of_zero_le h.1
  rw [m_mask k (by omega)]
  omega

set_option maxHeartbeats 2000000 in
set_option maxRecDepth 100000 in
theorem div64_is (hi lo y : Int) (h0 : 0 ≤ hi) (h1 : hi < y) (hl0 : 0 ≤ lo) (hl1 : lo < 18446744073709551616) (hy : y < 18446744073709551616) (W : World) :
    Calls Tryz.prog 230 #[.int .u64 hi, .int .u64 lo, .int .u64 y] W fun e w' => e = .returned (.tuple #[.int .u64 ((hi * 18446744073709551616 + lo) / y), .int .u64 ((hi * 18446744073709551616 + lo) % y)]) ∧ Below W.heap.size W w' := by
  have hyp : ¬ y ≤ hi := by omega
  have hy0 : ¬ y = 0 := by omega
  by_cases hz : hi = 0
  · subst hz
    have e0 : (0 : Int) * 18446744073709551616 + lo = lo := by omega
    rw [e0]
    clear e0
    go_enter Tryz.func230, Tryz.ntmps230
    go_wp2_with fail
    have k1 : IntKind.u64.wrap (lo.tdiv y) = lo / y := by rw [Int.tdiv_eq_ediv_of_nonneg hl0, IntKind.wrap_u64]; have := Int.ediv_le_self y hl0; have := Int.ediv_nonneg hl0 (by omega : 0 ≤ y); omega
    have k2 : lo.tmod y = lo % y := Int.tmod_eq_emod_of_nonneg hl0
    have k3 : IntKind.u64.wrap (lo % y) = lo % y := by rw [IntKind.wrap_u64]; have := Int.emod_lt_of_pos lo h1; have := Int.emod_nonneg lo hy0; omega
    go_quiet (fail)
    go_wp2_with fail
    go_ret2
    exact ⟨rfl, below_drewN _ _⟩
  · go_enter Tryz.func230, Tryz.ntmps230
    go_wp2_with fail
    refine (lz_is y (by omega) hy _).mono ?_
    rintro e w' ⟨⟨s, hs, rfl, hs1, hs2⟩, rfl⟩
    obtain ⟨p1, p2, p3, p4, p5, p6, p7⟩ := div_pre hi lo y s h0 h1 hl0 hl1 hs hs2
    go_wp2_with fail
    have e10 : bits .and .u64 (y * 2 ^ s) 4294967295 = y * 2 ^ s % 4294967296 := and32 _ ⟨by omega, hs2⟩
    have e11 : bits .or .u64 (hi * 2 ^ s) (lo / 2 ^ (64 - s)) = hi * 2 ^ s + lo / 2 ^ (64 - s) := by
      rw [bits_or_comm _ _ ⟨p2, p1⟩ ⟨p4, p5⟩, or_apart s _ _ p4 p3 p2 p1 ⟨hi.toNat, by rw [Int.mul_comm, Int.toNat_of_nonneg h0]⟩ p5, Int.add_comm]
    have e12 : IntKind.u64.wrap (lo * 2 ^ s) = lo * 2 ^ s % 18446744073709551616 := IntKind.wrap_u64 _
    have e14 : bits .and .u64 (lo * 2 ^ s % 18446744073709551616) 4294967295 = lo * 2 ^ s % 18446744073709551616 % 4294967296 := and32 _ (by omega)
    simp only [e10, e11, e12, e14]
    have q0 : 0 ≤ lo * 2 ^ s % 18446744073709551616 := by omega
    have q1 : lo * 2 ^ s % 18446744073709551616 < 18446744073709551616 := by omega
    have p8 : 0 ≤ hi * 2 ^ s + lo / 2 ^ (64 - s) := by omega
    have hP : (0 : Int) < 2 ^ s := Int.pow_pos (by decide)
    have hFIN := Lib.hid (fun (q r : Int) (h : (hi * 18446744073709551616 + lo) * 2 ^ s = q * (y * 2 ^ s) + r) (h0 : 0 ≤ r) (h1 : r < y * 2 ^ s) => quo_scaled (by omega : 0 < y) hP h h0 h1)
    rw [p6] at hFIN
    clear e10 e11 e12 e14 p1 p2 p3 p4 p5 p6
    generalize hi * 2 ^ s + lo / 2 ^ (64 - s) = U at *
    generalize lo * 2 ^ s % 18446744073709551616 = L at *
    generalize y * 2 ^ s = Y at *
    obtain ⟨y1, hy1⟩ : ∃ y1, Y / 4294967296 = y1 := ⟨_, rfl⟩
    obtain ⟨y0, hy0e⟩ : ∃ y0, Y % 4294967296 = y0 := ⟨_, rfl⟩
    obtain ⟨u1, hu1e⟩ : ∃ u1, L / 4294967296 = u1 := ⟨_, rfl⟩
    obtain ⟨u0, hu0e⟩ : ∃ u0, L % 4294967296 = u0 := ⟨_, rfl⟩
    have hYe : Y = y1 * 4294967296 + y0 := by omega
    have hLe : L = u1 * 4294967296 + u0 := by omega
    have ha : 2147483648 ≤ y1 := by omega
    have ha' : y1 < 4294967296 := by omega
    have hy0' : 0 ≤ y0 := by omega
    have hy0'' : y0 < 4294967296 := by omega
    have hu0 : 0 ≤ u1 := by omega
    have hu1 : u1 < 4294967296 := by omega
    have hv0 : 0 ≤ u0 := by omega
    have hv1 : u0 < 4294967296 := by omega
    have p7' : U < y1 * 4294967296 + y0 := by omega
    have hU64 : U < 18446744073709551616 := by omega
    have t1 : IntKind.u64.wrap (U.tdiv y1) = U / y1 := by rw [Int.tdiv_eq_ediv_of_nonneg p8, IntKind.wrap_u64]; have := Int.ediv_le_self y1 p8; have := Int.ediv_nonneg p8 (by omega : 0 ≤ y1); omega
    have hdm := Int.mul_ediv_add_emod U y1
    have hi2 : 0 ≤ U % y1 := Int.emod_nonneg _ (by omega)
    have hi3' : U % y1 < y1 := Int.emod_lt_of_pos _ (by omega)
    have hi1 : U / y1 * y1 + U % y1 = U := by rw [Int.mul_comm]; exact hdm
    have hi3 : U % y1 < 4294967296 := by omega
    have hz0 : 0 ≤ U / y1 * y1 := Int.mul_nonneg (Int.ediv_nonneg p8 (by omega)) (by omega)
    have t2 : IntKind.u64.wrap (U / y1 * y1) = U / y1 * y1 := by rw [IntKind.wrap_u64]; generalize U / y1 * y1 = z at *; omega
    have t3 : IntKind.u64.wrap (U - U / y1 * y1) = U % y1 := by rw [IntKind.wrap_u64]; generalize U / y1 * y1 = z at *; omega
    simp only [hy1, hy0e, hu1e, hu0e, t1, t2, t3]
    have hf1 := dig_first ha ha' hy0' hy0'' p8 p7' hu0 hu1
    rw [hYe] at hFIN ⊢
    rw [hLe] at hFIN ⊢
    clear hy1 hy0e hu1e hu0e hYe hLe p7 q0 q1 hs1 hs2 hi3' hdm t1 t2 t3 hz0
    go_loopw [15, 16] (fun v z wr => ∃ (q r : Int), v = .int .u64 q ∧ z = .int .u64 r ∧ Hid (q * y1 + r = U) ∧ Hid ((U * 4294967296 + u1) / (y1 * 4294967296 + y0) ≤ q) ∧ q ≤ 4294967297 ∧ 0 ≤ r ∧ r < 4294967296 ∧ wr = W) (fun v _ _ => (RowKit.intOf v).toNat)
    case atStart => exact ⟨_, _, rfl, rfl, Lib.hid hi1, Lib.hid hf1.1, hf1.2, hi2, hi3, rfl⟩
    case round =>
      obtain ⟨q, r, rfl, rfl, hqr, hQ, hq2, hr0, hr1, rfl⟩ := hrel
      have hm := quo_lt (y := y1 * 4294967296 + y0) (n := U * 4294967296 + u1) (q := q) (by omega)
      have hg := dig_gt (y0 := y0) (u1 := u1) hqr.out
      have hl := dig_lt (y := y1 * 4294967296 + y0) (u := U) (u1 := u1) p8 p7' hu0 hu1
      have hQ' := hQ.out
      have hq0 : 0 ≤ q := by omega
      have hb0 : 0 ≤ q * y0 := Int.mul_nonneg hq0 hy0'
      have hb1 : q * y0 ≤ 4294967297 * 4294967295 := Int.le_trans (Int.mul_le_mul_of_nonneg_right hq2 hy0') (Int.mul_le_mul_of_nonneg_left (by omega) (by decide))
      have hw1 : IntKind.u64.wrap (q * y0) = q * y0 := by rw [IntKind.wrap_u64]; omega
      have hw2 : IntKind.u64.wrap (4294967296 * r) = 4294967296 * r := by rw [IntKind.wrap_u64]; omega
      have hw3 : IntKind.u64.wrap (4294967296 * r + u1) = 4294967296 * r + u1 := by rw [IntKind.wrap_u64]; omega
      have hw4 : IntKind.u64.wrap (r + y1) = r + y1 := by rw [IntKind.wrap_u64]; omega
      by_cases c1 : 4294967296 ≤ q
      · have hlt : (U * 4294967296 + u1) / (y1 * 4294967296 + y0) < q := by omega
        have hq1 : 1 ≤ q := by omega
        have hw5 : IntKind.u64.wrap (q - 1) = q - 1 := by rw [IntKind.wrap_u64]; omega
        have hqr2 := Lib.hid (show (q - 1) * y1 + (r + y1) = U by have := hqr.out; rw [Int.sub_mul, Int.one_mul]; omega)
        have hQ2 := Lib.hid (show (U * 4294967296 + u1) / (y1 * 4294967296 + y0) ≤ q - 1 by omega)
        by_cases c3 : 4294967296 ≤ r + y1
        · have heq : q - 1 = (U * 4294967296 + u1) / (y1 * 4294967296 + y0) := by
            have hg2 := dig_gt (y0 := y0) (u1 := u1) hqr2.out
            have hm2 := quo_lt (y := y1 * 4294967296 + y0) (n := U * 4294967296 + u1) (q := q - 1) (by omega)
            have hb : (q - 1) * y0 ≤ 4294967296 * y0 := Int.mul_le_mul_of_nonneg_right (by omega) hy0'
            have : ¬ (U * 4294967296 + u1) / (y1 * 4294967296 + y0) < q - 1 := fun h => absurd (hg2.2 (hm2.2 h)) (by omega)
            have := hQ2.out
            omega
          have HEQ := Lib.hid heq
          clear hm hg hl hQ hQ' hqr hlt hqr2 hQ2 heq
          go_wp2_with fail
          have hq8 := HEQ.out
          have hl1 := dig_lt (y := y1 * 4294967296 + y0) (u := U) (u1 := u1) p8 p7' hu0 hu1
          have hTWO := Lib.hid (dig_two (U := U) (y := y1 * 4294967296 + y0) (a1 := u1) (a0 := u0) (by omega))
          have hd := Int.mul_ediv_add_emod (U * 4294967296 + u1) (y1 * 4294967296 + y0)
          have hR0 : 0 ≤ (U * 4294967296 + u1) % (y1 * 4294967296 + y0) := Int.emod_nonneg _ (by omega)
          have hR1 : (U * 4294967296 + u1) % (y1 * 4294967296 + y0) < y1 * 4294967296 + y0 := Int.emod_lt_of_pos _ (by omega)
          obtain ⟨Q1, hqq⟩ : ∃ Q1, q - 1 = Q1 := ⟨_, rfl⟩
          rw [hqq] at hq8 ⊢
          rw [← hq8] at hd hTWO hl1
          generalize (U * 4294967296 + u1) % (y1 * 4294967296 + y0) = R1 at *
          have hTWO' := Lib.hid (show U * 18446744073709551616 + (u1 * 4294967296 + u0) = (Q1 * 4294967296 + (R1 * 4294967296 + u0) / (y1 * 4294967296 + y0)) * (y1 * 4294967296 + y0) + (R1 * 4294967296 + u0) % (y1 * 4294967296 + y0) by rw [← hTWO.out]; omega)
          replace hTWO := hTWO'
          have tR : IntKind.u64.wrap (IntKind.u64.wrap (IntKind.u64.wrap (U * 4294967296) + u1) - IntKind.u64.wrap (Q1 * (y1 * 4294967296 + y0))) = R1 := by
            rw [Int.mul_comm] at hd
            generalize Q1 * (y1 * 4294967296 + y0) = z at *
            rw [IntKind.wrap_u64, IntKind.wrap_u64, IntKind.wrap_u64, IntKind.wrap_u64]
            omega
          have hR64 : R1 < 18446744073709551616 := by omega
          have t1 : IntKind.u64.wrap (R1.tdiv y1) = R1 / y1 := by rw [Int.tdiv_eq_ediv_of_nonneg hR0, IntKind.wrap_u64]; have := Int.ediv_le_self y1 hR0; have := Int.ediv_nonneg hR0 (by omega : 0 ≤ y1); omega
          have hdm := Int.mul_ediv_add_emod R1 y1
          have hj2 : 0 ≤ R1 % y1 := Int.emod_nonneg _ (by omega)
          have hj3' : R1 % y1 < y1 := Int.emod_lt_of_pos _ (by omega)
          have hj1 : R1 / y1 * y1 + R1 % y1 = R1 := by rw [Int.mul_comm]; exact hdm
          have hj3 : R1 % y1 < 4294967296 := by omega
          have hz0 : 0 ≤ R1 / y1 * y1 := Int.mul_nonneg (Int.ediv_nonneg hR0 (by omega)) (by omega)
          have t2 : IntKind.u64.wrap (R1 / y1 * y1) = R1 / y1 * y1 := by rw [IntKind.wrap_u64]; generalize R1 / y1 * y1 = z at *; omega
          have t3 : IntKind.u64.wrap (R1 - R1 / y1 * y1) = R1 % y1 := by rw [IntKind.wrap_u64]; generalize R1 / y1 * y1 = z at *; omega
          simp only [tR, t1, t2, t3]
          have hf2 := dig_first ha ha' hy0' hy0'' hR0 hR1 hv0 hv1
          clear hqq hq8 hd hdm t1 t2 t3 tR hz0 hj3' hf1 hi1 hi2 hi3 HEQ c1
          try clear hw1 hw2 hw3 hw4
          try clear hw5
          try clear c2
          try clear c3
          clear hb0 hb1 hq0 hq2 hr0 hr1
          try clear hq1
          go_loopw [18, 16] (fun v z w2 => ∃ (q r : Int), v = .int .u64 q ∧ z = .int .u64 r ∧ Hid (q * y1 + r = R1) ∧ Hid ((R1 * 4294967296 + u0) / (y1 * 4294967296 + y0) ≤ q) ∧ q ≤ 4294967297 ∧ 0 ≤ r ∧ r < 4294967296 ∧ w2 = wr) (fun v _ _ => (RowKit.intOf v).toNat)
          case atStart => exact ⟨_, _, rfl, rfl, Lib.hid hj1, Lib.hid hf2.1, hf2.2, hj2, hj3, rfl⟩
          case round =>
            obtain ⟨q, r, rfl, rfl, hqr, hQ, hq2, hr0, hr1, rfl⟩ := hrel
            have hm := quo_lt (y := y1 * 4294967296 + y0) (n := R1 * 4294967296 + u0) (q := q) (by omega)
            have hg := dig_gt (y0 := y0) (u1 := u0) hqr.out
            have hl := dig_lt (y := y1 * 4294967296 + y0) (u := R1) (u1 := u0) hR0 hR1 hv0 hv1
            have hQ' := hQ.out
            have hq0 : 0 ≤ q := by omega
            have hb0 : 0 ≤ q * y0 := Int.mul_nonneg hq0 hy0'
            have hb1 : q * y0 ≤ 4294967297 * 4294967295 := Int.le_trans (Int.mul_le_mul_of_nonneg_right hq2 hy0') (Int.mul_le_mul_of_nonneg_left (by omega) (by decide))
            have hw1 : IntKind.u64.wrap (q * y0) = q * y0 := by rw [IntKind.wrap_u64]; omega
            have hw2 : IntKind.u64.wrap (4294967296 * r) = 4294967296 * r := by rw [IntKind.wrap_u64]; omega
            have hw3 : IntKind.u64.wrap (4294967296 * r + u0) = 4294967296 * r + u0 := by rw [IntKind.wrap_u64]; omega
            have hw4 : IntKind.u64.wrap (r + y1) = r + y1 := by rw [IntKind.wrap_u64]; omega
            by_cases c1 : 4294967296 ≤ q
            · have hlt : (R1 * 4294967296 + u0) / (y1 * 4294967296 + y0) < q := by omega
              have hq1 : 1 ≤ q := by omega
              have hw5 : IntKind.u64.wrap (q - 1) = q - 1 := by rw [IntKind.wrap_u64]; omega
              have hqr2 := Lib.hid (show (q - 1) * y1 + (r + y1) = R1 by have := hqr.out; rw [Int.sub_mul, Int.one_mul]; omega)
              have hQ2 := Lib.hid (show (R1 * 4294967296 + u0) / (y1 * 4294967296 + y0) ≤ q - 1 by omega)
              by_cases c3 : 4294967296 ≤ r + y1
              · have heq : q - 1 = (R1 * 4294967296 + u0) / (y1 * 4294967296 + y0) := by
                  have hg2 := dig_gt (y0 := y0) (u1 := u0) hqr2.out
                  have hm2 := quo_lt (y := y1 * 4294967296 + y0) (n := R1 * 4294967296 + u0) (q := q - 1) (by omega)
                  have hb : (q - 1) * y0 ≤ 4294967296 * y0 := Int.mul_le_mul_of_nonneg_right (by omega) hy0'
                  have : ¬ (R1 * 4294967296 + u0) / (y1 * 4294967296 + y0) < q - 1 := fun h => absurd (hg2.2 (hm2.2 h)) (by omega)
                  have := hQ2.out
                  omega
                have HEQ := Lib.hid heq
                clear hm hg hl hQ hQ' hqr hlt hqr2 hQ2 heq
                go_wp2_with fail
                have hl2 := dig_lt (y := y1 * 4294967296 + y0) (u := R1) (u1 := u0) hR0 hR1 hv0 hv1
                have hd2 := Int.mul_ediv_add_emod (R1 * 4294967296 + u0) (y1 * 4294967296 + y0)
                have hq9 := HEQ.out
                obtain ⟨Q0, hqq⟩ : ∃ Q0, q - 1 = Q0 := ⟨_, rfl⟩
                rw [hqq] at hq9 ⊢
                have hF := hFIN.out (Q1 * 4294967296 + Q0) ((R1 * 4294967296 + u0) % (y1 * 4294967296 + y0)) (by rw [hq9]; exact hTWO.out) (Int.emod_nonneg _ (by omega)) (Int.emod_lt_of_pos _ (by omega))
                have g0 : 0 ≤ (R1 * 4294967296 + u0) % (y1 * 4294967296 + y0) := Int.emod_nonneg _ (by omega)
                have g1 : (R1 * 4294967296 + u0) % (y1 * 4294967296 + y0) < y1 * 4294967296 + y0 := Int.emod_lt_of_pos _ (by omega)
                rw [← hq9] at hl2 hd2
                have f0 : IntKind.u64.wrap (Q1 * 4294967296) = Q1 * 4294967296 := by rw [IntKind.wrap_u64]; omega
                have f1 : IntKind.u64.wrap (Q1 * 4294967296 + Q0) = Q1 * 4294967296 + Q0 := by rw [IntKind.wrap_u64]; omega
                have f2 : IntKind.u64.wrap (IntKind.u64.wrap (IntKind.u64.wrap (R1 * 4294967296) + u0) - IntKind.u64.wrap (Q0 * (y1 * 4294967296 + y0))) = (R1 * 4294967296 + u0) % (y1 * 4294967296 + y0) := by
                  rw [Int.mul_comm] at hd2
                  generalize Q0 * (y1 * 4294967296 + y0) = z at *
                  generalize (R1 * 4294967296 + u0) % (y1 * 4294967296 + y0) = rr at *
                  rw [IntKind.wrap_u64, IntKind.wrap_u64, IntKind.wrap_u64, IntKind.wrap_u64]
                  omega
                go_ret2
                simp only [f0, f1, f2, hF.1, hF.2]
                first | exact ⟨rfl, Below.refl _ _⟩ | (refine ⟨?_, Below.refl _ _⟩; rfl) | trace_state
              · clear hm hg hl hQ hQ' hqr hlt
                go_wp2_with fail
                go_roundw
                case rel => exact ⟨q - 1, r + y1, by first | rfl | go_num, by first | rfl | go_num, hqr2, hQ2, by omega, by omega, by omega, by trivial⟩
                case measure => simp [RowKit.intOf]; omega
            · by_cases c2 : q * y0 > 4294967296 * r + u0
              · have hlt : (R1 * 4294967296 + u0) / (y1 * 4294967296 + y0) < q := hm.1 (hg.1 c2)
                have hq1 : 1 ≤ q := by omega
                have hw5 : IntKind.u64.wrap (q - 1) = q - 1 := by rw [IntKind.wrap_u64]; omega
                have hqr2 := Lib.hid (show (q - 1) * y1 + (r + y1) = R1 by have := hqr.out; rw [Int.sub_mul, Int.one_mul]; omega)
                have hQ2 := Lib.hid (show (R1 * 4294967296 + u0) / (y1 * 4294967296 + y0) ≤ q - 1 by omega)
                by_cases c3 : 4294967296 ≤ r + y1
                · have heq : q - 1 = (R1 * 4294967296 + u0) / (y1 * 4294967296 + y0) := by
                    have hg2 := dig_gt (y0 := y0) (u1 := u0) hqr2.out
                    have hm2 := quo_lt (y := y1 * 4294967296 + y0) (n := R1 * 4294967296 + u0) (q := q - 1) (by omega)
                    have hb : (q - 1) * y0 ≤ 4294967296 * y0 := Int.mul_le_mul_of_nonneg_right (by omega) hy0'
                    have : ¬ (R1 * 4294967296 + u0) / (y1 * 4294967296 + y0) < q - 1 := fun h => absurd (hg2.2 (hm2.2 h)) (by omega)
                    have := hQ2.out
                    omega
                  have HEQ := Lib.hid heq
                  clear hm hg hl hQ hQ' hqr hlt hqr2 hQ2 heq
                  go_wp2_with fail
                  have hl2 := dig_lt (y := y1 * 4294967296 + y0) (u := R1) (u1 := u0) hR0 hR1 hv0 hv1
                  have hd2 := Int.mul_ediv_add_emod (R1 * 4294967296 + u0) (y1 * 4294967296 + y0)
                  have hq9 := HEQ.out
                  obtain ⟨Q0, hqq⟩ : ∃ Q0, q - 1 = Q0 := ⟨_, rfl⟩
                  rw [hqq] at hq9 ⊢
                  have hF := hFIN.out (Q1 * 4294967296 + Q0) ((R1 * 4294967296 + u0) % (y1 * 4294967296 + y0)) (by rw [hq9]; exact hTWO.out) (Int.emod_nonneg _ (by omega)) (Int.emod_lt_of_pos _ (by omega))
                  have g0 : 0 ≤ (R1 * 4294967296 + u0) % (y1 * 4294967296 + y0) := Int.emod_nonneg _ (by omega)
                  have g1 : (R1 * 4294967296 + u0) % (y1 * 4294967296 + y0) < y1 * 4294967296 + y0 := Int.emod_lt_of_pos _ (by omega)
                  rw [← hq9] at hl2 hd2
                  have f0 : IntKind.u64.wrap (Q1 * 4294967296) = Q1 * 4294967296 := by rw [IntKind.wrap_u64]; omega
                  have f1 : IntKind.u64.wrap (Q1 * 4294967296 + Q0) = Q1 * 4294967296 + Q0 := by rw [IntKind.wrap_u64]; omega
                  have f2 : IntKind.u64.wrap (IntKind.u64.wrap (IntKind.u64.wrap (R1 * 4294967296) + u0) - IntKind.u64.wrap (Q0 * (y1 * 4294967296 + y0))) = (R1 * 4294967296 + u0) % (y1 * 4294967296 + y0) := by
                    rw [Int.mul_comm] at hd2
                    generalize Q0 * (y1 * 4294967296 + y0) = z at *
                    generalize (R1 * 4294967296 + u0) % (y1 * 4294967296 + y0) = rr at *
                    rw [IntKind.wrap_u64, IntKind.wrap_u64, IntKind.wrap_u64, IntKind.wrap_u64]
                    omega
                  go_ret2
                  simp only [f0, f1, f2, hF.1, hF.2]
                  first | exact ⟨rfl, Below.refl _ _⟩ | (refine ⟨?_, Below.refl _ _⟩; rfl) | trace_state
                · clear hm hg hl hQ hQ' hqr hlt
                  go_wp2_with fail
                  go_roundw
                  case rel => exact ⟨q - 1, r + y1, by first | rfl | go_num, by first | rfl | go_num, hqr2, hQ2, by omega, by omega, by omega, by trivial⟩
                  case measure => simp [RowKit.intOf]; omega
              · have heq : q = (R1 * 4294967296 + u0) / (y1 * 4294967296 + y0) := by
                  have : ¬ (R1 * 4294967296 + u0) / (y1 * 4294967296 + y0) < q := fun h => c2 (hg.2 (hm.2 h))
                  omega
                have HEQ := Lib.hid heq
                clear hm hg hl hQ hQ' hqr heq
                go_wp2_with fail
                have hl2 := dig_lt (y := y1 * 4294967296 + y0) (u := R1) (u1 := u0) hR0 hR1 hv0 hv1
                have hd2 := Int.mul_ediv_add_emod (R1 * 4294967296 + u0) (y1 * 4294967296 + y0)
                have hq9 := HEQ.out
                obtain ⟨Q0, hqq⟩ : ∃ Q0, q = Q0 := ⟨_, rfl⟩
                rw [hqq] at hq9 ⊢
                have hF := hFIN.out (Q1 * 4294967296 + Q0) ((R1 * 4294967296 + u0) % (y1 * 4294967296 + y0)) (by rw [hq9]; exact hTWO.out) (Int.emod_nonneg _ (by omega)) (Int.emod_lt_of_pos _ (by omega))
                have g0 : 0 ≤ (R1 * 4294967296 + u0) % (y1 * 4294967296 + y0) := Int.emod_nonneg _ (by omega)
                have g1 : (R1 * 4294967296 + u0) % (y1 * 4294967296 + y0) < y1 * 4294967296 + y0 := Int.emod_lt_of_pos _ (by omega)
                rw [← hq9] at hl2 hd2
                have f0 : IntKind.u64.wrap (Q1 * 4294967296) = Q1 * 4294967296 := by rw [IntKind.wrap_u64]; omega
                have f1 : IntKind.u64.wrap (Q1 * 4294967296 + Q0) = Q1 * 4294967296 + Q0 := by rw [IntKind.wrap_u64]; omega
                have f2 : IntKind.u64.wrap (IntKind.u64.wrap (IntKind.u64.wrap (R1 * 4294967296) + u0) - IntKind.u64.wrap (Q0 * (y1 * 4294967296 + y0))) = (R1 * 4294967296 + u0) % (y1 * 4294967296 + y0) := by
                  rw [Int.mul_comm] at hd2
                  generalize Q0 * (y1 * 4294967296 + y0) = z at *
                  generalize (R1 * 4294967296 + u0) % (y1 * 4294967296 + y0) = rr at *
                  rw [IntKind.wrap_u64, IntKind.wrap_u64, IntKind.wrap_u64, IntKind.wrap_u64]
                  omega
                go_ret2
                simp only [f0, f1, f2, hF.1, hF.2]
                first | exact ⟨rfl, Below.refl _ _⟩ | (refine ⟨?_, Below.refl _ _⟩; rfl) | trace_state
        · clear hm hg hl hQ hQ' hqr hlt
          go_wp2_with fail
          go_roundw
          case rel => exact ⟨q - 1, r + y1, by first | rfl | go_num, by first | rfl | go_num, hqr2, hQ2, by omega, by omega, by omega, by trivial⟩
          case measure => simp [RowKit.intOf]; omega
      · by_cases c2 : q * y0 > 4294967296 * r + u1
        · have hlt : (U * 4294967296 + u1) / (y1 * 4294967296 + y0) < q := hm.1 (hg.1 c2)
          have hq1 : 1 ≤ q := by omega
          have hw5 : IntKind.u64.wrap (q - 1) = q - 1 := by rw [IntKind.wrap_u64]; omega
          have hqr2 := Lib.hid (show (q - 1) * y1 + (r + y1) = U by have := hqr.out; rw [Int.sub_mul, Int.one_mul]; omega)
          have hQ2 := Lib.hid (show (U * 4294967296 + u1) / (y1 * 4294967296 + y0) ≤ q - 1 by omega)
          by_cases c3 : 4294967296 ≤ r + y1
          · have heq : q - 1 = (U * 4294967296 + u1) / (y1 * 4294967296 + y0) := by
              have hg2 := dig_gt (y0 := y0) (u1 := u1) hqr2.out
              have hm2 := quo_lt (y := y1 * 4294967296 + y0) (n := U * 4294967296 + u1) (q := q - 1) (by omega)
              have hb : (q - 1) * y0 ≤ 4294967296 * y0 := Int.mul_le_mul_of_nonneg_right (by omega) hy0'
              have : ¬ (U * 4294967296 + u1) / (y1 * 4294967296 + y0) < q - 1 := fun h => absurd (hg2.2 (hm2.2 h)) (by omega)
              have := hQ2.out
              omega
            have HEQ := Lib.hid heq
            clear hm hg hl hQ hQ' hqr hlt hqr2 hQ2 heq
            go_wp2_with fail
            have hq8 := HEQ.out
            have hl1 := dig_lt (y := y1 * 4294967296 + y0) (u := U) (u1 := u1) p8 p7' hu0 hu1
            have hTWO := Lib.hid (dig_two (U := U) (y := y1 * 4294967296 + y0) (a1 := u1) (a0 := u0) (by omega))
            have hd := Int.mul_ediv_add_emod (U * 4294967296 + u1) (y1 * 4294967296 + y0)
            have hR0 : 0 ≤ (U * 4294967296 + u1) % (y1 * 4294967296 + y0) := Int.emod_nonneg _ (by omega)
            have hR1 : (U * 4294967296 + u1) % (y1 * 4294967296 + y0) < y1 * 4294967296 + y0 := Int.emod_lt_of_pos _ (by omega)
            obtain ⟨Q1, hqq⟩ : ∃ Q1, q - 1 = Q1 := ⟨_, rfl⟩
            rw [hqq] at hq8 ⊢
            rw [← hq8] at hd hTWO hl1
            generalize (U * 4294967296 + u1) % (y1 * 4294967296 + y0) = R1 at *
            have hTWO' := Lib.hid (show U * 18446744073709551616 + (u1 * 4294967296 + u0) = (Q1 * 4294967296 + (R1 * 4294967296 + u0) / (y1 * 4294967296 + y0)) * (y1 * 4294967296 + y0) + (R1 * 4294967296 + u0) % (y1 * 4294967296 + y0) by rw [← hTWO.out]; omega)
            replace hTWO := hTWO'
            have tR : IntKind.u64.wrap (IntKind.u64.wrap (IntKind.u64.wrap (U * 4294967296) + u1) - IntKind.u64.wrap (Q1 * (y1 * 4294967296 + y0))) = R1 := by
              rw [Int.mul_comm] at hd
              generalize Q1 * (y1 * 4294967296 + y0) = z at *
              rw [IntKind.wrap_u64, IntKind.wrap_u64, IntKind.wrap_u64, IntKind.wrap_u64]
              omega
            have hR64 : R1 < 18446744073709551616 := by omega
            have t1 : IntKind.u64.wrap (R1.tdiv y1) = R1 / y1 := by rw [Int.tdiv_eq_ediv_of_nonneg hR0, IntKind.wrap_u64]; have := Int.ediv_le_self y1 hR0; have := Int.ediv_nonneg hR0 (by omega : 0 ≤ y1); omega
            have hdm := Int.mul_ediv_add_emod R1 y1
            have hj2 : 0 ≤ R1 % y1 := Int.emod_nonneg _ (by omega)
            have hj3' : R1 % y1 < y1 := Int.emod_lt_of_pos _ (by omega)
            have hj1 : R1 / y1 * y1 + R1 % y1 = R1 := by rw [Int.mul_comm]; exact hdm
            have hj3 : R1 % y1 < 4294967296 := by omega
            have hz0 : 0 ≤ R1 / y1 * y1 := Int.mul_nonneg (Int.ediv_nonneg hR0 (by omega)) (by omega)
            have t2 : IntKind.u64.wrap (R1 / y1 * y1) = R1 / y1 * y1 := by rw [IntKind.wrap_u64]; generalize R1 / y1 * y1 = z at *; omega
            have t3 : IntKind.u64.wrap (R1 - R1 / y1 * y1) = R1 % y1 := by rw [IntKind.wrap_u64]; generalize R1 / y1 * y1 = z at *; omega
            simp only [tR, t1, t2, t3]
            have hf2 := dig_first ha ha' hy0' hy0'' hR0 hR1 hv0 hv1
            clear hqq hq8 hd hdm t1 t2 t3 tR hz0 hj3' hf1 hi1 hi2 hi3 HEQ c1
            try clear hw1 hw2 hw3 hw4
            try clear hw5
            try clear c2
            try clear c3
            clear hb0 hb1 hq0 hq2 hr0 hr1
            try clear hq1
            go_loopw [18, 16] (fun v z w2 => ∃ (q r : Int), v = .int .u64 q ∧ z = .int .u64 r ∧ Hid (q * y1 + r = R1) ∧ Hid ((R1 * 4294967296 + u0) / (y1 * 4294967296 + y0) ≤ q) ∧ q ≤ 4294967297 ∧ 0 ≤ r ∧ r < 4294967296 ∧ w2 = wr) (fun v _ _ => (RowKit.intOf v).toNat)
            case atStart => exact ⟨_, _, rfl, rfl, Lib.hid hj1, Lib.hid hf2.1, hf2.2, hj2, hj3, rfl⟩
            case round =>
              obtain ⟨q, r, rfl, rfl, hqr, hQ, hq2, hr0, hr1, rfl⟩ := hrel
              have hm := quo_lt (y := y1 * 4294967296 + y0) (n := R1 * 4294967296 + u0) (q := q) (by omega)
              have hg := dig_gt (y0 := y0) (u1 := u0) hqr.out
              have hl := dig_lt (y := y1 * 4294967296 + y0) (u := R1) (u1 := u0) hR0 hR1 hv0 hv1
              have hQ' := hQ.out
              have hq0 : 0 ≤ q := by omega
              have hb0 : 0 ≤ q * y0 := Int.mul_nonneg hq0 hy0'
              have hb1 : q * y0 ≤ 4294967297 * 4294967295 := Int.le_trans (Int.mul_le_mul_of_nonneg_right hq2 hy0') (Int.mul_le_mul_of_nonneg_left (by omega) (by decide))
              have hw1 : IntKind.u64.wrap (q * y0) = q * y0 := by rw [IntKind.wrap_u64]; omega
              have hw2 : IntKind.u64.wrap (4294967296 * r) = 4294967296 * r := by rw [IntKind.wrap_u64]; omega
              have hw3 : IntKind.u64.wrap (4294967296 * r + u0) = 4294967296 * r + u0 := by rw [IntKind.wrap_u64]; omega
              have hw4 : IntKind.u64.wrap (r + y1) = r + y1 := by rw [IntKind.wrap_u64]; omega
              by_cases c1 : 4294967296 ≤ q
              · have hlt : (R1 * 4294967296 + u0) / (y1 * 4294967296 + y0) < q := by omega
                have hq1 : 1 ≤ q := by omega
                have hw5 : IntKind.u64.wrap (q - 1) = q - 1 := by rw [IntKind.wrap_u64]; omega
                have hqr2 := Lib.hid (show (q - 1) * y1 + (r + y1) = R1 by have := hqr.out; rw [Int.sub_mul, Int.one_mul]; omega)
                have hQ2 := Lib.hid (show (R1 * 4294967296 + u0) / (y1 * 4294967296 + y0) ≤ q - 1 by omega)
                by_cases c3 : 4294967296 ≤ r + y1
                · have heq : q - 1 = (R1 * 4294967296 + u0) / (y1 * 4294967296 + y0) := by
                    have hg2 := dig_gt (y0 := y0) (u1 := u0) hqr2.out
                    have hm2 := quo_lt (y := y1 * 4294967296 + y0) (n := R1 * 4294967296 + u0) (q := q - 1) (by omega)
                    have hb : (q - 1) * y0 ≤ 4294967296 * y0 := Int.mul_le_mul_of_nonneg_right (by omega) hy0'
                    have : ¬ (R1 * 4294967296 + u0) / (y1 * 4294967296 + y0) < q - 1 := fun h => absurd (hg2.2 (hm2.2 h)) (by omega)
                    have := hQ2.out
                    omega
                  have HEQ := Lib.hid heq
                  clear hm hg hl hQ hQ' hqr hlt hqr2 hQ2 heq
                  go_wp2_with fail
                  have hl2 := dig_lt (y := y1 * 4294967296 + y0) (u := R1) (u1 := u0) hR0 hR1 hv0 hv1
                  have hd2 := Int.mul_ediv_add_emod (R1 * 4294967296 + u0) (y1 * 4294967296 + y0)
                  have hq9 := HEQ.out
                  obtain ⟨Q0, hqq⟩ : ∃ Q0, q - 1 = Q0 := ⟨_, rfl⟩
                  rw [hqq] at hq9 ⊢
                  have hF := hFIN.out (Q1 * 4294967296 + Q0) ((R1 * 4294967296 + u0) % (y1 * 4294967296 + y0)) (by rw [hq9]; exact hTWO.out) (Int.emod_nonneg _ (by omega)) (Int.emod_lt_of_pos _ (by omega))
                  have g0 : 0 ≤ (R1 * 4294967296 + u0) % (y1 * 4294967296 + y0) := Int.emod_nonneg _ (by omega)
                  have g1 : (R1 * 4294967296 + u0) % (y1 * 4294967296 + y0) < y1 * 4294967296 + y0 := Int.emod_lt_of_pos _ (by omega)
                  rw [← hq9] at hl2 hd2
                  have f0 : IntKind.u64.wrap (Q1 * 4294967296) = Q1 * 4294967296 := by rw [IntKind.wrap_u64]; omega
                  have f1 : IntKind.u64.wrap (Q1 * 4294967296 + Q0) = Q1 * 4294967296 + Q0 := by rw [IntKind.wrap_u64]; omega
                  have f2 : IntKind.u64.wrap (IntKind.u64.wrap (IntKind.u64.wrap (R1 * 4294967296) + u0) - IntKind.u64.wrap (Q0 * (y1 * 4294967296 + y0))) = (R1 * 4294967296 + u0) % (y1 * 4294967296 + y0) := by
                    rw [Int.mul_comm] at hd2
                    generalize Q0 * (y1 * 4294967296 + y0) = z at *
                    generalize (R1 * 4294967296 + u0) % (y1 * 4294967296 + y0) = rr at *
                    rw [IntKind.wrap_u64, IntKind.wrap_u64, IntKind.wrap_u64, IntKind.wrap_u64]
                    omega
                  go_ret2
                  simp only [f0, f1, f2, hF.1, hF.2]
                  first | exact ⟨rfl, Below.refl _ _⟩ | (refine ⟨?_, Below.refl _ _⟩; rfl) | trace_state
                · clear hm hg hl hQ hQ' hqr hlt
                  go_wp2_with fail
                  go_roundw
                  case rel => exact ⟨q - 1, r + y1, by first | rfl | go_num, by first | rfl | go_num, hqr2, hQ2, by omega, by omega, by omega, by trivial⟩
                  case measure => simp [RowKit.intOf]; omega
              · by_cases c2 : q * y0 > 4294967296 * r + u0
                · have hlt : (R1 * 4294967296 + u0) / (y1 * 4294967296 + y0) < q := hm.1 (hg.1 c2)
                  have hq1 : 1 ≤ q := by omega
                  have hw5 : IntKind.u64.wrap (q - 1) = q - 1 := by rw [IntKind.wrap_u64]; omega
                  have hqr2 := Lib.hid (show (q - 1) * y1 + (r + y1) = R1 by have := hqr.out; rw [Int.sub_mul, Int.one_mul]; omega)
                  have hQ2 := Lib.hid (show (R1 * 4294967296 + u0) / (y1 * 4294967296 + y0) ≤ q - 1 by omega)
                  by_cases c3 : 4294967296 ≤ r + y1
                  · have heq : q - 1 = (R1 * 4294967296 + u0) / (y1 * 4294967296 + y0) := by
                      have hg2 := dig_gt (y0 := y0) (u1 := u0) hqr2.out
                      have hm2 := quo_lt (y := y1 * 4294967296 + y0) (n := R1 * 4294967296 + u0) (q := q - 1) (by omega)
                      have hb : (q - 1) * y0 ≤ 4294967296 * y0 := Int.mul_le_mul_of_nonneg_right (by omega) hy0'
                      have : ¬ (R1 * 4294967296 + u0) / (y1 * 4294967296 + y0) < q - 1 := fun h => absurd (hg2.2 (hm2.2 h)) (by omega)
                      have := hQ2.out
                      omega
                    have HEQ := Lib.hid heq
                    clear hm hg hl hQ hQ' hqr hlt hqr2 hQ2 heq
                    go_wp2_with fail
                    have hl2 := dig_lt (y := y1 * 4294967296 + y0) (u := R1) (u1 := u0) hR0 hR1 hv0 hv1
                    have hd2 := Int.mul_ediv_add_emod (R1 * 4294967296 + u0) (y1 * 4294967296 + y0)
                    have hq9 := HEQ.out
                    obtain ⟨Q0, hqq⟩ : ∃ Q0, q - 1 = Q0 := ⟨_, rfl⟩
                    rw [hqq] at hq9 ⊢
                    have hF := hFIN.out (Q1 * 4294967296 + Q0) ((R1 * 4294967296 + u0) % (y1 * 4294967296 + y0)) (by rw [hq9]; exact hTWO.out) (Int.emod_nonneg _ (by omega)) (Int.emod_lt_of_pos _ (by omega))
                    have g0 : 0 ≤ (R1 * 4294967296 + u0) % (y1 * 4294967296 + y0) := Int.emod_nonneg _ (by omega)
                    have g1 : (R1 * 4294967296 + u0) % (y1 * 4294967296 + y0) < y1 * 4294967296 + y0 := Int.emod_lt_of_pos _ (by omega)
                    rw [← hq9] at hl2 hd2
                    have f0 : IntKind.u64.wrap (Q1 * 4294967296) = Q1 * 4294967296 := by rw [IntKind.wrap_u64]; omega
                    have f1 : IntKind.u64.wrap (Q1 * 4294967296 + Q0) = Q1 * 4294967296 + Q0 := by rw [IntKind.wrap_u64]; omega
                    have f2 : IntKind.u64.wrap (IntKind.u64.wrap (IntKind.u64.wrap (R1 * 4294967296) + u0) - IntKind.u64.wrap (Q0 * (y1 * 4294967296 + y0))) = (R1 * 4294967296 + u0) % (y1 * 4294967296 + y0) := by
                      rw [Int.mul_comm] at hd2
                      generalize Q0 * (y1 * 4294967296 + y0) = z at *
                      generalize (R1 * 4294967296 + u0) % (y1 * 4294967296 + y0) = rr at *
                      rw [IntKind.wrap_u64, IntKind.wrap_u64, IntKind.wrap_u64, IntKind.wrap_u64]
                      omega
                    go_ret2
                    simp only [f0, f1, f2, hF.1, hF.2]
                    first | exact ⟨rfl, Below.refl _ _⟩ | (refine ⟨?_, Below.refl _ _⟩; rfl) | trace_state
                  · clear hm hg hl hQ hQ' hqr hlt
                    go_wp2_with fail
                    go_roundw
                    case rel => exact ⟨q - 1, r + y1, by first | rfl | go_num, by first | rfl | go_num, hqr2, hQ2, by omega, by omega, by omega, by trivial⟩
                    case measure => simp [RowKit.intOf]; omega
                · have heq : q = (R1 * 4294967296 + u0) / (y1 * 4294967296 + y0) := by
                    have : ¬ (R1 * 4294967296 + u0) / (y1 * 4294967296 + y0) < q := fun h => c2 (hg.2 (hm.2 h))
                    omega
                  have HEQ := Lib.hid heq
                  clear hm hg hl hQ hQ' hqr heq
                  go_wp2_with fail
                  have hl2 := dig_lt (y := y1 * 4294967296 + y0) (u := R1) (u1 := u0) hR0 hR1 hv0 hv1
                  have hd2 := Int.mul_ediv_add_emod (R1 * 4294967296 + u0) (y1 * 4294967296 + y0)
                  have hq9 := HEQ.out
                  obtain ⟨Q0, hqq⟩ : ∃ Q0, q = Q0 := ⟨_, rfl⟩
                  rw [hqq] at hq9 ⊢
                  have hF := hFIN.out (Q1 * 4294967296 + Q0) ((R1 * 4294967296 + u0) % (y1 * 4294967296 + y0)) (by rw [hq9]; exact hTWO.out) (Int.emod_nonneg _ (by omega)) (Int.emod_lt_of_pos _ (by omega))
                  have g0 : 0 ≤ (R1 * 4294967296 + u0) % (y1 * 4294967296 + y0) := Int.emod_nonneg _ (by omega)
                  have g1 : (R1 * 4294967296 + u0) % (y1 * 4294967296 + y0) < y1 * 4294967296 + y0 := Int.emod_lt_of_pos _ (by omega)
                  rw [← hq9] at hl2 hd2
                  have f0 : IntKind.u64.wrap (Q1 * 4294967296) = Q1 * 4294967296 := by rw [IntKind.wrap_u64]; omega
                  have f1 : IntKind.u64.wrap (Q1 * 4294967296 + Q0) = Q1 * 4294967296 + Q0 := by rw [IntKind.wrap_u64]; omega
                  have f2 : IntKind.u64.wrap (IntKind.u64.wrap (IntKind.u64.wrap (R1 * 4294967296) + u0) - IntKind.u64.wrap (Q0 * (y1 * 4294967296 + y0))) = (R1 * 4294967296 + u0) % (y1 * 4294967296 + y0) := by
                    rw [Int.mul_comm] at hd2
                    generalize Q0 * (y1 * 4294967296 + y0) = z at *
                    generalize (R1 * 4294967296 + u0) % (y1 * 4294967296 + y0) = rr at *
                    rw [IntKind.wrap_u64, IntKind.wrap_u64, IntKind.wrap_u64, IntKind.wrap_u64]
                    omega
                  go_ret2
                  simp only [f0, f1, f2, hF.1, hF.2]
                  first | exact ⟨rfl, Below.refl _ _⟩ | (refine ⟨?_, Below.refl _ _⟩; rfl) | trace_state
          · clear hm hg hl hQ hQ' hqr hlt
            go_wp2_with fail
            go_roundw
            case rel => exact ⟨q - 1, r + y1, by first | rfl | go_num, by first | rfl | go_num, hqr2, hQ2, by omega, by omega, by omega, by trivial⟩
            case measure => simp [RowKit.intOf]; omega
        · have heq : q = (U * 4294967296 + u1) / (y1 * 4294967296 + y0) := by
            have : ¬ (U * 4294967296 + u1) / (y1 * 4294967296 + y0) < q := fun h => c2 (hg.2 (hm.2 h))
            omega
          have HEQ := Lib.hid heq
          clear hm hg hl hQ hQ' hqr heq
          go_wp2_with fail
          have hq8 := HEQ.out
          have hl1 := dig_lt (y := y1 * 4294967296 + y0) (u := U) (u1 := u1) p8 p7' hu0 hu1
          have hTWO := Lib.hid (dig_two (U := U) (y := y1 * 4294967296 + y0) (a1 := u1) (a0 := u0) (by omega))
          have hd := Int.mul_ediv_add_emod (U * 4294967296 + u1) (y1 * 4294967296 + y0)
          have hR0 : 0 ≤ (U * 4294967296 + u1) % (y1 * 4294967296 + y0) := Int.emod_nonneg _ (by omega)
          have hR1 : (U * 4294967296 + u1) % (y1 * 4294967296 + y0) < y1 * 4294967296 + y0 := Int.emod_lt_of_pos _ (by omega)
          obtain ⟨Q1, hqq⟩ : ∃ Q1, q = Q1 := ⟨_, rfl⟩
          rw [hqq] at hq8 ⊢
          rw [← hq8] at hd hTWO hl1
          generalize (U * 4294967296 + u1) % (y1 * 4294967296 + y0) = R1 at *
          have hTWO' := Lib.hid (show U * 18446744073709551616 + (u1 * 4294967296 + u0) = (Q1 * 4294967296 + (R1 * 4294967296 + u0) / (y1 * 4294967296 + y0)) * (y1 * 4294967296 + y0) + (R1 * 4294967296 + u0) % (y1 * 4294967296 + y0) by rw [← hTWO.out]; omega)
          replace hTWO := hTWO'
          have tR : IntKind.u64.wrap (IntKind.u64.wrap (IntKind.u64.wrap (U * 4294967296) + u1) - IntKind.u64.wrap (Q1 * (y1 * 4294967296 + y0))) = R1 := by
            rw [Int.mul_comm] at hd
            generalize Q1 * (y1 * 4294967296 + y0) = z at *
            rw [IntKind.wrap_u64, IntKind.wrap_u64, IntKind.wrap_u64, IntKind.wrap_u64]
            omega
          have hR64 : R1 < 18446744073709551616 := by omega
          have t1 : IntKind.u64.wrap (R1.tdiv y1) = R1 / y1 := by rw [Int.tdiv_eq_ediv_of_nonneg hR0, IntKind.wrap_u64]; have := Int.ediv_le_self y1 hR0; have := Int.ediv_nonneg hR0 (by omega : 0 ≤ y1); omega
          have hdm := Int.mul_ediv_add_emod R1 y1
          have hj2 : 0 ≤ R1 % y1 := Int.emod_nonneg _ (by omega)
          have hj3' : R1 % y1 < y1 := Int.emod_lt_of_pos _ (by omega)
          have hj1 : R1 / y1 * y1 + R1 % y1 = R1 := by rw [Int.mul_comm]; exact hdm
          have hj3 : R1 % y1 < 4294967296 := by omega
          have hz0 : 0 ≤ R1 / y1 * y1 := Int.mul_nonneg (Int.ediv_nonneg hR0 (by omega)) (by omega)
          have t2 : IntKind.u64.wrap (R1 / y1 * y1) = R1 / y1 * y1 := by rw [IntKind.wrap_u64]; generalize R1 / y1 * y1 = z at *; omega
          have t3 : IntKind.u64.wrap (R1 - R1 / y1 * y1) = R1 % y1 := by rw [IntKind.wrap_u64]; generalize R1 / y1 * y1 = z at *; omega
          simp only [tR, t1, t2, t3]
          have hf2 := dig_first ha ha' hy0' hy0'' hR0 hR1 hv0 hv1
          clear hqq hq8 hd hdm t1 t2 t3 tR hz0 hj3' hf1 hi1 hi2 hi3 HEQ c1
          try clear hw1 hw2 hw3 hw4
          try clear hw5
          try clear c2
          try clear c3
          clear hb0 hb1 hq0 hq2 hr0 hr1
          try clear hq1
          go_loopw [18, 16] (fun v z w2 => ∃ (q r : Int), v = .int .u64 q ∧ z = .int .u64 r ∧ Hid (q * y1 + r = R1) ∧ Hid ((R1 * 4294967296 + u0) / (y1 * 4294967296 + y0) ≤ q) ∧ q ≤ 4294967297 ∧ 0 ≤ r ∧ r < 4294967296 ∧ w2 = wr) (fun v _ _ => (RowKit.intOf v).toNat)
          case atStart => exact ⟨_, _, rfl, rfl, Lib.hid hj1, Lib.hid hf2.1, hf2.2, hj2, hj3, rfl⟩
          case round =>
            obtain ⟨q, r, rfl, rfl, hqr, hQ, hq2, hr0, hr1, rfl⟩ := hrel
            have hm := quo_lt (y := y1 * 4294967296 + y0) (n := R1 * 4294967296 + u0) (q := q) (by omega)
            have hg := dig_gt (y0 := y0) (u1 := u0) hqr.out
            have hl := dig_lt (y := y1 * 4294967296 + y0) (u := R1) (u1 := u0) hR0 hR1 hv0 hv1
            have hQ' := hQ.out
            have hq0 : 0 ≤ q := by omega
            have hb0 : 0 ≤ q * y0 := Int.mul_nonneg hq0 hy0'
            have hb1 : q * y0 ≤ 4294967297 * 4294967295 := Int.le_trans (Int.mul_le_mul_of_nonneg_right hq2 hy0') (Int.mul_le_mul_of_nonneg_left (by omega) (by decide))
            have hw1 : IntKind.u64.wrap (q * y0) = q * y0 := by rw [IntKind.wrap_u64]; omega
            have hw2 : IntKind.u64.wrap (4294967296 * r) = 4294967296 * r := by rw [IntKind.wrap_u64]; omega
            have hw3 : IntKind.u64.wrap (4294967296 * r + u0) = 4294967296 * r + u0 := by rw [IntKind.wrap_u64]; omega
            have hw4 : IntKind.u64.wrap (r + y1) = r + y1 := by rw [IntKind.wrap_u64]; omega
            by_cases c1 : 4294967296 ≤ q
            · have hlt : (R1 * 4294967296 + u0) / (y1 * 4294967296 + y0) < q := by omega
              have hq1 : 1 ≤ q := by omega
              have hw5 : IntKind.u64.wrap (q - 1) = q - 1 := by rw [IntKind.wrap_u64]; omega
              have hqr2 := Lib.hid (show (q - 1) * y1 + (r + y1) = R1 by have := hqr.out; rw [Int.sub_mul, Int.one_mul]; omega)
              have hQ2 := Lib.hid (show (R1 * 4294967296 + u0) / (y1 * 4294967296 + y0) ≤ q - 1 by omega)
              by_cases c3 : 4294967296 ≤ r + y1
              · have heq : q - 1 = (R1 * 4294967296 + u0) / (y1 * 4294967296 + y0) := by
                  have hg2 := dig_gt (y0 := y0) (u1 := u0) hqr2.out
                  have hm2 := quo_lt (y := y1 * 4294967296 + y0) (n := R1 * 4294967296 + u0) (q := q - 1) (by omega)
                  have hb : (q - 1) * y0 ≤ 4294967296 * y0 := Int.mul_le_mul_of_nonneg_right (by omega) hy0'
                  have : ¬ (R1 * 4294967296 + u0) / (y1 * 4294967296 + y0) < q - 1 := fun h => absurd (hg2.2 (hm2.2 h)) (by omega)
                  have := hQ2.out
                  omega
                have HEQ := Lib.hid heq
                clear hm hg hl hQ hQ' hqr hlt hqr2 hQ2 heq
                go_wp2_with fail
                have hl2 := dig_lt (y := y1 * 4294967296 + y0) (u := R1) (u1 := u0) hR0 hR1 hv0 hv1
                have hd2 := Int.mul_ediv_add_emod (R1 * 4294967296 + u0) (y1 * 4294967296 + y0)
                have hq9 := HEQ.out
                obtain ⟨Q0, hqq⟩ : ∃ Q0, q - 1 = Q0 := ⟨_, rfl⟩
                rw [hqq] at hq9 ⊢
                have hF := hFIN.out (Q1 * 4294967296 + Q0) ((R1 * 4294967296 + u0) % (y1 * 4294967296 + y0)) (by rw [hq9]; exact hTWO.out) (Int.emod_nonneg _ (by omega)) (Int.emod_lt_of_pos _ (by omega))
                have g0 : 0 ≤ (R1 * 4294967296 + u0) % (y1 * 4294967296 + y0) := Int.emod_nonneg _ (by omega)
                have g1 : (R1 * 4294967296 + u0) % (y1 * 4294967296 + y0) < y1 * 4294967296 + y0 := Int.emod_lt_of_pos _ (by omega)
                rw [← hq9] at hl2 hd2
                have f0 : IntKind.u64.wrap (Q1 * 4294967296) = Q1 * 4294967296 := by rw [IntKind.wrap_u64]; omega
                have f1 : IntKind.u64.wrap (Q1 * 4294967296 + Q0) = Q1 * 4294967296 + Q0 := by rw [IntKind.wrap_u64]; omega
                have f2 : IntKind.u64.wrap (IntKind.u64.wrap (IntKind.u64.wrap (R1 * 4294967296) + u0) - IntKind.u64.wrap (Q0 * (y1 * 4294967296 + y0))) = (R1 * 4294967296 + u0) % (y1 * 4294967296 + y0) := by
                  rw [Int.mul_comm] at hd2
                  generalize Q0 * (y1 * 4294967296 + y0) = z at *
                  generalize (R1 * 4294967296 + u0) % (y1 * 4294967296 + y0) = rr at *
                  rw [IntKind.wrap_u64, IntKind.wrap_u64, IntKind.wrap_u64, IntKind.wrap_u64]
                  omega
                go_ret2
                simp only [f0, f1, f2, hF.1, hF.2]
                first | exact ⟨rfl, Below.refl _ _⟩ | (refine ⟨?_, Below.refl _ _⟩; rfl) | trace_state
              · clear hm hg hl hQ hQ' hqr hlt
                go_wp2_with fail
                go_roundw
                case rel => exact ⟨q - 1, r + y1, by first | rfl | go_num, by first | rfl | go_num, hqr2, hQ2, by omega, by omega, by omega, by trivial⟩
                case measure => simp [RowKit.intOf]; omega
            · by_cases c2 : q * y0 > 4294967296 * r + u0
              · have hlt : (R1 * 4294967296 + u0) / (y1 * 4294967296 + y0) < q := hm.1 (hg.1 c2)
                have hq1 : 1 ≤ q := by omega
                have hw5 : IntKind.u64.wrap (q - 1) = q - 1 := by rw [IntKind.wrap_u64]; omega
                have hqr2 := Lib.hid (show (q - 1) * y1 + (r + y1) = R1 by have := hqr.out; rw [Int.sub_mul, Int.one_mul]; omega)
                have hQ2 := Lib.hid (show (R1 * 4294967296 + u0) / (y1 * 4294967296 + y0) ≤ q - 1 by omega)
                by_cases c3 : 4294967296 ≤ r + y1
                · have heq : q - 1 = (R1 * 4294967296 + u0) / (y1 * 4294967296 + y0) := by
                    have hg2 := dig_gt (y0 := y0) (u1 := u0) hqr2.out
                    have hm2 := quo_lt (y := y1 * 4294967296 + y0) (n := R1 * 4294967296 + u0) (q := q - 1) (by omega)
                    have hb : (q - 1) * y0 ≤ 4294967296 * y0 := Int.mul_le_mul_of_nonneg_right (by omega) hy0'
                    have : ¬ (R1 * 4294967296 + u0) / (y1 * 4294967296 + y0) < q - 1 := fun h => absurd (hg2.2 (hm2.2 h)) (by omega)
                    have := hQ2.out
                    omega
                  have HEQ := Lib.hid heq
                  clear hm hg hl hQ hQ' hqr hlt hqr2 hQ2 heq
                  go_wp2_with fail
                  have hl2 := dig_lt (y := y1 * 4294967296 + y0) (u := R1) (u1 := u0) hR0 hR1 hv0 hv1
                  have hd2 := Int.mul_ediv_add_emod (R1 * 4294967296 + u0) (y1 * 4294967296 + y0)
                  have hq9 := HEQ.out
                  obtain ⟨Q0, hqq⟩ : ∃ Q0, q - 1 = Q0 := ⟨_, rfl⟩
                  rw [hqq] at hq9 ⊢
                  have hF := hFIN.out (Q1 * 4294967296 + Q0) ((R1 * 4294967296 + u0) % (y1 * 4294967296 + y0)) (by rw [hq9]; exact hTWO.out) (Int.emod_nonneg _ (by omega)) (Int.emod_lt_of_pos _ (by omega))
                  have g0 : 0 ≤ (R1 * 4294967296 + u0) % (y1 * 4294967296 + y0) := Int.emod_nonneg _ (by omega)
                  have g1 : (R1 * 4294967296 + u0) % (y1 * 4294967296 + y0) < y1 * 4294967296 + y0 := Int.emod_lt_of_pos _ (by omega)
                  rw [← hq9] at hl2 hd2
                  have f0 : IntKind.u64.wrap (Q1 * 4294967296) = Q1 * 4294967296 := by rw [IntKind.wrap_u64]; omega
                  have f1 : IntKind.u64.wrap (Q1 * 4294967296 + Q0) = Q1 * 4294967296 + Q0 := by rw [IntKind.wrap_u64]; omega
                  have f2 : IntKind.u64.wrap (IntKind.u64.wrap (IntKind.u64.wrap (R1 * 4294967296) + u0) - IntKind.u64.wrap (Q0 * (y1 * 4294967296 + y0))) = (R1 * 4294967296 + u0) % (y1 * 4294967296 + y0) := by
                    rw [Int.mul_comm] at hd2
                    generalize Q0 * (y1 * 4294967296 + y0) = z at *
                    generalize (R1 * 4294967296 + u0) % (y1 * 4294967296 + y0) = rr at *
                    rw [IntKind.wrap_u64, IntKind.wrap_u64, IntKind.wrap_u64, IntKind.wrap_u64]
                    omega
                  go_ret2
                  simp only [f0, f1, f2, hF.1, hF.2]
                  first | exact ⟨rfl, Below.refl _ _⟩ | (refine ⟨?_, Below.refl _ _⟩; rfl) | trace_state
                · clear hm hg hl hQ hQ' hqr hlt
                  go_wp2_with fail
                  go_roundw
                  case rel => exact ⟨q - 1, r + y1, by first | rfl | go_num, by first | rfl | go_num, hqr2, hQ2, by omega, by omega, by omega, by trivial⟩
                  case measure => simp [RowKit.intOf]; omega
              · have heq : q = (R1 * 4294967296 + u0) / (y1 * 4294967296 + y0) := by
                  have : ¬ (R1 * 4294967296 + u0) / (y1 * 4294967296 + y0) < q := fun h => c2 (hg.2 (hm.2 h))
                  omega
                have HEQ := Lib.hid heq
                clear hm hg hl hQ hQ' hqr heq
                go_wp2_with fail
                have hl2 := dig_lt (y := y1 * 4294967296 + y0) (u := R1) (u1 := u0) hR0 hR1 hv0 hv1
                have hd2 := Int.mul_ediv_add_emod (R1 * 4294967296 + u0) (y1 * 4294967296 + y0)
                have hq9 := HEQ.out
                obtain ⟨Q0, hqq⟩ : ∃ Q0, q = Q0 := ⟨_, rfl⟩
                rw [hqq] at hq9 ⊢
                have hF := hFIN.out (Q1 * 4294967296 + Q0) ((R1 * 4294967296 + u0) % (y1 * 4294967296 + y0)) (by rw [hq9]; exact hTWO.out) (Int.emod_nonneg _ (by omega)) (Int.emod_lt_of_pos _ (by omega))
                have g0 : 0 ≤ (R1 * 4294967296 + u0) % (y1 * 4294967296 + y0) := Int.emod_nonneg _ (by omega)
                have g1 : (R1 * 4294967296 + u0) % (y1 * 4294967296 + y0) < y1 * 4294967296 + y0 := Int.emod_lt_of_pos _ (by omega)
                rw [← hq9] at hl2 hd2
                have f0 : IntKind.u64.wrap (Q1 * 4294967296) = Q1 * 4294967296 := by rw [IntKind.wrap_u64]; omega
                have f1 : IntKind.u64.wrap (Q1 * 4294967296 + Q0) = Q1 * 4294967296 + Q0 := by rw [IntKind.wrap_u64]; omega
                have f2 : IntKind.u64.wrap (IntKind.u64.wrap (IntKind.u64.wrap (R1 * 4294967296) + u0) - IntKind.u64.wrap (Q0 * (y1 * 4294967296 + y0))) = (R1 * 4294967296 + u0) % (y1 * 4294967296 + y0) := by
                  rw [Int.mul_comm] at hd2
                  generalize Q0 * (y1 * 4294967296 + y0) = z at *
                  generalize (R1 * 4294967296 + u0) % (y1 * 4294967296 + y0) = rr at *
                  rw [IntKind.wrap_u64, IntKind.wrap_u64, IntKind.wrap_u64, IntKind.wrap_u64]
                  omega
                go_ret2
                simp only [f0, f1, f2, hF.1, hF.2]
                first | exact ⟨rfl, Below.refl _ _⟩ | (refine ⟨?_, Below.refl _ _⟩; rfl) | trace_state

end Go.Proofs.YtnofoommindocaaGreat.Base
