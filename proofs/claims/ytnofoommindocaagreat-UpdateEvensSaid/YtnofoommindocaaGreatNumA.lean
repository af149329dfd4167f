/- Numbers of 128 bits as the program holds them, in plain words; bits.Add64 and bits.Sub64. -/
import Derived.Test.YtnofoommindocaaGreatEv
import Derived.BigQuiet
import Derived.KernelRfl
import Derived.Deep.QuietTactic
import Derived.WalkLawsBesides
import Derived.Lib.Hide
import Derived.Below
import Derived.OwnWalk
import Derived.Laws.AppendOwn
import Derived.Laws.OwnMore
import Derived.Laws.AppendOwnNone
import Derived.Laws.Externs
import Derived.Laws.Bits64b
namespace Go.Proofs.YtnofoommindocaaGreat.Base
open Go.RowKit
set_option linter.unusedVariables false
set_option linter.unusedSimpArgs false

/-- The higher and the lower half of a number modulo 2^128, the higher one with a sign. -/
def hiW (n : Int) : Int := (n / 18446744073709551616 + 9223372036854775808) % 18446744073709551616 - 9223372036854775808
def loW (n : Int) : Int := n % 18446744073709551616
def hiS (n : Int) : Int := n / 18446744073709551616 % 18446744073709551616
def wv (n : Int) : Value := .agg #[.int .i64 (hiW n), .int .u64 (loW n)]
def sv (n : Int) : Value := .agg #[.int .u64 (hiS n), .int .u64 (loW n)]
def W127 (n : Int) : Prop := -170141183460469231731687303715884105728 < n ∧ n < 170141183460469231731687303715884105728
theorem hiW_rng (n : Int) : -9223372036854775808 ≤ hiW n ∧ hiW n ≤ 9223372036854775807 := by unfold hiW; omega
theorem hiS_rng (n : Int) : 0 ≤ hiS n ∧ hiS n < 18446744073709551616 := by unfold hiS; omega
theorem loW_rng (n : Int) : 0 ≤ loW n ∧ loW n < 18446744073709551616 := by unfold loW; omega
theorem hiW_of {n : Int} (h : W127 n) : hiW n = n / 18446744073709551616 := by unfold W127 at h; unfold hiW; omega
theorem hiW_s (n : Int) : hiW n % 18446744073709551616 = hiS n := by unfold hiW hiS; omega
theorem wv_eq {a b : Int} (h : hiW a = hiW b) (k : loW a = loW b) : wv a = wv b := by unfold wv; rw [h, k]
theorem wv_mod {a b : Int} (h : (a - b) % 340282366920938463463374607431768211456 = 0) : wv a = wv b := by
  apply wv_eq
  · unfold hiW; omega
  · unfold loW; omega
theorem wv_inj {a b : Int} (ha : W127 a) (hb : W127 b) (h : hiW a = hiW b) (k : loW a = loW b) : a = b := by
  rw [hiW_of ha, hiW_of hb] at h
  unfold loW at k
  omega

def add64Ent : Array Value → Sem Value := fun args => do
  let (x, y, c) ← Extern.MathBitsCarry.three "Add64" args
  pure (Extern.MathBitsCarry.pair ((x + y + c) % Extern.MathBitsCarry.m64) ((x + y + c) / Extern.MathBitsCarry.m64))
def sub64Ent : Array Value → Sem Value := fun args => do
  let (x, y, b) ← Extern.MathBitsCarry.three "Sub64" args
  pure (Extern.MathBitsCarry.pair ((x + Extern.MathBitsCarry.m64 - y - b) % Extern.MathBitsCarry.m64) (if x < y + b then 1 else 0))
theorem run_add64N (x y c : Nat) (hc : c ≤ 1) (w : World) :
    (add64Ent #[.int .u64 x, .int .u64 y, .int .u64 c]).run Tryz.prog w =
      .ok (.tuple #[.int .u64 (((x + y + c) % 18446744073709551616 : Nat) : Int), .int .u64 (((x + y + c) / 18446744073709551616 : Nat) : Int)]) w := by
  have : c = 0 ∨ c = 1 := by omega
  rcases this with rfl | rfl <;> rfl
theorem run_sub64N (x y b : Nat) (hb : b ≤ 1) (w : World) :
    (sub64Ent #[.int .u64 x, .int .u64 y, .int .u64 b]).run Tryz.prog w =
      .ok (.tuple #[.int .u64 (((x + 18446744073709551616 - y - b) % 18446744073709551616 : Nat) : Int), .int .u64 ((if x < y + b then 1 else 0 : Nat) : Int)]) w := by
  have : b = 0 ∨ b = 1 := by omega
  rcases this with rfl | rfl <;> rfl
def carry (x y c : Int) : Int := (x + y + c) / 18446744073709551616
def borrow (x y b : Int) : Int := if x < y + b then 1 else 0
theorem carry_rng {x y c : Int} (hx : 0 ≤ x ∧ x < 18446744073709551616) (hy : 0 ≤ y ∧ y < 18446744073709551616) (hc : 0 ≤ c ∧ c ≤ 1) : 0 ≤ carry x y c ∧ carry x y c ≤ 1 := by unfold carry; omega
theorem borrow_rng (x y b : Int) : 0 ≤ borrow x y b ∧ borrow x y b ≤ 1 := by unfold borrow; split <;> omega
theorem add64 (x y c : Int) (hx : 0 ≤ x) (hy : 0 ≤ y) (hc0 : 0 ≤ c) (hc : c ≤ 1) (w : World) : (callFunc 210 #[.int .u64 x, .int .u64 y, .int .u64 c]).run Tryz.prog w =
    .ok (.value (.tuple #[.int .u64 ((x + y + c) % 18446744073709551616), .int .u64 (carry x y c)])) w := by
  obtain ⟨x, rfl⟩ := Int.eq_ofNat_of_zero_le hx
  obtain ⟨y, rfl⟩ := Int.eq_ofNat_of_zero_le hy
  obtain ⟨c, rfl⟩ := Int.eq_ofNat_of_zero_le hc0
  rw [run_callFunc_extern Tryz.func210 (by kernel_rfl) (by kernel_rfl) (by kernel_rfl) (e := add64Ent) (by kernel_rfl), run_add64N x y c (by omega)]
  simp only [Result.andThen]
  unfold carry
  congr 5 <;> omega
theorem sub64 (x y b : Int) (hx : 0 ≤ x) (hy : 0 ≤ y) (hy' : y < 18446744073709551616) (hb0 : 0 ≤ b) (hb : b ≤ 1) (w : World) : (callFunc 237 #[.int .u64 x, .int .u64 y, .int .u64 b]).run Tryz.prog w =
    .ok (.value (.tuple #[.int .u64 ((x - y - b) % 18446744073709551616), .int .u64 (borrow x y b)])) w := by
  obtain ⟨x, rfl⟩ := Int.eq_ofNat_of_zero_le hx
  obtain ⟨y, rfl⟩ := Int.eq_ofNat_of_zero_le hy
  obtain ⟨b, rfl⟩ := Int.eq_ofNat_of_zero_le hb0
  have e1 : (((x + 18446744073709551616 - y - b) % 18446744073709551616 : Nat) : Int) = ((x : Int) - y - b) % 18446744073709551616 := by omega
  have e2 : ((if x < y + b then 1 else 0 : Nat) : Int) = borrow x y b := by unfold borrow; split <;> split <;> omega
  rw [run_callFunc_extern Tryz.func237 (by kernel_rfl) (by kernel_rfl) (by kernel_rfl) (e := sub64Ent) (by kernel_rfl), run_sub64N x y b (by omega), e1, e2]
  rfl
theorem add64_0 (x y : Int) (hx : 0 ≤ x) (hy : 0 ≤ y) (w : World) : (callFunc 210 #[.int .u64 x, .int .u64 y, .int .u64 0]).run Tryz.prog w =
    .ok (.value (.tuple #[.int .u64 ((x + y) % 18446744073709551616), .int .u64 (carry x y 0)])) w := by
  simpa using add64 x y 0 hx hy (Int.le_refl 0) (by decide) w
theorem sub64_0 (x y : Int) (hx : 0 ≤ x) (hy : 0 ≤ y) (hy' : y < 18446744073709551616) (w : World) : (callFunc 237 #[.int .u64 x, .int .u64 y, .int .u64 0]).run Tryz.prog w =
    .ok (.value (.tuple #[.int .u64 ((x - y) % 18446744073709551616), .int .u64 (borrow x y 0)])) w := by
  simpa using sub64 x y 0 hx hy hy' (Int.le_refl 0) (by decide) w

end Go.Proofs.YtnofoommindocaaGreat.Base
