/- Which beliefs fit a model: the plain words; the reference's Fits. -/
import Derived.Test.YtnofoommindocaaGreatMdlF
import Derived.Test.YtnofoommindocaaGreatMdlG
namespace Go.Proofs.YtnofoommindocaaGreat.Base
open Go.RowKit
set_option linter.unusedVariables false
set_option linter.unusedSimpArgs false

def lowest : Int := -9223372036854775808
def pairB (n : Nat) (P : List Int) (i k : Nat) : Prop := P.getD (i * n + k) 0 ≠ lowest ∧ P.getD (i * n + k) 0 = P.getD (k * n + i) 0
def goodB (n : Nat) (X P : List Int) (i : Nat) : Prop := X.getD i 0 ≠ lowest ∧ 0 ≤ P.getD (i * n + i) 0 ∧ ∀ k, k < n → pairB n P i k
def okBF (n : Nat) (X P : List Int) : Prop := ∀ i, i < n → goodB n X P i
structure okBL (M : Mdl) (b : Blf) : Prop where
  x : (b.X.length : Int) = M.n
  p : (b.P.length : Int) = M.n * M.n
structure okBT (b : Blf) : Prop where
  t : 0 ≤ b.t ∧ b.t ≤ 1099511627776
  p : 0 ≤ b.pass ∧ b.pass ≤ 1099511627776
  f : 0 ≤ b.fail ∧ b.fail ≤ 1099511627776
open Classical in
noncomputable def chkV (M : Mdl) : Int := if okM M then 0 else 2
open Classical in
noncomputable def fitsV (M : Mdl) (b : Blf) : Int := if okM M then (if okBL M b then (if okBT b then (if okBF M.n.toNat b.X b.P then 0 else 5) else 4) else 3) else 2
theorem fitsV_2 {M : Mdl} {b : Blf} (h : ¬ okM M) : fitsV M b = 2 := by unfold fitsV; rw [if_neg h]
theorem fitsV_3 {M : Mdl} {b : Blf} (h : okM M) (h2 : ¬ okBL M b) : fitsV M b = 3 := by unfold fitsV; rw [if_pos h, if_neg h2]
theorem fitsV_4 {M : Mdl} {b : Blf} (h : okM M) (h2 : okBL M b) (h3 : ¬ okBT b) : fitsV M b = 4 := by unfold fitsV; rw [if_pos h, if_pos h2, if_neg h3]
theorem fitsV_5 {M : Mdl} {b : Blf} (h : okM M) (h2 : okBL M b) (h3 : okBT b) (h4 : ¬ okBF M.n.toNat b.X b.P) : fitsV M b = 5 := by unfold fitsV; rw [if_pos h, if_pos h2, if_pos h3, if_neg h4]
theorem fitsV_0 {M : Mdl} {b : Blf} (h : okM M) (h2 : okBL M b) (h3 : okBT b) (h4 : okBF M.n.toNat b.X b.P) : fitsV M b = 0 := by unfold fitsV; rw [if_pos h, if_pos h2, if_pos h3, if_pos h4]
theorem chkV_is {e : Ending} {M : Mdl} (h : TellsC e 2 (okM M)) : e = .returned (.int .i64 (chkV M)) := by
  unfold chkV
  rcases h with ⟨h, rfl⟩ | ⟨h, rfl⟩
  · rw [if_pos h]
  · rw [if_neg h]
theorem chkV_0 {M : Mdl} : chkV M = 0 ↔ okM M := by
  unfold chkV
  by_cases h : okM M
  · rw [if_pos h]; simp [h]
  · rw [if_neg h]; simp [h]
theorem fitsV_iff {M : Mdl} {b : Blf} : fitsV M b = 0 ↔ okM M ∧ okBL M b ∧ okBT b ∧ okBF M.n.toNat b.X b.P := by
  by_cases h : okM M
  · by_cases h2 : okBL M b
    · by_cases h3 : okBT b
      · by_cases h4 : okBF M.n.toNat b.X b.P
        · rw [fitsV_0 h h2 h3 h4]; simp [h, h2, h3, h4]
        · rw [fitsV_5 h h2 h3 h4]; simp [h4]
      · rw [fitsV_4 h h2 h3]; simp [h3]
    · rw [fitsV_3 h h2]; simp [h2]
  · rw [fitsV_2 h]; simp [h]
theorem chk_val {B : Nat} {w0 : World} {v : Value} {M : Mdl} (hM : MM B w0 v M) (hlen : M.rows.length ≤ 1000) :
    Calls Tryz.prog 67 #[v] w0 fun e w' => e = .returned (.int .i64 (chkV M)) ∧ Below w0.heap.size w0 w' :=
  (check_is hM hlen).mono fun _ _ ⟨h, hb⟩ => ⟨chkV_is h, hb⟩

theorem ij_lt {i k n : Nat} (hi : i < n) (hk : k < n) : i * n + k < n * n := by
  have : i * n + n ≤ n * n := by
    have := Nat.mul_le_mul_right n (show i + 1 ≤ n by omega)
    rw [Nat.add_mul, Nat.one_mul] at this
    exact this
  omega
theorem getD_at {zs : List Int} {k : Nat} (h : k < zs.length) : zs[k] = zs.getD k 0 := by simp [h]
theorem MI.atD {B : Nat} {W : World} {a : Option Addr} {c : Nat} {zs : List Int} (h : MI B W a c zs) (k : Nat) (hk : k < zs.length) :
    ∃ x : Addr, a = some x ∧ W.cell? (x.add k) = some (.int .i64 (zs.getD k 0)) ∧ I64 (zs.getD k 0) := by
  obtain ⟨x, hx, hc, hr⟩ := h.at k hk
  rw [getD_at hk] at hc hr
  exact ⟨x, hx, hc, hr⟩

end Go.Proofs.YtnofoommindocaaGreat.Base
