/- Square matrices, boxed. -/
import Derived.Test.YtkjbidpafnmogaaUpA
namespace Go.Proofs.Ytkjbidpafnmogaa.Base
open Go.RowKit Go
set_option linter.unusedVariables false
set_option linter.unusedSimpArgs false

/-- A square matrix, boxed. -/
structure BxG (b g : Nat) (n nn : Nat) (a : Option Addr) (k : Nat) (vs : List Int) (W : World) : Prop where
  bk : Blk W g #[.int .i64 (n : Int), .int .i64 (n : Int), .slice a nn k] 26
  l : ML b W a k vs
  ne : g ≠ b
theorem BxG.but {b g n nn : Nat} {a : Option Addr} {k : Nat} {vs : List Int} {W W' : World} (h : BxG b g n nn a k vs W) (hb : But b W W') : BxG b g n nn a k vs W' := ⟨hb.blk h.bk h.ne, h.l.but hb, h.ne⟩
theorem BxG.keep {b g n nn : Nat} {a : Option Addr} {k : Nat} {vs : List Int} {W W' : World} (h : BxG b g n nn a k vs W) (hb : Below W.heap.size W W') : BxG b g n nn a k vs W' := h.but (But.of hb)
theorem MO.lit {B : Nat} {W : World} {v : Value} {m : Mt} {n nn : Nat} (h : MO B W v m) (hr : m.r = n) (hc : m.c = n) (hl : m.v.length = nn) : ∃ a k, v = .agg #[.int .i64 (n : Int), .int .i64 (n : Int), .slice a nn k] ∧ LI B W a k m.v := by
  obtain ⟨a, k, h1, h2⟩ := h.ex
  rw [hr, hc, hl] at h1
  exact ⟨a, k, h1, h2⟩
theorem same_grp {W : World} {n nn : Nat} {vs : List Int} (hl : vs.length = nn) {a1 a2 : Option Addr} {k1 k2 : Nat} (h1 : MI 0 W a1 k1 vs) (h2 : MI 0 W a2 k2 vs) :
    Calls Try.prog 16 #[.agg #[.int .i64 (n : Int), .int .i64 (n : Int), .slice a1 nn k1], .agg #[.int .i64 (n : Int), .int .i64 (n : Int), .slice a2 nn k2]] W fun e w' => e = .returned (.bool true) ∧ Below W.heap.size W w' := by
  subst hl
  have h := sameMat_is (m1 := ⟨n, n, vs⟩) (m2 := ⟨n, n, vs⟩) h1 h2
  rwa [decide_eq_true ⟨rfl, rfl, rfl⟩] at h

end Go.Proofs.Ytkjbidpafnmogaa.Base
