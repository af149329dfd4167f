/- snap: At, Find. No conditions. -/
import Derived.Test.YtagakcnhhhlolaaSnE
import Derived.Test.YtagakcnhhhlolaaReg
namespace Go.Proofs.Ytagakcnhhhlolaa.Base
open Go.RowKit
set_option linter.unusedVariables false
set_option linter.unusedSimpArgs false

/-- A trace's cells. -/
def LT (B : Nat) (W : World) (v : Value) (t : Trc) : Prop := ∃ aH cH aR cR, v = .agg #[.bool t.is, .slice aH t.H.length cH, .slice aR t.R.length cR, .int .i64 t.s, .int .i64 t.nu] ∧ LI B W aH cH t.H ∧ LI B W aR cR t.R
/-- What is told of no place. -/
def AtNo (e : Ending) : Prop := e = .returned (.tuple #[.agg #[.int .i64 0, .slice none 0 0, .slice none 0 0, .bool false, .int .i64 0, .int .i64 0], .agg #[.bool false, .slice none 0 0, .slice none 0 0, .int .i64 0, .int .i64 0], .int .i64 4])
def AtOk (B : Nat) (W' : World) (m : Mrk) (e : Ending) : Prop := ∃ v1 v2, e = .returned (.tuple #[v1, v2, .int .i64 0]) ∧ LB B W' v1 m.b ∧ LT B W' v2 m.t

set_option maxHeartbeats 4000000 in
set_option maxRecDepth 100000 in
theorem at_no {B : Nat} {W : World} {p : Nat} {v : Value} {M : Mdl} {ms : List Mrk} (h : PM B W p v M ms) (n : Int) (hn : n < 0 ∨ (ms.length : Int) ≤ n) : Calls Try.prog 33 #[.pointer (some ⟨p, 0, none⟩), .int .i64 n] W fun e w' => AtNo e ∧ Below W.heap.size W w' := by
  have HH := Lib.hid h
  rcases hn with h1 | h1
  · clear h
    go_enter Try.func33, Try.ntmps33
    go_wp2_with (first | ((with_reducible refine at_dst (N := 4) rfl ?_); refine ev_new rfl (cs := #[Value.int .i64 0, Value.slice none 0 0, Value.slice none 0 0, Value.bool false, Value.int .i64 0, Value.int .i64 0]) (t := 27) (by go_simp) ?_; intro w1 b1 hB1 hz1) | ((with_reducible refine at_dst (N := 5) rfl ?_); refine ev_new rfl (cs := #[Value.bool false, Value.slice none 0 0, Value.slice none 0 0, Value.int .i64 0, Value.int .i64 0]) (t := 52) (by go_simp) ?_; intro w2 b2 hB2 hz2; replace b1 := b1.keep hB2; replace hB1 := more hB1 hB2; rw [hz1] at b2; try rw [hz1]; clear hB2 hz1))
    obtain ⟨x, hx⟩ : ∃ x, W.heap.size = x := ⟨_, rfl⟩
    rw [hx] at b1 b2
    simp only [hx]
    have hxy : ¬ x + 1 = x := by omega
    have hyx : ¬ x = x + 1 := by omega
    clear hz2
    refine (none_is (HH.out.keep hB1)).mono ?_
    rintro e w' ⟨rfl, rfl⟩
    go_wp2_with (first | ((with_reducible refine at_st (p := 4) (q := 22) rfl ?_); refine ev_store rfl 27 _ _ rfl rfl b1 0 rfl rfl [.int .i64 0, .slice none 0 0, .slice none 0 0, .bool false, .int .i64 0, .int .i64 0] rfl (by kernel_rfl) rfl rfl #[Value.int .i64 0, Value.slice none 0 0, Value.slice none 0 0, Value.bool false, Value.int .i64 0, Value.int .i64 0] rfl ?_; intro w3 b3 ef3 hz3; have b4 := ef3.blk b2 hxy) | ((with_reducible refine at_st (p := 5) (q := 23) rfl ?_); refine ev_store rfl 52 _ _ rfl rfl b4 0 rfl rfl [.bool false, .slice none 0 0, .slice none 0 0, .int .i64 0, .int .i64 0] rfl (by kernel_rfl) rfl rfl #[Value.bool false, Value.slice none 0 0, Value.slice none 0 0, Value.int .i64 0, Value.int .i64 0] rfl ?_; intro w4 b5 ef4 hz4; have b6 := ef4.blk b3 hyx))
    have hB4 : Below W.heap.size W w4 := ef4.below (ef3.below hB1 (by rintro _ rfl; omega)) (by rintro _ rfl; omega)
    refine bodyPost_ret (results_cct rfl _ _ rfl b6 Try.underlying27 rfl (by kernel_rfl) rfl b5 Try.underlying52 rfl (by kernel_rfl)) rfl ?_
    exact ⟨rfl, hB4⟩
  · have h2 : ¬ n < 0 := by omega
    have h3 : (ms.length : Int) - 1 < n := by omega
    clear h
    go_enter Try.func33, Try.ntmps33
    go_wp2_with (first | ((with_reducible refine at_dst (N := 4) rfl ?_); refine ev_new rfl (cs := #[Value.int .i64 0, Value.slice none 0 0, Value.slice none 0 0, Value.bool false, Value.int .i64 0, Value.int .i64 0]) (t := 27) (by go_simp) ?_; intro w1 b1 hB1 hz1) | ((with_reducible refine at_dst (N := 5) rfl ?_); refine ev_new rfl (cs := #[Value.bool false, Value.slice none 0 0, Value.slice none 0 0, Value.int .i64 0, Value.int .i64 0]) (t := 52) (by go_simp) ?_; intro w2 b2 hB2 hz2; replace b1 := b1.keep hB2; replace hB1 := more hB1 hB2; rw [hz1] at b2; try rw [hz1]; clear hB2 hz1))
    obtain ⟨x, hx⟩ : ∃ x, W.heap.size = x := ⟨_, rfl⟩
    rw [hx] at b1 b2
    simp only [hx]
    have hxy : ¬ x + 1 = x := by omega
    have hyx : ¬ x = x + 1 := by omega
    clear hz2
    refine (none_is (HH.out.keep hB1)).mono ?_
    rintro e w' ⟨rfl, rfl⟩
    go_wp2_with fail
    refine (mlen_is (HH.out.keep hB1)).mono ?_
    rintro e w' ⟨rfl, rfl⟩
    go_wp2_with (first | ((with_reducible refine at_st (p := 4) (q := 22) rfl ?_); refine ev_store rfl 27 _ _ rfl rfl b1 0 rfl rfl [.int .i64 0, .slice none 0 0, .slice none 0 0, .bool false, .int .i64 0, .int .i64 0] rfl (by kernel_rfl) rfl rfl #[Value.int .i64 0, Value.slice none 0 0, Value.slice none 0 0, Value.bool false, Value.int .i64 0, Value.int .i64 0] rfl ?_; intro w3 b3 ef3 hz3; have b4 := ef3.blk b2 hxy) | ((with_reducible refine at_st (p := 5) (q := 23) rfl ?_); refine ev_store rfl 52 _ _ rfl rfl b4 0 rfl rfl [.bool false, .slice none 0 0, .slice none 0 0, .int .i64 0, .int .i64 0] rfl (by kernel_rfl) rfl rfl #[Value.bool false, Value.slice none 0 0, Value.slice none 0 0, Value.int .i64 0, Value.int .i64 0] rfl ?_; intro w4 b5 ef4 hz4; have b6 := ef4.blk b3 hyx))
    have hB4 : Below W.heap.size W w4 := ef4.below (ef3.below hB1 (by rintro _ rfl; omega)) (by rintro _ rfl; omega)
    refine bodyPost_ret (results_cct rfl _ _ rfl b6 Try.underlying27 rfl (by kernel_rfl) rfl b5 Try.underlying52 rfl (by kernel_rfl)) rfl ?_
    exact ⟨rfl, hB4⟩

end Go.Proofs.Ytagakcnhhhlolaa.Base
