/- SnapKnown: the walk. No conditions. -/
import Derived.Test.YtagakcnhhhlolaaSnM
namespace Go.Proofs.Ytagakcnhhhlolaa.Base
open Go.RowKit
set_option linter.unusedVariables false
set_option linter.unusedSimpArgs false

theorem mlen_val {B : Nat} {W : World} {p : Nat} {v : Value} {M : Mdl} {ms : List Mrk} (h : PM B W p v M ms) (n : Int) (hn : (ms.length : Int) - 1 = n) : Calls Try.prog 40 #[.pointer (some ⟨p, 0, none⟩)] W fun e w' => e = .returned (.int .i64 n) ∧ W = w' := by
  subst hn
  exact mlen_is h
theorem push4 {ms : List Mrk} {t : Int} {r : Trc} (ht : 0 ≤ t ∧ t ≤ 1099511627776) (hl : t < lastT ms) : pushV oneM ms ⟨belB t, r⟩ = 4 := by
  have h2 : (belB t).t < lastT ms := hl
  unfold pushV
  rw [if_neg (by simpa using fits_one ht), if_pos h2]
def L1 : List Mrk := [base0 (mk 5 trc0), mk 5 trc7, mk 9 trc0]
def L2 : List Mrk := [base0 (mk 5 trc0), mk 5 trc7]
def L3 : List Mrk := [base0 (mk 5 trc7)]
set_option maxHeartbeats 16000000 in
set_option maxRecDepth 100000 in
theorem known22_walk (w : World) : Calls Try.prog 8 #[] w fun e w' => e = .returned (.bool true) ∧ Below w.heap.size w w' := by
  go_enter Try.func8, Try.ntmps8
  go_wp2_with fail
  refine (made_is _).mono ?_
  rintro e w1 ⟨p, v, rfl, hp, hB⟩
  go_wp2_with fail
  refine (at_no hp 4 (.inr (by decide))).mono ?_
  rintro e w2 ⟨he, hK⟩
  obtain rfl := he
  replace hp := hp.keep hK
  replace hB := more hB hK
  clear hK
  go_wp2_with (first | ((with_reducible refine at_dst (N := 2) rfl ?_); refine ev_new rfl (cs := #[Value.int .i64 0, Value.slice none 0 0, Value.slice none 0 0, Value.bool false, Value.int .i64 0, Value.int .i64 0]) (t := 27) (by go_simp) ?_; intro wq1 b1 hQ1 hz1) | ((with_reducible refine at_dst (N := 3) rfl ?_); refine ev_new rfl (cs := #[Value.bool false, Value.slice none 0 0, Value.slice none 0 0, Value.int .i64 0, Value.int .i64 0]) (t := 52) (by go_simp) ?_; intro wr1 b2 hQ2 hz2; replace b1 := b1.keep hQ2; replace hQ1 := more hQ1 hQ2) | ((with_reducible refine at_st (p := 2) (q := 18) rfl ?_); refine ev_store rfl 27 _ _ rfl rfl b1 0 rfl rfl [Value.int .i64 0, Value.slice none 0 0, Value.slice none 0 0, Value.bool false, Value.int .i64 0, Value.int .i64 0] rfl (by kernel_rfl) rfl rfl #[Value.int .i64 0, Value.slice none 0 0, Value.slice none 0 0, Value.bool false, Value.int .i64 0, Value.int .i64 0] rfl ?_; intro ws1 b3 ef3 hz3; have b4 := ef3.blk b2 (by omega)) | ((with_reducible refine at_st (p := 3) (q := 19) rfl ?_); refine ev_store rfl 52 _ _ rfl rfl b4 0 rfl rfl [Value.bool false, Value.slice none 0 0, Value.slice none 0 0, Value.int .i64 0, Value.int .i64 0] rfl (by kernel_rfl) rfl rfl #[Value.bool false, Value.slice none 0 0, Value.slice none 0 0, Value.int .i64 0, Value.int .i64 0] rfl ?_; intro wt1 b5 ef4 hz4; have b6 := ef4.blk b3 (by omega); have hQ : Below w2.heap.size w2 wt1 := ef4.below (ef3.below hQ1 (by rintro _ rfl; omega)) (by rintro _ rfl; omega); replace hp := hp.keep hQ; replace hB := more hB hQ; clear hQ1 hQ2 hz1 hz2 hz3 hz4 ef3 ef4 b1 b2 b3 b4 hQ))
  clear b5 b6
  refine (find_no hp 2 (by decide)).mono ?_
  rintro e w' ⟨rfl, rfl⟩
  go_wp2_with fail
  have hat : Calls Try.prog 33 #[.pointer (some ⟨p, 0, none⟩), .int .i64 2] wt1 fun e w' => AtOk wt1.heap.size w' (mk 5 trc7) e ∧ Below wt1.heap.size wt1 w' := at_ok hp 2 (by decide)
  refine hat.mono ?_
  clear hat
  rintro e w4 ⟨⟨v1, v2, rfl, hv1, hv2⟩, hK⟩
  obtain ⟨aX, cX, aP, cP, hw1, _⟩ := hv1.ex
  obtain ⟨aH, cH, aR, cR, hw2, _⟩ := hv2
  replace hw1 : v1 = .agg #[.int .i64 5, .slice aX 1 cX, .slice aP 1 cP, .bool false, .int .i64 0, .int .i64 0] := hw1
  replace hw2 : v2 = .agg #[.bool true, .slice aH 0 cH, .slice aR 0 cR, .int .i64 7, .int .i64 0] := hw2
  subst hw1 hw2
  replace hp := hp.keep hK
  replace hB := more hB hK
  clear hK hv1
  go_wp2_with (first | ((with_reducible refine at_dst (N := 7) rfl ?_); refine ev_new rfl (cs := #[Value.int .i64 0, Value.slice none 0 0, Value.slice none 0 0, Value.bool false, Value.int .i64 0, Value.int .i64 0]) (t := 27) (by go_simp) ?_; intro wq2 b1 hQ1 hz1) | ((with_reducible refine at_dst (N := 8) rfl ?_); refine ev_new rfl (cs := #[Value.bool false, Value.slice none 0 0, Value.slice none 0 0, Value.int .i64 0, Value.int .i64 0]) (t := 52) (by go_simp) ?_; intro wr2 b2 hQ2 hz2; replace b1 := b1.keep hQ2; replace hQ1 := more hQ1 hQ2) | ((with_reducible refine at_st (p := 7) (q := 29) rfl ?_); refine ev_store rfl 27 _ _ rfl rfl b1 0 rfl rfl [Value.int .i64 5, Value.slice aX 1 cX, Value.slice aP 1 cP, Value.bool false, Value.int .i64 0, Value.int .i64 0] rfl (by kernel_rfl) rfl rfl #[Value.int .i64 5, Value.slice aX 1 cX, Value.slice aP 1 cP, Value.bool false, Value.int .i64 0, Value.int .i64 0] rfl ?_; intro ws2 b3 ef3 hz3; have b4 := ef3.blk b2 (by omega)) | ((with_reducible refine at_st (p := 8) (q := 30) rfl ?_); refine ev_store rfl 52 _ _ rfl rfl b4 0 rfl rfl [Value.bool true, Value.slice aH 0 cH, Value.slice aR 0 cR, Value.int .i64 7, Value.int .i64 0] rfl (by kernel_rfl) rfl rfl #[Value.bool true, Value.slice aH 0 cH, Value.slice aR 0 cR, Value.int .i64 7, Value.int .i64 0] rfl ?_; intro wt2 b5 ef4 hz4; have b6 := ef4.blk b3 (by omega); have hQ : Below w4.heap.size w4 wt2 := ef4.below (ef3.below hQ1 (by rintro _ rfl; omega)) (by rintro _ rfl; omega); replace hp := hp.keep hQ; replace hB := more hB hQ; have d0 := b5.cell 0; have d3 := b5.cell 3; simp at d0 d3; clear hQ1 hQ2 hz1 hz2 hz3 hz4 ef3 ef4 b1 b2 b3 b4 hQ))
  clear b5 b6 d0 d3
  refine (bel_is _ 8 (i64_lit rfl)).mono ?_
  rintro e w5 ⟨v5, rfl, hb, hK⟩
  replace hp := hp.keep hK
  replace hB := more hB hK
  clear hK
  go_wp2_with fail
  refine (push_refused (m := mk 8 trc0) (r := 4) hp hB.size hb.mb.zero (mt_0 _) (mk_bel (by decide) _ (i64_lit rfl) (i64_lit rfl) (by decide) (by decide)) (push4 (by decide) (by decide)) (by decide)).mono ?_
  rintro e w6 hq
  rcases hq with ⟨rfl, hK⟩
  clear hb
  replace hp := hp.keep hK
  replace hB := more hB hK
  clear hK
  go_wp2_with fail
  refine (drop_ok hp hB.size 2 rfl).mono ?_
  rintro e w7 hq
  rcases hq with ⟨v7, rfl, hp', hef, _⟩
  replace hB := hef.below hB (by rintro _ rfl; exact hp.lo)
  clear hef hp
  have hp : PM w.heap.size w7 p v7 oneM L1 := hp'
  clear hp'
  go_wp2_with fail
  refine (holds_yes hp 0 _ rfl 5 rfl (i64_lit rfl)).mono ?_
  rintro e w8 ⟨rfl, hK⟩
  replace hp := hp.keep hK
  replace hB := more hB hK
  clear hK
  go_wp2_with fail
  refine (cut_ok hp hB.size 1 (by decide)).mono ?_
  rintro e w9 hq
  rcases hq with ⟨v9, rfl, hp', hef, _⟩
  replace hB := hef.below hB (by rintro _ rfl; exact hp.lo)
  clear hef hp
  have hp : PM w.heap.size w9 p v9 oneM L2 := hp'
  clear hp'
  go_wp2_with fail
  refine (mlen_val hp 1 rfl).mono ?_
  rintro e w' ⟨rfl, rfl⟩
  go_wp2_with fail
  refine (awake22_is _).mono ?_
  rintro e w10 ⟨rfl, hK⟩
  replace hp := hp.keep hK
  replace hB := more hB hK
  clear hK
  go_wp2_with fail
  refine (cut_no hp 2 (.inr (by decide))).mono ?_
  rintro e w' ⟨rfl, rfl⟩
  go_wp2_with fail
  refine (drop_ok hp hB.size 0 rfl).mono ?_
  rintro e w11 hq
  rcases hq with ⟨v11, rfl, hp', hef, _⟩
  replace hB := hef.below hB (by rintro _ rfl; exact hp.lo)
  clear hef hp
  have hp : PM w.heap.size w11 p v11 oneM L3 := hp'
  clear hp'
  go_wp2_with fail
  refine (drop_no hp rfl).mono ?_
  rintro e w' ⟨rfl, rfl⟩
  go_wp2_with fail
  go_ret
  exact ⟨rfl, hB⟩

end Go.Proofs.Ytagakcnhhhlolaa.Base
