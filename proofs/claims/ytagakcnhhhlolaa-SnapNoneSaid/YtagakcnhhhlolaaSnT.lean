/- snap: a memory that nobody made. No conditions. -/
import Derived.Test.YtagakcnhhhlolaaSnQ
import Derived.Test.YtagakcnhhhlolaaSnM
namespace Go.Proofs.Ytagakcnhhhlolaa.Base
open Go.RowKit
set_option linter.unusedVariables false
set_option linter.unusedSimpArgs false

/-- A memory that is nil, or that nobody made. -/
def Nob (W : World) (v : Value) : Prop := v = .pointer none ∨ ∃ g, v = .pointer (some ⟨g, 0, none⟩) ∧ W.cell? ⟨g, 0, none⟩ = some (.slice none 0 0)
theorem Nob.keep {W W' : World} {v : Value} (h : Nob W v) (hb : Below W.heap.size W W') : Nob W' v := by
  rcases h with h | ⟨g, h, hc⟩
  · exact .inl h
  · exact .inr ⟨g, h, (hb.cell (World.block_lt_of_cell? W _ hc)).trans hc⟩
set_option maxHeartbeats 1000000 in
theorem nnone_is {W : World} {v : Value} (h : Nob W v) : Calls Try.prog 68 #[v] W fun e w' => e = .returned (.bool true) ∧ W = w' := by
  rcases h with rfl | ⟨g, rfl, hc⟩
  · go_enter Try.func68, Try.ntmps68
    go_wp2_with fail
    go_ret
    exact ⟨rfl, rfl⟩
  · go_enter Try.func68, Try.ntmps68
    go_wp2_with fail
    go_ret
    exact ⟨rfl, rfl⟩
set_option maxHeartbeats 1000000 in
theorem nlen_is {W : World} {v : Value} (h : Nob W v) : Calls Try.prog 40 #[v] W fun e w' => e = .returned (.int .i64 0) ∧ W = w' := by
  have HN := Lib.hid (nnone_is h)
  clear h
  go_enter Try.func40, Try.ntmps40
  go_wp2_with fail
  refine HN.out.mono ?_
  rintro e w' ⟨rfl, rfl⟩
  go_wp2_with fail
  go_ret
  exact ⟨rfl, rfl⟩
set_option maxHeartbeats 1000000 in
theorem ncopy_is {W : World} {v : Value} (h : Nob W v) : Calls Try.prog 48 #[v] W fun e w' => e = .returned (.pointer none) ∧ W = w' := by
  have HN := Lib.hid (nnone_is h)
  clear h
  go_enter Try.func48, Try.ntmps48
  go_wp2_with fail
  refine HN.out.mono ?_
  rintro e w' ⟨rfl, rfl⟩
  go_wp2_with fail
  go_ret
  exact ⟨rfl, rfl⟩
set_option maxHeartbeats 1000000 in
theorem ndrop_is {W : World} {v : Value} (h : Nob W v) : Calls Try.prog 37 #[v] W fun e w' => e = .returned (.int .i64 1) ∧ W = w' := by
  have HN := Lib.hid (nnone_is h)
  clear h
  go_enter Try.func37, Try.ntmps37
  go_wp2_with fail
  refine HN.out.mono ?_
  rintro e w' ⟨rfl, rfl⟩
  go_wp2_with fail
  go_ret
  exact ⟨rfl, rfl⟩
set_option maxHeartbeats 1000000 in
theorem ncut_is {W : World} {v : Value} (h : Nob W v) (n : Int) : Calls Try.prog 39 #[v, .int .i64 n] W fun e w' => e = .returned (.int .i64 1) ∧ W = w' := by
  have HN := Lib.hid (nnone_is h)
  clear h
  go_enter Try.func39, Try.ntmps39
  go_wp2_with fail
  refine HN.out.mono ?_
  rintro e w' ⟨rfl, rfl⟩
  go_wp2_with fail
  go_ret
  exact ⟨rfl, rfl⟩
set_option maxHeartbeats 1000000 in
theorem nfind_is {W : World} {v : Value} (h : Nob W v) (n : Int) : Calls Try.prog 34 #[v, .int .i64 n] W fun e w' => e = .returned (.tuple #[.int .i64 0, .int .i64 1]) ∧ Below W.heap.size W w' := by
  have HN := Lib.hid (nnone_is h)
  clear h
  go_enter Try.func34, Try.ntmps34
  go_wp2_with fail
  refine HN.out.mono ?_
  rintro e w' ⟨rfl, rfl⟩
  go_wp2_with fail
  go_ret2
  exact ⟨rfl, Below.refl _ _⟩
set_option maxHeartbeats 1000000 in
set_option maxRecDepth 100000 in
theorem npush_is {W : World} {v vb vt : Value} {m : Mrk} (h : Nob W v) (hb : MB 0 W vb m.b) (ht : MT W vt m.t) : Calls Try.prog 35 #[v, vb, vt] W fun e w' => e = .returned (.int .i64 1) ∧ Below W.heap.size W w' := by
  obtain ⟨aX, cX, aP, cP, rfl, hX, hP⟩ := hb.ex
  obtain ⟨aH, cH, aR, cR, rfl, hH, hR⟩ := ht.ex
  have HN := Lib.hid h
  clear h hb ht hX hP hH hR
  go_enter Try.func35, Try.ntmps35
  go_wp2_with (first | ((with_reducible refine at_dst (N := 4) rfl ?_); refine ev_new rfl (cs := #[Value.int .i64 m.b.t, Value.slice aX m.b.X.length cX, Value.slice aP m.b.P.length cP, Value.bool m.b.flag, Value.int .i64 m.b.pass, Value.int .i64 m.b.fail]) (t := 27) (by go_simp) ?_; intro w1 b1 hB1 hz1) | ((with_reducible refine at_dst (N := 5) rfl ?_); refine ev_new rfl (cs := #[Value.bool m.t.is, Value.slice aH m.t.H.length cH, Value.slice aR m.t.R.length cR, Value.int .i64 m.t.s, Value.int .i64 m.t.nu]) (t := 52) (by go_simp) ?_; intro w2 b2 hB2 hz2; replace hB1 := more hB1 hB2))
  refine (nnone_is (HN.out.keep hB1)).mono ?_
  rintro e w' ⟨rfl, rfl⟩
  clear hz1 hz2 b1 b2
  go_wp2_with fail
  go_ret
  exact ⟨rfl, hB1⟩
def AtNil (e : Ending) : Prop := e = .returned (.tuple #[.agg #[.int .i64 0, .slice none 0 0, .slice none 0 0, .bool false, .int .i64 0, .int .i64 0], .agg #[.bool false, .slice none 0 0, .slice none 0 0, .int .i64 0, .int .i64 0], .int .i64 1])
set_option maxHeartbeats 4000000 in
set_option maxRecDepth 100000 in
theorem nat_is {W : World} {v : Value} (h : Nob W v) (n : Int) : Calls Try.prog 33 #[v, .int .i64 n] W fun e w' => AtNil e ∧ Below W.heap.size W w' := by
  have HH := Lib.hid h
  clear h
  go_enter Try.func33, Try.ntmps33
  go_wp2_with (first | ((with_reducible refine at_dst (N := 4) rfl ?_); refine ev_new rfl (cs := #[Value.int .i64 0, Value.slice none 0 0, Value.slice none 0 0, Value.bool false, Value.int .i64 0, Value.int .i64 0]) (t := 27) (by go_simp) ?_; intro w1 b1 hB1 hz1) | ((with_reducible refine at_dst (N := 5) rfl ?_); refine ev_new rfl (cs := #[Value.bool false, Value.slice none 0 0, Value.slice none 0 0, Value.int .i64 0, Value.int .i64 0]) (t := 52) (by go_simp) ?_; intro w2 b2 hB2 hz2; replace b1 := b1.keep hB2; replace hB1 := more hB1 hB2; rw [hz1] at b2; try rw [hz1]; clear hB2 hz1))
  obtain ⟨x, hx⟩ : ∃ x, W.heap.size = x := ⟨_, rfl⟩
  rw [hx] at b1 b2
  simp only [hx]
  have hxy : ¬ x + 1 = x := by omega
  have hyx : ¬ x = x + 1 := by omega
  clear hz2
  refine (nnone_is (HH.out.keep hB1)).mono ?_
  rintro e w' ⟨rfl, rfl⟩
  go_wp2_with (first | ((with_reducible refine at_st (p := 4) (q := 11) rfl ?_); refine ev_store rfl 27 _ _ rfl rfl b1 0 rfl rfl [.int .i64 0, .slice none 0 0, .slice none 0 0, .bool false, .int .i64 0, .int .i64 0] rfl (by kernel_rfl) rfl rfl #[Value.int .i64 0, Value.slice none 0 0, Value.slice none 0 0, Value.bool false, Value.int .i64 0, Value.int .i64 0] rfl ?_; intro w3 b3 ef3 hz3; have b4 := ef3.blk b2 hxy) | ((with_reducible refine at_st (p := 5) (q := 12) rfl ?_); refine ev_store rfl 52 _ _ rfl rfl b4 0 rfl rfl [.bool false, .slice none 0 0, .slice none 0 0, .int .i64 0, .int .i64 0] rfl (by kernel_rfl) rfl rfl #[Value.bool false, Value.slice none 0 0, Value.slice none 0 0, Value.int .i64 0, Value.int .i64 0] rfl ?_; intro w4 b5 ef4 hz4; have b6 := ef4.blk b3 hyx))
  have hB4 : Below W.heap.size W w4 := ef4.below (ef3.below hB1 (by rintro _ rfl; omega)) (by rintro _ rfl; omega)
  refine bodyPost_ret (results_cct rfl _ _ rfl b6 Try.underlying27 rfl (by kernel_rfl) rfl b5 Try.underlying52 rfl (by kernel_rfl)) rfl ?_
  exact ⟨rfl, hB4⟩

end Go.Proofs.Ytagakcnhhhlolaa.Base
