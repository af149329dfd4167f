/- SnapNone: the walk. No conditions. -/
import Derived.Test.YtagakcnhhhlolaaSnT
namespace Go.Proofs.Ytagakcnhhhlolaa.Base
open Go.ChangeShapes Go.WideShapes Go.Deep Go.RowKit
set_option linter.unusedVariables false
set_option linter.unusedSimpArgs false

section
variable {P : Program} {ops : Array Oper} {o : Oper} {rest : List Oper} {a : Act} {W : World} {Q : Exit → Act → World → Prop}
theorem ev_slicen (n : Nat) (hgd : o.guard = none) {cs : Array Value} {t : TypeId} (hrun : (execOp a.eval o).run P W = .ok (.value (.slice (some ⟨W.heap.size, 0, none⟩) n n)) (W.alloc (.cells cs t)))
    (h : ∀ w', Blk w' W.heap.size cs t → Below W.heap.size W w' → w'.heap.size = W.heap.size + 1 → wpList P ops Q rest (a.put o.dst (.slice (some ⟨W.heap.size, 0, none⟩) n n)) w') : wpList P ops Q (o :: rest) a W :=
  wpList_plain hgd fun _ hK => by
    unfold Oper.wp
    rw [hrun]
    exact hK _ _ (h _ (Blk.new W cs t) ((Below.refl _ _).alloc (Nat.le_refl _) _) (by simp))
end
theorem mb_zero (W : World) : MB 0 W (.agg #[.int .i64 0, .slice none 0 0, .slice none 0 0, .bool false, .int .i64 0, .int .i64 0]) ⟨0, [], [], false, 0, 0⟩ := ⟨⟨none, 0, none, 0, rfl, MI.nil _ _, MI.nil _ _⟩, i64_lit rfl, i64_lit rfl, i64_lit rfl⟩
set_option maxHeartbeats 16000000 in
set_option maxRecDepth 100000 in
theorem none22_walk (q : Ac) (cs : List Value) (w : World) (hc : KO w cs q.m) (hk : I64 q.kind) (hn : I64 q.n) :
    Calls Try.prog 12 #[.agg (.int .i64 q.kind :: .int .i64 q.n :: cs).toArray] w fun e w' => e = .returned (.bool true) ∧ Below w.heap.size w w' := by
  obtain ⟨aX, cX, aP, cP, aH, cH, aR, cR, rfl, h1, h2, h3, h4⟩ := hc.km
  have HB := Lib.hid (mark_mb h1 h2 hc.t hc.pass hc.fail)
  have HT := Lib.hid (trd_mt h3 h4 hc.s hc.nu)
  have HC := Lib.hid hc
  have HK := Lib.hid hk
  have HN := Lib.hid hn
  clear h1 h2 h3 h4 hc hk hn
  go_enter Try.func12, Try.ntmps12
  go_wp2_with (first | ((with_reducible refine at_dst (N := 1) rfl ?_); refine ev_new rfl (cs := #[Value.int .i64 q.kind, Value.int .i64 q.n, Value.int .i64 q.m.b.t, Value.slice aX q.m.b.X.length cX, Value.slice aP q.m.b.P.length cP, Value.bool q.m.b.flag, Value.int .i64 q.m.b.pass, Value.int .i64 q.m.b.fail, Value.bool q.m.t.is, Value.slice aH q.m.t.H.length cH, Value.slice aR q.m.t.R.length cR, Value.int .i64 q.m.t.s, Value.int .i64 q.m.t.nu]) (t := 68) (by go_simp) ?_; intro w1 b1 hB1 hz1; have x0 := b1.cell 0; have x1 := b1.cell 1; have x2 := b1.cell 2; have x3 := b1.cell 3; have x4 := b1.cell 4; have x5 := b1.cell 5; have x6 := b1.cell 6; have x7 := b1.cell 7; have x8 := b1.cell 8; have x9 := b1.cell 9; have x10 := b1.cell 10; have x11 := b1.cell 11; have x12 := b1.cell 12; simp at x0 x1 x2 x3 x4 x5 x6 x7 x8 x9 x10 x11 x12) | ((with_reducible refine at_dst (N := 12) rfl ?_); refine ev_slicen 1 rfl (cs := #[Value.int .i64 q.kind, Value.int .i64 q.n, Value.int .i64 q.m.b.t, Value.slice aX q.m.b.X.length cX, Value.slice aP q.m.b.P.length cP, Value.bool q.m.b.flag, Value.int .i64 q.m.b.pass, Value.int .i64 q.m.b.fail, Value.bool q.m.t.is, Value.slice aH q.m.t.H.length cH, Value.slice aR q.m.t.R.length cR, Value.int .i64 q.m.t.s, Value.int .i64 q.m.t.nu]) (t := 68) (by go_simp) ?_; intro w2 b2 hB2 hz2))
  rw [hz1] at b2
  have hB2' := more hB1 hB2
  have hma : MAc w2 (some ⟨w.heap.size + 1, 0, none⟩) 1 [q] := ⟨fun k hk => ⟨_, rfl, by
    obtain rfl : k = 0 := by simpa using hk
    refine ⟨⟨_, HC.out.keep hB2', fun j u hj => ?_⟩, HK.out, HN.out⟩
    rw [Addr.add_add, Nat.zero_mul, Nat.zero_add, Addr.add_mid, Nat.zero_add, b2.cell j]
    simpa using hj⟩, by simp [maxLen], fun h => (by cases h), by simp⟩
  replace b1 := b1.keep hB2
  clear x0 x1 x2 x3 x4 x5 x6 x7 x8 x9 x10 x11 x12 b2 hB2 hz2 hB1 hz1
  refine (long_is hma).mono ?_
  rintro e w3 ⟨hq, hK3⟩
  clear hma
  replace b1 := b1.keep hK3
  have hB3 := more hB2' hK3
  clear hB2' hK3
  rcases hq with rfl | ⟨rfl, hsh⟩
  · go_wp2_with fail
    refine (awake22_is _).mono ?_
    rintro e w4 ⟨rfl, hK4⟩
    go_wp2_with fail
    go_ret
    exact ⟨rfl, more hB3 hK4⟩
  clear hsh
  go_wp2_with (first | ((with_reducible refine at_dst (N := 16) rfl ?_); refine ev_new rfl (cs := #[Value.slice none 0 0, Value.int .i64 0, Value.slice none 0 0, Value.slice none 0 0, Value.int .i64 0, Value.int .i64 0, Value.int .i64 0, Value.slice none 0 0]) (t := 81) (by go_simp) ?_; intro w4 b4 hB4 hz4) | ((with_reducible refine at_dst (N := 17) rfl ?_); refine ev_slicen 2 rfl (cs := #[Value.pointer none, Value.pointer (some ⟨w3.heap.size, 0, none⟩)]) (t := 49) (by go_simp) ?_; intro w5 b5 hB5 hz5))
  replace b1 := b1.keep (more hB4 hB5)
  replace b4 := b4.keep hB5
  replace hB3 := more hB3 (more hB4 hB5)
  rw [hz4] at b5
  have l0 := Lib.hid (b5.cell 0)
  have l1 := Lib.hid (b5.cell 1)
  clear hB4 hB5 hz4 hz5
  go_loopw [4] (fun i wr => ∃ (kk : Nat), kk ≤ 2 ∧ i = .int .i64 kk ∧ Below w5.heap.size w5 wr) (fun i _ => 2 - (intOf i).toNat)
  case atStart => exact ⟨0, by omega, rfl, Below.refl _ _⟩
  case round =>
    obtain ⟨kk, hk, rfl, hT⟩ := hrel
    have m0 := (b5.keep hT).cell 0
    have m1 := (b5.keep hT).cell 1
    simp at m0 m1
    have hc : kk = 0 ∨ kk = 1 ∨ kk = 2 := by omega
    rcases hc with rfl | rfl | rfl
    · have hnob := Lib.hid (show Nob wr (.pointer none) from .inl rfl)
      have hbx := Lib.hid (b1.keep hT)
      have x0 := (hbx.out.keep (Below.refl _ _)).cell 0
      have x1 := (hbx.out.keep (Below.refl _ _)).cell 1
      have x2 := (hbx.out.keep (Below.refl _ _)).cell 2
      have x3 := (hbx.out.keep (Below.refl _ _)).cell 3
      have x4 := (hbx.out.keep (Below.refl _ _)).cell 4
      have x5 := (hbx.out.keep (Below.refl _ _)).cell 5
      have x6 := (hbx.out.keep (Below.refl _ _)).cell 6
      have x7 := (hbx.out.keep (Below.refl _ _)).cell 7
      have x8 := (hbx.out.keep (Below.refl _ _)).cell 8
      have x9 := (hbx.out.keep (Below.refl _ _)).cell 9
      have x10 := (hbx.out.keep (Below.refl _ _)).cell 10
      have x11 := (hbx.out.keep (Below.refl _ _)).cell 11
      have x12 := (hbx.out.keep (Below.refl _ _)).cell 12
      simp at x0 x1 x2 x3 x4 x5 x6 x7 x8 x9 x10 x11 x12
      go_wp2_with fail
      refine (nat_is hnob.out q.n).mono ?_
      rintro e w6 ⟨he, hK6⟩
      obtain rfl := he
      replace hT := more hT hK6
      clear x0 x1 x2 x3 x4 x5 x6 x7 x8 x9 x10 x11 x12
      go_wp2_with (first | ((with_reducible refine at_dst (N := 6) rfl ?_); refine ev_new rfl (cs := #[Value.int .i64 0, Value.slice none 0 0, Value.slice none 0 0, Value.bool false, Value.int .i64 0, Value.int .i64 0]) (t := 27) (by go_simp) ?_; intro wa a1 hBa hza) | ((with_reducible refine at_dst (N := 7) rfl ?_); refine ev_new rfl (cs := #[Value.bool false, Value.slice none 0 0, Value.slice none 0 0, Value.int .i64 0, Value.int .i64 0]) (t := 52) (by go_simp) ?_; intro wb a2 hBb hzb; replace a1 := a1.keep hBb) | ((with_reducible refine at_st (p := 6) (q := 33) rfl ?_); refine ev_store rfl 27 _ _ rfl rfl a1 0 rfl rfl [Value.int .i64 0, Value.slice none 0 0, Value.slice none 0 0, Value.bool false, Value.int .i64 0, Value.int .i64 0] rfl (by kernel_rfl) rfl rfl #[Value.int .i64 0, Value.slice none 0 0, Value.slice none 0 0, Value.bool false, Value.int .i64 0, Value.int .i64 0] rfl ?_; intro wc a1 ef1 hzc) | ((with_reducible refine at_st (p := 7) (q := 34) rfl ?_); refine ev_store rfl 52 _ _ rfl rfl (ef1.blk a2 (by omega)) 0 rfl rfl [Value.bool false, Value.slice none 0 0, Value.slice none 0 0, Value.int .i64 0, Value.int .i64 0] rfl (by kernel_rfl) rfl rfl #[Value.bool false, Value.slice none 0 0, Value.slice none 0 0, Value.int .i64 0, Value.int .i64 0] rfl ?_; intro wd a3 ef2 hzd; replace a1 := ef2.blk a1 (by omega); have hB9 : Below w6.heap.size w6 wd := ef2.below (ef1.below (more hBa hBb) (by rintro _ rfl; omega)) (by rintro _ rfl; omega); replace hT := more hT hB9; have hK7 := more hK6 hB9; clear hBa hBb hza hzb hzc hzd ef1 ef2 a2 hB9 hK6; have hbx7 := Lib.hid (hbx.out.keep hK7); have x1 := hbx7.out.cell 1; simp at x1))
      refine (nfind_is (hnob.out.keep hK7) q.n).mono ?_
      rintro e w8 ⟨rfl, hK8⟩
      have hbx8 := Lib.hid (hbx7.out.keep hK8)
      have hnob8 := Lib.hid (hnob.out.keep (more hK7 hK8))
      replace a1 := a1.keep hK8
      replace a3 := a3.keep hK8
      have hA := more hB3 (more hT hK8)
      replace hT := more hT hK8
      clear hK8 hK7 x1 hbx hbx7 hnob
      have x0 := (hbx8.out).cell 0
      have x1 := (hbx8.out).cell 1
      have x2 := (hbx8.out).cell 2
      have x3 := (hbx8.out).cell 3
      have x4 := (hbx8.out).cell 4
      have x5 := (hbx8.out).cell 5
      have x6 := (hbx8.out).cell 6
      have x7 := (hbx8.out).cell 7
      have x8 := (hbx8.out).cell 8
      have x9 := (hbx8.out).cell 9
      have x10 := (hbx8.out).cell 10
      have x11 := (hbx8.out).cell 11
      have x12 := (hbx8.out).cell 12
      simp at x0 x1 x2 x3 x4 x5 x6 x7 x8 x9 x10 x11 x12
      go_wp2_with fail
      refine (npush_is (m := q.m) hnob8.out (HB.out.keep hA) (HT.out.keep hA)).mono ?_
      rintro e w9 ⟨rfl, hK9⟩
      have hbx9 := Lib.hid (hbx8.out.keep hK9)
      have hnob9 := Lib.hid (hnob8.out.keep hK9)
      replace a1 := a1.keep hK9
      replace a3 := a3.keep hK9
      replace hT := more hT hK9
      clear hK9 hbx8 hnob8 hA x0 x1 x2 x3 x4 x5 x6 x7 x8 x9 x10 x11 x12
      have x0 := (hbx9.out).cell 0
      have x1 := (hbx9.out).cell 1
      have x2 := (hbx9.out).cell 2
      have x3 := (hbx9.out).cell 3
      have x4 := (hbx9.out).cell 4
      have x5 := (hbx9.out).cell 5
      have x6 := (hbx9.out).cell 6
      have x7 := (hbx9.out).cell 7
      have x8 := (hbx9.out).cell 8
      have x9 := (hbx9.out).cell 9
      have x10 := (hbx9.out).cell 10
      have x11 := (hbx9.out).cell 11
      have x12 := (hbx9.out).cell 12
      simp at x0 x1 x2 x3 x4 x5 x6 x7 x8 x9 x10 x11 x12
      go_wp2_with fail
      refine (ncut_is hnob9.out q.n).mono ?_
      rintro e w' ⟨rfl, rfl⟩
      go_wp2_with fail
      refine (ndrop_is hnob9.out).mono ?_
      rintro e w' ⟨rfl, rfl⟩
      go_wp2_with fail
      refine (nlen_is hnob9.out).mono ?_
      rintro e w' ⟨rfl, rfl⟩
      go_wp2_with fail
      refine (ncopy_is hnob9.out).mono ?_
      rintro e w' ⟨rfl, rfl⟩
      have y0 := a1.cell 0
      have y1 := a1.cell 1
      have y2 := a1.cell 2
      have y3 := a1.cell 3
      have y4 := a1.cell 4
      have y5 := a1.cell 5
      have z0 := a3.cell 0
      simp at y0 y1 y2 y3 y4 y5 z0
      go_wp2_with fail
      refine (sameBelief_same (mb_zero _) (mb_zero _)).mono ?_
      rintro e w10 ⟨rfl, hK10⟩
      replace hT := more hT hK10
      clear hbx9 hnob9 a1 a3 y0 y1 y2 y3 y4 y5 z0 x0 x1 x2 x3 x4 x5 x6 x7 x8 x9 x10 x11 x12
      go_wp2_with fail
      go_roundw
      case rel => exact ⟨1, by omega, by go_num, hT⟩
      case measure => simp [intOf]
    · have hnob := Lib.hid (show Nob wr (.pointer (some ⟨w3.heap.size, 0, none⟩)) from .inr ⟨_, rfl, by have := (b4.keep hT).cell 0; simpa using this⟩)
      have hbx := Lib.hid (b1.keep hT)
      have x0 := (hbx.out.keep (Below.refl _ _)).cell 0
      have x1 := (hbx.out.keep (Below.refl _ _)).cell 1
      have x2 := (hbx.out.keep (Below.refl _ _)).cell 2
      have x3 := (hbx.out.keep (Below.refl _ _)).cell 3
      have x4 := (hbx.out.keep (Below.refl _ _)).cell 4
      have x5 := (hbx.out.keep (Below.refl _ _)).cell 5
      have x6 := (hbx.out.keep (Below.refl _ _)).cell 6
      have x7 := (hbx.out.keep (Below.refl _ _)).cell 7
      have x8 := (hbx.out.keep (Below.refl _ _)).cell 8
      have x9 := (hbx.out.keep (Below.refl _ _)).cell 9
      have x10 := (hbx.out.keep (Below.refl _ _)).cell 10
      have x11 := (hbx.out.keep (Below.refl _ _)).cell 11
      have x12 := (hbx.out.keep (Below.refl _ _)).cell 12
      simp at x0 x1 x2 x3 x4 x5 x6 x7 x8 x9 x10 x11 x12
      go_wp2_with fail
      refine (nat_is hnob.out q.n).mono ?_
      rintro e w6 ⟨he, hK6⟩
      obtain rfl := he
      replace hT := more hT hK6
      clear x0 x1 x2 x3 x4 x5 x6 x7 x8 x9 x10 x11 x12
      go_wp2_with (first | ((with_reducible refine at_dst (N := 6) rfl ?_); refine ev_new rfl (cs := #[Value.int .i64 0, Value.slice none 0 0, Value.slice none 0 0, Value.bool false, Value.int .i64 0, Value.int .i64 0]) (t := 27) (by go_simp) ?_; intro wa a1 hBa hza) | ((with_reducible refine at_dst (N := 7) rfl ?_); refine ev_new rfl (cs := #[Value.bool false, Value.slice none 0 0, Value.slice none 0 0, Value.int .i64 0, Value.int .i64 0]) (t := 52) (by go_simp) ?_; intro wb a2 hBb hzb; replace a1 := a1.keep hBb) | ((with_reducible refine at_st (p := 6) (q := 33) rfl ?_); refine ev_store rfl 27 _ _ rfl rfl a1 0 rfl rfl [Value.int .i64 0, Value.slice none 0 0, Value.slice none 0 0, Value.bool false, Value.int .i64 0, Value.int .i64 0] rfl (by kernel_rfl) rfl rfl #[Value.int .i64 0, Value.slice none 0 0, Value.slice none 0 0, Value.bool false, Value.int .i64 0, Value.int .i64 0] rfl ?_; intro wc a1 ef1 hzc) | ((with_reducible refine at_st (p := 7) (q := 34) rfl ?_); refine ev_store rfl 52 _ _ rfl rfl (ef1.blk a2 (by omega)) 0 rfl rfl [Value.bool false, Value.slice none 0 0, Value.slice none 0 0, Value.int .i64 0, Value.int .i64 0] rfl (by kernel_rfl) rfl rfl #[Value.bool false, Value.slice none 0 0, Value.slice none 0 0, Value.int .i64 0, Value.int .i64 0] rfl ?_; intro wd a3 ef2 hzd; replace a1 := ef2.blk a1 (by omega); have hB9 : Below w6.heap.size w6 wd := ef2.below (ef1.below (more hBa hBb) (by rintro _ rfl; omega)) (by rintro _ rfl; omega); replace hT := more hT hB9; have hK7 := more hK6 hB9; clear hBa hBb hza hzb hzc hzd ef1 ef2 a2 hB9 hK6; have hbx7 := Lib.hid (hbx.out.keep hK7); have x1 := hbx7.out.cell 1; simp at x1))
      refine (nfind_is (hnob.out.keep hK7) q.n).mono ?_
      rintro e w8 ⟨rfl, hK8⟩
      have hbx8 := Lib.hid (hbx7.out.keep hK8)
      have hnob8 := Lib.hid (hnob.out.keep (more hK7 hK8))
      replace a1 := a1.keep hK8
      replace a3 := a3.keep hK8
      have hA := more hB3 (more hT hK8)
      replace hT := more hT hK8
      clear hK8 hK7 x1 hbx hbx7 hnob
      have x0 := (hbx8.out).cell 0
      have x1 := (hbx8.out).cell 1
      have x2 := (hbx8.out).cell 2
      have x3 := (hbx8.out).cell 3
      have x4 := (hbx8.out).cell 4
      have x5 := (hbx8.out).cell 5
      have x6 := (hbx8.out).cell 6
      have x7 := (hbx8.out).cell 7
      have x8 := (hbx8.out).cell 8
      have x9 := (hbx8.out).cell 9
      have x10 := (hbx8.out).cell 10
      have x11 := (hbx8.out).cell 11
      have x12 := (hbx8.out).cell 12
      simp at x0 x1 x2 x3 x4 x5 x6 x7 x8 x9 x10 x11 x12
      go_wp2_with fail
      refine (npush_is (m := q.m) hnob8.out (HB.out.keep hA) (HT.out.keep hA)).mono ?_
      rintro e w9 ⟨rfl, hK9⟩
      have hbx9 := Lib.hid (hbx8.out.keep hK9)
      have hnob9 := Lib.hid (hnob8.out.keep hK9)
      replace a1 := a1.keep hK9
      replace a3 := a3.keep hK9
      replace hT := more hT hK9
      clear hK9 hbx8 hnob8 hA x0 x1 x2 x3 x4 x5 x6 x7 x8 x9 x10 x11 x12
      have x0 := (hbx9.out).cell 0
      have x1 := (hbx9.out).cell 1
      have x2 := (hbx9.out).cell 2
      have x3 := (hbx9.out).cell 3
      have x4 := (hbx9.out).cell 4
      have x5 := (hbx9.out).cell 5
      have x6 := (hbx9.out).cell 6
      have x7 := (hbx9.out).cell 7
      have x8 := (hbx9.out).cell 8
      have x9 := (hbx9.out).cell 9
      have x10 := (hbx9.out).cell 10
      have x11 := (hbx9.out).cell 11
      have x12 := (hbx9.out).cell 12
      simp at x0 x1 x2 x3 x4 x5 x6 x7 x8 x9 x10 x11 x12
      go_wp2_with fail
      refine (ncut_is hnob9.out q.n).mono ?_
      rintro e w' ⟨rfl, rfl⟩
      go_wp2_with fail
      refine (ndrop_is hnob9.out).mono ?_
      rintro e w' ⟨rfl, rfl⟩
      go_wp2_with fail
      refine (nlen_is hnob9.out).mono ?_
      rintro e w' ⟨rfl, rfl⟩
      go_wp2_with fail
      refine (ncopy_is hnob9.out).mono ?_
      rintro e w' ⟨rfl, rfl⟩
      have y0 := a1.cell 0
      have y1 := a1.cell 1
      have y2 := a1.cell 2
      have y3 := a1.cell 3
      have y4 := a1.cell 4
      have y5 := a1.cell 5
      have z0 := a3.cell 0
      simp at y0 y1 y2 y3 y4 y5 z0
      go_wp2_with fail
      refine (sameBelief_same (mb_zero _) (mb_zero _)).mono ?_
      rintro e w10 ⟨rfl, hK10⟩
      replace hT := more hT hK10
      clear hbx9 hnob9 a1 a3 y0 y1 y2 y3 y4 y5 z0 x0 x1 x2 x3 x4 x5 x6 x7 x8 x9 x10 x11 x12
      go_wp2_with fail
      go_roundw
      case rel => exact ⟨2, by omega, by go_num, hT⟩
      case measure => simp [intOf]
    · go_wp2_with fail
      refine (awake22_is _).mono ?_
      rintro e w6 ⟨rfl, hK6⟩
      go_wp2_with fail
      go_ret
      exact ⟨rfl, more hB3 (more hT hK6)⟩
section
variable {H : Type} {enc : TypeId × Value → H} {w : World} {base : Nat} {spare : Nat → Bool} {held : Bool}
set_option maxRecDepth 100000 in
/-- An act that came in. -/
theorem open_act {r : Reach} {b0 : Nat} {v : Value} {d : DataW H} {p : List MemPlace} (hv : Value.okWide Try.prog w r b0 68 v) (h : DataW.Trod enc Try.prog w base spare held 68 v d p) :
    ∃ (q : Ac) (cs : List Value), v = .agg (.int .i64 q.kind :: .int .i64 q.n :: cs).toArray ∧ KO w cs q.m ∧ I64 q.kind ∧ I64 q.n := by
  obtain ⟨cs, rfl, hsz⟩ := okWide_struct Try.underlying68 hv
  rw [show Try.prog.cellsOf 68 = 13 from by kernel_rfl] at hsz
  obtain ⟨l⟩ := cs
  obtain ⟨fuel, hf⟩ := h
  obtain ⟨q, ds, e, h1, h2, h3⟩ := open_act13 (cs := l) hsz hf
  exact ⟨q, ds, by rw [e], h1, h2, h3⟩
end

end Go.Proofs.Ytagakcnhhhlolaa.Base
