/- snap: At of a place. No conditions. -/
import Derived.Test.YtagakcnhhhlolaaSnF
namespace Go.Proofs.Ytagakcnhhhlolaa.Base
open Go.RowKit
set_option linter.unusedVariables false
set_option linter.unusedSimpArgs false

theorem RK.row {B : Nat} {W : World} {v : Value} {ms : List Mrk} (h : RK B W v ms) (k : Nat) (hk : k < ms.length) : ∃ g c cur cs, v = .slice (some ⟨g, 0, none⟩) ms.length c ∧ Blk W g cur 96 ∧ (cur.toList.drop (k * 11)).take 11 = cs ∧ KV B W cs ms[k] ∧ B ≤ g := by
  obtain ⟨vs, h1, h2⟩ := h
  rcases id h2 with ⟨hvl, ⟨_, hz⟩ | ⟨g, c, cur, rfl, hB, hrow, hfit, hcm, hcs, hcur⟩⟩
  · omega
  obtain ⟨cs, e1, e2⟩ := h1.get k hk
  refine ⟨g, c, cur, cs, rfl, hrow, ?_, e2, hB⟩
  have hl := e2.len.1
  have hd : (vs.flatten.drop (k * 11)).take 11 = cs := by
    rw [flat_drop k (all2_len h1)]
    obtain ⟨hn, rfl⟩ := List.getElem?_eq_some_iff.1 e1
    rw [List.drop_eq_getElem_cons hn, List.flatten_cons, List.take_append_of_le_length (by omega), List.take_of_length_le (by omega)]
  rw [← hcur, List.drop_take, List.take_take] at hd
  rw [← hd]
  congr 1
  omega

set_option maxHeartbeats 8000000 in
set_option profiler true in
set_option profiler.threshold 3000 in
set_option maxRecDepth 100000 in
theorem at_ok {B : Nat} {W : World} {p : Nat} {v : Value} {M : Mdl} {ms : List Mrk} (h : PM B W p v M ms) (k : Nat) (hk : k < ms.length) : Calls Try.prog 33 #[.pointer (some ⟨p, 0, none⟩), .int .i64 k] W fun e w' => AtOk W.heap.size w' ms[k] e ∧ Below W.heap.size W w' := by
  have hok := h.ok _ (List.getElem_mem hk)
  obtain ⟨g, c, cs, hv, hkv, hcell⟩ := h.rows.at_ k hk
  obtain ⟨g2, c2, aA, cA, aQ, cQ, aR, cR, hv2, hc, hcm, _, hb, hM⟩ := h.box
  rw [hv] at hv2
  injection hv2 with e1 _ e2
  injection e1 with e1
  injection e1 with e1
  subst e1 e2
  have hl := h.len
  have HH := Lib.hid h
  have h2 : ¬ (k : Int) < 0 := by omega
  have h3 : ¬ (ms.length : Int) - 1 < (k : Int) := by omega
  have h4 : (k : Int) < (ms.length : Int) := by omega
  have h5 : (0 : Int) ≤ (k : Int) := by omega
  generalize ms[k] = m at *
  clear h hM hv
  go_enter Try.func33, Try.ntmps33
  go_wp2_with (first | ((with_reducible refine at_dst (N := 4) rfl ?_); refine ev_new rfl (cs := #[Value.int .i64 0, Value.slice none 0 0, Value.slice none 0 0, Value.bool false, Value.int .i64 0, Value.int .i64 0]) (t := 27) (by go_simp) ?_; intro w1 b1 hB1 hz1) | ((with_reducible refine at_dst (N := 5) rfl ?_); refine ev_new rfl (cs := #[Value.bool false, Value.slice none 0 0, Value.slice none 0 0, Value.int .i64 0, Value.int .i64 0]) (t := 52) (by go_simp) ?_; intro w2 b2 hB2 hz2; replace b1 := b1.keep hB2; replace hB1 := more hB1 hB2; rw [hz1] at b2 hz2; try rw [hz1]; clear hB2 hz1))
  obtain ⟨x, hx⟩ : ∃ x, W.heap.size = x := ⟨_, rfl⟩
  rw [hx] at b1 b2 hz2
  simp only [hx]
  have hc0 := (hb.keep hB1).cell 0
  simp at hc0
  refine (none_is (HH.out.keep hB1)).mono ?_
  rintro e w' ⟨rfl, rfl⟩
  go_wp2_with fail
  refine (mlen_is (HH.out.keep hB1)).mono ?_
  rintro e w' ⟨rfl, rfl⟩
  have hkm := hkv.km
  obtain ⟨aX, cX, aP, cP, aH, cH, aR', cR', rfl, _⟩ := hkv
  have up : ∀ j (u : Value), j < 11 → W.cell? ⟨g, k * 11 + j, none⟩ = some u → w2.cell? ⟨g, k * 11 + j, none⟩ = some u := fun j u _ hu => (hB1.cell (World.block_lt_of_cell? W _ hu)).trans hu
  have d0 := up 0 _ (by omega) (hcell 0 (by omega))
  have d1 := up 1 _ (by omega) (hcell 1 (by omega))
  have d2 := up 2 _ (by omega) (hcell 2 (by omega))
  have d3 := up 3 _ (by omega) (hcell 3 (by omega))
  have d4 := up 4 _ (by omega) (hcell 4 (by omega))
  have d5 := up 5 _ (by omega) (hcell 5 (by omega))
  have d6 := up 6 _ (by omega) (hcell 6 (by omega))
  have d7 := up 7 _ (by omega) (hcell 7 (by omega))
  have d8 := up 8 _ (by omega) (hcell 8 (by omega))
  have d9 := up 9 _ (by omega) (hcell 9 (by omega))
  have d10 := up 10 _ (by omega) (hcell 10 (by omega))
  simp at d0
  clear up hcell
  go_wp2_with fail
  refine (own_is (m := m) (cs := _) (hkm.keep hB1) hok).mono ?_
  rintro e w3 ⟨cs', rfl, hkv', hB3⟩
  replace b1 := b1.keep hB3
  replace b2 := b2.keep hB3
  have hs2 := hB3.size
  have hs1 := hB1.size
  replace hB := more hB1 hB3
  obtain ⟨aX, cX, aP, cP, aH, cH, aR', cR', rfl, q1, q2, q3, q4⟩ := hkv'
  clear hc0 d0 d1 d2 d3 d4 d5 d6 d7 d8 d9 d10
  go_wp2_with (first | ((with_reducible refine at_dst (N := 7) rfl ?_); refine ev_new rfl (cs := #[Value.int .i64 0, Value.slice none 0 0, Value.slice none 0 0, Value.bool false, Value.int .i64 0, Value.int .i64 0, Value.bool false, Value.slice none 0 0, Value.slice none 0 0, Value.int .i64 0, Value.int .i64 0]) (t := 96) (by go_simp) ?_; intro w4 b3 hB4 hz4) | ((with_reducible refine at_st (p := 7) (q := 32) rfl ?_); refine ev_store rfl 96 _ _ rfl rfl b3 0 rfl rfl [Value.int .i64 m.b.t, Value.slice aX m.b.X.length cX, Value.slice aP m.b.P.length cP, Value.bool m.b.flag, Value.int .i64 m.b.pass, Value.int .i64 m.b.fail, Value.bool m.t.is, Value.slice aH m.t.H.length cH, Value.slice aR' m.t.R.length cR', Value.int .i64 m.t.s, Value.int .i64 m.t.nu] rfl (by kernel_rfl) rfl rfl #[Value.int .i64 m.b.t, Value.slice aX m.b.X.length cX, Value.slice aP m.b.P.length cP, Value.bool m.b.flag, Value.int .i64 m.b.pass, Value.int .i64 m.b.fail, Value.bool m.t.is, Value.slice aH m.t.H.length cH, Value.slice aR' m.t.R.length cR', Value.int .i64 m.t.s, Value.int .i64 m.t.nu] rfl ?_; intro w5 bz ef5 hz5))
  obtain ⟨z, hz⟩ : ∃ z, w3.heap.size = z := ⟨_, rfl⟩
  simp only [hz] at bz ef5 b3 ⊢
  have hxz : x < z ∧ x + 1 < z := by omega
  have hzx : ¬ z = x := by omega
  have hzy : ¬ z = x + 1 := by omega
  have hxy : ¬ x = x + 1 := by omega
  have hyx : ¬ x + 1 = x := by omega
  replace b1 := ef5.blk (b1.keep hB4) (by omega)
  replace b2 := ef5.blk (b2.keep hB4) (by omega)
  replace hB := ef5.below (more hB hB4) (by rintro _ rfl; omega)
  have kk : ∀ {a : Option Addr} {c : Nat} {zs : List Int}, LI w2.heap.size w3 a c zs → LI W.heap.size w5 a c zs := fun h => ((h.keep hB4).eff ef5 (by rintro _ rfl e; exact absurd (e.inj b3.ty) (by decide))).mono hs1
  replace q1 := kk q1
  replace q2 := kk q2
  replace q3 := kk q3
  replace q4 := kk q4
  clear kk hz5 hz4 hz2
  refine region_fp [some 33, some 34, some 35, some 36, none, none, some 6] [4, 5] [some (Value.pointer (some ⟨z, 0, none⟩)), some (Value.agg #[Value.int .i64 m.b.t, Value.slice aX m.b.X.length cX, Value.slice aP m.b.P.length cP, Value.bool m.b.flag, Value.int .i64 m.b.pass, Value.int .i64 m.b.fail]), some (Value.pointer (some ⟨z, 6, none⟩)), some (Value.agg #[Value.bool m.t.is, Value.slice aH m.t.H.length cH, Value.slice aR' m.t.R.length cR', Value.int .i64 m.t.s, Value.int .i64 m.t.nu]), none, none, some (Value.int .i64 0)]
    (fun _ _ _ => True) (fun _ _ => True) (fun L f W => (L 4 = false → Blk W x #[Value.int .i64 0, Value.slice none 0 0, Value.slice none 0 0, Value.bool false, Value.int .i64 0, Value.int .i64 0] 27) ∧ (L 4 = true → Blk W x #[Value.int .i64 m.b.t, Value.slice aX m.b.X.length cX, Value.slice aP m.b.P.length cP, Value.bool m.b.flag, Value.int .i64 m.b.pass, Value.int .i64 m.b.fail] 27) ∧ (L 5 = false → Blk W (x + 1) #[Value.bool false, Value.slice none 0 0, Value.slice none 0 0, Value.int .i64 0, Value.int .i64 0] 52) ∧ (L 5 = true → Blk W (x + 1) #[Value.bool m.t.is, Value.slice aH m.t.H.length cH, Value.slice aR' m.t.R.length cR', Value.int .i64 m.t.s, Value.int .i64 m.t.nu] 52) ∧ Blk W z #[Value.int .i64 m.b.t, Value.slice aX m.b.X.length cX, Value.slice aP m.b.P.length cP, Value.bool m.b.flag, Value.int .i64 m.b.pass, Value.int .i64 m.b.fail, Value.bool m.t.is, Value.slice aH m.t.H.length cH, Value.slice aR' m.t.R.length cR', Value.int .i64 m.t.s, Value.int .i64 m.t.nu] 96 ∧ Eff (fun k => k = x ∨ k = x + 1) w5 W)
    (by kernel_rfl) (by kernel_rfl) (by kernel_rfl) (by kernel_rfl) (by kernel_rfl) (fun _ => trivial) (fun _ _ _ _ h _ => h) (fun L L' f f' W h hs => by have h4 := (h 4 (by simp)).1; have h5 := (h 5 (by simp)).1; rw [h4, h5] at hs; exact hs) ⟨fun _ => b1.drew, (fun h => (by cases h)), fun _ => b2.drew, (fun h => (by cases h)), bz.drew, Eff.of (below_drewN _ 1)⟩ ?_ ?_
  · intro i hi b' L f W hSW hL hdep hsh he hsv hsl hFF K hK1 hK2
    replace hi : i < 7 := hi
    have hcs : i = 0 ∨ i = 1 ∨ i = 2 ∨ i = 3 ∨ i = 4 ∨ i = 5 ∨ i = 6 := by omega
    clear hi
    rcases hcs with rfl | rfl | rfl | rfl | rfl | rfl | rfl
    · refine wpOp_go rfl rfl ?_
      have t7 : b'.tmps[7]?.getD undef = Value.pointer (some ⟨z, 0, none⟩) := he 7 (by kernel_rfl)
      have HK := Lib.hid hK1
      clear hK1 hK2 hdep hsh he hsv hsl hFF hL hSW
      go_simp
      exact HK.out rfl _ (fp_mk rfl rfl trivial)
    · refine wpOp_go rfl rfl ?_
      have t33 : b'.tmps[33]?.getD undef = Value.pointer (some ⟨z, 0, none⟩) := hsv 0 33 _ (by kernel_rfl) (by kernel_rfl) rfl
      refine op_load 27 _ rfl hSW.2.2.2.2.1 0 (eval_tmp t33) [Value.int .i64 m.b.t, Value.slice aX m.b.X.length cX, Value.slice aP m.b.P.length cP, Value.bool m.b.flag, Value.int .i64 m.b.pass, Value.int .i64 m.b.fail] rfl Try.underlying27 rfl (by kernel_rfl) ?_
      exact hK1 rfl _ (fp_mk rfl rfl trivial)
    · refine wpOp_go rfl rfl ?_
      have t7 : b'.tmps[7]?.getD undef = Value.pointer (some ⟨z, 0, none⟩) := he 7 (by kernel_rfl)
      have HK := Lib.hid hK1
      clear hK1 hK2 hdep hsh he hsv hsl hFF hL hSW
      go_simp
      exact HK.out rfl _ (fp_mk rfl rfl trivial)
    · refine wpOp_go rfl rfl ?_
      have t35 : b'.tmps[35]?.getD undef = Value.pointer (some ⟨z, 6, none⟩) := hsv 2 35 _ (by kernel_rfl) (by kernel_rfl) rfl
      refine op_load 52 _ rfl hSW.2.2.2.2.1 6 (eval_tmp t35) [Value.bool m.t.is, Value.slice aH m.t.H.length cH, Value.slice aR' m.t.R.length cR', Value.int .i64 m.t.s, Value.int .i64 m.t.nu] rfl Try.underlying52 rfl (by kernel_rfl) ?_
      exact hK1 rfl _ (fp_mk rfl rfl trivial)
    · refine wpOp_go rfl rfl ?_
      have t4 : b'.tmps[4]?.getD undef = Value.pointer (some ⟨x, 0, none⟩) := he 4 (by kernel_rfl)
      have t34 : b'.tmps[34]?.getD undef = Value.agg #[Value.int .i64 m.b.t, Value.slice aX m.b.X.length cX, Value.slice aP m.b.P.length cP, Value.bool m.b.flag, Value.int .i64 m.b.pass, Value.int .i64 m.b.fail] := hsv 1 34 _ (by kernel_rfl) (by kernel_rfl) rfl
      have bx := hSW.1 hL
      refine op_store 27 _ _ rfl rfl bx 0 (eval_tmp (he 4 (by kernel_rfl))) (eval_tmp (hsv 1 34 _ (by kernel_rfl) (by kernel_rfl) rfl)) [Value.int .i64 m.b.t, Value.slice aX m.b.X.length cX, Value.slice aP m.b.P.length cP, Value.bool m.b.flag, Value.int .i64 m.b.pass, Value.int .i64 m.b.fail] rfl (by kernel_rfl) rfl rfl #[Value.int .i64 m.b.t, Value.slice aX m.b.X.length cX, Value.slice aP m.b.P.length cP, Value.bool m.b.flag, Value.int .i64 m.b.pass, Value.int .i64 m.b.fail] rfl ?_
      intro W' bx2 ef hz
      refine hK2 undef W' (fp_x rfl trivial) trivial ⟨fun h => by simp [updF] at h, fun _ => bx2, fun h => ef.blk (hSW.2.2.1 (by simpa [updF] using h)) hyx, fun h => ef.blk (hSW.2.2.2.1 (by simpa [updF] using h)) hyx, ef.blk hSW.2.2.2.2.1 hzx, hSW.2.2.2.2.2.trans ef (fun _ _ h => .inl h)⟩
    · refine wpOp_go rfl rfl ?_
      have t5 : b'.tmps[5]?.getD undef = Value.pointer (some ⟨x + 1, 0, none⟩) := he 5 (by kernel_rfl)
      have t36 : b'.tmps[36]?.getD undef = Value.agg #[Value.bool m.t.is, Value.slice aH m.t.H.length cH, Value.slice aR' m.t.R.length cR', Value.int .i64 m.t.s, Value.int .i64 m.t.nu] := hsv 3 36 _ (by kernel_rfl) (by kernel_rfl) rfl
      have bx := hSW.2.2.1 hL
      refine op_store 52 _ _ rfl rfl bx 0 (eval_tmp (he 5 (by kernel_rfl))) (eval_tmp (hsv 3 36 _ (by kernel_rfl) (by kernel_rfl) rfl)) [Value.bool m.t.is, Value.slice aH m.t.H.length cH, Value.slice aR' m.t.R.length cR', Value.int .i64 m.t.s, Value.int .i64 m.t.nu] rfl (by kernel_rfl) rfl rfl #[Value.bool m.t.is, Value.slice aH m.t.H.length cH, Value.slice aR' m.t.R.length cR', Value.int .i64 m.t.s, Value.int .i64 m.t.nu] rfl ?_
      intro W' bx2 ef hz
      refine hK2 undef W' (fp_x rfl trivial) trivial ⟨fun h => ef.blk (hSW.1 (by simpa [updF] using h)) hxy, fun h => ef.blk (hSW.2.1 (by simpa [updF] using h)) hxy, fun h => by simp [updF] at h, fun _ => bx2, ef.blk hSW.2.2.2.2.1 hzy, hSW.2.2.2.2.2.trans ef (fun _ _ h => .inr h)⟩
    · refine wpOp_go rfl rfl ?_
      have HK := Lib.hid hK1
      clear hK1 hK2 hdep hsh he hsv hsl hFF hL hSW
      go_simp
      exact HK.out rfl _ (fp_mk rfl rfl trivial)
  · intro f W' hf L hL hS
    have e0 : f 0 = Value.pointer (some ⟨z, 0, none⟩) := (hf 0 (by decide)).1 _ rfl
    have e1 : f 1 = Value.agg #[Value.int .i64 m.b.t, Value.slice aX m.b.X.length cX, Value.slice aP m.b.P.length cP, Value.bool m.b.flag, Value.int .i64 m.b.pass, Value.int .i64 m.b.fail] := (hf 1 (by decide)).1 _ rfl
    have e2 : f 2 = Value.pointer (some ⟨z, 6, none⟩) := (hf 2 (by decide)).1 _ rfl
    have e3 : f 3 = Value.agg #[Value.bool m.t.is, Value.slice aH m.t.H.length cH, Value.slice aR' m.t.R.length cR', Value.int .i64 m.t.s, Value.int .i64 m.t.nu] := (hf 3 (by decide)).1 _ rfl
    have e6 : f 6 = Value.int .i64 0 := (hf 6 (by decide)).1 _ rfl
    have b3 := hS.2.1 (hL 4 (by decide))
    have b4 := hS.2.2.2.1 (hL 5 (by decide))
    have ef := hS.2.2.2.2.2
    clear hS hL hf
    simp only [puts2, Act.put, e0, e1, e2, e3, e6]
    try simp only [List.setIfInBounds_toArray, List.set_cons_zero, List.set_cons_succ]
    go_wp2_with fail
    replace hB := ef.below hB (by rintro k (rfl | rfl) <;> omega)
    have kl : ∀ {a : Option Addr} {c : Nat} {zs : List Int}, LI W.heap.size w5 a c zs → LI W.heap.size W' a c zs := fun h => h.eff ef (by rintro k (rfl | rfl) e; exact absurd (e.inj b1.ty) (by decide); exact absurd (e.inj b2.ty) (by decide))
    refine bodyPost_ret (results_cct rfl _ _ rfl b3 Try.underlying27 rfl (by kernel_rfl) rfl b4 Try.underlying52 rfl (by kernel_rfl)) rfl ?_
    exact ⟨⟨_, _, rfl, ⟨⟨_, _, _, _, rfl, kl q1, kl q2⟩, hok.t, hok.pass, hok.fail⟩, ⟨_, _, _, _, rfl, kl q3, kl q4⟩⟩, hB⟩

end Go.Proofs.Ytagakcnhhhlolaa.Base
