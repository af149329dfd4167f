/- snap: Copy, Push. No conditions. -/
import Derived.Test.YtagakcnhhhlolaaSnH
namespace Go.Proofs.Ytagakcnhhhlolaa.Base
open Go.RowKit
set_option linter.unusedVariables false
set_option linter.unusedSimpArgs false

set_option maxHeartbeats 8000000 in
set_option maxRecDepth 100000 in
theorem copy_is {B : Nat} {w0 : World} {p : Nat} {v : Value} {M : Mdl} {ms : List Mrk} (h : PM B w0 p v M ms) (hB : B ≤ w0.heap.size) :
    Calls Try.prog 48 #[.pointer (some ⟨p, 0, none⟩)] w0 fun e w' => ∃ p' v', e = .returned (.pointer (some ⟨p', 0, none⟩)) ∧ PM B w' p' v' M ms ∧ w0.heap.size ≤ p' ∧ (∀ r, v'.ownBlock = some r → w0.heap.size ≤ r) ∧ Below w0.heap.size w0 w' := by
  have HN := Lib.hid (none_is h)
  obtain ⟨g, c, aA, cA, aQ, cQ, aR, cR, rfl, hc, hcm, hg, hb, hM⟩ := h.box
  go_enter Try.func48, Try.ntmps48
  go_wp2_with fail
  refine HN.out.mono ?_
  rintro e w' ⟨rfl, rfl⟩
  go_wp2_with fail
  refine region_fp [some 5, some 6, some 7, some 8, some 9, some 10, some 11, some 12, some 13, some 14, some 15, some 16, some 17, some 2] [] [some (Value.pointer (some ⟨p, 0, none⟩)), some (Value.pointer (some ⟨p, 0, none⟩)), some (Value.pointer (some ⟨p, 0, none⟩)), some (Value.pointer (some ⟨p, 0, none⟩)), some (Value.slice (some ⟨g, 0, none⟩) ms.length c), none, none, some (Value.pointer (some ⟨p, 0, none⟩)), some (Value.pointer (some ⟨p, 0, none⟩)), some (Value.pointer (some ⟨p, 1, none⟩)), some (Value.agg #[Value.int .i64 M.n, Value.slice aA M.A.length cA, Value.slice aQ M.Q.length cQ, Value.int .i64 M.tick, Value.int .i64 M.gate, Value.int .i64 M.rmin, Value.slice aR M.rows.length cR]), none, none, none]
    (fun i v W => match i with | 5 => ∃ g' c', v = Value.slice (some ⟨g', 0, none⟩) ms.length c' ∧ RK B W (Value.slice (some ⟨g', 0, none⟩) ms.length c') ms ∧ w0.heap.size ≤ g' | 6 => ∃ g' c', v = Value.agg #[Value.slice (some ⟨g', 0, none⟩) ms.length c'] ∧ RK B W (Value.slice (some ⟨g', 0, none⟩) ms.length c') ms ∧ w0.heap.size ≤ g' | 11 => ∃ g' c', v = Value.agg #[Value.slice (some ⟨g', 0, none⟩) ms.length c', Value.int .i64 M.n, Value.slice aA M.A.length cA, Value.slice aQ M.Q.length cQ, Value.int .i64 M.tick, Value.int .i64 M.gate, Value.int .i64 M.rmin, Value.slice aR M.rows.length cR] ∧ RK B W (Value.slice (some ⟨g', 0, none⟩) ms.length c') ms ∧ w0.heap.size ≤ g' | 12 => ∃ p' v', v = Value.pointer (some ⟨p', 0, none⟩) ∧ PM B W p' v' M ms ∧ w0.heap.size ≤ p' ∧ ∀ r, v'.ownBlock = some r → w0.heap.size ≤ r | 13 => ∃ p' v', v = Value.pointer (some ⟨p', 0, none⟩) ∧ PM B W p' v' M ms ∧ w0.heap.size ≤ p' ∧ (∀ r, v'.ownBlock = some r → w0.heap.size ≤ r) | _ => True) (fun W W' => Below W.heap.size W W') (fun _ _ W => PM B W p (Value.slice (some ⟨g, 0, none⟩) ms.length c) M ms ∧ Blk W p #[Value.slice (some ⟨g, 0, none⟩) ms.length c, Value.int .i64 M.n, Value.slice aA M.A.length cA, Value.slice aQ M.Q.length cQ, Value.int .i64 M.tick, Value.int .i64 M.gate, Value.int .i64 M.rmin, Value.slice aR M.rows.length cR] 81 ∧ OM B W (Value.agg #[Value.int .i64 M.n, Value.slice aA M.A.length cA, Value.slice aQ M.Q.length cQ, Value.int .i64 M.tick, Value.int .i64 M.gate, Value.int .i64 M.rmin, Value.slice aR M.rows.length cR]) M ∧ Below w0.heap.size w0 W)
    (by kernel_rfl) (by kernel_rfl) (by kernel_rfl) (by kernel_rfl) (by kernel_rfl) (fun _ => Below.refl _ _) (fun i v W W' h hb => by
      match i, h with
      | 5, ⟨g', c', e, h1, h2⟩ => exact ⟨g', c', e, h1.keep hb, h2⟩
      | 6, ⟨g', c', e, h1, h2⟩ => exact ⟨g', c', e, h1.keep hb, h2⟩
      | 11, ⟨g', c', e, h1, h2⟩ => exact ⟨g', c', e, h1.keep hb, h2⟩
      | 12, ⟨p', v', e, h1, h2⟩ => exact ⟨p', v', e, h1.keep hb, h2⟩
      | 13, ⟨p', v', e, h1, h2⟩ => exact ⟨p', v', e, h1.keep hb, h2⟩
      | 0, _ | 1, _ | 2, _ | 3, _ | 4, _ | 7, _ | 8, _ | 9, _ | 10, _ => trivial
      | (n + 14), _ => trivial) (fun _ _ _ _ _ _ h => h) ⟨h.keep (below_drewN _ 1), hb.drew, hM.keep (below_drewN _ 1), below_drewN _ 1⟩ ?_ ?_
  · intro i hi b' L f W hSW hL hdep hsh he hsv hsl hFF K hK1 hK2
    replace hi : i < 14 := hi
    have hcs : i = 0 ∨ i = 1 ∨ i = 2 ∨ i = 3 ∨ i = 4 ∨ i = 5 ∨ i = 6 ∨ i = 7 ∨ i = 8 ∨ i = 9 ∨ i = 10 ∨ i = 11 ∨ i = 12 ∨ i = 13 := by omega
    clear hi
    rcases hcs with rfl | rfl | rfl | rfl | rfl | rfl | rfl | rfl | rfl | rfl | rfl | rfl | rfl | rfl
    · refine wpOp_go rfl rfl ?_
      have t0 : b'.tmps[0]?.getD undef = Value.pointer (some ⟨p, 0, none⟩) := he 0 (by kernel_rfl)
      obtain ⟨hpm, hbx, hom, hbl⟩ := hSW
      have c0 : W.cell? ⟨p, 0, none⟩ = some (Value.slice (some ⟨g, 0, none⟩) ms.length c) := (hbx.cell 0).trans rfl
      have HK := Lib.hid hK1
      clear hK1 hK2 hdep hsh he hsv hsl hFF hL
      clear hpm hbx hom hbl
      go_simp
      exact HK.out rfl _ (fp_mk rfl rfl trivial)
    · refine wpOp_go rfl rfl ?_
      have t5 : b'.tmps[5]?.getD undef = Value.pointer (some ⟨p, 0, none⟩) := hsv 0 5 _ (by kernel_rfl) (by kernel_rfl) rfl
      obtain ⟨hpm, hbx, hom, hbl⟩ := hSW
      have c0 : W.cell? ⟨p, 0, none⟩ = some (Value.slice (some ⟨g, 0, none⟩) ms.length c) := (hbx.cell 0).trans rfl
      have HK := Lib.hid hK1
      clear hK1 hK2 hdep hsh he hsv hsl hFF hL
      clear hpm hbx hom hbl
      go_simp
      exact HK.out rfl _ (fp_mk rfl rfl trivial)
    · refine wpOp_go rfl rfl ?_
      have t6 : b'.tmps[6]?.getD undef = Value.pointer (some ⟨p, 0, none⟩) := hsv 1 6 _ (by kernel_rfl) (by kernel_rfl) rfl
      obtain ⟨hpm, hbx, hom, hbl⟩ := hSW
      have c0 : W.cell? ⟨p, 0, none⟩ = some (Value.slice (some ⟨g, 0, none⟩) ms.length c) := (hbx.cell 0).trans rfl
      have HK := Lib.hid hK1
      clear hK1 hK2 hdep hsh he hsv hsl hFF hL
      clear hpm hbx hom hbl
      go_simp
      exact HK.out rfl _ (fp_mk rfl rfl trivial)
    · refine wpOp_go rfl rfl ?_
      have t7 : b'.tmps[7]?.getD undef = Value.pointer (some ⟨p, 0, none⟩) := hsv 2 7 _ (by kernel_rfl) (by kernel_rfl) rfl
      obtain ⟨hpm, hbx, hom, hbl⟩ := hSW
      have c0 : W.cell? ⟨p, 0, none⟩ = some (Value.slice (some ⟨g, 0, none⟩) ms.length c) := (hbx.cell 0).trans rfl
      have HK := Lib.hid hK1
      clear hK1 hK2 hdep hsh he hsv hsl hFF hL
      clear hpm hbx hom hbl
      go_simp
      exact HK.out rfl _ (fp_mk rfl rfl trivial)
    · refine wpOp_go rfl rfl ?_
      have t8 : b'.tmps[8]?.getD undef = Value.pointer (some ⟨p, 0, none⟩) := hsv 3 8 _ (by kernel_rfl) (by kernel_rfl) rfl
      obtain ⟨hpm, hbx, hom, hbl⟩ := hSW
      have c0 : W.cell? ⟨p, 0, none⟩ = some (Value.slice (some ⟨g, 0, none⟩) ms.length c) := (hbx.cell 0).trans rfl
      have HK := Lib.hid hK1
      clear hK1 hK2 hdep hsh he hsv hsl hFF hL
      clear hpm hbx hom hbl
      go_simp
      exact HK.out rfl _ (fp_mk rfl rfl trivial)
    · refine wpOp_go rfl rfl ?_
      have t9 : b'.tmps[9]?.getD undef = Value.slice (some ⟨g, 0, none⟩) ms.length c := hsv 4 9 _ (by kernel_rfl) (by kernel_rfl) rfl
      obtain ⟨hpm, hbx, hom, hbl⟩ := hSW
      have HK := Lib.hid hK2
      clear hK1 hK2 hdep hsh he hsv hsl hFF hL
      go_simp
      obtain ⟨vs, h1, h2, h3, h4⟩ := hpm.rows.part 0 ms.length (by omega)
      rw [Nat.zero_mul] at h3
      rw [List.drop_zero, List.take_of_length_le (Nat.le_refl _)] at h1
      refine (cloneM_is (c := c) h2 h3 h4 (fun e => by cases e) (by have := hpm.len; omega)).mono ?_
      rintro e w6 ⟨v', rfl, ho, hK6⟩
      obtain ⟨g', c', rfl⟩ := Joins.ownsRow_form ho hpm.pos
      have hs := hbl.size
      exact HK.out _ _ (fp_x rfl ⟨g', c', rfl, ⟨vs, h1.imp fun _ _ h => h.keep hK6, ownsRow_mono ho (by omega)⟩, by have := (row_ty ho g' rfl).2; omega⟩) hK6 ⟨hpm.keep hK6, hbx.keep hK6, hom.keep hK6, more hbl hK6⟩
    · refine wpOp_go rfl rfl ?_
      obtain ⟨t10, hx⟩ := hsl 5 10 (by kernel_rfl) (by kernel_rfl)
      obtain ⟨g', c', e5, h5⟩ := hx
      rw [e5] at t10
      have HK := Lib.hid hK1
      clear hK1 hK2 hdep hsh he hsv hsl hFF hL
      clear e5 hSW
      go_simp
      exact HK.out rfl _ (fp_x rfl ⟨g', c', rfl, h5⟩)
    · refine wpOp_go rfl rfl ?_
      have t0 : b'.tmps[0]?.getD undef = Value.pointer (some ⟨p, 0, none⟩) := he 0 (by kernel_rfl)
      obtain ⟨hpm, hbx, hom, hbl⟩ := hSW
      have HK := Lib.hid hK1
      clear hK1 hK2 hdep hsh he hsv hsl hFF hL
      clear hpm hbx hom hbl
      go_simp
      exact HK.out rfl _ (fp_mk rfl rfl trivial)
    · refine wpOp_go rfl rfl ?_
      have t12 : b'.tmps[12]?.getD undef = Value.pointer (some ⟨p, 0, none⟩) := hsv 7 12 _ (by kernel_rfl) (by kernel_rfl) rfl
      obtain ⟨hpm, hbx, hom, hbl⟩ := hSW
      have HK := Lib.hid hK1
      clear hK1 hK2 hdep hsh he hsv hsl hFF hL
      clear hpm hbx hom hbl
      go_simp
      exact HK.out rfl _ (fp_mk rfl rfl trivial)
    · refine wpOp_go rfl rfl ?_
      have t13 : b'.tmps[13]?.getD undef = Value.pointer (some ⟨p, 0, none⟩) := hsv 8 13 _ (by kernel_rfl) (by kernel_rfl) rfl
      obtain ⟨hpm, hbx, hom, hbl⟩ := hSW
      have HK := Lib.hid hK1
      clear hK1 hK2 hdep hsh he hsv hsl hFF hL
      clear hpm hbx hom hbl
      go_simp
      exact HK.out rfl _ (fp_mk rfl rfl trivial)
    · refine wpOp_go rfl rfl ?_
      have t14 : b'.tmps[14]?.getD undef = Value.pointer (some ⟨p, 1, none⟩) := hsv 9 14 _ (by kernel_rfl) (by kernel_rfl) rfl
      obtain ⟨hpm, hbx, hom, hbl⟩ := hSW
      refine op_load 25 _ rfl hbx 1 (eval_tmp t14) [Value.int .i64 M.n, Value.slice aA M.A.length cA, Value.slice aQ M.Q.length cQ, Value.int .i64 M.tick, Value.int .i64 M.gate, Value.int .i64 M.rmin, Value.slice aR M.rows.length cR] rfl Try.underlying25 rfl (by kernel_rfl) ?_
      exact hK1 rfl _ (fp_mk rfl rfl trivial)
    · refine wpOp_go rfl rfl ?_
      have t15 : b'.tmps[15]?.getD undef = Value.agg #[Value.int .i64 M.n, Value.slice aA M.A.length cA, Value.slice aQ M.Q.length cQ, Value.int .i64 M.tick, Value.int .i64 M.gate, Value.int .i64 M.rmin, Value.slice aR M.rows.length cR] := hsv 10 15 _ (by kernel_rfl) (by kernel_rfl) rfl
      obtain ⟨t11, hx⟩ := hsl 6 11 (by kernel_rfl) (by kernel_rfl)
      obtain ⟨g', c', e6, h6⟩ := hx
      rw [e6] at t11
      have HK := Lib.hid hK1
      clear hK1 hK2 hdep hsh he hsv hsl hFF hL
      clear e6 hSW
      go_simp
      exact HK.out rfl _ (fp_x rfl ⟨g', c', rfl, h6⟩)
    · refine wpOp_go rfl rfl ?_
      obtain ⟨t16, hx⟩ := hsl 11 16 (by kernel_rfl) (by kernel_rfl)
      obtain ⟨g', c', e11, h11, hlo⟩ := hx
      rw [e11] at t16
      obtain ⟨hpm, hbx, hom, hbl⟩ := hSW
      have HK := Lib.hid hK2
      clear hK1 hK2 hdep hsh he hsv hsl hFF hL e11
      refine op_new (cs := #[Value.slice (some ⟨g', 0, none⟩) ms.length c', Value.int .i64 M.n, Value.slice aA M.A.length cA, Value.slice aQ M.Q.length cQ, Value.int .i64 M.tick, Value.int .i64 M.gate, Value.int .i64 M.rmin, Value.slice aR M.rows.length cR]) (t := 81) (by go_simp) ?_
      intro w' hbn hb hz
      have hs := hbl.size
      exact HK.out _ _ (fp_x rfl ⟨_, _, rfl, ⟨⟨_, _, _, _, _, _, hbn, hom.keep hb⟩, h11.keep hb, by omega, hpm.ne, hpm.len, hpm.ok, hpm.mr⟩, by omega, fun r hr => by cases hr; exact hlo⟩) hb ⟨hpm.keep hb, hbx.keep hb, hom.keep hb, more hbl hb⟩
    · refine wpOp_go rfl rfl ?_
      obtain ⟨t17, hx⟩ := hsl 12 17 (by kernel_rfl) (by kernel_rfl)
      obtain ⟨p', v', e12, h12⟩ := hx
      rw [e12] at t17
      have HK := Lib.hid hK1
      clear hK1 hK2 hdep hsh he hsv hsl hFF hL
      clear e12 hSW
      go_simp
      exact HK.out rfl _ (fp_x rfl ⟨p', v', rfl, h12⟩)
  · intro f W hf L hL hS
    obtain ⟨p', v', e13, h13, h13'⟩ := (hf 13 (by decide)).2
    have hbl := (hS : _ ∧ _ ∧ _ ∧ _).2.2.2
    have e0 : f 0 = Value.pointer (some ⟨p, 0, none⟩) := (hf 0 (by decide)).1 _ rfl
    have e1 : f 1 = Value.pointer (some ⟨p, 0, none⟩) := (hf 1 (by decide)).1 _ rfl
    have e2 : f 2 = Value.pointer (some ⟨p, 0, none⟩) := (hf 2 (by decide)).1 _ rfl
    have e3 : f 3 = Value.pointer (some ⟨p, 0, none⟩) := (hf 3 (by decide)).1 _ rfl
    have e4 : f 4 = Value.slice (some ⟨g, 0, none⟩) ms.length c := (hf 4 (by decide)).1 _ rfl
    have e7 : f 7 = Value.pointer (some ⟨p, 0, none⟩) := (hf 7 (by decide)).1 _ rfl
    have e8 : f 8 = Value.pointer (some ⟨p, 0, none⟩) := (hf 8 (by decide)).1 _ rfl
    have e9 : f 9 = Value.pointer (some ⟨p, 1, none⟩) := (hf 9 (by decide)).1 _ rfl
    have e10 : f 10 = Value.agg #[Value.int .i64 M.n, Value.slice aA M.A.length cA, Value.slice aQ M.Q.length cQ, Value.int .i64 M.tick, Value.int .i64 M.gate, Value.int .i64 M.rmin, Value.slice aR M.rows.length cR] := (hf 10 (by decide)).1 _ rfl
    clear hf hL hS
    simp only [puts2, Act.put, e0, e1, e2, e3, e4, e7, e8, e9, e10, e13]
    try simp only [List.setIfInBounds_toArray, List.set_cons_zero, List.set_cons_succ]
    go_wp2_with fail
    go_ret
    exact ⟨p', v', rfl, h13, h13'.1, h13'.2, hbl⟩

end Go.Proofs.Ytagakcnhhhlolaa.Base
