/- binnaclelaw11: MotionKnown. -/
import Derived.Test.YtkjbidpafnmogaaGreatMotI
namespace Go.Proofs.YtkjbidpafnmogaaGreat.Base
open Go.RowKit Go Go.Shelf Go.Deep
set_option linter.unusedVariables false
set_option linter.unusedSimpArgs false

set_option maxRecDepth 100000 in
theorem flow_w2 : (mflowM (twoM 1 0 3) (-2)).1 = ofM 2 [1, -2, 0, 1] := by kernel_rfl
set_option maxRecDepth 100000 in
theorem noise_w2 : (noiseM (twoM 1 0 3) 0).1 = ofM 2 [0, 0, 0, 0] := by kernel_rfl
set_option maxRecDepth 100000 in
theorem span_w2 : (spanM (twoM 1 0 3).tick 2).1 = 8589934592 := by kernel_rfl
theorem ref_range {w0 : World} {b : Nat} {c : Bool} (hU : UP w0 b c) {v : Value} {M : Mdl} (hM : MW b w0 v M) (hl : M.rows.length ≤ 1000) (hok : okM M) (ticks least : Int) (h : ticks < least ∨ 1099511627776 < ticks) : Ref (.pointer (some ⟨b, 0, none⟩)) v ticks least 4 w0 :=
  fun W hb => refuses_range (hU.keep hb) (hM.keep hb).m hl hok ticks least h
theorem ref_arg {w0 : World} {b : Nat} {c : Bool} (hU : UP w0 b c) {v : Value} {M : Mdl} (hM : MM 0 w0 v M) (hl : M.rows.length ≤ 1000) (hok : ¬ okM M) (ticks least : Int) : Ref (.pointer (some ⟨b, 0, none⟩)) v ticks least 2 w0 :=
  fun W hb => refuses_arg (hU.keep hb) (hM.keep hb) hl hok ticks least
theorem ref_nil {w0 : World} {p : Value} (hp : ∀ W', Below w0.heap.size w0 W' → Calls Tryz.prog 114 #[p] W' fun e w' => e = .returned (.bool true) ∧ W' = w') {v : Value} {M : Mdl} (hM : MM 0 w0 v M) (ticks least : Int) : Ref p v ticks least 1 w0 :=
  fun W hb => refuses_nil (fun W' hb' => hp W' (more hb hb')) (hM.keep hb) ticks least
def noM : Mdl := ⟨0, [], [], 0, 0, 0, []⟩
theorem MM.no (W : World) : MM 0 W (.agg #[.int .i64 0, .slice none 0 0, .slice none 0 0, .int .i64 0, .int .i64 0, .int .i64 0, .slice none 0 0]) noM :=
  ⟨⟨none, 0, none, 0, none, 0, rfl, ⟨fun k hk => by simp [noM] at hk, by simp [noM], by simp [noM], fun x hx => by simp at hx, fun _ => rfl, by simp [noM]⟩, ⟨fun k hk => by simp [noM] at hk, by simp [noM], by simp [noM], fun x hx => by simp at hx, fun _ => rfl, by simp [noM]⟩, MR.nil W⟩, i64_lit (z := 0) (by decide), i64_lit (z := 0) (by decide), i64_lit (z := 0) (by decide), i64_lit (z := 0) (by decide)⟩
theorem no_ok : ¬ okM noM := fun h => absurd h.n.1 (show ¬ (1 : Int) ≤ 0 by decide)
theorem MW.two {b : Nat} {W : World} {v : Value} {mv a q : Int} (h : MW b W v (twoM mv a q)) : ∃ aA cA aQ cQ aR cR, v = .agg #[.int .i64 2, .slice aA 4 cA, .slice aQ 2 cQ, .int .i64 4294967296, .int .i64 1, .int .i64 1, .slice aR 0 cR] := by
  obtain ⟨aA, cA, aQ, cQ, aR, cR, h1, _⟩ := h.ex
  exact ⟨aA, cA, aQ, cQ, aR, cR, h1⟩

set_option maxHeartbeats 8000000 in
set_option maxRecDepth 100000 in
theorem known11_is (w0 : World) : Calls Tryz.prog 6 #[] w0 fun e w' => e = .returned (.bool true) ∧ Below w0.heap.size w0 w' := by
  go_enter Tryz.func6, Tryz.ntmps6
  go_wp2_with fail
  refine (uNew_is w0).mono ?_
  rintro e w1 ⟨rfl, hU, hB⟩
  obtain ⟨b, hbb⟩ : ∃ b, w0.heap.size = b := ⟨_, rfl⟩
  have hub : w0.heap.size ≤ b := by omega
  rw [hbb] at hU ⊢
  clear hbb
  have HOK := Lib.hid (okM_two (mv := 1) (a := 0) (q := 3) (by decide) (by decide) (by decide))
  have HLN := Lib.hid (show (twoM 1 0 3).rows.length ≤ 1000 from Nat.zero_le _)
  go_wp2_with fail
  refine (two11_is hU 1 0 3 (by decide) (by decide) (by decide)).mono ?_
  rintro e w2 ⟨v, rfl, hMW, hK⟩
  replace hU := hU.keep hK
  replace hB := more hB hK
  obtain ⟨aA, cA, aQ, cQ, aR, cR, rfl⟩ := hMW.two
  have hBA := upA (upR w2) (Obj.cells #[Value.int .i64 2, .slice aA 4 cA, .slice aQ 2 cQ, .int .i64 4294967296, .int .i64 1, .int .i64 1, .slice aR 0 cR] 54)
  have gm := Blk.new w2 #[Value.int .i64 2, .slice aA 4 cA, .slice aQ 2 cQ, .int .i64 4294967296, .int .i64 1, .int .i64 1, .slice aR 0 cR] 54
  have nem : w2.heap.size ≠ b := Nat.ne_of_gt hU.lt
  replace hU := hU.keep hBA
  replace hMW := hMW.keep hBA
  replace hB := more hB hBA
  have d0 := gm.cell
  clear hK hBA
  go_wp2_with fail
  clear d0
  generalize w2.alloc (Obj.cells #[Value.int .i64 2, .slice aA 4 cA, .slice aQ 2 cQ, .int .i64 4294967296, .int .i64 1, .int .i64 1, .slice aR 0 cR] 54) = w3 at *
  obtain ⟨mb, hmb⟩ : ∃ g, w2.heap.size = g := ⟨_, rfl⟩
  rw [hmb] at gm nem ⊢
  clear hmb
  -- Span
  have hS := mSpan_is hU hMW HLN.out HOK.out 2 (by decide) (by decide)
  rw [span_w2] at hS
  refine hS.mono ?_
  clear hS
  rintro e w4 ⟨rfl, hU4, hB4⟩
  replace hMW := hMW.but hB4
  replace gm := hB4.blk gm nem
  replace hB := hB.trans (hB4.below hub hB.size)
  have d0 := gm.cell
  clear hU hB4
  go_wp2_with fail
  clear d0
  -- Flow -2
  refine (mFlow_is hU4 hMW HLN.out HOK.out (-2) (by decide) (by decide)).mono ?_
  rintro e w5 ⟨v, rfl, hmo, hU5, hB5⟩
  obtain ⟨a5, k5, rfl, hL5⟩ := hmo.two flow_w2 rfl
  replace hMW := hMW.but hB5
  replace gm := hB5.blk gm nem
  replace hB := hB.trans (hB5.below hub hB.size)
  have hBA := upA (upR w5) (Obj.cells #[Value.int .i64 2, .int .i64 2, .slice a5 4 k5] 24)
  have b5 : Bx2 w5.heap.size a5 k5 [1, -2, 0, 1] _ := ⟨Blk.new w5 #[Value.int .i64 2, .int .i64 2, .slice a5 4 k5] 24, (hL5.mi.mono (Nat.zero_le _)).keep hBA⟩
  have l5 := (hL5.mono (Nat.zero_le _)).keep hBA
  replace hU5 := hU5.keep hBA
  replace hMW := hMW.keep hBA
  replace gm := gm.keep hBA
  replace hB := more hB hBA
  have d0 := gm.cell
  clear hU4 hB5 hmo hL5 hBA
  go_wp2_with fail
  clear d0
  generalize w5.alloc (Obj.cells #[Value.int .i64 2, .int .i64 2, .slice a5 4 k5] 24) = w6 at *
  obtain ⟨g5, hg5⟩ : ∃ g, w5.heap.size = g := ⟨_, rfl⟩
  rw [hg5] at b5 ⊢
  clear hg5
  -- Noise 0
  refine (mNoise_is hU5 hMW HLN.out HOK.out 0 (by decide) (by decide)).mono ?_
  rintro e w7 ⟨v, rfl, hmo, hU7, hB7⟩
  obtain ⟨a7, k7, rfl, hL7⟩ := hmo.two noise_w2 rfl
  replace hMW := hMW.but hB7
  replace gm := hB7.blk gm nem
  replace b5 := b5.but hU5 hB7 l5
  replace hB := hB.trans (hB7.below hub hB.size)
  have hBA := upA (upR w7) (Obj.cells #[Value.int .i64 2, .int .i64 2, .slice a7 4 k7] 24)
  have b7 : Bx2 w7.heap.size a7 k7 [0, 0, 0, 0] _ := ⟨Blk.new w7 #[Value.int .i64 2, .int .i64 2, .slice a7 4 k7] 24, (hL7.mi.mono (Nat.zero_le _)).keep hBA⟩
  replace b5 := b5.keep hBA
  replace hU7 := hU7.keep hBA
  replace hMW := hMW.keep hBA
  replace gm := gm.keep hBA
  replace hB := more hB hBA
  have d0 := gm.cell
  clear hU5 hB7 hmo hL7 hBA l5
  go_wp2_with fail
  clear d0
  generalize w7.alloc (Obj.cells #[Value.int .i64 2, .int .i64 2, .slice a7 4 k7] 24) = w8 at *
  obtain ⟨g7, hg7⟩ : ∃ g, w7.heap.size = g := ⟨_, rfl⟩
  rw [hg7] at b7 ⊢
  clear hg7
  refine (mNoise_ref hMW.m (by decide) (ref_range hU7 hMW HLN.out HOK.out (-1) 0 (by decide))).mono ?_
  rintro e W ⟨rfl, hK⟩
  replace hMW := hMW.keep hK
  replace gm := gm.keep hK
  replace b5 := b5.keep hK
  replace b7 := b7.keep hK
  replace hU7 := hU7.keep hK
  replace hB := more hB hK
  have hBA := (upA (upR W) (Obj.cells #[Value.int .i64 0, .int .i64 0, .slice none 0 0] 24))
  replace hMW := hMW.keep hBA
  replace gm := gm.keep hBA
  replace b5 := b5.keep hBA
  replace b7 := b7.keep hBA
  replace hU7 := hU7.keep hBA
  replace hB := more hB hBA
  have d0 := gm.cell
  clear hK hBA
  go_wp2_with fail
  clear d0
  generalize W.alloc (Obj.cells #[Value.int .i64 0, .int .i64 0, .slice none 0 0] 24) = wx at *
  obtain ⟨gx, hgx⟩ : ∃ g, W.heap.size = g := ⟨_, rfl⟩
  rw [hgx]
  clear hgx W
  refine (mFlow_ref hMW.m (by decide) (ref_nil (fun W' _ => none_nil W') hMW.m 1 (-1099511627776))).mono ?_
  rintro e W ⟨rfl, hK⟩
  replace hMW := hMW.keep hK
  replace gm := gm.keep hK
  replace b5 := b5.keep hK
  replace b7 := b7.keep hK
  replace hU7 := hU7.keep hK
  replace hB := more hB hK
  have hBA := (upA (upR W) (Obj.cells #[Value.int .i64 0, .int .i64 0, .slice none 0 0] 24))
  replace hMW := hMW.keep hBA
  replace gm := gm.keep hBA
  replace b5 := b5.keep hBA
  replace b7 := b7.keep hBA
  replace hU7 := hU7.keep hBA
  replace hB := more hB hBA
  have d0 := gm.cell
  clear hK hBA
  go_wp2_with fail
  clear d0
  generalize W.alloc (Obj.cells #[Value.int .i64 0, .int .i64 0, .slice none 0 0] 24) = wx at *
  obtain ⟨gx, hgx⟩ : ∃ g, W.heap.size = g := ⟨_, rfl⟩
  rw [hgx]
  clear hgx W
  refine (mSpan_ref (MM.no _) (by decide) (ref_arg hU7 (MM.no _) (Nat.zero_le _) no_ok 1 (-1099511627776))).mono ?_
  rintro e W ⟨rfl, hK⟩
  replace hMW := hMW.keep hK
  replace gm := gm.keep hK
  replace b5 := b5.keep hK
  replace b7 := b7.keep hK
  replace hU7 := hU7.keep hK
  replace hB := more hB hK
  have d0 := gm.cell
  clear hK
  go_wp2_with fail
  clear d0
  refine (mFlow_ref hMW.m (by decide) (ref_range hU7 hMW HLN.out HOK.out 1099511627777 (-1099511627776) (by decide))).mono ?_
  rintro e W ⟨rfl, hK⟩
  replace hMW := hMW.keep hK
  replace gm := gm.keep hK
  replace b5 := b5.keep hK
  replace b7 := b7.keep hK
  replace hU7 := hU7.keep hK
  replace hB := more hB hK
  have hBA := (upA (upR W) (Obj.cells #[Value.int .i64 0, .int .i64 0, .slice none 0 0] 24)).drew
  replace hMW := hMW.keep hBA
  replace gm := gm.keep hBA
  replace b5 := b5.keep hBA
  replace b7 := b7.keep hBA
  replace hU7 := hU7.keep hBA
  replace hB := more hB hBA
  clear hK hBA
  go_wp2_with fail
  have HS0 := (show Bx2 g5 a5 k5 [1, -2, 0, 1] _ ∧ Bx2 g7 a7 k7 [0, 0, 0, 0] _ ∧ Below w0.heap.size w0 _ from ⟨b5, b7, hB⟩)
  clear b5 b7 hB HOK HLN hub hMW gm hU7 nem
  refine region_fp [some 61, some 62, some 63, some 64, some 65, some 66, some 67, some 68, some 69, some 70, some 71, some 72, some 73, some 74, some 75, some 76, some 77, some 78, some 79, some 80, some 81, some 82, some 83, some 84, some 85, some 86, some 17] [] [some (Value.int .i64 0), some (Value.bool true), some (Value.bool true), some (Value.int .i64 8589934592), some (Value.bool true), some (Value.bool true), some (Value.bool true), some (Value.int .i64 0), some (Value.bool true), some (Value.bool true), some (Value.bool true), some (Value.agg #[Value.int .i64 2, Value.int .i64 2, Value.slice a5 4 k5]), none, none, some (Value.bool true), some (Value.bool true), some (Value.bool true), some (Value.int .i64 0), some (Value.bool true), some (Value.bool true), some (Value.bool true), some (Value.agg #[Value.int .i64 2, Value.int .i64 2, Value.slice a7 4 k7]), none, none, some (Value.bool true), some (Value.bool true), some (Value.bool true)]
    (fun i v W => match i with | 12 => ∃ e1, v = Value.slice (some ⟨e1, 0, none⟩) 4 4 ∧ Blk W e1 #[Value.int .i64 1, Value.int .i64 (-2), Value.int .i64 0, Value.int .i64 1] 3 | 13 => MO 0 W v (ofM 2 [1, -2, 0, 1]) | 22 => ∃ e1, v = Value.slice (some ⟨e1, 0, none⟩) 4 4 ∧ Blk W e1 #[Value.int .i64 0, Value.int .i64 0, Value.int .i64 0, Value.int .i64 0] 3 | 23 => MO 0 W v (ofM 2 [0, 0, 0, 0]) | _ => True) (fun W W' => Below W.heap.size W W') (fun L f W => Bx2 g5 a5 k5 [1, -2, 0, 1] W ∧ Bx2 g7 a7 k7 [0, 0, 0, 0] W ∧ Below w0.heap.size w0 W)
    (by kernel_rfl) (by kernel_rfl) (by kernel_rfl) (by kernel_rfl) (by kernel_rfl) (fun _ => Below.refl _ _) (fun i v W W' h hb => by
      match i, h with
      | 12, ⟨e1, h1, h2⟩ => exact ⟨e1, h1, h2.keep hb⟩
      | 22, ⟨e1, h1, h2⟩ => exact ⟨e1, h1, h2.keep hb⟩
      | 13, h => exact h.keep hb
      | 23, h => exact h.keep hb
      | 0, _ | 1, _ | 2, _ | 3, _ | 4, _ | 5, _ | 6, _ | 7, _ | 8, _ | 9, _ | 10, _ | 11, _ | 14, _ | 15, _ | 16, _ | 17, _ | 18, _ | 19, _ | 20, _ | 21, _ | 24, _ | 25, _ | 26, _ => trivial
      | (n + 27), _ => trivial) (fun _ _ _ _ _ _ h => h) HS0 ?_ ?_
  · intro i hi b' L f W hSW hL hdep hsh he hsv hsl hFF K hK1 hK2
    replace hi : i < 27 := hi
    have hcs : i = 0 ∨ i = 1 ∨ i = 2 ∨ i = 3 ∨ i = 4 ∨ i = 5 ∨ i = 6 ∨ i = 7 ∨ i = 8 ∨ i = 9 ∨ i = 10 ∨ i = 11 ∨ i = 12 ∨ i = 13 ∨ i = 14 ∨ i = 15 ∨ i = 16 ∨ i = 17 ∨ i = 18 ∨ i = 19 ∨ i = 20 ∨ i = 21 ∨ i = 22 ∨ i = 23 ∨ i = 24 ∨ i = 25 ∨ i = 26 := by omega
    clear hi
    rcases hcs with rfl | rfl | rfl | rfl | rfl | rfl | rfl | rfl | rfl | rfl | rfl | rfl | rfl | rfl | rfl | rfl | rfl | rfl | rfl | rfl | rfl | rfl | rfl | rfl | rfl | rfl | rfl
    · refine wpOpS_go rfl rfl ?_
      have t4 : b'.tmps[4]?.getD undef = Value.int .i64 0 := he 4 (by kernel_rfl)
      have HK := Lib.hid hK1
      clear hK1 hK2 hdep hsh he hsv hsl hFF hL hSW
      go_simp
      exact HK.out rfl _ (fp_mk rfl rfl trivial)
    · refine wpOpS_go rfl rfl ?_
      have t61 : b'.tmps[61]?.getD undef = Value.int .i64 0 := hsv 0 61 _ (by kernel_rfl) (by kernel_rfl) rfl
      have HK := Lib.hid hK1
      clear hK1 hK2 hdep hsh he hsv hsl hFF hL hSW
      go_simp
      exact HK.out rfl _ (fp_mk rfl rfl trivial)
    · refine wpOpS_go rfl rfl ?_
      have t62 : b'.tmps[62]?.getD undef = Value.bool true := hsv 1 62 _ (by kernel_rfl) (by kernel_rfl) rfl
      have HK := Lib.hid hK1
      clear hK1 hK2 hdep hsh he hsv hsl hFF hL hSW
      go_simp
      exact HK.out rfl _ (fp_mk rfl rfl trivial)
    · refine wpOpS_guard (dg := 63) rfl rfl rfl rfl (hsv 2 63 _ (by kernel_rfl) (by kernel_rfl) rfl) ?_
      rw [if_pos rfl]
      have t3 : b'.tmps[3]?.getD undef = Value.int .i64 8589934592 := he 3 (by kernel_rfl)
      have HK := Lib.hid hK1
      clear hK1 hK2 hdep hsh he hsv hsl hFF hL hSW
      go_simp
      exact HK.out rfl _ (fp_mk rfl rfl trivial)
    · refine wpOpS_guard (dg := 63) rfl rfl rfl rfl (hsv 2 63 _ (by kernel_rfl) (by kernel_rfl) rfl) ?_
      rw [if_pos rfl]
      have t64 : b'.tmps[64]?.getD undef = Value.int .i64 8589934592 := hsv 3 64 _ (by kernel_rfl) (by kernel_rfl) rfl
      have HK := Lib.hid hK1
      clear hK1 hK2 hdep hsh he hsv hsl hFF hL hSW
      go_simp
      exact HK.out rfl _ (fp_mk rfl rfl trivial)
    · refine wpOpS_go rfl rfl ?_
      have t63 : b'.tmps[63]?.getD undef = Value.bool true := hsv 2 63 _ (by kernel_rfl) (by kernel_rfl) rfl
      have t65 : b'.tmps[65]?.getD undef = Value.bool true := hsv 4 65 _ (by kernel_rfl) (by kernel_rfl) rfl
      have HK := Lib.hid hK1
      clear hK1 hK2 hdep hsh he hsv hsl hFF hL hSW
      go_simp
      exact HK.out rfl _ (fp_mk rfl rfl trivial)
    · refine wpOpS_go rfl rfl ?_
      have t66 : b'.tmps[66]?.getD undef = Value.bool true := hsv 5 66 _ (by kernel_rfl) (by kernel_rfl) rfl
      have HK := Lib.hid hK1
      clear hK1 hK2 hdep hsh he hsv hsl hFF hL hSW
      go_simp
      exact HK.out rfl _ (fp_mk rfl rfl trivial)
    · refine wpOpS_guard (dg := 67) rfl rfl rfl rfl (hsv 6 67 _ (by kernel_rfl) (by kernel_rfl) rfl) ?_
      rw [if_pos rfl]
      have t6 : b'.tmps[6]?.getD undef = Value.int .i64 0 := he 6 (by kernel_rfl)
      have HK := Lib.hid hK1
      clear hK1 hK2 hdep hsh he hsv hsl hFF hL hSW
      go_simp
      exact HK.out rfl _ (fp_mk rfl rfl trivial)
    · refine wpOpS_guard (dg := 67) rfl rfl rfl rfl (hsv 6 67 _ (by kernel_rfl) (by kernel_rfl) rfl) ?_
      rw [if_pos rfl]
      have t68 : b'.tmps[68]?.getD undef = Value.int .i64 0 := hsv 7 68 _ (by kernel_rfl) (by kernel_rfl) rfl
      have HK := Lib.hid hK1
      clear hK1 hK2 hdep hsh he hsv hsl hFF hL hSW
      go_simp
      exact HK.out rfl _ (fp_mk rfl rfl trivial)
    · refine wpOpS_go rfl rfl ?_
      have t67 : b'.tmps[67]?.getD undef = Value.bool true := hsv 6 67 _ (by kernel_rfl) (by kernel_rfl) rfl
      have t69 : b'.tmps[69]?.getD undef = Value.bool true := hsv 8 69 _ (by kernel_rfl) (by kernel_rfl) rfl
      have HK := Lib.hid hK1
      clear hK1 hK2 hdep hsh he hsv hsl hFF hL hSW
      go_simp
      exact HK.out rfl _ (fp_mk rfl rfl trivial)
    · refine wpOpS_go rfl rfl ?_
      have t70 : b'.tmps[70]?.getD undef = Value.bool true := hsv 9 70 _ (by kernel_rfl) (by kernel_rfl) rfl
      have HK := Lib.hid hK1
      clear hK1 hK2 hdep hsh he hsv hsl hFF hL hSW
      go_simp
      exact HK.out rfl _ (fp_mk rfl rfl trivial)
    · refine wpOpS_guard (dg := 71) rfl rfl rfl rfl (hsv 10 71 _ (by kernel_rfl) (by kernel_rfl) rfl) ?_
      rw [if_pos rfl]
      have t5 : b'.tmps[5]?.getD undef = Value.pointer (some ⟨g5, 0, none⟩) := he 5 (by kernel_rfl)
      obtain ⟨s0, s1, s2⟩ := hSW
      have c0 := s0.bk.cell
      have HK := Lib.hid hK1
      clear hK1 hK2 hdep hsh he hsv hsl hFF hL
      go_simp
      exact HK.out rfl _ (fp_mk rfl rfl trivial)
    · refine wpOpS_guard (dg := 71) rfl rfl rfl rfl (hsv 10 71 _ (by kernel_rfl) (by kernel_rfl) rfl) ?_
      rw [if_pos rfl]
      obtain ⟨s0, s1, s2⟩ := hSW
      have HK := Lib.hid hK2
      clear hK1 hK2 hdep hsh he hsv hsl hFF hL
      go_simp
      have hb := upA (upR W) (Obj.cells #[Value.int .i64 1, Value.int .i64 (-2), Value.int .i64 0, Value.int .i64 1] 3)
      exact HK.out _ _ (fp_x rfl ⟨_, rfl, Blk.new _ _ _⟩) hb ⟨s0.keep hb, s1.keep hb, more s2 hb⟩
    · refine wpOpS_guard (dg := 71) rfl rfl rfl rfl (hsv 10 71 _ (by kernel_rfl) (by kernel_rfl) rfl) ?_
      rw [if_pos rfl]
      obtain ⟨t73, hx⟩ := hsl 12 73 (by kernel_rfl) (by kernel_rfl)
      obtain ⟨e1, e4, b4⟩ := hx
      rw [e4] at t73
      obtain ⟨s0, s1, s2⟩ := hSW
      have HK := Lib.hid hK2
      clear hK1 hK2 hdep hsh he hsv hsl hFF hL e4
      have hmi := MI.of_blk (B := 0) (zs := [1, -2, 0, 1]) b4 (Nat.zero_le _) (all_i64 (by decide)) (by decide)
      have hof := whole2_is hmi (by decide) (by decide) (by decide)
      go_simp
      refine hof.mono ?_
      rintro e w6 ⟨v, rfl, hmo, hK⟩
      exact HK.out _ _ (fp_x rfl (show MO 0 w6 v (ofM 2 [1, -2, 0, 1]) from hmo.mono (Nat.zero_le _))) hK ⟨s0.keep hK, s1.keep hK, more s2 hK⟩
    · refine wpOpS_guard (dg := 71) rfl rfl rfl rfl (hsv 10 71 _ (by kernel_rfl) (by kernel_rfl) rfl) ?_
      rw [if_pos rfl]
      have t72 : b'.tmps[72]?.getD undef = Value.agg #[Value.int .i64 2, Value.int .i64 2, Value.slice a5 4 k5] := hsv 11 72 _ (by kernel_rfl) (by kernel_rfl) rfl
      obtain ⟨t74, hx⟩ := hsl 13 74 (by kernel_rfl) (by kernel_rfl)
      obtain ⟨a9, k9, e9, l9⟩ := MO.two (show MO 0 W (f 13) (ofM 2 [1, -2, 0, 1]) from hx) rfl rfl
      rw [e9] at t74
      obtain ⟨s0, s1, s2⟩ := hSW
      have HK := Lib.hid hK2
      clear hK1 hK2 hdep hsh he hsv hsl hFF hL hx e9
      have hsm := same_two (zs := [1, -2, 0, 1]) rfl s0.l (l9.mi.mono (Nat.zero_le _))
      go_simp
      refine hsm.mono ?_
      rintro e w6 ⟨rfl, hK⟩
      exact HK.out _ _ (fp_mk rfl rfl trivial) hK ⟨s0.keep hK, s1.keep hK, more s2 hK⟩
    · refine wpOpS_go rfl rfl ?_
      have t71 : b'.tmps[71]?.getD undef = Value.bool true := hsv 10 71 _ (by kernel_rfl) (by kernel_rfl) rfl
      have t75 : b'.tmps[75]?.getD undef = Value.bool true := hsv 14 75 _ (by kernel_rfl) (by kernel_rfl) rfl
      have HK := Lib.hid hK1
      clear hK1 hK2 hdep hsh he hsv hsl hFF hL hSW
      go_simp
      exact HK.out rfl _ (fp_mk rfl rfl trivial)
    · refine wpOpS_go rfl rfl ?_
      have t76 : b'.tmps[76]?.getD undef = Value.bool true := hsv 15 76 _ (by kernel_rfl) (by kernel_rfl) rfl
      have HK := Lib.hid hK1
      clear hK1 hK2 hdep hsh he hsv hsl hFF hL hSW
      go_simp
      exact HK.out rfl _ (fp_mk rfl rfl trivial)
    · refine wpOpS_guard (dg := 77) rfl rfl rfl rfl (hsv 16 77 _ (by kernel_rfl) (by kernel_rfl) rfl) ?_
      rw [if_pos rfl]
      have t8 : b'.tmps[8]?.getD undef = Value.int .i64 0 := he 8 (by kernel_rfl)
      have HK := Lib.hid hK1
      clear hK1 hK2 hdep hsh he hsv hsl hFF hL hSW
      go_simp
      exact HK.out rfl _ (fp_mk rfl rfl trivial)
    · refine wpOpS_guard (dg := 77) rfl rfl rfl rfl (hsv 16 77 _ (by kernel_rfl) (by kernel_rfl) rfl) ?_
      rw [if_pos rfl]
      have t78 : b'.tmps[78]?.getD undef = Value.int .i64 0 := hsv 17 78 _ (by kernel_rfl) (by kernel_rfl) rfl
      have HK := Lib.hid hK1
      clear hK1 hK2 hdep hsh he hsv hsl hFF hL hSW
      go_simp
      exact HK.out rfl _ (fp_mk rfl rfl trivial)
    · refine wpOpS_go rfl rfl ?_
      have t77 : b'.tmps[77]?.getD undef = Value.bool true := hsv 16 77 _ (by kernel_rfl) (by kernel_rfl) rfl
      have t79 : b'.tmps[79]?.getD undef = Value.bool true := hsv 18 79 _ (by kernel_rfl) (by kernel_rfl) rfl
      have HK := Lib.hid hK1
      clear hK1 hK2 hdep hsh he hsv hsl hFF hL hSW
      go_simp
      exact HK.out rfl _ (fp_mk rfl rfl trivial)
    · refine wpOpS_go rfl rfl ?_
      have t80 : b'.tmps[80]?.getD undef = Value.bool true := hsv 19 80 _ (by kernel_rfl) (by kernel_rfl) rfl
      have HK := Lib.hid hK1
      clear hK1 hK2 hdep hsh he hsv hsl hFF hL hSW
      go_simp
      exact HK.out rfl _ (fp_mk rfl rfl trivial)
    · refine wpOpS_guard (dg := 81) rfl rfl rfl rfl (hsv 20 81 _ (by kernel_rfl) (by kernel_rfl) rfl) ?_
      rw [if_pos rfl]
      have t7 : b'.tmps[7]?.getD undef = Value.pointer (some ⟨g7, 0, none⟩) := he 7 (by kernel_rfl)
      obtain ⟨s0, s1, s2⟩ := hSW
      have c0 := s1.bk.cell
      have HK := Lib.hid hK1
      clear hK1 hK2 hdep hsh he hsv hsl hFF hL
      go_simp
      exact HK.out rfl _ (fp_mk rfl rfl trivial)
    · refine wpOpS_guard (dg := 81) rfl rfl rfl rfl (hsv 20 81 _ (by kernel_rfl) (by kernel_rfl) rfl) ?_
      rw [if_pos rfl]
      obtain ⟨s0, s1, s2⟩ := hSW
      have HK := Lib.hid hK2
      clear hK1 hK2 hdep hsh he hsv hsl hFF hL
      go_simp
      have hb := upA (upR W) (Obj.cells #[Value.int .i64 0, Value.int .i64 0, Value.int .i64 0, Value.int .i64 0] 3)
      exact HK.out _ _ (fp_x rfl ⟨_, rfl, Blk.new _ _ _⟩) hb ⟨s0.keep hb, s1.keep hb, more s2 hb⟩
    · refine wpOpS_guard (dg := 81) rfl rfl rfl rfl (hsv 20 81 _ (by kernel_rfl) (by kernel_rfl) rfl) ?_
      rw [if_pos rfl]
      obtain ⟨t83, hx⟩ := hsl 22 83 (by kernel_rfl) (by kernel_rfl)
      obtain ⟨e1, e4, b4⟩ := hx
      rw [e4] at t83
      obtain ⟨s0, s1, s2⟩ := hSW
      have HK := Lib.hid hK2
      clear hK1 hK2 hdep hsh he hsv hsl hFF hL e4
      have hmi := MI.of_blk (B := 0) (zs := [0, 0, 0, 0]) b4 (Nat.zero_le _) (all_i64 (by decide)) (by decide)
      have hof := whole2_is hmi (by decide) (by decide) (by decide)
      go_simp
      refine hof.mono ?_
      rintro e w6 ⟨v, rfl, hmo, hK⟩
      exact HK.out _ _ (fp_x rfl (show MO 0 w6 v (ofM 2 [0, 0, 0, 0]) from hmo.mono (Nat.zero_le _))) hK ⟨s0.keep hK, s1.keep hK, more s2 hK⟩
    · refine wpOpS_guard (dg := 81) rfl rfl rfl rfl (hsv 20 81 _ (by kernel_rfl) (by kernel_rfl) rfl) ?_
      rw [if_pos rfl]
      have t82 : b'.tmps[82]?.getD undef = Value.agg #[Value.int .i64 2, Value.int .i64 2, Value.slice a7 4 k7] := hsv 21 82 _ (by kernel_rfl) (by kernel_rfl) rfl
      obtain ⟨t84, hx⟩ := hsl 23 84 (by kernel_rfl) (by kernel_rfl)
      obtain ⟨a9, k9, e9, l9⟩ := MO.two (show MO 0 W (f 23) (ofM 2 [0, 0, 0, 0]) from hx) rfl rfl
      rw [e9] at t84
      obtain ⟨s0, s1, s2⟩ := hSW
      have HK := Lib.hid hK2
      clear hK1 hK2 hdep hsh he hsv hsl hFF hL hx e9
      have hsm := same_two (zs := [0, 0, 0, 0]) rfl s1.l (l9.mi.mono (Nat.zero_le _))
      go_simp
      refine hsm.mono ?_
      rintro e w6 ⟨rfl, hK⟩
      exact HK.out _ _ (fp_mk rfl rfl trivial) hK ⟨s0.keep hK, s1.keep hK, more s2 hK⟩
    · refine wpOpS_go rfl rfl ?_
      have t81 : b'.tmps[81]?.getD undef = Value.bool true := hsv 20 81 _ (by kernel_rfl) (by kernel_rfl) rfl
      have t85 : b'.tmps[85]?.getD undef = Value.bool true := hsv 24 85 _ (by kernel_rfl) (by kernel_rfl) rfl
      have HK := Lib.hid hK1
      clear hK1 hK2 hdep hsh he hsv hsl hFF hL hSW
      go_simp
      exact HK.out rfl _ (fp_mk rfl rfl trivial)
    · refine wpOpS_go rfl rfl ?_
      have t86 : b'.tmps[86]?.getD undef = Value.bool true := hsv 25 86 _ (by kernel_rfl) (by kernel_rfl) rfl
      have HK := Lib.hid hK1
      clear hK1 hK2 hdep hsh he hsv hsl hFF hL hSW
      go_simp
      exact HK.out rfl _ (fp_mk rfl rfl trivial)
  · intro f W hf L hL hS
    obtain ⟨s0, s1, s2⟩ := (hS : _ ∧ _ ∧ _)
    have e9 : f 26 = Value.bool true := (hf 26 (by decide)).1 _ rfl
    clear hf hL
    simp only [puts2, Act.put]
    generalize f 0 = y0, f 1 = y1, f 2 = y2, f 3 = y3, f 4 = y4, f 5 = y5, f 6 = y6, f 7 = y7, f 8 = y8, f 9 = y9, f 10 = y10, f 11 = y11, f 12 = y12, f 13 = y13, f 14 = y14, f 15 = y15, f 16 = y16, f 17 = y17, f 18 = y18, f 19 = y19, f 20 = y20, f 21 = y21, f 22 = y22, f 23 = y23, f 24 = y24, f 25 = y25
    rw [e9]
    try simp only [List.setIfInBounds_toArray, List.set_cons_zero, List.set_cons_succ]
    go_wp2_with fail
    refine (awake11_is _).mono ?_
    rintro e w9 ⟨rfl, hK⟩
    replace s2 := more s2 hK
    go_wp2_with fail
    go_ret
    exact ⟨rfl, s2⟩

end Go.Proofs.YtkjbidpafnmogaaGreat.Base
