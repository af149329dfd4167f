/- binnaclelaw11: awake. -/
import Derived.Test.YtkjbidpafnmogaaGreatMotH
namespace Go.Proofs.YtkjbidpafnmogaaGreat.Base
open Go.RowKit Go Go.Shelf Go.Deep
set_option linter.unusedVariables false
set_option linter.unusedSimpArgs false

theorem okM_two {mv a q : Int} (hm : mv.natAbs ≤ 16) (ha : 0 ≤ a ∧ a ≤ 16) (hq : 0 ≤ q ∧ q ≤ 16) : okM (twoM mv a q) := by
  refine ⟨⟨show (1 : Int) ≤ 2 by decide, show (2 : Int) ≤ 6 by decide⟩, ⟨fun j hb => ?_, rfl⟩, ⟨rfl, fun ⟨z, hz, ho⟩ => ?_⟩, ⟨⟨show (1 : Int) ≤ 4294967296 by decide, show (4294967296 : Int) ≤ 4294967296 by decide⟩, show (1 : Int) ≤ 1 by decide, show (1 : Int) ≤ 1 by decide⟩, ⟨fun j ⟨h, _⟩ => absurd h (Nat.not_lt_zero j), Nat.zero_le _⟩⟩
  · obtain ⟨h, hne, hor⟩ := hb
    have h4 : j < 4 := h
    have hj : j = 0 ∨ j = 1 ∨ j = 2 ∨ j = 3 := by omega
    rcases hj with rfl | rfl | rfl | rfl
    · exact hne rfl
    · rcases hor with e | e
      · exact absurd e (show ¬ ((1 : Nat) : Int) % 2 ≤ ((1 : Nat) : Int) / 2 by decide)
      · have e' : farP (mv * 4294967296) := e
        unfold farP at e'
        omega
    · exact hne rfl
    · exact hne rfl
  · have hz' : z ∈ [a * 4294967296, q * 4294967296] := hz
    simp at hz'
    unfold offP at ho
    omega
theorem okM_twoN {mv a q : Int} (hm : mv.natAbs ≤ 16) (ha : 0 ≤ a ∧ a ≤ 16) (hq : 0 ≤ q ∧ q ≤ 16) : (twoM mv a q).rows.length ≤ 1000 := Nat.zero_le _
theorem MO.two {B : Nat} {W : World} {v : Value} {m : Mt} {zs : List Int} (h : MO B W v m) (hm : m = ofM 2 zs) (hl : zs.length = 4) : ∃ a k, v = .agg #[.int .i64 2, .int .i64 2, .slice a 4 k] ∧ LI B W a k (zs.map fun z => z * 4294967296) := by
  subst hm
  obtain ⟨a, k, h1, h2⟩ := h.ex
  refine ⟨a, k, ?_, h2⟩
  rw [h1]
  show Value.agg #[.int .i64 2, .int .i64 2, .slice a (zs.map fun z => z * 4294967296).length k] = _
  rw [List.length_map, hl]
theorem same_two {W : World} {zs : List Int} (hl : zs.length = 4) {a1 a2 : Option Addr} {k1 k2 : Nat} (h1 : MI 0 W a1 k1 (zs.map fun z => z * 4294967296)) (h2 : MI 0 W a2 k2 (zs.map fun z => z * 4294967296)) :
    Calls Tryz.prog 19 #[.agg #[.int .i64 2, .int .i64 2, .slice a1 4 k1], .agg #[.int .i64 2, .int .i64 2, .slice a2 4 k2]] W fun e w' => e = .returned (.bool true) ∧ Below W.heap.size W w' := by
  have h := sameMat_is (m1 := ofM 2 zs) (m2 := ofM 2 zs) h1 h2
  rw [decide_eq_true ⟨rfl, rfl, rfl⟩] at h
  have e : (ofM 2 zs).v.length = 4 := by show (zs.map fun z => z * 4294967296).length = 4; rw [List.length_map, hl]
  rw [e] at h
  exact h
set_option maxRecDepth 100000 in
theorem flow_w1 : (mflowM (twoM 1 0 3) 2).1 = ofM 2 [1, 2, 0, 1] := by kernel_rfl
set_option maxRecDepth 100000 in
theorem noise_w1 : (noiseM (twoM 1 0 3) 2).1 = ofM 2 [8, 6, 6, 6] := by kernel_rfl
/-- A 2x2 matrix of whole numbers, boxed. -/
structure Bx2 (g : Nat) (a : Option Addr) (k : Nat) (zs : List Int) (W : World) : Prop where
  bk : Blk W g #[.int .i64 2, .int .i64 2, .slice a 4 k] 24
  l : MI 0 W a k (zs.map fun z => z * 4294967296)
theorem Bx2.keep {g : Nat} {a : Option Addr} {k : Nat} {zs : List Int} {W W' : World} (h : Bx2 g a k zs W) (hb : Below W.heap.size W W') : Bx2 g a k zs W' := ⟨h.bk.keep hb, h.l.keep hb⟩
theorem Bx2.but {g b : Nat} {c : Bool} {a : Option Addr} {k : Nat} {zs : List Int} {W W' : World} (h : Bx2 g a k zs W) (hU : UP W b c) (hb : But b W W') (hl : LI 0 W a k (zs.map fun z => z * 4294967296)) : Bx2 g a k zs W' := by
  obtain ⟨mm, hm⟩ := hU
  exact ⟨hb.blk h.bk (blk_ne h.bk hm (by decide)), (hl.but ⟨mm, hm⟩ hb).mi⟩

set_option maxHeartbeats 8000000 in
set_option maxRecDepth 100000 in
theorem awake11_is (w0 : World) : Calls Tryz.prog 27 #[] w0 fun e w' => e = .returned (.bool true) ∧ Below w0.heap.size w0 w' := by
  go_enter Tryz.func27, Tryz.ntmps27
  go_wp2_with fail
  refine (uNew_is w0).mono ?_
  rintro e w1 ⟨rfl, hU, hB⟩
  obtain ⟨b, hbb⟩ : ∃ b, w0.heap.size = b := ⟨_, rfl⟩
  have hub : w0.heap.size ≤ b := by omega
  rw [hbb] at hU ⊢
  clear hbb
  have HOK := Lib.hid (okM_two (mv := 1) (a := 0) (q := 3) (by decide) (by decide) (by decide))
  go_wp2_with fail
  refine (two11_is hU 1 0 3 (by decide) (by decide) (by decide)).mono ?_
  rintro e w2 ⟨v, rfl, hMW, hK⟩
  replace hU := hU.keep hK
  replace hB := more hB hK
  have hF := mFlow_is hU hMW (Nat.zero_le _) HOK.out 2 (by decide) (by decide)
  have HF := Lib.hid hF
  clear hK hF hMW
  go_wp2_with fail
  refine HF.out.mono ?_
  rintro e w3 ⟨v, rfl, hmo, hU3, hB3⟩
  obtain ⟨a3, k3, rfl, hL3⟩ := hmo.two flow_w1 rfl
  replace hB := hB.trans (hB3.below hub hB.size)
  have hBA := upA (upR w3) (Obj.cells #[Value.int .i64 2, .int .i64 2, .slice a3 4 k3] 24)
  have b3 : Bx2 w3.heap.size a3 k3 [1, 2, 0, 1] _ := ⟨Blk.new w3 #[Value.int .i64 2, .int .i64 2, .slice a3 4 k3] 24, (hL3.mi.mono (Nat.zero_le _)).keep hBA⟩
  have l3 := (hL3.mono (Nat.zero_le _)).keep hBA
  replace hB := more hB hBA
  replace hU := hU3.keep hBA
  clear hU3 hB3 HF hmo hL3
  go_wp2_with fail
  generalize w3.alloc (Obj.cells #[Value.int .i64 2, .int .i64 2, .slice a3 4 k3] 24) = w4 at *
  obtain ⟨g3, hg3⟩ : ∃ g, w3.heap.size = g := ⟨_, rfl⟩
  rw [hg3] at b3 ⊢
  clear hBA hg3
  refine (two11_is hU 1 0 3 (by decide) (by decide) (by decide)).mono ?_
  rintro e w5 ⟨v, rfl, hMW, hK⟩
  replace hU := hU.keep hK
  replace hB := more hB hK
  replace b3 := b3.keep hK
  replace l3 := l3.keep hK
  have HF := Lib.hid (mNoise_is hU hMW (Nat.zero_le _) HOK.out 2 (by decide) (by decide))
  clear hK hMW
  go_wp2_with fail
  refine HF.out.mono ?_
  rintro e w6 ⟨v, rfl, hmo, hU6, hB6⟩
  obtain ⟨a6, k6, rfl, hL6⟩ := hmo.two noise_w1 rfl
  replace hB := hB.trans (hB6.below hub hB.size)
  replace b3 := b3.but hU hB6 l3
  have hBA := (upA (upR w6) (Obj.cells #[Value.int .i64 2, .int .i64 2, .slice a6 4 k6] 24)).drew
  have b6 : Bx2 w6.heap.size a6 k6 [8, 6, 6, 6] _ := ⟨(Blk.new w6 #[Value.int .i64 2, .int .i64 2, .slice a6 4 k6] 24).drew, (hL6.mi.mono (Nat.zero_le _)).keep hBA⟩
  replace hB := more hB hBA
  replace b3 := b3.keep hBA
  clear hU6 hB6 HF hmo hL6 l3 hU
  go_wp2_with fail
  obtain ⟨g6, hg6⟩ : ∃ g, w6.heap.size = g := ⟨_, rfl⟩
  rw [hg6] at b6 ⊢
  have HS0 := (show Bx2 g3 a3 k3 [1, 2, 0, 1] _ ∧ Bx2 g6 a6 k6 [8, 6, 6, 6] _ ∧ Below w0.heap.size w0 _ from ⟨b3, b6, hB⟩)
  clear hBA hg6 b3 b6 hB HOK hub
  refine region_fp [some 19, some 20, some 21, some 22, some 23, some 24, some 25, some 26, some 27, some 28, some 29, some 30, some 31, some 32, some 33, some 34, some 35, some 36, some 0] [] [some (Value.int .i64 0), some (Value.bool true), some (Value.bool true), some (Value.int .i64 0), some (Value.bool true), some (Value.bool true), some (Value.bool true), some (Value.agg #[Value.int .i64 2, Value.int .i64 2, Value.slice a3 4 k3]), none, none, some (Value.bool true), some (Value.bool true), some (Value.bool true), some (Value.agg #[Value.int .i64 2, Value.int .i64 2, Value.slice a6 4 k6]), none, none, some (Value.bool true), some (Value.bool true), some (Value.bool true)]
    (fun i v W => match i with | 8 => ∃ e1, v = Value.slice (some ⟨e1, 0, none⟩) 4 4 ∧ Blk W e1 #[Value.int .i64 1, Value.int .i64 2, Value.int .i64 0, Value.int .i64 1] 3 | 9 => MO 0 W v (ofM 2 [1, 2, 0, 1]) | 14 => ∃ e1, v = Value.slice (some ⟨e1, 0, none⟩) 4 4 ∧ Blk W e1 #[Value.int .i64 8, Value.int .i64 6, Value.int .i64 6, Value.int .i64 6] 3 | 15 => MO 0 W v (ofM 2 [8, 6, 6, 6]) | _ => True) (fun W W' => Below W.heap.size W W') (fun L f W => Bx2 g3 a3 k3 [1, 2, 0, 1] W ∧ Bx2 g6 a6 k6 [8, 6, 6, 6] W ∧ Below w0.heap.size w0 W)
    (by kernel_rfl) (by kernel_rfl) (by kernel_rfl) (by kernel_rfl) (by kernel_rfl) (fun _ => Below.refl _ _) (fun i v W W' h hb => by
      match i, h with
      | 8, ⟨e1, h1, h2⟩ => exact ⟨e1, h1, h2.keep hb⟩
      | 14, ⟨e1, h1, h2⟩ => exact ⟨e1, h1, h2.keep hb⟩
      | 9, h => exact h.keep hb
      | 15, h => exact h.keep hb
      | 0, _ | 1, _ | 2, _ | 3, _ | 4, _ | 5, _ | 6, _ | 7, _ | 10, _ | 11, _ | 12, _ | 13, _ | 16, _ | 17, _ | 18, _ => trivial
      | (n + 19), _ => trivial) (fun _ _ _ _ _ _ h => h) HS0 ?_ ?_
  · intro i hi b' L f W hSW hL hdep hsh he hsv hsl hFF K hK1 hK2
    replace hi : i < 19 := hi
    have hcs : i = 0 ∨ i = 1 ∨ i = 2 ∨ i = 3 ∨ i = 4 ∨ i = 5 ∨ i = 6 ∨ i = 7 ∨ i = 8 ∨ i = 9 ∨ i = 10 ∨ i = 11 ∨ i = 12 ∨ i = 13 ∨ i = 14 ∨ i = 15 ∨ i = 16 ∨ i = 17 ∨ i = 18 := by omega
    clear hi
    rcases hcs with rfl | rfl | rfl | rfl | rfl | rfl | rfl | rfl | rfl | rfl | rfl | rfl | rfl | rfl | rfl | rfl | rfl | rfl | rfl
    · refine wpOpS_go rfl rfl ?_
      have t3 : b'.tmps[3]?.getD undef = Value.int .i64 0 := he 3 (by kernel_rfl)
      have HK := Lib.hid hK1
      clear hK1 hK2 hdep hsh he hsv hsl hFF hL hSW
      go_simp
      exact HK.out rfl _ (fp_mk rfl rfl trivial)
    · refine wpOpS_go rfl rfl ?_
      have t19 : b'.tmps[19]?.getD undef = Value.int .i64 0 := hsv 0 19 _ (by kernel_rfl) (by kernel_rfl) rfl
      have HK := Lib.hid hK1
      clear hK1 hK2 hdep hsh he hsv hsl hFF hL hSW
      go_simp
      exact HK.out rfl _ (fp_mk rfl rfl trivial)
    · refine wpOpS_go rfl rfl ?_
      have t20 : b'.tmps[20]?.getD undef = Value.bool true := hsv 1 20 _ (by kernel_rfl) (by kernel_rfl) rfl
      have HK := Lib.hid hK1
      clear hK1 hK2 hdep hsh he hsv hsl hFF hL hSW
      go_simp
      exact HK.out rfl _ (fp_mk rfl rfl trivial)
    · refine wpOpS_guard (dg := 21) rfl rfl rfl rfl (hsv 2 21 _ (by kernel_rfl) (by kernel_rfl) rfl) ?_
      rw [if_pos rfl]
      have t5 : b'.tmps[5]?.getD undef = Value.int .i64 0 := he 5 (by kernel_rfl)
      have HK := Lib.hid hK1
      clear hK1 hK2 hdep hsh he hsv hsl hFF hL hSW
      go_simp
      exact HK.out rfl _ (fp_mk rfl rfl trivial)
    · refine wpOpS_guard (dg := 21) rfl rfl rfl rfl (hsv 2 21 _ (by kernel_rfl) (by kernel_rfl) rfl) ?_
      rw [if_pos rfl]
      have t22 : b'.tmps[22]?.getD undef = Value.int .i64 0 := hsv 3 22 _ (by kernel_rfl) (by kernel_rfl) rfl
      have HK := Lib.hid hK1
      clear hK1 hK2 hdep hsh he hsv hsl hFF hL hSW
      go_simp
      exact HK.out rfl _ (fp_mk rfl rfl trivial)
    · refine wpOpS_go rfl rfl ?_
      have t21 : b'.tmps[21]?.getD undef = Value.bool true := hsv 2 21 _ (by kernel_rfl) (by kernel_rfl) rfl
      have t23 : b'.tmps[23]?.getD undef = Value.bool true := hsv 4 23 _ (by kernel_rfl) (by kernel_rfl) rfl
      have HK := Lib.hid hK1
      clear hK1 hK2 hdep hsh he hsv hsl hFF hL hSW
      go_simp
      exact HK.out rfl _ (fp_mk rfl rfl trivial)
    · refine wpOpS_go rfl rfl ?_
      have t24 : b'.tmps[24]?.getD undef = Value.bool true := hsv 5 24 _ (by kernel_rfl) (by kernel_rfl) rfl
      have HK := Lib.hid hK1
      clear hK1 hK2 hdep hsh he hsv hsl hFF hL hSW
      go_simp
      exact HK.out rfl _ (fp_mk rfl rfl trivial)
    · refine wpOpS_guard (dg := 25) rfl rfl rfl rfl (hsv 6 25 _ (by kernel_rfl) (by kernel_rfl) rfl) ?_
      rw [if_pos rfl]
      have t2 : b'.tmps[2]?.getD undef = Value.pointer (some ⟨g3, 0, none⟩) := he 2 (by kernel_rfl)
      obtain ⟨s0, s1, s2⟩ := hSW
      have c0 := s0.bk.cell
      have HK := Lib.hid hK1
      clear hK1 hK2 hdep hsh he hsv hsl hFF hL
      go_simp
      exact HK.out rfl _ (fp_mk rfl rfl trivial)
    · refine wpOpS_guard (dg := 25) rfl rfl rfl rfl (hsv 6 25 _ (by kernel_rfl) (by kernel_rfl) rfl) ?_
      rw [if_pos rfl]
      obtain ⟨s0, s1, s2⟩ := hSW
      have HK := Lib.hid hK2
      clear hK1 hK2 hdep hsh he hsv hsl hFF hL
      go_simp
      have hb := upA (upR W) (Obj.cells #[Value.int .i64 1, Value.int .i64 2, Value.int .i64 0, Value.int .i64 1] 3)
      exact HK.out _ _ (fp_x rfl ⟨_, rfl, Blk.new _ _ _⟩) hb ⟨s0.keep hb, s1.keep hb, more s2 hb⟩
    · refine wpOpS_guard (dg := 25) rfl rfl rfl rfl (hsv 6 25 _ (by kernel_rfl) (by kernel_rfl) rfl) ?_
      rw [if_pos rfl]
      obtain ⟨t27, hx⟩ := hsl 8 27 (by kernel_rfl) (by kernel_rfl)
      obtain ⟨e1, e4, b4⟩ := hx
      rw [e4] at t27
      obtain ⟨s0, s1, s2⟩ := hSW
      have HK := Lib.hid hK2
      clear hK1 hK2 hdep hsh he hsv hsl hFF hL e4
      have hmi := MI.of_blk (B := 0) (zs := [1, 2, 0, 1]) b4 (Nat.zero_le _) (all_i64 (by decide)) (by decide)
      have hof := whole2_is hmi (by decide) (by decide) (by decide)
      go_simp
      refine hof.mono ?_
      rintro e w6 ⟨v, rfl, hmo, hK⟩
      exact HK.out _ _ (fp_x rfl (show MO 0 w6 v (ofM 2 [1, 2, 0, 1]) from hmo.mono (Nat.zero_le _))) hK ⟨s0.keep hK, s1.keep hK, more s2 hK⟩
    · refine wpOpS_guard (dg := 25) rfl rfl rfl rfl (hsv 6 25 _ (by kernel_rfl) (by kernel_rfl) rfl) ?_
      rw [if_pos rfl]
      have t26 : b'.tmps[26]?.getD undef = Value.agg #[Value.int .i64 2, Value.int .i64 2, Value.slice a3 4 k3] := hsv 7 26 _ (by kernel_rfl) (by kernel_rfl) rfl
      obtain ⟨t28, hx⟩ := hsl 9 28 (by kernel_rfl) (by kernel_rfl)
      obtain ⟨a9, k9, e9, l9⟩ := MO.two (show MO 0 W (f 9) (ofM 2 [1, 2, 0, 1]) from hx) rfl rfl
      rw [e9] at t28
      obtain ⟨s0, s1, s2⟩ := hSW
      have HK := Lib.hid hK2
      clear hK1 hK2 hdep hsh he hsv hsl hFF hL hx e9
      have hsm := same_two (zs := [1, 2, 0, 1]) rfl s0.l (l9.mi.mono (Nat.zero_le _))
      go_simp
      refine hsm.mono ?_
      rintro e w6 ⟨rfl, hK⟩
      exact HK.out _ _ (fp_mk rfl rfl trivial) hK ⟨s0.keep hK, s1.keep hK, more s2 hK⟩
    · refine wpOpS_go rfl rfl ?_
      have t25 : b'.tmps[25]?.getD undef = Value.bool true := hsv 6 25 _ (by kernel_rfl) (by kernel_rfl) rfl
      have t29 : b'.tmps[29]?.getD undef = Value.bool true := hsv 10 29 _ (by kernel_rfl) (by kernel_rfl) rfl
      have HK := Lib.hid hK1
      clear hK1 hK2 hdep hsh he hsv hsl hFF hL hSW
      go_simp
      exact HK.out rfl _ (fp_mk rfl rfl trivial)
    · refine wpOpS_go rfl rfl ?_
      have t30 : b'.tmps[30]?.getD undef = Value.bool true := hsv 11 30 _ (by kernel_rfl) (by kernel_rfl) rfl
      have HK := Lib.hid hK1
      clear hK1 hK2 hdep hsh he hsv hsl hFF hL hSW
      go_simp
      exact HK.out rfl _ (fp_mk rfl rfl trivial)
    · refine wpOpS_guard (dg := 31) rfl rfl rfl rfl (hsv 12 31 _ (by kernel_rfl) (by kernel_rfl) rfl) ?_
      rw [if_pos rfl]
      have t4 : b'.tmps[4]?.getD undef = Value.pointer (some ⟨g6, 0, none⟩) := he 4 (by kernel_rfl)
      obtain ⟨s0, s1, s2⟩ := hSW
      have c0 := s1.bk.cell
      have HK := Lib.hid hK1
      clear hK1 hK2 hdep hsh he hsv hsl hFF hL
      go_simp
      exact HK.out rfl _ (fp_mk rfl rfl trivial)
    · refine wpOpS_guard (dg := 31) rfl rfl rfl rfl (hsv 12 31 _ (by kernel_rfl) (by kernel_rfl) rfl) ?_
      rw [if_pos rfl]
      obtain ⟨s0, s1, s2⟩ := hSW
      have HK := Lib.hid hK2
      clear hK1 hK2 hdep hsh he hsv hsl hFF hL
      go_simp
      have hb := upA (upR W) (Obj.cells #[Value.int .i64 8, Value.int .i64 6, Value.int .i64 6, Value.int .i64 6] 3)
      exact HK.out _ _ (fp_x rfl ⟨_, rfl, Blk.new _ _ _⟩) hb ⟨s0.keep hb, s1.keep hb, more s2 hb⟩
    · refine wpOpS_guard (dg := 31) rfl rfl rfl rfl (hsv 12 31 _ (by kernel_rfl) (by kernel_rfl) rfl) ?_
      rw [if_pos rfl]
      obtain ⟨t33, hx⟩ := hsl 14 33 (by kernel_rfl) (by kernel_rfl)
      obtain ⟨e1, e4, b4⟩ := hx
      rw [e4] at t33
      obtain ⟨s0, s1, s2⟩ := hSW
      have HK := Lib.hid hK2
      clear hK1 hK2 hdep hsh he hsv hsl hFF hL e4
      have hmi := MI.of_blk (B := 0) (zs := [8, 6, 6, 6]) b4 (Nat.zero_le _) (all_i64 (by decide)) (by decide)
      have hof := whole2_is hmi (by decide) (by decide) (by decide)
      go_simp
      refine hof.mono ?_
      rintro e w6 ⟨v, rfl, hmo, hK⟩
      exact HK.out _ _ (fp_x rfl (show MO 0 w6 v (ofM 2 [8, 6, 6, 6]) from hmo.mono (Nat.zero_le _))) hK ⟨s0.keep hK, s1.keep hK, more s2 hK⟩
    · refine wpOpS_guard (dg := 31) rfl rfl rfl rfl (hsv 12 31 _ (by kernel_rfl) (by kernel_rfl) rfl) ?_
      rw [if_pos rfl]
      have t32 : b'.tmps[32]?.getD undef = Value.agg #[Value.int .i64 2, Value.int .i64 2, Value.slice a6 4 k6] := hsv 13 32 _ (by kernel_rfl) (by kernel_rfl) rfl
      obtain ⟨t34, hx⟩ := hsl 15 34 (by kernel_rfl) (by kernel_rfl)
      obtain ⟨a9, k9, e9, l9⟩ := MO.two (show MO 0 W (f 15) (ofM 2 [8, 6, 6, 6]) from hx) rfl rfl
      rw [e9] at t34
      obtain ⟨s0, s1, s2⟩ := hSW
      have HK := Lib.hid hK2
      clear hK1 hK2 hdep hsh he hsv hsl hFF hL hx e9
      have hsm := same_two (zs := [8, 6, 6, 6]) rfl s1.l (l9.mi.mono (Nat.zero_le _))
      go_simp
      refine hsm.mono ?_
      rintro e w6 ⟨rfl, hK⟩
      exact HK.out _ _ (fp_mk rfl rfl trivial) hK ⟨s0.keep hK, s1.keep hK, more s2 hK⟩
    · refine wpOpS_go rfl rfl ?_
      have t31 : b'.tmps[31]?.getD undef = Value.bool true := hsv 12 31 _ (by kernel_rfl) (by kernel_rfl) rfl
      have t35 : b'.tmps[35]?.getD undef = Value.bool true := hsv 16 35 _ (by kernel_rfl) (by kernel_rfl) rfl
      have HK := Lib.hid hK1
      clear hK1 hK2 hdep hsh he hsv hsl hFF hL hSW
      go_simp
      exact HK.out rfl _ (fp_mk rfl rfl trivial)
    · refine wpOpS_go rfl rfl ?_
      have t36 : b'.tmps[36]?.getD undef = Value.bool true := hsv 17 36 _ (by kernel_rfl) (by kernel_rfl) rfl
      have HK := Lib.hid hK1
      clear hK1 hK2 hdep hsh he hsv hsl hFF hL hSW
      go_simp
      exact HK.out rfl _ (fp_mk rfl rfl trivial)
  · intro f W hf L hL hS
    obtain ⟨s0, s1, s2⟩ := (hS : _ ∧ _ ∧ _)
    have e9 : f 18 = Value.bool true := (hf 18 (by decide)).1 _ rfl
    clear hf hL
    simp only [puts2, Act.put]
    generalize f 0 = y0, f 1 = y1, f 2 = y2, f 3 = y3, f 4 = y4, f 5 = y5, f 6 = y6, f 7 = y7, f 8 = y8, f 9 = y9, f 10 = y10, f 11 = y11, f 12 = y12, f 13 = y13, f 14 = y14, f 15 = y15, f 16 = y16, f 17 = y17
    rw [e9]
    try simp only [List.setIfInBounds_toArray, List.set_cons_zero, List.set_cons_succ]
    go_wp2_with fail
    go_ret
    exact ⟨rfl, s2⟩

end Go.Proofs.YtkjbidpafnmogaaGreat.Base
