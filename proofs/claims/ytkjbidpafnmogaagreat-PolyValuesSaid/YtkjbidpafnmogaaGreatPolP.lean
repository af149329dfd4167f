/- binnaclelaw09: awake. -/
import Derived.Test.YtkjbidpafnmogaaGreatPolO
namespace Go.Proofs.YtkjbidpafnmogaaGreat.Base
open Go.RowKit Go
set_option linter.unusedVariables false
set_option linter.unusedSimpArgs false

theorem chain_flow3 : (flowM chainM 17179869184).1 = wantM := by
  have h1 := chain_flow
  obtain ⟨h2, h3, _⟩ := chain_flow2
  generalize (flowM chainM 17179869184).1 = f at *
  obtain ⟨r, c, v⟩ := f
  dsimp only at h1 h2 h3
  rw [h1, h2, h3]; rfl

set_option maxHeartbeats 4000000 in
set_option maxRecDepth 100000 in
theorem awake09_is (w0 : World) : Calls Tryz.prog 12 #[] w0 fun e w' => e = .returned (.bool true) ∧ Below w0.heap.size w0 w' := by
  go_enter Tryz.func12, Tryz.ntmps12
  go_wp2_with fail
  refine (uNew_is w0).mono ?_
  rintro e w1 ⟨rfl, hU1, hB⟩
  go_wp2_with fail
  refine (chain_is w1).mono ?_
  rintro e w2 ⟨v, rfl, hmo, hK⟩
  have hU2 := hU1.keep hK
  replace hB := more hB hK
  obtain ⟨ac, kc, rfl, hLI⟩ := hmo.ex
  have hFL := Flow_is hU2 (m := chainM) (hLI.ml hU2) chain_upper 17179869184 (i64_lit (by decide))
  rw [chain_flow3, chain_flow2.2.2] at hFL
  clear hK hmo hU1 hLI
  go_wp2_with fail
  refine hFL.mono ?_
  rintro e w3 ⟨v, rfl, hmo, hU3, hB3⟩
  obtain ⟨af, kf, rfl, hLF⟩ := hmo.ex
  have hB4 := hB.trans (hB3.below (Nat.le_refl _) hB.size)
  have hmf := hLF.mi.mono (Nat.zero_le _)
  clear hFL hmo hU3 hB3 hU2 hB hLF
  go_wp2_with fail
  have hBA := upA (upR w3) (Obj.cells #[Value.int .i64 3, .int .i64 3, .slice af 9 kf] 24)
  have hf0 := (Blk.new w3 #[Value.int .i64 3, .int .i64 3, .slice af 9 kf] 24)
  obtain ⟨fb, hfb⟩ : ∃ fb, w3.heap.size = fb := ⟨_, rfl⟩
  rw [hfb] at hf0 ⊢
  have HS0 : Blk (w3.alloc (Obj.cells #[Value.int .i64 3, .int .i64 3, .slice af 9 kf] 24)).drew fb #[.int .i64 3, .int .i64 3, .slice af 9 kf] 24 ∧ MI 0 (w3.alloc (Obj.cells #[Value.int .i64 3, .int .i64 3, .slice af 9 kf] 24)).drew af kf wantM.v ∧ Below w0.heap.size w0 (w3.alloc (Obj.cells #[Value.int .i64 3, .int .i64 3, .slice af 9 kf] 24)).drew :=
    ⟨hf0.drew, hmf.keep hBA.drew, more hB4 hBA.drew⟩
  clear hf0 hmf hB4 hBA hfb
  refine region_fp [some 9, some 10, some 11, some 12, some 13, some 14, some 15, some 16, some 17, some 18, some 19, some 20, some 0] [] [some (Value.int .i64 0), some (Value.bool true), some (Value.bool true), some (Value.agg #[Value.int .i64 3, Value.int .i64 3, Value.slice af 9 kf]), none, none, some (Value.bool true), some (Value.bool true), some (Value.bool true), none, some (Value.bool true), some (Value.bool true), some (Value.bool true)]
    (fun i v W => match i with | 4 => ∃ e1, v = Value.slice (some ⟨e1, 0, none⟩) 9 9 ∧ Blk W e1 #[Value.int .i64 1, Value.int .i64 4, Value.int .i64 8, Value.int .i64 0, Value.int .i64 1, Value.int .i64 4, Value.int .i64 0, Value.int .i64 0, Value.int .i64 1] 3 | 5 => MO 0 W v wantM | 9 => MO 0 W v chainM | _ => True) (fun W W' => Below W.heap.size W W') (fun L f W => Blk W fb #[.int .i64 3, .int .i64 3, .slice af 9 kf] 24 ∧ MI 0 W af kf wantM.v ∧ Below w0.heap.size w0 W)
    (by kernel_rfl) (by kernel_rfl) (by kernel_rfl) (by kernel_rfl) (by kernel_rfl) (fun _ => Below.refl _ _) (fun i v W W' h hb => by
      match i, h with
      | 4, ⟨e1, h1, h2⟩ => exact ⟨e1, h1, h2.keep hb⟩
      | 5, h => exact h.keep hb
      | 9, h => exact h.keep hb
      | 0, _ | 1, _ | 2, _ | 3, _ | 6, _ | 7, _ | 8, _ | 10, _ | 11, _ | 12, _ => trivial
      | (n + 13), _ => trivial) (fun _ _ _ _ _ _ h => h) HS0 ?_ ?_
  · intro i hi b' L f W hSW hL hdep hsh he hsv hsl hFF K hK1 hK2
    replace hi : i < 13 := hi
    have hcs : i = 0 ∨ i = 1 ∨ i = 2 ∨ i = 3 ∨ i = 4 ∨ i = 5 ∨ i = 6 ∨ i = 7 ∨ i = 8 ∨ i = 9 ∨ i = 10 ∨ i = 11 ∨ i = 12 := by omega
    clear hi
    rcases hcs with rfl | rfl | rfl | rfl | rfl | rfl | rfl | rfl | rfl | rfl | rfl | rfl | rfl
    · refine wpOpS_go rfl rfl ?_
      have t2 : b'.tmps[2]?.getD undef = Value.int .i64 0 := he 2 (by kernel_rfl)
      have HK := Lib.hid hK1
      clear hK1 hK2 hdep hsh he hsv hsl hFF hL hSW
      go_simp
      exact HK.out rfl _ (fp_mk rfl rfl trivial)
    · refine wpOpS_go rfl rfl ?_
      have t9 : b'.tmps[9]?.getD undef = Value.int .i64 0 := hsv 0 9 _ (by kernel_rfl) (by kernel_rfl) rfl
      have HK := Lib.hid hK1
      clear hK1 hK2 hdep hsh he hsv hsl hFF hL hSW
      go_simp
      exact HK.out rfl _ (fp_mk rfl rfl trivial)
    · refine wpOpS_go rfl rfl ?_
      have t10 : b'.tmps[10]?.getD undef = Value.bool true := hsv 1 10 _ (by kernel_rfl) (by kernel_rfl) rfl
      have HK := Lib.hid hK1
      clear hK1 hK2 hdep hsh he hsv hsl hFF hL hSW
      go_simp
      exact HK.out rfl _ (fp_mk rfl rfl trivial)
    · refine wpOpS_guard (dg := 11) rfl rfl rfl rfl (hsv 2 11 _ (by kernel_rfl) (by kernel_rfl) rfl) ?_
      rw [if_pos rfl]
      have t1 : b'.tmps[1]?.getD undef = Value.pointer (some ⟨fb, 0, none⟩) := he 1 (by kernel_rfl)
      obtain ⟨s0, s1, s2⟩ := hSW
      have c0 := s0.cell
      have HK := Lib.hid hK1
      clear hK1 hK2 hdep hsh he hsv hsl hFF hL
      clear s0 s1 s2
      go_simp
      exact HK.out rfl _ (fp_mk rfl rfl trivial)
    · refine wpOpS_guard (dg := 11) rfl rfl rfl rfl (hsv 2 11 _ (by kernel_rfl) (by kernel_rfl) rfl) ?_
      rw [if_pos rfl]
      obtain ⟨s0, s1, s2⟩ := hSW
      have HK := Lib.hid hK2
      clear hK1 hK2 hdep hsh he hsv hsl hFF hL
      go_simp
      have hb := upA (upR W) (Obj.cells #[Value.int .i64 1, Value.int .i64 4, Value.int .i64 8, Value.int .i64 0, Value.int .i64 1, Value.int .i64 4, Value.int .i64 0, Value.int .i64 0, Value.int .i64 1] 3)
      exact HK.out _ _ (fp_x rfl ⟨_, rfl, Blk.new _ _ _⟩) hb ⟨s0.keep hb, s1.keep hb, more s2 hb⟩
    · refine wpOpS_guard (dg := 11) rfl rfl rfl rfl (hsv 2 11 _ (by kernel_rfl) (by kernel_rfl) rfl) ?_
      rw [if_pos rfl]
      obtain ⟨t13, hx⟩ := hsl 4 13 (by kernel_rfl) (by kernel_rfl)
      obtain ⟨e1, e4, b4⟩ := hx
      rw [e4] at t13
      obtain ⟨s0, s1, s2⟩ := hSW
      have HK := Lib.hid hK2
      clear hK1 hK2 hdep hsh he hsv hsl hFF hL e4
      have hmi := MI.of_blk (B := 0) (zs := [1, 4, 8, 0, 1, 4, 0, 0, 1]) b4 (Nat.zero_le _) (all_i64 (by decide)) (by decide)
      have hof := of_is hmi 3 (i64_lit (by decide)) (by decide) (by decide) (by decide)
      go_simp
      refine hof.mono ?_
      rintro e w6 ⟨v, rfl, hmo, hK⟩
      exact HK.out _ _ (fp_x rfl (show MO 0 w6 v wantM from hmo.mono (Nat.zero_le _))) hK ⟨s0.keep hK, s1.keep hK, more s2 hK⟩
    · refine wpOpS_guard (dg := 11) rfl rfl rfl rfl (hsv 2 11 _ (by kernel_rfl) (by kernel_rfl) rfl) ?_
      rw [if_pos rfl]
      have t12 : b'.tmps[12]?.getD undef = Value.agg #[Value.int .i64 3, Value.int .i64 3, Value.slice af 9 kf] := hsv 3 12 _ (by kernel_rfl) (by kernel_rfl) rfl
      obtain ⟨t14, hx⟩ := hsl 5 14 (by kernel_rfl) (by kernel_rfl)
      have hx5 : MO 0 W (f 5) wantM := hx
      obtain ⟨a5, k5, e5, l5⟩ := hx5.ex
      rw [e5] at t14
      obtain ⟨s0, s1, s2⟩ := hSW
      have HK := Lib.hid hK2
      clear hK1 hK2 hdep hsh he hsv hsl hFF hL hx hx5 e5
      have hsm := sameMat_is (m1 := wantM) (m2 := wantM) s1 (l5.mi.mono (Nat.zero_le _))
      rw [decide_eq_true (show wantM.r = wantM.r ∧ wantM.c = wantM.c ∧ wantM.v = wantM.v from ⟨rfl, rfl, rfl⟩)] at hsm
      go_simp
      refine hsm.mono ?_
      rintro e w6 ⟨rfl, hK⟩
      exact HK.out _ _ (fp_mk rfl rfl trivial) hK ⟨s0.keep hK, s1.keep hK, more s2 hK⟩
    · refine wpOpS_go rfl rfl ?_
      have t11 : b'.tmps[11]?.getD undef = Value.bool true := hsv 2 11 _ (by kernel_rfl) (by kernel_rfl) rfl
      have t15 : b'.tmps[15]?.getD undef = Value.bool true := hsv 6 15 _ (by kernel_rfl) (by kernel_rfl) rfl
      have HK := Lib.hid hK1
      clear hK1 hK2 hdep hsh he hsv hsl hFF hL hSW
      go_simp
      exact HK.out rfl _ (fp_mk rfl rfl trivial)
    · refine wpOpS_go rfl rfl ?_
      have t16 : b'.tmps[16]?.getD undef = Value.bool true := hsv 7 16 _ (by kernel_rfl) (by kernel_rfl) rfl
      have HK := Lib.hid hK1
      clear hK1 hK2 hdep hsh he hsv hsl hFF hL hSW
      go_simp
      exact HK.out rfl _ (fp_mk rfl rfl trivial)
    · refine wpOpS_guard (dg := 17) rfl rfl rfl rfl (hsv 8 17 _ (by kernel_rfl) (by kernel_rfl) rfl) ?_
      rw [if_pos rfl]
      obtain ⟨s0, s1, s2⟩ := hSW
      have HK := Lib.hid hK2
      clear hK1 hK2 hdep hsh he hsv hsl hFF hL
      go_simp
      refine (chain_is _).mono ?_
      rintro e w6 ⟨v, rfl, hmo, hK⟩
      exact HK.out _ _ (fp_x rfl (show MO 0 w6 v chainM from hmo.mono (Nat.zero_le _))) hK ⟨s0.keep hK, s1.keep hK, more s2 hK⟩
    · refine wpOpS_guard (dg := 17) rfl rfl rfl rfl (hsv 8 17 _ (by kernel_rfl) (by kernel_rfl) rfl) ?_
      rw [if_pos rfl]
      obtain ⟨t18, hx⟩ := hsl 9 18 (by kernel_rfl) (by kernel_rfl)
      have hx9 : MO 0 W (f 9) chainM := hx
      obtain ⟨a9, k9, e9, l9⟩ := hx9.ex
      rw [e9] at t18
      obtain ⟨s0, s1, s2⟩ := hSW
      have HK := Lib.hid hK2
      clear hK1 hK2 hdep hsh he hsv hsl hFF hL hx hx9 e9
      have hup := upper_is (m := chainM) (l9.mi.mono (Nat.zero_le _))
      rw [decide_eq_true chain_upper] at hup
      go_simp
      refine hup.mono ?_
      rintro e w6 ⟨rfl, hK⟩
      exact HK.out _ _ (fp_mk rfl rfl trivial) hK ⟨s0.keep hK, s1.keep hK, more s2 hK⟩
    · refine wpOpS_go rfl rfl ?_
      have t17 : b'.tmps[17]?.getD undef = Value.bool true := hsv 8 17 _ (by kernel_rfl) (by kernel_rfl) rfl
      have t19 : b'.tmps[19]?.getD undef = Value.bool true := hsv 10 19 _ (by kernel_rfl) (by kernel_rfl) rfl
      have HK := Lib.hid hK1
      clear hK1 hK2 hdep hsh he hsv hsl hFF hL hSW
      go_simp
      exact HK.out rfl _ (fp_mk rfl rfl trivial)
    · refine wpOpS_go rfl rfl ?_
      have t20 : b'.tmps[20]?.getD undef = Value.bool true := hsv 11 20 _ (by kernel_rfl) (by kernel_rfl) rfl
      have HK := Lib.hid hK1
      clear hK1 hK2 hdep hsh he hsv hsl hFF hL hSW
      go_simp
      exact HK.out rfl _ (fp_mk rfl rfl trivial)
  · intro f W hf L hL hS
    obtain ⟨s0, s1, s2⟩ := (hS : _ ∧ _ ∧ _)
    have e12 : f 12 = Value.bool true := (hf 12 (by decide)).1 _ rfl
    clear hf hL
    simp only [puts2, Act.put]
    generalize f 0 = y0, f 1 = y1, f 2 = y2, f 3 = y3, f 4 = y4, f 5 = y5, f 6 = y6, f 7 = y7, f 8 = y8, f 9 = y9, f 10 = y10, f 11 = y11
    rw [e12]
    try simp only [List.setIfInBounds_toArray, List.set_cons_zero, List.set_cons_succ]
    go_wp2_with fail
    go_ret
    exact ⟨rfl, s2⟩
end Go.Proofs.YtkjbidpafnmogaaGreat.Base
