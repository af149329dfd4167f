/- wide: Div. -/
import Derived.Test.YtnofoommindocaaGreatNumH
namespace Go.Proofs.YtnofoommindocaaGreat.Base
open Go.RowKit Go.Lib
set_option linter.unusedVariables false
set_option linter.unusedSimpArgs false

/-- Divided by a number, to the nearest, half to the even one. -/
def divI (a d : Int) : Int := sgnI (rheI (absI a) (absI d)) (decide (a < 0) != decide (d < 0))
theorem div_hl (h l d : Int) (hd : 0 < d) : (h * 18446744073709551616 + l) / d = h / d * 18446744073709551616 + (h % d * 18446744073709551616 + l) / d ∧ (h * 18446744073709551616 + l) % d = (h % d * 18446744073709551616 + l) % d := by
  have e : h * 18446744073709551616 + l = (h % d * 18446744073709551616 + l) + d * (h / d * 18446744073709551616) := by
    have := Int.mul_ediv_add_emod h d
    rw [← Int.mul_assoc]
    generalize d * (h / d) = z at *
    omega
  constructor
  · conv => lhs; rw [e, Int.add_mul_ediv_left _ _ (by omega)]
    omega
  · rw [e, Int.add_mul_emod_self_left]

set_option maxHeartbeats 4000000 in
set_option maxRecDepth 100000 in
theorem wDiv_is (a d : Int) (h : W127 a) (hd : I64 d) (hn : d ≠ 0) (w0 : World) : Calls Tryz.prog 198 #[wv a, .int .i64 d] w0 fun e w' => e = .returned (.tuple #[wv (divI a d), .int .i64 0]) ∧ Below w0.heap.size w0 w' := by
  have hs : U128 (absI a) := by unfold W127 at h; unfold U128 absI; split <;> omega
  have hd0 : 0 < absI d := by unfold absI; split <;> omega
  have hd1 := absI_lt hd
  have hR := Lib.hid (show divI a d = sgnI (nextI (absI a / absI d) (decide (nearP (absI a / absI d) (absI a % absI d) (absI d)))) (decide (a < 0) != decide (d < 0)) by
    unfold divI rheI nextI
    simp)
  have hSZ := sizes_is d 0 hd (by unfold I64; omega)
  have hW := wvU a
  obtain ⟨s, hsd⟩ : ∃ s, absI a = s := ⟨_, rfl⟩
  obtain ⟨d', hdd⟩ : ∃ d', absI d = d' := ⟨_, rfl⟩
  have HF := wof_is a h
  rw [hsd] at hs HF
  rw [hsd, hdd] at hR
  rw [hdd] at hd0 hd1 hSZ
  clear hsd hdd
  obtain ⟨q, hqd⟩ : ∃ q, s / d' = q := ⟨_, rfl⟩
  obtain ⟨r, hrd⟩ : ∃ r, s % d' = r := ⟨_, rfl⟩
  have hr0 : 0 ≤ r := by rw [← hrd]; exact Int.emod_nonneg _ (by omega)
  have hr1 : r < d' := by rw [← hrd]; exact Int.emod_lt_of_pos _ hd0
  have hH := hiS_rng s
  have hL := loW_rng s
  have hsv : s = hiS s * 18446744073709551616 + loW s := by unfold U128 at hs; unfold hiS loW; omega
  have hdv := div_hl (hiS s) (loW s) d' hd0
  rw [← hsv, hqd, hrd] at hdv
  have hq0 : 0 ≤ q := by rw [← hqd]; exact Int.ediv_nonneg hs.1 (by omega)
  have hq1 : q ≤ s := by rw [← hqd]; exact Int.ediv_le_self _ hs.1
  have ha0 : 0 ≤ hiS s / d' := Int.ediv_nonneg hH.1 (by omega)
  have ha1 : hiS s / d' ≤ hiS s := Int.ediv_le_self _ hH.1
  have hm0 : 0 ≤ hiS s % d' := Int.emod_nonneg _ (by omega)
  have hm1 : hiS s % d' < d' := Int.emod_lt_of_pos _ hd0
  have hb0 : 0 ≤ (hiS s % d' * 18446744073709551616 + loW s) / d' := Int.ediv_nonneg (by omega) (by omega)
  have hb1 : (hiS s % d' * 18446744073709551616 + loW s) / d' < 18446744073709551616 := Int.ediv_lt_of_lt_mul hd0 (by have := Int.mul_comm 18446744073709551616 d'; omega)
  have eh : hiS s / d' = hiS q := by unfold hiS at *; omega
  have el : (hiS s % d' * 18446744073709551616 + loW s) / d' = loW q := by unfold loW at *; omega
  have HEH := Lib.hid eh
  have HEL := Lib.hid el
  have HRR := Lib.hid hdv.2
  rw [hqd, hrd] at hR
  have HNEAR := fun W => nearer_is q r d' ⟨hr0, by omega⟩ ⟨by omega, by omega⟩ (by omega) W
  have e0r : Value.agg #[.int .u64 0, .int .u64 r] = sv r := sv_is (by unfold hiS; omega) (by unfold loW; omega)
  have e0d : Value.agg #[.int .u64 0, .int .u64 d'] = sv d' := sv_is (by unfold hiS; omega) (by unfold loW; omega)
  rw [svU, ← e0r, ← e0d] at HNEAR
  have hr64 : r < 18446744073709551616 := by omega
  have HD64 := Lib.hid (fun W => div64_is (hiS s % d') (loW s) d' hm0 hm1 hL.1 hL.2 (by omega) W)
  clear hdv hqd hrd eh el hsv e0r e0d hb0 hb1
  go_enter Tryz.func198, Tryz.ntmps198
  rw [hW]
  go_wp2_with fail
  rw [← hW]
  clear hW
  refine (HF _).mono ?_
  rintro e w1 ⟨rfl, hK⟩
  have hB := below_allocs w0 [Obj.cells #[Value.int IntKind.i64 (hiW a), Value.int IntKind.u64 (loW a)] 146, Obj.cells #[Value.int IntKind.i64 0, Value.int IntKind.u64 0] 146]
  have g1 := blk_at w0 [Obj.cells #[Value.int IntKind.i64 (hiW a), Value.int IntKind.u64 (loW a)] 146, Obj.cells #[Value.int IntKind.i64 0, Value.int IntKind.u64 0] 146] 1 _ _ rfl
  simp only [List.foldl_cons, List.foldl_nil, Nat.add_zero] at hB g1
  replace g1 := g1.keep hK
  replace hB := more hB.1 hK
  clear hK HF
  rw [svU]
  go_wp2_with fail
  refine (hSZ _).mono ?_
  rintro e w2 ⟨rfl, hw⟩
  have k1 := g1.alloc (Obj.cells #[Value.int IntKind.u64 (hiS s), Value.int IntKind.u64 (loW s)] 182)
  have k6 := Blk.new w1 #[Value.int IntKind.u64 (hiS s), Value.int IntKind.u64 (loW s)] 182
  replace hB := upA hB (Obj.cells #[Value.int IntKind.u64 (hiS s), Value.int IntKind.u64 (loW s)] 182)
  obtain ⟨p6, hp6⟩ : ∃ p6, w1.heap.size = p6 := ⟨_, rfl⟩
  rw [hp6] at k6 ⊢
  rw [hw] at k1 k6 hB
  clear hp6 hw g1 hSZ
  have t1 : IntKind.u64.wrap ((hiS s).tdiv d') = hiS s / d' := by rw [Int.tdiv_eq_ediv_of_nonneg hH.1, IntKind.wrap_u64]; omega
  have t2 : (hiS s).tmod d' = hiS s % d' := Int.tmod_eq_emod_of_nonneg hH.1
  have t3 : IntKind.u64.wrap (hiS s % d') = hiS s % d' := by rw [IntKind.wrap_u64]; omega
  have t4 : ¬ d' = 0 := by omega
  have c6 := k6.cell 0
  have c7 := k6.cell 1
  simp at c6 c7
  go_wp2_with fail
  go_quiet (fail)
  rw [HEH.out]
  clear t1 t2 t3 t4 c6 c7
  have m1 := k1.keep (below_drewN w2 nq)
  have m6 := k6.keep (below_drewN w2 nq)
  replace hB := more hB (below_drewN w2 nq)
  generalize w2.drewN nq = w3 at *
  have c6 := m6.cell
  clear k1 k6
  go_wp2_with fail
  refine (HD64.out _).mono ?_
  rintro e w4 ⟨rfl, hK⟩
  rw [HEL.out, ← HRR.out]
  replace m1 := m1.keep hK
  replace hB := more hB hK
  clear hK c6 m6 HD64
  go_wp2_with fail
  have l1 := m1.alloc (Obj.cells #[Value.int IntKind.u64 (hiS q), Value.int IntKind.u64 (loW q)] 182)
  have l13 := Blk.new w4 #[Value.int IntKind.u64 (hiS q), Value.int IntKind.u64 (loW q)] 182
  replace hB := upA hB (Obj.cells #[Value.int IntKind.u64 (hiS q), Value.int IntKind.u64 (loW q)] 182)
  obtain ⟨p13, hp13⟩ : ∃ p13, w4.heap.size = p13 := ⟨_, rfl⟩
  rw [hp13] at l13 ⊢
  have n13 : p13 ≠ w0.heap.size + 1 := by have := m1.lt; omega
  generalize w4.alloc (Obj.cells #[Value.int IntKind.u64 (hiS q), Value.int IntKind.u64 (loW q)] 182) = w5 at *
  clear hp13 m1
  refine region_fp [some 46, some 47, some 48, some 49, some 50, some 51, some 52, some 53, some 54, some 55, some 56, some 57, some 58, none, some 5] [13] [some (Value.agg #[Value.int IntKind.u64 (hiS q), Value.int IntKind.u64 (loW q)]), some (Value.agg #[Value.int IntKind.u64 (hiS q), Value.int IntKind.u64 (loW q)]), some (Value.int IntKind.u64 r), some (Value.agg #[Value.int IntKind.u64 0, Value.int IntKind.u64 r]), some (Value.int IntKind.u64 d'), some (Value.agg #[Value.int IntKind.u64 0, Value.int IntKind.u64 d']), some (Value.bool (decide (nearP q r d'))), some (sv (nextI q (decide (nearP q r d')))), some (Value.bool (decide (a < 0))), some (Value.int IntKind.i64 d), some (Value.bool (decide (d < 0))), some (Value.bool (decide (a < 0) != decide (d < 0))), some (wv (sgnI (nextI q (decide (nearP q r d'))) (decide (a < 0) != decide (d < 0)))), some (undef), some (Value.int IntKind.i64 0)]
    (fun _ _ _ => True) (fun _ _ => True) (fun L f W => Blk W (p13) #[Value.int IntKind.u64 (hiS q), Value.int IntKind.u64 (loW q)] 182 ∧ (∃ cs, Blk W (w0.heap.size + 1) cs 146 ∧ cs.size = 2 ∧ (L 13 = true → cs = #[Value.int IntKind.i64 (hiW (sgnI (nextI q (decide (nearP q r d'))) (decide (a < 0) != decide (d < 0)))), Value.int IntKind.u64 (loW (sgnI (nextI q (decide (nearP q r d'))) (decide (a < 0) != decide (d < 0))))])) ∧ Below w0.heap.size w0 W)
    (by kernel_rfl) (by kernel_rfl) (by kernel_rfl) (by kernel_rfl) (by kernel_rfl) (fun _ => trivial) (fun _ _ _ _ _ _ => trivial) (fun L L' f f' W h hs => by have q := (h 13 (by decide)).1; (try dsimp only at hs ⊢); rw [← q]; exact hs) ⟨l13.drew, ⟨_, l1.drew, rfl, fun h => by cases h⟩, upD hB⟩ ?_ ?_
  · intro i hi b' L f W hSW hL hdep hsh he hsv hsl hFF K hK1 hK2
    replace hi : i < 15 := hi
    have hcs : i = 0 ∨ i = 1 ∨ i = 2 ∨ i = 3 ∨ i = 4 ∨ i = 5 ∨ i = 6 ∨ i = 7 ∨ i = 8 ∨ i = 9 ∨ i = 10 ∨ i = 11 ∨ i = 12 ∨ i = 13 ∨ i = 14 := by omega
    clear hi
    rcases hcs with rfl | rfl | rfl | rfl | rfl | rfl | rfl | rfl | rfl | rfl | rfl | rfl | rfl | rfl | rfl
    · refine wpOpS_go rfl rfl ?_
      have t13 : b'.tmps[13]?.getD undef = Value.pointer (some ⟨p13, 0, none⟩) := he 13 (by kernel_rfl)
      obtain ⟨g0, ⟨cs1, g1, gs1, gl1⟩, hbl⟩ := hSW
      refine op_load 182 _ rfl g0 0 (eval_tmp t13) [Value.int IntKind.u64 (hiS q), Value.int IntKind.u64 (loW q)] rfl Tryz.underlying182 rfl (by kernel_rfl) ?_
      exact hK1 rfl _ (fp_mk rfl rfl trivial)
    · refine wpOpS_go rfl rfl ?_
      have t13 : b'.tmps[13]?.getD undef = Value.pointer (some ⟨p13, 0, none⟩) := he 13 (by kernel_rfl)
      obtain ⟨g0, ⟨cs1, g1, gs1, gl1⟩, hbl⟩ := hSW
      refine op_load 182 _ rfl g0 0 (eval_tmp t13) [Value.int IntKind.u64 (hiS q), Value.int IntKind.u64 (loW q)] rfl Tryz.underlying182 rfl (by kernel_rfl) ?_
      exact hK1 rfl _ (fp_mk rfl rfl trivial)
    · refine wpOpS_go rfl rfl ?_
      have t11 : b'.tmps[11]?.getD undef = Value.int IntKind.u64 r := he 11 (by kernel_rfl)
      have HK := Lib.hid hK1
      clear hK1 hK2 hdep hsh he hsv hsl hFF hL hSW
      go_simp
      exact HK.out rfl _ (fp_mk rfl rfl trivial)
    · refine wpOpS_go rfl rfl ?_
      have t48 : b'.tmps[48]?.getD undef = Value.int IntKind.u64 r := hsv 2 48 _ (by kernel_rfl) (by kernel_rfl) rfl
      have HK := Lib.hid hK1
      clear hK1 hK2 hdep hsh he hsv hsl hFF hL hSW
      go_simp
      exact HK.out rfl _ (fp_mk rfl rfl trivial)
    · refine wpOpS_go rfl rfl ?_
      have t8 : b'.tmps[8]?.getD undef = Value.int IntKind.u64 d' := he 8 (by kernel_rfl)
      have HK := Lib.hid hK1
      clear hK1 hK2 hdep hsh he hsv hsl hFF hL hSW
      go_simp
      exact HK.out rfl _ (fp_mk rfl rfl trivial)
    · refine wpOpS_go rfl rfl ?_
      have t50 : b'.tmps[50]?.getD undef = Value.int IntKind.u64 d' := hsv 4 50 _ (by kernel_rfl) (by kernel_rfl) rfl
      have HK := Lib.hid hK1
      clear hK1 hK2 hdep hsh he hsv hsl hFF hL hSW
      go_simp
      exact HK.out rfl _ (fp_mk rfl rfl trivial)
    · refine wpOpS_go rfl rfl ?_
      have t47 : b'.tmps[47]?.getD undef = Value.agg #[Value.int IntKind.u64 (hiS q), Value.int IntKind.u64 (loW q)] := hsv 1 47 _ (by kernel_rfl) (by kernel_rfl) rfl
      have t49 : b'.tmps[49]?.getD undef = Value.agg #[Value.int IntKind.u64 0, Value.int IntKind.u64 r] := hsv 3 49 _ (by kernel_rfl) (by kernel_rfl) rfl
      have t51 : b'.tmps[51]?.getD undef = Value.agg #[Value.int IntKind.u64 0, Value.int IntKind.u64 d'] := hsv 5 51 _ (by kernel_rfl) (by kernel_rfl) rfl
      obtain ⟨g0, ⟨cs1, g1, gs1, gl1⟩, hbl⟩ := hSW
      have HK := Lib.hid hK2
      clear hK1 hK2 hdep hsh he hsv hsl hFF hL
      go_simp
      refine (HNEAR _).mono ?_
      rintro e w6 ⟨rfl, hK⟩
      exact HK.out _ _ (fp_mk rfl rfl trivial) trivial ⟨g0.keep hK, ⟨cs1, g1.keep hK, gs1, gl1⟩, more hbl hK⟩
    · refine wpOpS_go rfl rfl ?_
      have t46 : b'.tmps[46]?.getD undef = Value.agg #[Value.int IntKind.u64 (hiS q), Value.int IntKind.u64 (loW q)] := hsv 0 46 _ (by kernel_rfl) (by kernel_rfl) rfl
      have t52 : b'.tmps[52]?.getD undef = Value.bool (decide (nearP q r d')) := hsv 6 52 _ (by kernel_rfl) (by kernel_rfl) rfl
      obtain ⟨g0, ⟨cs1, g1, gs1, gl1⟩, hbl⟩ := hSW
      have HK := Lib.hid hK2
      clear hK1 hK2 hdep hsh he hsv hsl hFF hL
      go_simp
      refine (next_isI q _ _).mono ?_
      rintro e w6 ⟨rfl, hK⟩
      exact HK.out _ _ (fp_mk rfl rfl trivial) trivial ⟨g0.keep hK, ⟨cs1, g1.keep hK, gs1, gl1⟩, more hbl hK⟩
    · refine wpOpS_go rfl rfl ?_
      have t7 : b'.tmps[7]?.getD undef = Value.bool (decide (a < 0)) := he 7 (by kernel_rfl)
      have HK := Lib.hid hK1
      clear hK1 hK2 hdep hsh he hsv hsl hFF hL hSW
      go_simp
      exact HK.out rfl _ (fp_mk rfl rfl trivial)
    · refine wpOpS_go rfl rfl ?_
      have t1 : b'.tmps[1]?.getD undef = Value.int IntKind.i64 d := he 1 (by kernel_rfl)
      have HK := Lib.hid hK1
      clear hK1 hK2 hdep hsh he hsv hsl hFF hL hSW
      go_simp
      exact HK.out rfl _ (fp_mk rfl rfl trivial)
    · refine wpOpS_go rfl rfl ?_
      have t55 : b'.tmps[55]?.getD undef = Value.int IntKind.i64 d := hsv 9 55 _ (by kernel_rfl) (by kernel_rfl) rfl
      have HK := Lib.hid hK1
      clear hK1 hK2 hdep hsh he hsv hsl hFF hL hSW
      go_simp
      exact HK.out rfl _ (fp_mk rfl rfl trivial)
    · refine wpOpS_go rfl rfl ?_
      have t54 : b'.tmps[54]?.getD undef = Value.bool (decide (a < 0)) := hsv 8 54 _ (by kernel_rfl) (by kernel_rfl) rfl
      have t56 : b'.tmps[56]?.getD undef = Value.bool (decide (d < 0)) := hsv 10 56 _ (by kernel_rfl) (by kernel_rfl) rfl
      have HK := Lib.hid hK1
      clear hK1 hK2 hdep hsh he hsv hsl hFF hL hSW
      go_simp
      exact HK.out rfl _ (fp_mk rfl rfl trivial)
    · refine wpOpS_go rfl rfl ?_
      have t53 : b'.tmps[53]?.getD undef = sv (nextI q (decide (nearP q r d'))) := hsv 7 53 _ (by kernel_rfl) (by kernel_rfl) rfl
      have t57 : b'.tmps[57]?.getD undef = Value.bool (decide (a < 0) != decide (d < 0)) := hsv 11 57 _ (by kernel_rfl) (by kernel_rfl) rfl
      obtain ⟨g0, ⟨cs1, g1, gs1, gl1⟩, hbl⟩ := hSW
      have HK := Lib.hid hK2
      clear hK1 hK2 hdep hsh he hsv hsl hFF hL
      go_simp
      refine (signed_isI _ _ _).mono ?_
      rintro e w6 ⟨rfl, hK⟩
      exact HK.out _ _ (fp_mk rfl rfl trivial) trivial ⟨g0.keep hK, ⟨cs1, g1.keep hK, gs1, gl1⟩, more hbl hK⟩
    · refine wpOpS_go rfl rfl ?_
      have t4 : b'.tmps[4]?.getD undef = Value.pointer (some ⟨w0.heap.size + 1, 0, none⟩) := he 4 (by kernel_rfl)
      have t58 : b'.tmps[58]?.getD undef = wv (sgnI (nextI q (decide (nearP q r d'))) (decide (a < 0) != decide (d < 0))) := hsv 12 58 _ (by kernel_rfl) (by kernel_rfl) rfl
      obtain ⟨g0, ⟨cs1, g1, gs1, gl1⟩, hbl⟩ := hSW
      have HK := Lib.hid hK2
      clear hK1 hK2 hdep hsh he hsv hsl hFF hL
      obtain ⟨l1⟩ := cs1
      refine op_store 146 _ _ rfl rfl g1 0 (eval_tmp t4) (eval_tmp t58) [Value.int IntKind.i64 (hiW (sgnI (nextI q (decide (nearP q r d'))) (decide (a < 0) != decide (d < 0)))), Value.int IntKind.u64 (loW (sgnI (nextI q (decide (nearP q r d'))) (decide (a < 0) != decide (d < 0))))] rfl (by kernel_rfl) (by rfl) (by simp at gs1; simp [gs1]) #[Value.int IntKind.i64 (hiW (sgnI (nextI q (decide (nearP q r d'))) (decide (a < 0) != decide (d < 0)))), Value.int IntKind.u64 (loW (sgnI (nextI q (decide (nearP q r d'))) (decide (a < 0) != decide (d < 0))))] (put_all (by simpa using gs1)) ?_
      intro w' h1 h2 h3
      exact HK.out _ _ (fp_mk rfl rfl trivial) trivial ⟨h2.blk g0 (by first | omega | (simp; omega)), ⟨_, h1, rfl, fun _ => rfl⟩, h2.below hbl (by rintro k rfl; first | omega | (simp; omega))⟩
    · refine wpOpS_go rfl rfl ?_
      have HK := Lib.hid hK1
      clear hK1 hK2 hdep hsh he hsv hsl hFF hL hSW
      go_simp
      exact HK.out rfl _ (fp_mk rfl rfl trivial)
  · intro f W hf L hL hS
    obtain ⟨g0, ⟨cs1, g1, gs1, gl1⟩, hbl⟩ := (hS : Blk W (p13) #[Value.int IntKind.u64 (hiS q), Value.int IntKind.u64 (loW q)] 182 ∧ (∃ cs, Blk W (w0.heap.size + 1) cs 146 ∧ cs.size = 2 ∧ (L 13 = true → cs = #[Value.int IntKind.i64 (hiW (sgnI (nextI q (decide (nearP q r d'))) (decide (a < 0) != decide (d < 0)))), Value.int IntKind.u64 (loW (sgnI (nextI q (decide (nearP q r d'))) (decide (a < 0) != decide (d < 0))))])) ∧ Below w0.heap.size w0 W)
    obtain rfl := gl1 (hL 13 (by decide))
    have e0 : f 0 = Value.agg #[Value.int IntKind.u64 (hiS q), Value.int IntKind.u64 (loW q)] := (hf 0 (by decide)).1 _ rfl
    have e1 : f 1 = Value.agg #[Value.int IntKind.u64 (hiS q), Value.int IntKind.u64 (loW q)] := (hf 1 (by decide)).1 _ rfl
    have e2 : f 2 = Value.int IntKind.u64 r := (hf 2 (by decide)).1 _ rfl
    have e3 : f 3 = Value.agg #[Value.int IntKind.u64 0, Value.int IntKind.u64 r] := (hf 3 (by decide)).1 _ rfl
    have e4 : f 4 = Value.int IntKind.u64 d' := (hf 4 (by decide)).1 _ rfl
    have e5 : f 5 = Value.agg #[Value.int IntKind.u64 0, Value.int IntKind.u64 d'] := (hf 5 (by decide)).1 _ rfl
    have e6 : f 6 = Value.bool (decide (nearP q r d')) := (hf 6 (by decide)).1 _ rfl
    have e7 : f 7 = sv (nextI q (decide (nearP q r d'))) := (hf 7 (by decide)).1 _ rfl
    have e8 : f 8 = Value.bool (decide (a < 0)) := (hf 8 (by decide)).1 _ rfl
    have e9 : f 9 = Value.int IntKind.i64 d := (hf 9 (by decide)).1 _ rfl
    have e10 : f 10 = Value.bool (decide (d < 0)) := (hf 10 (by decide)).1 _ rfl
    have e11 : f 11 = Value.bool (decide (a < 0) != decide (d < 0)) := (hf 11 (by decide)).1 _ rfl
    have e12 : f 12 = wv (sgnI (nextI q (decide (nearP q r d'))) (decide (a < 0) != decide (d < 0))) := (hf 12 (by decide)).1 _ rfl
    have e14 : f 14 = Value.int IntKind.i64 0 := (hf 14 (by decide)).1 _ rfl
    clear hf hL
    simp only [puts2, Act.put, e0, e1, e2, e3, e4, e5, e6, e7, e8, e9, e10, e11, e12, e14]
    try simp only [List.setIfInBounds_toArray, List.set_cons_zero, List.set_cons_succ]
    go_wp2_with fail
    refine bodyPost_ret (results_ct (g := w0.heap.size + 1) (cs := #[Value.int IntKind.i64 (hiW (sgnI (nextI q (decide (nearP q r d'))) (decide (a < 0) != decide (d < 0)))), Value.int IntKind.u64 (loW (sgnI (nextI q (decide (nearP q r d'))) (decide (a < 0) != decide (d < 0))))]) rfl _ _ rfl g1 Tryz.underlying146 rfl (by kernel_rfl)) rfl ?_
    exact ⟨by rw [hR.out]; rfl, hbl⟩

end Go.Proofs.YtnofoommindocaaGreat.Base
