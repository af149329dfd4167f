/- wide: Round by 1 and by 32. -/
import Derived.Test.YtnofoommindocaaGreatNumF
namespace Go.Proofs.YtnofoommindocaaGreat.Base
open Go.RowKit Go.Lib
set_option linter.unusedVariables false
set_option linter.unusedSimpArgs false

theorem put_all {l us : List Value} (h : l.length = us.length) : putA ⟨l⟩ 0 us = us.toArray := by
  unfold putA
  have : ∀ (l us : List Value), l.length = us.length → putL l 0 us = us := by
    intro l
    induction l with
    | nil => intro us h; have := List.eq_nil_of_length_eq_zero (l := us) (by simpa using h.symm); subst this; rfl
    | cons c cs ih =>
      intro us h
      cases us with
      | nil => simp at h
      | cons u us => simp only [putL]; rw [ih us (by simpa using h)]
  rw [this l us h]
def nextI (s : Int) (b : Bool) : Int := if b then s + 1 else s
def sgnI (s : Int) (b : Bool) : Int := if b then -s else s
theorem next_isI (s : Int) (b : Bool) (W : World) : Calls Tryz.prog 214 #[sv s, .bool b] W fun e w' => e = .returned (sv (nextI s b)) ∧ Below W.heap.size W w' := next_is s b W
theorem signed_isI (s : Int) (b : Bool) (W : World) : Calls Tryz.prog 213 #[sv s, .bool b] W fun e w' => e = .returned (wv (sgnI s b)) ∧ Below W.heap.size W w' := signed_is s b W
/-- A number from 0 on divided by another one, to the nearest, half to the even one. -/
def rheI (s d : Int) : Int := if nearP (s / d) (s % d) d then s / d + 1 else s / d
/-- The same with a sign. -/
def rndI (a d : Int) : Int := if a < 0 then -rheI (absI a) d else rheI (absI a) d

set_option maxHeartbeats 4000000 in
set_option maxRecDepth 100000 in
theorem wRound1_is (a : Int) (h : W127 a) (w0 : World) : Calls Tryz.prog 174 #[wv a, .int .i64 1] w0 fun e w' => e = .returned (.tuple #[wv (rndI a 2), .int .i64 0]) ∧ Below w0.heap.size w0 w' := by
  have hs : U128 (absI a) := by unfold W127 at h; unfold U128 absI; split <;> omega
  have hq : U128 (absI a / 2) := by unfold U128 at *; omega
  have hr : U128 (absI a - absI a / 2 * 2) := by unfold U128 at *; omega
  have hd : U128 (1 * 2) := by unfold U128; omega
  have hle : absI a - absI a / 2 * 2 ≤ 1 * 2 := by omega
  have hR := Lib.hid (show rndI a 2 = sgnI (nextI (absI a / 2) (decide (nearP (absI a / 2) (absI a - absI a / 2 * 2) (1 * 2)))) (decide (a < 0)) by
    unfold rndI rheI sgnI nextI
    rw [show absI a - absI a / 2 * 2 = absI a % 2 by omega, show (1 : Int) * 2 = 2 by omega]
    simp)
  have hW := wvU a
  obtain ⟨s, hsd⟩ : ∃ s, absI a = s := ⟨_, rfl⟩
  have HF := wof_is a h
  rw [hsd] at hs hq hr hle HF
  rw [hsd] at hR
  clear hsd
  go_enter Tryz.func174, Tryz.ntmps174
  rw [hW]
  go_wp2_with fail
  rw [← hW]
  clear hW
  refine (HF _).mono ?_
  rintro e w1 ⟨rfl, hK⟩
  have hB := below_allocs w0 [Obj.cells #[Value.int IntKind.i64 (hiW a), Value.int IntKind.u64 (loW a)] 146, Obj.cells #[Value.int IntKind.i64 0, Value.int IntKind.u64 0] 146]
  have g1 := blk_at w0 [Obj.cells #[Value.int IntKind.i64 (hiW a), Value.int IntKind.u64 (loW a)] 146, Obj.cells #[Value.int IntKind.i64 0, Value.int IntKind.u64 0] 146] 1 _ _ rfl
  simp only [List.foldl_cons, List.foldl_nil, Nat.add_zero] at hB g1
  replace g1 := g1.keep hK
  replace hB := more hB.1 hK
  clear hK HF
  rw [svU]
  have hsv := svU s
  go_wp2_with fail
  have k1 := g1.alloc (Obj.cells #[Value.int IntKind.u64 (hiS s), Value.int IntKind.u64 (loW s)] 182)
  have k6 := Blk.new w1 #[Value.int IntKind.u64 (hiS s), Value.int IntKind.u64 (loW s)] 182
  replace hB := upA hB (Obj.cells #[Value.int IntKind.u64 (hiS s), Value.int IntKind.u64 (loW s)] 182)
  rw [← hsv]
  refine (down1_is s hs _).mono ?_
  rintro e w2 ⟨rfl, hK⟩
  replace k1 := k1.keep hK
  replace k6 := k6.keep hK
  replace hB := more hB hK
  obtain ⟨q, hqd⟩ : ∃ q, s / 2 = q := ⟨_, rfl⟩
  rw [hqd] at hq hr hle hR ⊢
  clear hK hqd
  rw [svU]
  obtain ⟨p6, hp6⟩ : ∃ p6, w1.heap.size = p6 := ⟨_, rfl⟩
  rw [hp6] at k6 ⊢
  have n6 : w0.heap.size + 1 < p6 := by have := g1.lt; omega
  clear hp6 g1
  go_wp2_with fail
  have l1 := k1.alloc (Obj.cells #[Value.int IntKind.u64 (hiS q), Value.int IntKind.u64 (loW q)] 182)
  have l6 := k6.alloc (Obj.cells #[Value.int IntKind.u64 (hiS q), Value.int IntKind.u64 (loW q)] 182)
  have l8 := Blk.new w2 #[Value.int IntKind.u64 (hiS q), Value.int IntKind.u64 (loW q)] 182
  replace hB := upA hB (Obj.cells #[Value.int IntKind.u64 (hiS q), Value.int IntKind.u64 (loW q)] 182)
  obtain ⟨p8, hp8⟩ : ∃ p8, w2.heap.size = p8 := ⟨_, rfl⟩
  rw [hp8] at l8 ⊢
  have n8 : p8 ≠ w0.heap.size + 1 := by have := k6.lt; omega
  generalize w2.alloc (Obj.cells #[Value.int IntKind.u64 (hiS q), Value.int IntKind.u64 (loW q)] 182) = w3 at *
  clear hp8 k1 k6 hsv
  refine region_fp [some 24, some 25, some 26, some 27, some 28, some 29, some 30, some 31, some 32, some 33, some 34, some 35, some 36, some 37, none, some 5] [14] [some (Value.agg #[Value.int IntKind.u64 (hiS q), Value.int IntKind.u64 (loW q)]), some (Value.agg #[Value.int IntKind.u64 (hiS q), Value.int IntKind.u64 (loW q)]), some (Value.agg #[Value.int IntKind.u64 (hiS s), Value.int IntKind.u64 (loW s)]), some (Value.agg #[Value.int IntKind.u64 (hiS q), Value.int IntKind.u64 (loW q)]), some (Value.int IntKind.i64 1), some (sv (q * 2)), some (sv (s - q * 2)), some (Value.agg #[Value.int IntKind.u64 0, Value.int IntKind.u64 1]), some (Value.int IntKind.i64 1), some (sv (1 * 2)), some (Value.bool (decide (nearP q (s - q * 2) (1 * 2)))), some (sv (nextI q (decide (nearP q (s - q * 2) (1 * 2))))), some (Value.bool (decide (a < 0))), some (wv (sgnI (nextI q (decide (nearP q (s - q * 2) (1 * 2)))) (decide (a < 0)))), some (undef), some (Value.int IntKind.i64 0)]
    (fun _ _ _ => True) (fun _ _ => True) (fun L f W => Blk W (p6) #[Value.int IntKind.u64 (hiS s), Value.int IntKind.u64 (loW s)] 182 ∧ Blk W (p8) #[Value.int IntKind.u64 (hiS q), Value.int IntKind.u64 (loW q)] 182 ∧ (∃ cs, Blk W (w0.heap.size + 1) cs 146 ∧ cs.size = 2 ∧ (L 14 = true → cs = #[Value.int IntKind.i64 (hiW (sgnI (nextI q (decide (nearP q (s - q * 2) (1 * 2)))) (decide (a < 0)))), Value.int IntKind.u64 (loW (sgnI (nextI q (decide (nearP q (s - q * 2) (1 * 2)))) (decide (a < 0))))])) ∧ Below w0.heap.size w0 W)
    (by kernel_rfl) (by kernel_rfl) (by kernel_rfl) (by kernel_rfl) (by kernel_rfl) (fun _ => trivial) (fun _ _ _ _ _ _ => trivial) (fun L L' f f' W h hs => by have q := (h 14 (by decide)).1; (try dsimp only at hs ⊢); rw [← q]; exact hs) ⟨l6.drew, l8.drew, ⟨_, l1.drew, rfl, fun h => by cases h⟩, upD hB⟩ ?_ ?_
  · intro i hi b' L f W hSW hL hdep hsh he hsv hsl hFF K hK1 hK2
    replace hi : i < 16 := hi
    have hcs : i = 0 ∨ i = 1 ∨ i = 2 ∨ i = 3 ∨ i = 4 ∨ i = 5 ∨ i = 6 ∨ i = 7 ∨ i = 8 ∨ i = 9 ∨ i = 10 ∨ i = 11 ∨ i = 12 ∨ i = 13 ∨ i = 14 ∨ i = 15 := by omega
    clear hi
    rcases hcs with rfl | rfl | rfl | rfl | rfl | rfl | rfl | rfl | rfl | rfl | rfl | rfl | rfl | rfl | rfl | rfl
    · refine wpOpS_go rfl rfl ?_
      have t8 : b'.tmps[8]?.getD undef = Value.pointer (some ⟨p8, 0, none⟩) := he 8 (by kernel_rfl)
      obtain ⟨g0, g1, ⟨cs2, g2, gs2, gl2⟩, hbl⟩ := hSW
      refine op_load 182 _ rfl g1 0 (eval_tmp t8) [Value.int IntKind.u64 (hiS q), Value.int IntKind.u64 (loW q)] rfl Tryz.underlying182 rfl (by kernel_rfl) ?_
      exact hK1 rfl _ (fp_mk rfl rfl trivial)
    · refine wpOpS_go rfl rfl ?_
      have t8 : b'.tmps[8]?.getD undef = Value.pointer (some ⟨p8, 0, none⟩) := he 8 (by kernel_rfl)
      obtain ⟨g0, g1, ⟨cs2, g2, gs2, gl2⟩, hbl⟩ := hSW
      refine op_load 182 _ rfl g1 0 (eval_tmp t8) [Value.int IntKind.u64 (hiS q), Value.int IntKind.u64 (loW q)] rfl Tryz.underlying182 rfl (by kernel_rfl) ?_
      exact hK1 rfl _ (fp_mk rfl rfl trivial)
    · refine wpOpS_go rfl rfl ?_
      have t6 : b'.tmps[6]?.getD undef = Value.pointer (some ⟨p6, 0, none⟩) := he 6 (by kernel_rfl)
      obtain ⟨g0, g1, ⟨cs2, g2, gs2, gl2⟩, hbl⟩ := hSW
      refine op_load 182 _ rfl g0 0 (eval_tmp t6) [Value.int IntKind.u64 (hiS s), Value.int IntKind.u64 (loW s)] rfl Tryz.underlying182 rfl (by kernel_rfl) ?_
      exact hK1 rfl _ (fp_mk rfl rfl trivial)
    · refine wpOpS_go rfl rfl ?_
      have t8 : b'.tmps[8]?.getD undef = Value.pointer (some ⟨p8, 0, none⟩) := he 8 (by kernel_rfl)
      obtain ⟨g0, g1, ⟨cs2, g2, gs2, gl2⟩, hbl⟩ := hSW
      refine op_load 182 _ rfl g1 0 (eval_tmp t8) [Value.int IntKind.u64 (hiS q), Value.int IntKind.u64 (loW q)] rfl Tryz.underlying182 rfl (by kernel_rfl) ?_
      exact hK1 rfl _ (fp_mk rfl rfl trivial)
    · refine wpOpS_go rfl rfl ?_
      have t1 : b'.tmps[1]?.getD undef = Value.int IntKind.i64 1 := he 1 (by kernel_rfl)
      have HK := Lib.hid hK1
      clear hK1 hK2 hdep hsh he hsv hsl hFF hL hSW
      go_simp
      exact HK.out rfl _ (fp_mk rfl rfl trivial)
    · refine wpOpS_go rfl rfl ?_
      have t27 : b'.tmps[27]?.getD undef = Value.agg #[Value.int IntKind.u64 (hiS q), Value.int IntKind.u64 (loW q)] := hsv 3 27 _ (by kernel_rfl) (by kernel_rfl) rfl
      have t28 : b'.tmps[28]?.getD undef = Value.int IntKind.i64 1 := hsv 4 28 _ (by kernel_rfl) (by kernel_rfl) rfl
      obtain ⟨g0, g1, ⟨cs2, g2, gs2, gl2⟩, hbl⟩ := hSW
      have HK := Lib.hid hK2
      clear hK1 hK2 hdep hsh he hsv hsl hFF hL
      go_simp
      refine (up1_is q _).mono ?_
      rintro e w6 ⟨rfl, hK⟩
      exact HK.out _ _ (fp_mk rfl rfl trivial) trivial ⟨g0.keep hK, g1.keep hK, ⟨cs2, g2.keep hK, gs2, gl2⟩, more hbl hK⟩
    · refine wpOpS_go rfl rfl ?_
      have t26 : b'.tmps[26]?.getD undef = Value.agg #[Value.int IntKind.u64 (hiS s), Value.int IntKind.u64 (loW s)] := hsv 2 26 _ (by kernel_rfl) (by kernel_rfl) rfl
      have t29 : b'.tmps[29]?.getD undef = sv (q * 2) := hsv 5 29 _ (by kernel_rfl) (by kernel_rfl) rfl
      obtain ⟨g0, g1, ⟨cs2, g2, gs2, gl2⟩, hbl⟩ := hSW
      have HK := Lib.hid hK2
      clear hK1 hK2 hdep hsh he hsv hsl hFF hL
      go_simp
      refine (without_is s (q * 2) _).mono ?_
      rintro e w6 ⟨rfl, hK⟩
      exact HK.out _ _ (fp_mk rfl rfl trivial) trivial ⟨g0.keep hK, g1.keep hK, ⟨cs2, g2.keep hK, gs2, gl2⟩, more hbl hK⟩
    · refine wpOpS_go rfl rfl ?_
      have HK := Lib.hid hK1
      clear hK1 hK2 hdep hsh he hsv hsl hFF hL hSW
      go_simp
      exact HK.out rfl _ (fp_mk rfl rfl trivial)
    · refine wpOpS_go rfl rfl ?_
      have t1 : b'.tmps[1]?.getD undef = Value.int IntKind.i64 1 := he 1 (by kernel_rfl)
      have HK := Lib.hid hK1
      clear hK1 hK2 hdep hsh he hsv hsl hFF hL hSW
      go_simp
      exact HK.out rfl _ (fp_mk rfl rfl trivial)
    · refine wpOpS_go rfl rfl ?_
      have t31 : b'.tmps[31]?.getD undef = Value.agg #[Value.int IntKind.u64 0, Value.int IntKind.u64 1] := hsv 7 31 _ (by kernel_rfl) (by kernel_rfl) rfl
      have t32 : b'.tmps[32]?.getD undef = Value.int IntKind.i64 1 := hsv 8 32 _ (by kernel_rfl) (by kernel_rfl) rfl
      obtain ⟨g0, g1, ⟨cs2, g2, gs2, gl2⟩, hbl⟩ := hSW
      have HK := Lib.hid hK2
      clear hK1 hK2 hdep hsh he hsv hsl hFF hL
      go_simp
      refine (up1_is 1 _).mono ?_
      rintro e w6 ⟨rfl, hK⟩
      exact HK.out _ _ (fp_mk rfl rfl trivial) trivial ⟨g0.keep hK, g1.keep hK, ⟨cs2, g2.keep hK, gs2, gl2⟩, more hbl hK⟩
    · refine wpOpS_go rfl rfl ?_
      have t25 : b'.tmps[25]?.getD undef = Value.agg #[Value.int IntKind.u64 (hiS q), Value.int IntKind.u64 (loW q)] := hsv 1 25 _ (by kernel_rfl) (by kernel_rfl) rfl
      have t30 : b'.tmps[30]?.getD undef = sv (s - q * 2) := hsv 6 30 _ (by kernel_rfl) (by kernel_rfl) rfl
      have t33 : b'.tmps[33]?.getD undef = sv (1 * 2) := hsv 9 33 _ (by kernel_rfl) (by kernel_rfl) rfl
      obtain ⟨g0, g1, ⟨cs2, g2, gs2, gl2⟩, hbl⟩ := hSW
      have HK := Lib.hid hK2
      clear hK1 hK2 hdep hsh he hsv hsl hFF hL
      go_simp
      refine (nearer_is q (s - q * 2) (1 * 2) hr hd hle _).mono ?_
      rintro e w6 ⟨rfl, hK⟩
      exact HK.out _ _ (fp_mk rfl rfl trivial) trivial ⟨g0.keep hK, g1.keep hK, ⟨cs2, g2.keep hK, gs2, gl2⟩, more hbl hK⟩
    · refine wpOpS_go rfl rfl ?_
      have t24 : b'.tmps[24]?.getD undef = Value.agg #[Value.int IntKind.u64 (hiS q), Value.int IntKind.u64 (loW q)] := hsv 0 24 _ (by kernel_rfl) (by kernel_rfl) rfl
      have t34 : b'.tmps[34]?.getD undef = Value.bool (decide (nearP q (s - q * 2) (1 * 2))) := hsv 10 34 _ (by kernel_rfl) (by kernel_rfl) rfl
      obtain ⟨g0, g1, ⟨cs2, g2, gs2, gl2⟩, hbl⟩ := hSW
      have HK := Lib.hid hK2
      clear hK1 hK2 hdep hsh he hsv hsl hFF hL
      go_simp
      refine (next_isI q _ _).mono ?_
      rintro e w6 ⟨rfl, hK⟩
      exact HK.out _ _ (fp_mk rfl rfl trivial) trivial ⟨g0.keep hK, g1.keep hK, ⟨cs2, g2.keep hK, gs2, gl2⟩, more hbl hK⟩
    · refine wpOpS_go rfl rfl ?_
      have t7 : b'.tmps[7]?.getD undef = Value.bool (decide (a < 0)) := he 7 (by kernel_rfl)
      have HK := Lib.hid hK1
      clear hK1 hK2 hdep hsh he hsv hsl hFF hL hSW
      go_simp
      exact HK.out rfl _ (fp_mk rfl rfl trivial)
    · refine wpOpS_go rfl rfl ?_
      have t35 : b'.tmps[35]?.getD undef = sv (nextI q (decide (nearP q (s - q * 2) (1 * 2)))) := hsv 11 35 _ (by kernel_rfl) (by kernel_rfl) rfl
      have t36 : b'.tmps[36]?.getD undef = Value.bool (decide (a < 0)) := hsv 12 36 _ (by kernel_rfl) (by kernel_rfl) rfl
      obtain ⟨g0, g1, ⟨cs2, g2, gs2, gl2⟩, hbl⟩ := hSW
      have HK := Lib.hid hK2
      clear hK1 hK2 hdep hsh he hsv hsl hFF hL
      go_simp
      refine (signed_isI _ _ _).mono ?_
      rintro e w6 ⟨rfl, hK⟩
      exact HK.out _ _ (fp_mk rfl rfl trivial) trivial ⟨g0.keep hK, g1.keep hK, ⟨cs2, g2.keep hK, gs2, gl2⟩, more hbl hK⟩
    · refine wpOpS_go rfl rfl ?_
      have t4 : b'.tmps[4]?.getD undef = Value.pointer (some ⟨w0.heap.size + 1, 0, none⟩) := he 4 (by kernel_rfl)
      have t37 : b'.tmps[37]?.getD undef = wv (sgnI (nextI q (decide (nearP q (s - q * 2) (1 * 2)))) (decide (a < 0))) := hsv 13 37 _ (by kernel_rfl) (by kernel_rfl) rfl
      obtain ⟨g0, g1, ⟨cs2, g2, gs2, gl2⟩, hbl⟩ := hSW
      have HK := Lib.hid hK2
      clear hK1 hK2 hdep hsh he hsv hsl hFF hL
      obtain ⟨l2⟩ := cs2
      refine op_store 146 _ _ rfl rfl g2 0 (eval_tmp t4) (eval_tmp t37) [Value.int IntKind.i64 (hiW (sgnI (nextI q (decide (nearP q (s - q * 2) (1 * 2)))) (decide (a < 0)))), Value.int IntKind.u64 (loW (sgnI (nextI q (decide (nearP q (s - q * 2) (1 * 2)))) (decide (a < 0))))] rfl (by kernel_rfl) (by rfl) (by simp at gs2; simp [gs2]) #[Value.int IntKind.i64 (hiW (sgnI (nextI q (decide (nearP q (s - q * 2) (1 * 2)))) (decide (a < 0)))), Value.int IntKind.u64 (loW (sgnI (nextI q (decide (nearP q (s - q * 2) (1 * 2)))) (decide (a < 0))))] (put_all (by simpa using gs2)) ?_
      intro w' h1 h2 h3
      exact HK.out _ _ (fp_mk rfl rfl trivial) trivial ⟨h2.blk g0 (by first | omega | (simp; omega)), h2.blk g1 (by first | omega | (simp; omega)), ⟨_, h1, rfl, fun _ => rfl⟩, h2.below hbl (by rintro k rfl; first | omega | (simp; omega))⟩
    · refine wpOpS_go rfl rfl ?_
      have HK := Lib.hid hK1
      clear hK1 hK2 hdep hsh he hsv hsl hFF hL hSW
      go_simp
      exact HK.out rfl _ (fp_mk rfl rfl trivial)
  · intro f W hf L hL hS
    obtain ⟨g0, g1, ⟨cs2, g2, gs2, gl2⟩, hbl⟩ := (hS : Blk W (p6) #[Value.int IntKind.u64 (hiS s), Value.int IntKind.u64 (loW s)] 182 ∧ Blk W (p8) #[Value.int IntKind.u64 (hiS q), Value.int IntKind.u64 (loW q)] 182 ∧ (∃ cs, Blk W (w0.heap.size + 1) cs 146 ∧ cs.size = 2 ∧ (L 14 = true → cs = #[Value.int IntKind.i64 (hiW (sgnI (nextI q (decide (nearP q (s - q * 2) (1 * 2)))) (decide (a < 0)))), Value.int IntKind.u64 (loW (sgnI (nextI q (decide (nearP q (s - q * 2) (1 * 2)))) (decide (a < 0))))])) ∧ Below w0.heap.size w0 W)
    obtain rfl := gl2 (hL 14 (by decide))
    have e0 : f 0 = Value.agg #[Value.int IntKind.u64 (hiS q), Value.int IntKind.u64 (loW q)] := (hf 0 (by decide)).1 _ rfl
    have e1 : f 1 = Value.agg #[Value.int IntKind.u64 (hiS q), Value.int IntKind.u64 (loW q)] := (hf 1 (by decide)).1 _ rfl
    have e2 : f 2 = Value.agg #[Value.int IntKind.u64 (hiS s), Value.int IntKind.u64 (loW s)] := (hf 2 (by decide)).1 _ rfl
    have e3 : f 3 = Value.agg #[Value.int IntKind.u64 (hiS q), Value.int IntKind.u64 (loW q)] := (hf 3 (by decide)).1 _ rfl
    have e4 : f 4 = Value.int IntKind.i64 1 := (hf 4 (by decide)).1 _ rfl
    have e5 : f 5 = sv (q * 2) := (hf 5 (by decide)).1 _ rfl
    have e6 : f 6 = sv (s - q * 2) := (hf 6 (by decide)).1 _ rfl
    have e7 : f 7 = Value.agg #[Value.int IntKind.u64 0, Value.int IntKind.u64 1] := (hf 7 (by decide)).1 _ rfl
    have e8 : f 8 = Value.int IntKind.i64 1 := (hf 8 (by decide)).1 _ rfl
    have e9 : f 9 = sv (1 * 2) := (hf 9 (by decide)).1 _ rfl
    have e10 : f 10 = Value.bool (decide (nearP q (s - q * 2) (1 * 2))) := (hf 10 (by decide)).1 _ rfl
    have e11 : f 11 = sv (nextI q (decide (nearP q (s - q * 2) (1 * 2)))) := (hf 11 (by decide)).1 _ rfl
    have e12 : f 12 = Value.bool (decide (a < 0)) := (hf 12 (by decide)).1 _ rfl
    have e13 : f 13 = wv (sgnI (nextI q (decide (nearP q (s - q * 2) (1 * 2)))) (decide (a < 0))) := (hf 13 (by decide)).1 _ rfl
    have e15 : f 15 = Value.int IntKind.i64 0 := (hf 15 (by decide)).1 _ rfl
    clear hf hL
    simp only [puts2, Act.put, e0, e1, e2, e3, e4, e5, e6, e7, e8, e9, e10, e11, e12, e13, e15]
    try simp only [List.setIfInBounds_toArray, List.set_cons_zero, List.set_cons_succ]
    go_wp2_with fail
    refine bodyPost_ret (results_ct (g := w0.heap.size + 1) (cs := #[Value.int IntKind.i64 (hiW (sgnI (nextI q (decide (nearP q (s - q * 2) (1 * 2)))) (decide (a < 0)))), Value.int IntKind.u64 (loW (sgnI (nextI q (decide (nearP q (s - q * 2) (1 * 2)))) (decide (a < 0))))]) rfl _ _ rfl g2 Tryz.underlying146 rfl (by kernel_rfl)) rfl ?_
    exact ⟨by rw [hR.out]; rfl, hbl⟩

set_option maxHeartbeats 4000000 in
set_option maxRecDepth 100000 in
theorem wRound32_is (a : Int) (h : W127 a) (w0 : World) : Calls Tryz.prog 174 #[wv a, .int .i64 32] w0 fun e w' => e = .returned (.tuple #[wv (rndI a 4294967296), .int .i64 0]) ∧ Below w0.heap.size w0 w' := by
  have hs : U128 (absI a) := by unfold W127 at h; unfold U128 absI; split <;> omega
  have hq : U128 (absI a / 4294967296) := by unfold U128 at *; omega
  have hr : U128 (absI a - absI a / 4294967296 * 4294967296) := by unfold U128 at *; omega
  have hd : U128 (1 * 4294967296) := by unfold U128; omega
  have hle : absI a - absI a / 4294967296 * 4294967296 ≤ 1 * 4294967296 := by omega
  have hR := Lib.hid (show rndI a 4294967296 = sgnI (nextI (absI a / 4294967296) (decide (nearP (absI a / 4294967296) (absI a - absI a / 4294967296 * 4294967296) (1 * 4294967296)))) (decide (a < 0)) by
    unfold rndI rheI sgnI nextI
    rw [show absI a - absI a / 4294967296 * 4294967296 = absI a % 4294967296 by omega, show (1 : Int) * 4294967296 = 4294967296 by omega]
    simp)
  have hW := wvU a
  obtain ⟨s, hsd⟩ : ∃ s, absI a = s := ⟨_, rfl⟩
  have HF := wof_is a h
  rw [hsd] at hs hq hr hle HF
  rw [hsd] at hR
  clear hsd
  go_enter Tryz.func174, Tryz.ntmps174
  rw [hW]
  go_wp2_with fail
  rw [← hW]
  clear hW
  refine (HF _).mono ?_
  rintro e w1 ⟨rfl, hK⟩
  have hB := below_allocs w0 [Obj.cells #[Value.int IntKind.i64 (hiW a), Value.int IntKind.u64 (loW a)] 146, Obj.cells #[Value.int IntKind.i64 0, Value.int IntKind.u64 0] 146]
  have g1 := blk_at w0 [Obj.cells #[Value.int IntKind.i64 (hiW a), Value.int IntKind.u64 (loW a)] 146, Obj.cells #[Value.int IntKind.i64 0, Value.int IntKind.u64 0] 146] 1 _ _ rfl
  simp only [List.foldl_cons, List.foldl_nil, Nat.add_zero] at hB g1
  replace g1 := g1.keep hK
  replace hB := more hB.1 hK
  clear hK HF
  rw [svU]
  have hsv := svU s
  go_wp2_with fail
  have k1 := g1.alloc (Obj.cells #[Value.int IntKind.u64 (hiS s), Value.int IntKind.u64 (loW s)] 182)
  have k6 := Blk.new w1 #[Value.int IntKind.u64 (hiS s), Value.int IntKind.u64 (loW s)] 182
  replace hB := upA hB (Obj.cells #[Value.int IntKind.u64 (hiS s), Value.int IntKind.u64 (loW s)] 182)
  rw [← hsv]
  refine (down32_is s hs _).mono ?_
  rintro e w2 ⟨rfl, hK⟩
  replace k1 := k1.keep hK
  replace k6 := k6.keep hK
  replace hB := more hB hK
  obtain ⟨q, hqd⟩ : ∃ q, s / 4294967296 = q := ⟨_, rfl⟩
  rw [hqd] at hq hr hle hR ⊢
  clear hK hqd
  rw [svU]
  obtain ⟨p6, hp6⟩ : ∃ p6, w1.heap.size = p6 := ⟨_, rfl⟩
  rw [hp6] at k6 ⊢
  have n6 : w0.heap.size + 1 < p6 := by have := g1.lt; omega
  clear hp6 g1
  go_wp2_with fail
  have l1 := k1.alloc (Obj.cells #[Value.int IntKind.u64 (hiS q), Value.int IntKind.u64 (loW q)] 182)
  have l6 := k6.alloc (Obj.cells #[Value.int IntKind.u64 (hiS q), Value.int IntKind.u64 (loW q)] 182)
  have l8 := Blk.new w2 #[Value.int IntKind.u64 (hiS q), Value.int IntKind.u64 (loW q)] 182
  replace hB := upA hB (Obj.cells #[Value.int IntKind.u64 (hiS q), Value.int IntKind.u64 (loW q)] 182)
  obtain ⟨p8, hp8⟩ : ∃ p8, w2.heap.size = p8 := ⟨_, rfl⟩
  rw [hp8] at l8 ⊢
  have n8 : p8 ≠ w0.heap.size + 1 := by have := k6.lt; omega
  generalize w2.alloc (Obj.cells #[Value.int IntKind.u64 (hiS q), Value.int IntKind.u64 (loW q)] 182) = w3 at *
  clear hp8 k1 k6 hsv
  refine region_fp [some 24, some 25, some 26, some 27, some 28, some 29, some 30, some 31, some 32, some 33, some 34, some 35, some 36, some 37, none, some 5] [14] [some (Value.agg #[Value.int IntKind.u64 (hiS q), Value.int IntKind.u64 (loW q)]), some (Value.agg #[Value.int IntKind.u64 (hiS q), Value.int IntKind.u64 (loW q)]), some (Value.agg #[Value.int IntKind.u64 (hiS s), Value.int IntKind.u64 (loW s)]), some (Value.agg #[Value.int IntKind.u64 (hiS q), Value.int IntKind.u64 (loW q)]), some (Value.int IntKind.i64 32), some (sv (q * 4294967296)), some (sv (s - q * 4294967296)), some (Value.agg #[Value.int IntKind.u64 0, Value.int IntKind.u64 1]), some (Value.int IntKind.i64 32), some (sv (1 * 4294967296)), some (Value.bool (decide (nearP q (s - q * 4294967296) (1 * 4294967296)))), some (sv (nextI q (decide (nearP q (s - q * 4294967296) (1 * 4294967296))))), some (Value.bool (decide (a < 0))), some (wv (sgnI (nextI q (decide (nearP q (s - q * 4294967296) (1 * 4294967296)))) (decide (a < 0)))), some (undef), some (Value.int IntKind.i64 0)]
    (fun _ _ _ => True) (fun _ _ => True) (fun L f W => Blk W (p6) #[Value.int IntKind.u64 (hiS s), Value.int IntKind.u64 (loW s)] 182 ∧ Blk W (p8) #[Value.int IntKind.u64 (hiS q), Value.int IntKind.u64 (loW q)] 182 ∧ (∃ cs, Blk W (w0.heap.size + 1) cs 146 ∧ cs.size = 2 ∧ (L 14 = true → cs = #[Value.int IntKind.i64 (hiW (sgnI (nextI q (decide (nearP q (s - q * 4294967296) (1 * 4294967296)))) (decide (a < 0)))), Value.int IntKind.u64 (loW (sgnI (nextI q (decide (nearP q (s - q * 4294967296) (1 * 4294967296)))) (decide (a < 0))))])) ∧ Below w0.heap.size w0 W)
    (by kernel_rfl) (by kernel_rfl) (by kernel_rfl) (by kernel_rfl) (by kernel_rfl) (fun _ => trivial) (fun _ _ _ _ _ _ => trivial) (fun L L' f f' W h hs => by have q := (h 14 (by decide)).1; (try dsimp only at hs ⊢); rw [← q]; exact hs) ⟨l6.drew, l8.drew, ⟨_, l1.drew, rfl, fun h => by cases h⟩, upD hB⟩ ?_ ?_
  · intro i hi b' L f W hSW hL hdep hsh he hsv hsl hFF K hK1 hK2
    replace hi : i < 16 := hi
    have hcs : i = 0 ∨ i = 1 ∨ i = 2 ∨ i = 3 ∨ i = 4 ∨ i = 5 ∨ i = 6 ∨ i = 7 ∨ i = 8 ∨ i = 9 ∨ i = 10 ∨ i = 11 ∨ i = 12 ∨ i = 13 ∨ i = 14 ∨ i = 15 := by omega
    clear hi
    rcases hcs with rfl | rfl | rfl | rfl | rfl | rfl | rfl | rfl | rfl | rfl | rfl | rfl | rfl | rfl | rfl | rfl
    · refine wpOpS_go rfl rfl ?_
      have t8 : b'.tmps[8]?.getD undef = Value.pointer (some ⟨p8, 0, none⟩) := he 8 (by kernel_rfl)
      obtain ⟨g0, g1, ⟨cs2, g2, gs2, gl2⟩, hbl⟩ := hSW
      refine op_load 182 _ rfl g1 0 (eval_tmp t8) [Value.int IntKind.u64 (hiS q), Value.int IntKind.u64 (loW q)] rfl Tryz.underlying182 rfl (by kernel_rfl) ?_
      exact hK1 rfl _ (fp_mk rfl rfl trivial)
    · refine wpOpS_go rfl rfl ?_
      have t8 : b'.tmps[8]?.getD undef = Value.pointer (some ⟨p8, 0, none⟩) := he 8 (by kernel_rfl)
      obtain ⟨g0, g1, ⟨cs2, g2, gs2, gl2⟩, hbl⟩ := hSW
      refine op_load 182 _ rfl g1 0 (eval_tmp t8) [Value.int IntKind.u64 (hiS q), Value.int IntKind.u64 (loW q)] rfl Tryz.underlying182 rfl (by kernel_rfl) ?_
      exact hK1 rfl _ (fp_mk rfl rfl trivial)
    · refine wpOpS_go rfl rfl ?_
      have t6 : b'.tmps[6]?.getD undef = Value.pointer (some ⟨p6, 0, none⟩) := he 6 (by kernel_rfl)
      obtain ⟨g0, g1, ⟨cs2, g2, gs2, gl2⟩, hbl⟩ := hSW
      refine op_load 182 _ rfl g0 0 (eval_tmp t6) [Value.int IntKind.u64 (hiS s), Value.int IntKind.u64 (loW s)] rfl Tryz.underlying182 rfl (by kernel_rfl) ?_
      exact hK1 rfl _ (fp_mk rfl rfl trivial)
    · refine wpOpS_go rfl rfl ?_
      have t8 : b'.tmps[8]?.getD undef = Value.pointer (some ⟨p8, 0, none⟩) := he 8 (by kernel_rfl)
      obtain ⟨g0, g1, ⟨cs2, g2, gs2, gl2⟩, hbl⟩ := hSW
      refine op_load 182 _ rfl g1 0 (eval_tmp t8) [Value.int IntKind.u64 (hiS q), Value.int IntKind.u64 (loW q)] rfl Tryz.underlying182 rfl (by kernel_rfl) ?_
      exact hK1 rfl _ (fp_mk rfl rfl trivial)
    · refine wpOpS_go rfl rfl ?_
      have t1 : b'.tmps[1]?.getD undef = Value.int IntKind.i64 32 := he 1 (by kernel_rfl)
      have HK := Lib.hid hK1
      clear hK1 hK2 hdep hsh he hsv hsl hFF hL hSW
      go_simp
      exact HK.out rfl _ (fp_mk rfl rfl trivial)
    · refine wpOpS_go rfl rfl ?_
      have t27 : b'.tmps[27]?.getD undef = Value.agg #[Value.int IntKind.u64 (hiS q), Value.int IntKind.u64 (loW q)] := hsv 3 27 _ (by kernel_rfl) (by kernel_rfl) rfl
      have t28 : b'.tmps[28]?.getD undef = Value.int IntKind.i64 32 := hsv 4 28 _ (by kernel_rfl) (by kernel_rfl) rfl
      obtain ⟨g0, g1, ⟨cs2, g2, gs2, gl2⟩, hbl⟩ := hSW
      have HK := Lib.hid hK2
      clear hK1 hK2 hdep hsh he hsv hsl hFF hL
      go_simp
      refine (up32_is q _).mono ?_
      rintro e w6 ⟨rfl, hK⟩
      exact HK.out _ _ (fp_mk rfl rfl trivial) trivial ⟨g0.keep hK, g1.keep hK, ⟨cs2, g2.keep hK, gs2, gl2⟩, more hbl hK⟩
    · refine wpOpS_go rfl rfl ?_
      have t26 : b'.tmps[26]?.getD undef = Value.agg #[Value.int IntKind.u64 (hiS s), Value.int IntKind.u64 (loW s)] := hsv 2 26 _ (by kernel_rfl) (by kernel_rfl) rfl
      have t29 : b'.tmps[29]?.getD undef = sv (q * 4294967296) := hsv 5 29 _ (by kernel_rfl) (by kernel_rfl) rfl
      obtain ⟨g0, g1, ⟨cs2, g2, gs2, gl2⟩, hbl⟩ := hSW
      have HK := Lib.hid hK2
      clear hK1 hK2 hdep hsh he hsv hsl hFF hL
      go_simp
      refine (without_is s (q * 4294967296) _).mono ?_
      rintro e w6 ⟨rfl, hK⟩
      exact HK.out _ _ (fp_mk rfl rfl trivial) trivial ⟨g0.keep hK, g1.keep hK, ⟨cs2, g2.keep hK, gs2, gl2⟩, more hbl hK⟩
    · refine wpOpS_go rfl rfl ?_
      have HK := Lib.hid hK1
      clear hK1 hK2 hdep hsh he hsv hsl hFF hL hSW
      go_simp
      exact HK.out rfl _ (fp_mk rfl rfl trivial)
    · refine wpOpS_go rfl rfl ?_
      have t1 : b'.tmps[1]?.getD undef = Value.int IntKind.i64 32 := he 1 (by kernel_rfl)
      have HK := Lib.hid hK1
      clear hK1 hK2 hdep hsh he hsv hsl hFF hL hSW
      go_simp
      exact HK.out rfl _ (fp_mk rfl rfl trivial)
    · refine wpOpS_go rfl rfl ?_
      have t31 : b'.tmps[31]?.getD undef = Value.agg #[Value.int IntKind.u64 0, Value.int IntKind.u64 1] := hsv 7 31 _ (by kernel_rfl) (by kernel_rfl) rfl
      have t32 : b'.tmps[32]?.getD undef = Value.int IntKind.i64 32 := hsv 8 32 _ (by kernel_rfl) (by kernel_rfl) rfl
      obtain ⟨g0, g1, ⟨cs2, g2, gs2, gl2⟩, hbl⟩ := hSW
      have HK := Lib.hid hK2
      clear hK1 hK2 hdep hsh he hsv hsl hFF hL
      go_simp
      refine (up32_is 1 _).mono ?_
      rintro e w6 ⟨rfl, hK⟩
      exact HK.out _ _ (fp_mk rfl rfl trivial) trivial ⟨g0.keep hK, g1.keep hK, ⟨cs2, g2.keep hK, gs2, gl2⟩, more hbl hK⟩
    · refine wpOpS_go rfl rfl ?_
      have t25 : b'.tmps[25]?.getD undef = Value.agg #[Value.int IntKind.u64 (hiS q), Value.int IntKind.u64 (loW q)] := hsv 1 25 _ (by kernel_rfl) (by kernel_rfl) rfl
      have t30 : b'.tmps[30]?.getD undef = sv (s - q * 4294967296) := hsv 6 30 _ (by kernel_rfl) (by kernel_rfl) rfl
      have t33 : b'.tmps[33]?.getD undef = sv (1 * 4294967296) := hsv 9 33 _ (by kernel_rfl) (by kernel_rfl) rfl
      obtain ⟨g0, g1, ⟨cs2, g2, gs2, gl2⟩, hbl⟩ := hSW
      have HK := Lib.hid hK2
      clear hK1 hK2 hdep hsh he hsv hsl hFF hL
      go_simp
      refine (nearer_is q (s - q * 4294967296) (1 * 4294967296) hr hd hle _).mono ?_
      rintro e w6 ⟨rfl, hK⟩
      exact HK.out _ _ (fp_mk rfl rfl trivial) trivial ⟨g0.keep hK, g1.keep hK, ⟨cs2, g2.keep hK, gs2, gl2⟩, more hbl hK⟩
    · refine wpOpS_go rfl rfl ?_
      have t24 : b'.tmps[24]?.getD undef = Value.agg #[Value.int IntKind.u64 (hiS q), Value.int IntKind.u64 (loW q)] := hsv 0 24 _ (by kernel_rfl) (by kernel_rfl) rfl
      have t34 : b'.tmps[34]?.getD undef = Value.bool (decide (nearP q (s - q * 4294967296) (1 * 4294967296))) := hsv 10 34 _ (by kernel_rfl) (by kernel_rfl) rfl
      obtain ⟨g0, g1, ⟨cs2, g2, gs2, gl2⟩, hbl⟩ := hSW
      have HK := Lib.hid hK2
      clear hK1 hK2 hdep hsh he hsv hsl hFF hL
      go_simp
      refine (next_isI q _ _).mono ?_
      rintro e w6 ⟨rfl, hK⟩
      exact HK.out _ _ (fp_mk rfl rfl trivial) trivial ⟨g0.keep hK, g1.keep hK, ⟨cs2, g2.keep hK, gs2, gl2⟩, more hbl hK⟩
    · refine wpOpS_go rfl rfl ?_
      have t7 : b'.tmps[7]?.getD undef = Value.bool (decide (a < 0)) := he 7 (by kernel_rfl)
      have HK := Lib.hid hK1
      clear hK1 hK2 hdep hsh he hsv hsl hFF hL hSW
      go_simp
      exact HK.out rfl _ (fp_mk rfl rfl trivial)
    · refine wpOpS_go rfl rfl ?_
      have t35 : b'.tmps[35]?.getD undef = sv (nextI q (decide (nearP q (s - q * 4294967296) (1 * 4294967296)))) := hsv 11 35 _ (by kernel_rfl) (by kernel_rfl) rfl
      have t36 : b'.tmps[36]?.getD undef = Value.bool (decide (a < 0)) := hsv 12 36 _ (by kernel_rfl) (by kernel_rfl) rfl
      obtain ⟨g0, g1, ⟨cs2, g2, gs2, gl2⟩, hbl⟩ := hSW
      have HK := Lib.hid hK2
      clear hK1 hK2 hdep hsh he hsv hsl hFF hL
      go_simp
      refine (signed_isI _ _ _).mono ?_
      rintro e w6 ⟨rfl, hK⟩
      exact HK.out _ _ (fp_mk rfl rfl trivial) trivial ⟨g0.keep hK, g1.keep hK, ⟨cs2, g2.keep hK, gs2, gl2⟩, more hbl hK⟩
    · refine wpOpS_go rfl rfl ?_
      have t4 : b'.tmps[4]?.getD undef = Value.pointer (some ⟨w0.heap.size + 1, 0, none⟩) := he 4 (by kernel_rfl)
      have t37 : b'.tmps[37]?.getD undef = wv (sgnI (nextI q (decide (nearP q (s - q * 4294967296) (1 * 4294967296)))) (decide (a < 0))) := hsv 13 37 _ (by kernel_rfl) (by kernel_rfl) rfl
      obtain ⟨g0, g1, ⟨cs2, g2, gs2, gl2⟩, hbl⟩ := hSW
      have HK := Lib.hid hK2
      clear hK1 hK2 hdep hsh he hsv hsl hFF hL
      obtain ⟨l2⟩ := cs2
      refine op_store 146 _ _ rfl rfl g2 0 (eval_tmp t4) (eval_tmp t37) [Value.int IntKind.i64 (hiW (sgnI (nextI q (decide (nearP q (s - q * 4294967296) (1 * 4294967296)))) (decide (a < 0)))), Value.int IntKind.u64 (loW (sgnI (nextI q (decide (nearP q (s - q * 4294967296) (1 * 4294967296)))) (decide (a < 0))))] rfl (by kernel_rfl) (by rfl) (by simp at gs2; simp [gs2]) #[Value.int IntKind.i64 (hiW (sgnI (nextI q (decide (nearP q (s - q * 4294967296) (1 * 4294967296)))) (decide (a < 0)))), Value.int IntKind.u64 (loW (sgnI (nextI q (decide (nearP q (s - q * 4294967296) (1 * 4294967296)))) (decide (a < 0))))] (put_all (by simpa using gs2)) ?_
      intro w' h1 h2 h3
      exact HK.out _ _ (fp_mk rfl rfl trivial) trivial ⟨h2.blk g0 (by first | omega | (simp; omega)), h2.blk g1 (by first | omega | (simp; omega)), ⟨_, h1, rfl, fun _ => rfl⟩, h2.below hbl (by rintro k rfl; first | omega | (simp; omega))⟩
    · refine wpOpS_go rfl rfl ?_
      have HK := Lib.hid hK1
      clear hK1 hK2 hdep hsh he hsv hsl hFF hL hSW
      go_simp
      exact HK.out rfl _ (fp_mk rfl rfl trivial)
  · intro f W hf L hL hS
    obtain ⟨g0, g1, ⟨cs2, g2, gs2, gl2⟩, hbl⟩ := (hS : Blk W (p6) #[Value.int IntKind.u64 (hiS s), Value.int IntKind.u64 (loW s)] 182 ∧ Blk W (p8) #[Value.int IntKind.u64 (hiS q), Value.int IntKind.u64 (loW q)] 182 ∧ (∃ cs, Blk W (w0.heap.size + 1) cs 146 ∧ cs.size = 2 ∧ (L 14 = true → cs = #[Value.int IntKind.i64 (hiW (sgnI (nextI q (decide (nearP q (s - q * 4294967296) (1 * 4294967296)))) (decide (a < 0)))), Value.int IntKind.u64 (loW (sgnI (nextI q (decide (nearP q (s - q * 4294967296) (1 * 4294967296)))) (decide (a < 0))))])) ∧ Below w0.heap.size w0 W)
    obtain rfl := gl2 (hL 14 (by decide))
    have e0 : f 0 = Value.agg #[Value.int IntKind.u64 (hiS q), Value.int IntKind.u64 (loW q)] := (hf 0 (by decide)).1 _ rfl
    have e1 : f 1 = Value.agg #[Value.int IntKind.u64 (hiS q), Value.int IntKind.u64 (loW q)] := (hf 1 (by decide)).1 _ rfl
    have e2 : f 2 = Value.agg #[Value.int IntKind.u64 (hiS s), Value.int IntKind.u64 (loW s)] := (hf 2 (by decide)).1 _ rfl
    have e3 : f 3 = Value.agg #[Value.int IntKind.u64 (hiS q), Value.int IntKind.u64 (loW q)] := (hf 3 (by decide)).1 _ rfl
    have e4 : f 4 = Value.int IntKind.i64 32 := (hf 4 (by decide)).1 _ rfl
    have e5 : f 5 = sv (q * 4294967296) := (hf 5 (by decide)).1 _ rfl
    have e6 : f 6 = sv (s - q * 4294967296) := (hf 6 (by decide)).1 _ rfl
    have e7 : f 7 = Value.agg #[Value.int IntKind.u64 0, Value.int IntKind.u64 1] := (hf 7 (by decide)).1 _ rfl
    have e8 : f 8 = Value.int IntKind.i64 32 := (hf 8 (by decide)).1 _ rfl
    have e9 : f 9 = sv (1 * 4294967296) := (hf 9 (by decide)).1 _ rfl
    have e10 : f 10 = Value.bool (decide (nearP q (s - q * 4294967296) (1 * 4294967296))) := (hf 10 (by decide)).1 _ rfl
    have e11 : f 11 = sv (nextI q (decide (nearP q (s - q * 4294967296) (1 * 4294967296)))) := (hf 11 (by decide)).1 _ rfl
    have e12 : f 12 = Value.bool (decide (a < 0)) := (hf 12 (by decide)).1 _ rfl
    have e13 : f 13 = wv (sgnI (nextI q (decide (nearP q (s - q * 4294967296) (1 * 4294967296)))) (decide (a < 0))) := (hf 13 (by decide)).1 _ rfl
    have e15 : f 15 = Value.int IntKind.i64 0 := (hf 15 (by decide)).1 _ rfl
    clear hf hL
    simp only [puts2, Act.put, e0, e1, e2, e3, e4, e5, e6, e7, e8, e9, e10, e11, e12, e13, e15]
    try simp only [List.setIfInBounds_toArray, List.set_cons_zero, List.set_cons_succ]
    go_wp2_with fail
    refine bodyPost_ret (results_ct (g := w0.heap.size + 1) (cs := #[Value.int IntKind.i64 (hiW (sgnI (nextI q (decide (nearP q (s - q * 4294967296) (1 * 4294967296)))) (decide (a < 0)))), Value.int IntKind.u64 (loW (sgnI (nextI q (decide (nearP q (s - q * 4294967296) (1 * 4294967296)))) (decide (a < 0))))]) rfl _ _ rfl g2 Tryz.underlying146 rfl (by kernel_rfl)) rfl ?_
    exact ⟨by rw [hR.out]; rfl, hbl⟩

end Go.Proofs.YtnofoommindocaaGreat.Base
