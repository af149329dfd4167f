/- snap: what a place holds, what is found; the chapter's examples. No conditions. -/
import Derived.Test.YtagakcnhhhlolaaSnL
namespace Go.Proofs.Ytagakcnhhhlolaa.Base
open Go.RowKit
set_option linter.unusedVariables false
set_option linter.unusedSimpArgs false

set_option maxHeartbeats 4000000 in
set_option maxRecDepth 100000 in
theorem holds_yes {B : Nat} {w0 : World} {p : Nat} {v : Value} {M : Mdl} {ms : List Mrk} (h : PM B w0 p v M ms) (k : Nat) (m : Mrk) (hm : ms[k]? = some m) (t : Int) (hb : m.b = belB t) (ht : I64 t) :
    Calls Try.prog 38 #[.pointer (some ⟨p, 0, none⟩), .int .i64 k, .int .i64 t] w0 fun e w' => e = .returned (.bool true) ∧ Below w0.heap.size w0 w' := by
  obtain ⟨hk, rfl⟩ := List.getElem?_eq_some_iff.1 hm
  have HA := Lib.hid (at_ok h k hk)
  generalize ms[k] = m at *
  have HBE := Lib.hid hb
  clear h hm hb
  go_enter Try.func38, Try.ntmps38
  go_wp2_with fail
  refine HA.out.mono ?_
  rintro e w1 ⟨⟨v1, v2, rfl, hv1, hv2⟩, hB1⟩
  obtain ⟨aX, cX, aP, cP, rfl, q1, q2⟩ := hv1.ex
  obtain ⟨aH, cH, aR, cR, rfl, q3, q4⟩ := hv2
  have hmb := hv1.mb.zero
  clear hv1 q1 q2 q3 q4
  go_wp2_with (first | ((with_reducible refine at_dst (N := 7) rfl ?_); refine ev_new rfl (cs := #[Value.int .i64 0, Value.slice none 0 0, Value.slice none 0 0, Value.bool false, Value.int .i64 0, Value.int .i64 0]) (t := 27) (by go_simp) ?_; intro w2 b1 hB2 hz2) | ((with_reducible refine at_dst (N := 8) rfl ?_); refine ev_new rfl (cs := #[Value.bool false, Value.slice none 0 0, Value.slice none 0 0, Value.int .i64 0, Value.int .i64 0]) (t := 52) (by go_simp) ?_; intro w3 b2 hB3 hz3; replace b1 := b1.keep hB3) | ((with_reducible refine at_st (p := 7) (q := 14) rfl ?_); refine ev_store rfl 27 _ _ rfl rfl b1 0 rfl rfl [Value.int .i64 m.b.t, Value.slice aX m.b.X.length cX, Value.slice aP m.b.P.length cP, Value.bool m.b.flag, Value.int .i64 m.b.pass, Value.int .i64 m.b.fail] rfl (by kernel_rfl) rfl rfl #[Value.int .i64 m.b.t, Value.slice aX m.b.X.length cX, Value.slice aP m.b.P.length cP, Value.bool m.b.flag, Value.int .i64 m.b.pass, Value.int .i64 m.b.fail] rfl ?_; intro w4 b1 ef4 hz4) | ((with_reducible refine at_st (p := 8) (q := 15) rfl ?_); refine ev_store rfl 52 _ _ rfl rfl (ef4.blk b2 (by omega)) 0 rfl rfl [Value.bool m.t.is, Value.slice aH m.t.H.length cH, Value.slice aR m.t.R.length cR, Value.int .i64 m.t.s, Value.int .i64 m.t.nu] rfl (by kernel_rfl) rfl rfl #[Value.bool m.t.is, Value.slice aH m.t.H.length cH, Value.slice aR m.t.R.length cR, Value.int .i64 m.t.s, Value.int .i64 m.t.nu] rfl ?_; intro w5 b3 ef5 hz5))
  replace b1 := ef5.blk b1 (by omega)
  have hB15 : Below w1.heap.size w1 w5 := ef5.below (ef4.below (more hB2 hB3) (by rintro _ rfl; omega)) (by rintro _ rfl; omega)
  replace hmb := hmb.keep hB15
  replace hB1 := more hB1 hB15
  obtain ⟨x, hx⟩ : ∃ x, w1.heap.size = x := ⟨_, rfl⟩
  rw [hx] at b1
  simp only [hx]
  clear hB15 hB2 hB3 hz2 hz3 hz4 hz5 ef4 ef5 b2 b3 hx
  refine region_fp [some 17, some 18, some 19, some 20, some 21, some 22, some 23, some 24, some 6] [] [some (Value.int .i64 0), some (Value.bool true), some (Value.bool true), some (Value.agg #[Value.int .i64 m.b.t, Value.slice aX m.b.X.length cX, Value.slice aP m.b.P.length cP, Value.bool m.b.flag, Value.int .i64 m.b.pass, Value.int .i64 m.b.fail]), some (Value.int .i64 t), none, some (Value.bool true), some (Value.bool true), some (Value.bool true)]
    (fun i v W => match i with | 5 => MB 0 W v (belB t) | _ => True) (fun W W' => Below W.heap.size W W') (fun _ _ W => Blk W x #[Value.int .i64 m.b.t, Value.slice aX m.b.X.length cX, Value.slice aP m.b.P.length cP, Value.bool m.b.flag, Value.int .i64 m.b.pass, Value.int .i64 m.b.fail] 27 ∧ Below w5.heap.size w5 W)
    (by kernel_rfl) (by kernel_rfl) (by kernel_rfl) (by kernel_rfl) (by kernel_rfl) (fun _ => Below.refl _ _) (fun i v W W' h hb => by
      match i, h with
      | 5, h => exact MB.keep h hb
      | 0, _ | 1, _ | 2, _ | 3, _ | 4, _ => trivial
      | (n + 6), _ => trivial) (fun _ _ _ _ _ _ h => h) ⟨b1.drew, below_drewN _ 1⟩ ?_ ?_
  · intro i hi b' L f W hSW hL hdep hsh he hsv hsl hFF K hK1 hK2
    replace hi : i < 9 := hi
    have hcs : i = 0 ∨ i = 1 ∨ i = 2 ∨ i = 3 ∨ i = 4 ∨ i = 5 ∨ i = 6 ∨ i = 7 ∨ i = 8 := by omega
    clear hi
    rcases hcs with rfl | rfl | rfl | rfl | rfl | rfl | rfl | rfl | rfl
    · refine wpOp_go rfl rfl ?_
      have t9 : b'.tmps[9]?.getD undef = Value.int .i64 0 := he 9 (by kernel_rfl)
      have HK := Lib.hid hK1
      clear hK1 hK2 hdep hsh he hsv hsl hFF hL hSW
      go_simp
      exact HK.out rfl _ (fp_mk rfl rfl trivial)
    · refine wpOp_go rfl rfl ?_
      have t17 : b'.tmps[17]?.getD undef = Value.int .i64 0 := hsv 0 17 _ (by kernel_rfl) (by kernel_rfl) rfl
      have HK := Lib.hid hK1
      clear hK1 hK2 hdep hsh he hsv hsl hFF hL hSW
      go_simp
      exact HK.out rfl _ (fp_mk rfl rfl trivial)
    · refine wpOp_go rfl rfl ?_
      have t18 : b'.tmps[18]?.getD undef = Value.bool true := hsv 1 18 _ (by kernel_rfl) (by kernel_rfl) rfl
      have HK := Lib.hid hK1
      clear hK1 hK2 hdep hsh he hsv hsl hFF hL hSW
      go_simp
      exact HK.out rfl _ (fp_mk rfl rfl trivial)
    · refine wpOp_guard (dg := 19) rfl rfl rfl rfl (hsv 2 19 _ (by kernel_rfl) (by kernel_rfl) rfl) ?_
      rw [if_pos rfl]
      have t7 : b'.tmps[7]?.getD undef = Value.pointer (some ⟨x, 0, none⟩) := he 7 (by kernel_rfl)
      refine op_load 27 _ rfl hSW.1 0 (eval_tmp t7) [Value.int .i64 m.b.t, Value.slice aX m.b.X.length cX, Value.slice aP m.b.P.length cP, Value.bool m.b.flag, Value.int .i64 m.b.pass, Value.int .i64 m.b.fail] rfl Try.underlying27 rfl (by kernel_rfl) ?_
      exact hK1 rfl _ (fp_mk rfl rfl trivial)
    · refine wpOp_guard (dg := 19) rfl rfl rfl rfl (hsv 2 19 _ (by kernel_rfl) (by kernel_rfl) rfl) ?_
      rw [if_pos rfl]
      have t2 : b'.tmps[2]?.getD undef = Value.int .i64 t := he 2 (by kernel_rfl)
      have HK := Lib.hid hK1
      clear hK1 hK2 hdep hsh he hsv hsl hFF hL hSW
      go_simp
      exact HK.out rfl _ (fp_mk rfl rfl trivial)
    · refine wpOp_guard (dg := 19) rfl rfl rfl rfl (hsv 2 19 _ (by kernel_rfl) (by kernel_rfl) rfl) ?_
      rw [if_pos rfl]
      have t21 : b'.tmps[21]?.getD undef = Value.int .i64 t := hsv 4 21 _ (by kernel_rfl) (by kernel_rfl) rfl
      have HK := Lib.hid hK2
      clear hK1 hK2 hdep hsh he hsv hsl hFF hL
      go_simp
      refine (bel_is _ t ht).mono ?_
      rintro e w6 ⟨v6, rfl, hb6, hK6⟩
      exact HK.out _ _ (fp_x rfl hb6.mb.zero) hK6 ⟨hSW.1.keep hK6, more hSW.2 hK6⟩
    · refine wpOp_guard (dg := 19) rfl rfl rfl rfl (hsv 2 19 _ (by kernel_rfl) (by kernel_rfl) rfl) ?_
      rw [if_pos rfl]
      have t20 : b'.tmps[20]?.getD undef = Value.agg #[Value.int .i64 m.b.t, Value.slice aX m.b.X.length cX, Value.slice aP m.b.P.length cP, Value.bool m.b.flag, Value.int .i64 m.b.pass, Value.int .i64 m.b.fail] := hsv 3 20 _ (by kernel_rfl) (by kernel_rfl) rfl
      obtain ⟨t22, hx⟩ := hsl 5 22 (by kernel_rfl) (by kernel_rfl)
      have hbb : MB 0 W (Value.agg #[Value.int .i64 m.b.t, Value.slice aX m.b.X.length cX, Value.slice aP m.b.P.length cP, Value.bool m.b.flag, Value.int .i64 m.b.pass, Value.int .i64 m.b.fail]) m.b := hmb.keep hSW.2
      have hx2 : MB 0 W (f 5) m.b := by rw [HBE.out]; exact hx
      generalize f 5 = u5 at *
      have HK := Lib.hid hK2
      clear hK1 hK2 hdep hsh he hsv hsl hFF hL
      clear hx
      go_simp
      refine (sameBelief_same hbb hx2).mono ?_
      rintro e w6 ⟨rfl, hK6⟩
      exact HK.out _ _ (fp_mk rfl rfl trivial) hK6 ⟨hSW.1.keep hK6, more hSW.2 hK6⟩
    · refine wpOp_go rfl rfl ?_
      have t19 : b'.tmps[19]?.getD undef = Value.bool true := hsv 2 19 _ (by kernel_rfl) (by kernel_rfl) rfl
      have t23 : b'.tmps[23]?.getD undef = Value.bool true := hsv 6 23 _ (by kernel_rfl) (by kernel_rfl) rfl
      have HK := Lib.hid hK1
      clear hK1 hK2 hdep hsh he hsv hsl hFF hL hSW
      go_simp
      exact HK.out rfl _ (fp_mk rfl rfl trivial)
    · refine wpOp_go rfl rfl ?_
      have t24 : b'.tmps[24]?.getD undef = Value.bool true := hsv 7 24 _ (by kernel_rfl) (by kernel_rfl) rfl
      have HK := Lib.hid hK1
      clear hK1 hK2 hdep hsh he hsv hsl hFF hL hSW
      go_simp
      exact HK.out rfl _ (fp_mk rfl rfl trivial)
  · intro f W hf L hL hS
    have e0 : f 0 = Value.int .i64 0 := (hf 0 (by decide)).1 _ rfl
    have e1 : f 1 = Value.bool true := (hf 1 (by decide)).1 _ rfl
    have e2 : f 2 = Value.bool true := (hf 2 (by decide)).1 _ rfl
    have e3 : f 3 = Value.agg #[Value.int .i64 m.b.t, Value.slice aX m.b.X.length cX, Value.slice aP m.b.P.length cP, Value.bool m.b.flag, Value.int .i64 m.b.pass, Value.int .i64 m.b.fail] := (hf 3 (by decide)).1 _ rfl
    have e4 : f 4 = Value.int .i64 t := (hf 4 (by decide)).1 _ rfl
    have e6 : f 6 = Value.bool true := (hf 6 (by decide)).1 _ rfl
    have e7 : f 7 = Value.bool true := (hf 7 (by decide)).1 _ rfl
    have e8 : f 8 = Value.bool true := (hf 8 (by decide)).1 _ rfl
    have hbl := (hS : _ ∧ _).2
    clear hf hL hS
    simp only [puts2, Act.put, e0, e1, e2, e3, e4, e6, e7, e8]
    try simp only [List.setIfInBounds_toArray, List.set_cons_zero, List.set_cons_succ]
    generalize f 5 = u5 at *
    clear e0 e1 e2 e3 e4 e6 e7 e8
    go_wp2_with fail
    go_ret
    exact ⟨rfl, more hB1 hbl⟩

set_option maxHeartbeats 1000000 in
theorem finds_yes {B : Nat} {w0 : World} {p : Nat} {v : Value} {M : Mdl} {ms : List Mrk} (h : PM B w0 p v M ms) (t : Int) (n : Nat) (h0 : laterV ms t 0 = false) (hr : ∀ r, Srch ms t (r + 1) → r = n) :
    Calls Try.prog 73 #[.pointer (some ⟨p, 0, none⟩), .int .i64 t, .int .i64 n] w0 fun e w' => e = .returned (.bool true) ∧ Below w0.heap.size w0 w' := by
  have HF := Lib.hid (find_ok h t h0)
  have HR := Lib.hid hr
  clear h h0 hr
  go_enter Try.func73, Try.ntmps73
  go_wp2_with fail
  refine HF.out.mono ?_
  rintro e w1 ⟨⟨r, rfl, hs⟩, hB1⟩
  obtain rfl : n = r := (HR.out r hs).symm
  clear hs
  go_wp2_with fail
  go_ret
  exact ⟨rfl, hB1⟩
theorem srch_made (t : Int) (n : Nat) (hn : n < 4) (h1 : laterV madeL t n = false) (h2 : n + 1 = 4 ∨ laterV madeL t (n + 1) = true) (mono : ∀ i j, i ≤ j → j < 4 → laterV madeL t i = true → laterV madeL t j = true) : ∀ r, Srch madeL t (r + 1) → r = n := by
  rintro r ⟨a, b, c⟩
  have ha : r + 1 ≤ 4 := a
  rcases b with b | b
  · omega
  · rw [Nat.add_sub_cancel] at b
    have hc : r + 1 = 4 ∨ laterV madeL t (r + 1) = true := c
    by_cases e : r < n
    · rcases hc with hc | hc
      · omega
      · have := mono (r + 1) n (by omega) hn hc
        rw [h1] at this
        cases this
    · by_cases e2 : n < r
      · rcases h2 with h2 | h2
        · omega
        · have := mono (n + 1) r (by omega) (by omega) h2
          rw [b] at this
          cases this
      · omega
theorem made_mono (t : Int) : ∀ i j, i ≤ j → j < 4 → laterV madeL t i = true → laterV madeL t j = true := by
  intro i j h1 h2 h3
  have hi : i = 0 ∨ i = 1 ∨ i = 2 ∨ i = 3 := by omega
  have hj : j = 0 ∨ j = 1 ∨ j = 2 ∨ j = 3 := by omega
  rcases hi with rfl | rfl | rfl | rfl <;> rcases hj with rfl | rfl | rfl | rfl <;> simp [laterV, madeL, mk, belB] at h3 ⊢ <;> omega
set_option maxHeartbeats 4000000 in
theorem awake22_is (w : World) : Calls Try.prog 41 #[] w fun e w' => e = .returned (.bool true) ∧ Below w.heap.size w w' := by
  go_enter Try.func41, Try.ntmps41
  go_wp2_with fail
  refine (made_is _).mono ?_
  rintro e w1 ⟨p, v, rfl, hp, hB⟩
  go_wp2_with fail
  refine (holds_yes hp 0 _ rfl 3 rfl (i64_lit rfl)).mono ?_
  rintro e w2 ⟨rfl, hK⟩
  replace hp := hp.keep hK
  replace hB := more hB hK
  clear hK
  go_wp2_with fail
  refine (holds_yes hp 3 _ rfl 9 rfl (i64_lit rfl)).mono ?_
  rintro e w3 ⟨rfl, hK⟩
  replace hp := hp.keep hK
  replace hB := more hB hK
  clear hK
  go_wp2_with fail
  refine (finds_yes hp 4 0 (by decide) (srch_made 4 0 (by decide) (by decide) (.inr (by decide)) (made_mono 4))).mono ?_
  rintro e w4 ⟨rfl, hK⟩
  replace hp := hp.keep hK
  replace hB := more hB hK
  clear hK
  go_wp2_with fail
  refine (finds_yes hp 5 2 (by decide) (srch_made 5 2 (by decide) (by decide) (.inr (by decide)) (made_mono 5))).mono ?_
  rintro e w5 ⟨rfl, hK⟩
  replace hp := hp.keep hK
  replace hB := more hB hK
  clear hK
  go_wp2_with fail
  refine (finds_yes hp 99 3 (by decide) (srch_made 99 3 (by decide) (by decide) (.inl rfl) (made_mono 99))).mono ?_
  rintro e w6 ⟨rfl, hK⟩
  replace hB := more hB hK
  clear hK
  go_wp2_with fail
  go_ret
  exact ⟨rfl, hB⟩

end Go.Proofs.Ytagakcnhhhlolaa.Base
