/- sym: Rank, Sandwich. -/
import Derived.Test.YtnofoommindocaaGreatSymC
namespace Go.Proofs.YtnofoommindocaaGreat.Base
open Go.RowKit
set_option linter.unusedVariables false
set_option linter.unusedSimpArgs false

section
variable {P : Program} {ops : Array Oper} {rest : List Oper} {o : Oper} {a : Act} {Q : Exit → Act → World → Prop} {K : Act → World → Prop} {W : World}
/-- 'S{x, y}': the operation. -/
theorem op_slice2 {cs : Array Value} {t : TypeId} (hrun : (execOp a.eval o).run P W = .ok (.value (.slice (some ⟨W.heap.size, 0, none⟩) 2 2)) (W.alloc (.cells cs t)))
    (h : ∀ w', Blk w' W.heap.size cs t → Below W.heap.size W w' → w'.heap.size = W.heap.size + 1 → K (a.put o.dst (.slice (some ⟨W.heap.size, 0, none⟩) 2 2)) w') : o.wp P a W K Q := by
  unfold Oper.wp
  rw [hrun]
  exact h _ (Blk.new W cs t) ((Below.refl _ _).alloc (Nat.le_refl _) _) (by simp)
end
set_option maxHeartbeats 4000000 in
set_option maxRecDepth 100000 in
theorem rank1_is {w0 : World} {b : Nat} {c0 : Bool} (hU : UP w0 b c0) {ub mb sb kb : Nat} {x kx : Addr} {k1 kc N n nk : Nat} {xs ks : List Int} {r1 : Value} {s : Int} (hs : I64 s)
    (hub : Blk w0 ub #[.pointer (some ⟨b, 0, none⟩)] 30) (hmb : Blk w0 mb #[.int .i64 n, r1, .slice (some x) N k1] 78) (hsb : Blk w0 sb #[.int .i64 s] 3) (hkb : Blk w0 kb #[.slice (some kx) nk kc] 22) (nsb : sb ≠ b)
    (hx : ML b w0 (some x) k1 xs) (hl : xs.length = N) (hk : ML b w0 (some kx) kc ks) (hkl : ks.length = nk) (hkn : nk = n) (hn : n ≤ 12) (i j a : Nat) (hi : i < n) (hj : j < n) (ha : i * n + j = a) (haN : a < N) :
    Calls Tryz.prog 156 #[.int .i64 a, .int .i64 ((j * n + i : Nat) : Int), .pointer (some ⟨ub, 0, none⟩), .pointer (some ⟨mb, 0, none⟩), .pointer (some ⟨sb, 0, none⟩), .pointer (some ⟨kb, 0, none⟩)] w0 fun e w' =>
      e = .returned (.int .i64 (rkF (xs.getD a 0) s (ks.getD i 0) (ks.getD j 0)).1) ∧ UP w' b (c0 || (rkF (xs.getD a 0) s (ks.getD i 0) (ks.getD j 0)).2) ∧ But b w0 w' := by
  obtain ⟨q, hq, q0⟩ := ml_atD hx (show a < xs.length by omega)
  cases hq
  obtain ⟨q', hq', q1⟩ := ml_atD hk (show i < ks.length by omega)
  cases hq'
  obtain ⟨q', hq', q2⟩ := ml_atD hk (show j < ks.length by omega)
  cases hq'
  have m0 : (x.add a).block ≠ b := by rw [add_block]; exact hx.ne _ rfl (by omega)
  have m1' := hk.ne _ rfl (show 0 < ks.length by omega)
  have m1 : (kx.add i).block ≠ b := by rw [add_block]; exact m1'
  have m2 : (kx.add j).block ≠ b := by rw [add_block]; exact m1'
  have d0 := hub.cell 0
  have d1 := hmb.cell 0
  have d2 := hmb.cell 2
  have d3 := hsb.cell 0
  have d4 := hkb.cell 0
  have hblt := hU.lt
  have n0 : ub ≠ b := by obtain ⟨c, h⟩ := hU; exact blk_ne hub h (by decide)
  have n1 : mb ≠ b := by obtain ⟨c, h⟩ := hU; exact blk_ne hmb h (by decide)
  have n3 : kb ≠ b := by obtain ⟨c, h⟩ := hU; exact blk_ne hkb h (by decide)
  have n2 := nsb
  simp at d0 d1 d2 d3 d4
  have hz64 := getD_i64 hx.mi.rng a
  have hki := getD_i64 hk.mi.rng i
  have hkj := getD_i64 hk.mi.rng j
  have e1 : (0 : Int) ≤ (a : Int) := by omega
  have e2 : (a : Int) < (N : Int) := by omega
  have e3 : (0 : Int) ≤ (i : Int) := by omega
  have e4 : (i : Int) < (nk : Int) := by omega
  have e5 : (0 : Int) ≤ (j : Int) := by omega
  have e6 : (j : Int) < (nk : Int) := by omega
  have u4 : ¬ ((n : Int) = 0) := by omega
  have u5 : ¬ (n = 0) := by omega
  have hdiv : a / n = i := by rw [← ha, Nat.mul_comm, Nat.mul_add_div (by omega), Nat.div_eq_of_lt hj, Nat.add_zero]
  have hmod : a % n = j := by rw [← ha, Nat.add_comm, Nat.add_mul_mod_self_right, Nat.mod_eq_of_lt hj]
  have u1' : (a : Int).tdiv (n : Int) = (i : Int) := by rw [Int.tdiv_eq_ediv_of_nonneg e1, ← Int.natCast_ediv, hdiv]
  have u6 : (a : Int) / (n : Int) = (i : Int) := by rw [← Int.natCast_ediv, hdiv]
  have u7 : (a : Int) % (n : Int) = (j : Int) := by rw [← Int.natCast_emod, hmod]
  have u2 : (a : Int).tmod (n : Int) = (j : Int) := by rw [Int.tmod_eq_emod_of_nonneg e1, ← Int.natCast_emod, hmod]
  have u3 : IntKind.i64.wrap (j : Int) = (j : Int) := IntWalk.i64_in _ (by omega)
  have u8 : IntKind.i64.wrap (i : Int) = (i : Int) := IntWalk.i64_in _ (by omega)
  have u9 : wrap64 (i : Int) = (i : Int) := wrap_small (by omega)
  have u10 : wrap64 (j : Int) = (j : Int) := wrap_small (by omega)
  have u1 : IntKind.i64.wrap ((a : Int).tdiv (n : Int)) = (i : Int) := by rw [u1']; exact u8
  clear hdiv hmod ha haN hub hmb hsb hkb hx hk hl hkl hkn nsb m1' hi hj hn
  generalize xs.getD a 0 = z at *
  generalize ks.getD i 0 = ki at *
  generalize ks.getD j 0 = kj at *
  obtain ⟨p1, hp1e⟩ : ∃ p, timesL [ki, kj] = p := ⟨_, rfl⟩
  obtain ⟨p2, hp2e⟩ : ∃ p, timesL [s, p1.1] = p := ⟨_, rfl⟩
  obtain ⟨p3, hp3e⟩ : ∃ p, plusL [z, p2.1] = p := ⟨_, rfl⟩
  have hPE : rkF z s ki kj = (p3.1, (p1.2 || p2.2) || p3.2) := by unfold rkF; rw [hp1e, hp2e, hp3e]
  have hp1 : I64 p1.1 := by rw [← hp1e]; exact (timesL_fx _).i64
  have hp2 : I64 p2.1 := by rw [← hp2e]; exact (timesL_fx _).i64
  have HC1 := Lib.hid (fun (W : World) {c : Bool} (hu : UP W b c) {e : Nat} (hz : ML b W (some ⟨e, 0, none⟩) 2 [ki, kj]) => uMul_is hu hz)
  have HC2 := Lib.hid (fun (W : World) {c : Bool} (hu : UP W b c) {e : Nat} (hz : ML b W (some ⟨e, 0, none⟩) 2 [s, p1.1]) => uMul_is hu hz)
  have HC3 := Lib.hid (fun (W : World) {c : Bool} (hu : UP W b c) {e : Nat} (hz : ML b W (some ⟨e, 0, none⟩) 2 [z, p2.1]) => uAdd_is hu hz)
  simp only [hp1e, hp2e, hp3e, List.length_cons, List.length_nil, Nat.zero_add, Nat.reduceAdd] at HC1 HC2 HC3
  rw [hPE]
  have HPE := Lib.hid (show ∀ c : Bool, (c || ((p1.2 || p2.2) || p3.2)) = (((c || p1.2) || p2.2) || p3.2) from fun c => by simp [Bool.or_assoc])
  clear hPE hp1e hp2e hp3e
  dsimp only
  go_enter Tryz.func156, Tryz.ntmps156
  go_wp2_with fail
  refine region_fp [some 9, some 10, some 11, some 12, some 13, some 14, some 15, some 16, some 17, some 18, some 19, some 20, some 21, some 22, some 23, some 24, some 25, some 26, some 27, some 28, some 29, some 30, some 31, some 32, some 33, some 34, some 35, some 36, some 37, some 8] [24, 25, 26, 27, 28] [some (Value.pointer (some ⟨b, 0, none⟩)), some (Value.pointer (some ⟨mb, 2, none⟩)), some (Value.slice (some x) N k1), some (Value.int .i64 (a : Int)), some (Value.pointer (some (x.add a))), some (Value.int .i64 z), some (Value.pointer (some ⟨b, 0, none⟩)), some (Value.int .i64 s), some (Value.pointer (some ⟨b, 0, none⟩)), some (Value.slice (some kx) nk kc), some (Value.int .i64 (a : Int)), some (Value.pointer (some ⟨mb, 0, none⟩)), some (Value.int .i64 (n : Int)), some (Value.int .i64 (i : Int)), some (Value.pointer (some (kx.add i))), some (Value.int .i64 ki), some (Value.slice (some kx) nk kc), some (Value.int .i64 (a : Int)), some (Value.pointer (some ⟨mb, 0, none⟩)), some (Value.int .i64 (n : Int)), some (Value.int .i64 (j : Int)), some (Value.pointer (some (kx.add j))), some (Value.int .i64 kj), none, some (Value.int .i64 p1.1), none, some (Value.int .i64 p2.1), none, some (Value.int .i64 p3.1), some (Value.int .i64 p3.1)]
    (fun i v W => match i with | 23 => ∃ e, v = Value.slice (some ⟨e, 0, none⟩) 2 2 ∧ Blk W e #[.int .i64 ki, .int .i64 kj] 3 ∧ e ≠ b | 25 => ∃ e, v = Value.slice (some ⟨e, 0, none⟩) 2 2 ∧ Blk W e #[.int .i64 s, .int .i64 p1.1] 3 ∧ e ≠ b | 27 => ∃ e, v = Value.slice (some ⟨e, 0, none⟩) 2 2 ∧ Blk W e #[.int .i64 z, .int .i64 p2.1] 3 ∧ e ≠ b | _ => True) (fun W W' => But b W W') (fun L f W => But b w0 W ∧ (L 24 = false → UP W b c0) ∧ (L 24 = true → L 26 = false → UP W b (c0 || p1.2)) ∧ (L 26 = true → L 28 = false → UP W b ((c0 || p1.2) || p2.2)) ∧ (L 28 = true → UP W b (((c0 || p1.2) || p2.2) || p3.2)) ∧ (L 25 = true → L 24 = true) ∧ (L 26 = true → L 24 = true) ∧ (L 27 = true → L 26 = true))
    (by kernel_rfl) (by kernel_rfl) (by kernel_rfl) (by kernel_rfl) (by kernel_rfl) (fun _ => But.refl b _) (fun i v W W' h hb => by
      match i, h with
      | 23, ⟨e1, h1, h2, h3⟩ => exact ⟨e1, h1, hb.blk h2 h3, h3⟩
      | 25, ⟨e1, h1, h2, h3⟩ => exact ⟨e1, h1, hb.blk h2 h3, h3⟩
      | 27, ⟨e1, h1, h2, h3⟩ => exact ⟨e1, h1, hb.blk h2 h3, h3⟩
      | 0, _ | 1, _ | 2, _ | 3, _ | 4, _ | 5, _ | 6, _ | 7, _ | 8, _ | 9, _ | 10, _ | 11, _ | 12, _ | 13, _ | 14, _ | 15, _ | 16, _ | 17, _ | 18, _ | 19, _ | 20, _ | 21, _ | 22, _ | 24, _ | 26, _ | 28, _ | 29, _ => trivial
      | (m + 30), _ => trivial) (fun L L' f f' W h hs => by have q1 := (h 24 (by decide)).1; have q2 := (h 26 (by decide)).1; have q3 := (h 28 (by decide)).1; have q4 := (h 25 (by decide)).1; have q5 := (h 27 (by decide)).1; (try dsimp only at hs ⊢); rw [← q1, ← q2, ← q3, ← q4, ← q5]; exact hs) ⟨(But.refl b w0).drew, fun _ => hU.drew, fun h => (Bool.false_ne_true h).elim, fun h => (Bool.false_ne_true h).elim, fun h => (Bool.false_ne_true h).elim, fun h => (Bool.false_ne_true h).elim, fun h => (Bool.false_ne_true h).elim, fun h => (Bool.false_ne_true h).elim⟩ ?_ ?_
  · intro i hi b' L f W hSW hL hdep hsh he hsv hsl hFF K hK1 hK2
    replace hi : i < 30 := hi
    have hcs : i = 0 ∨ i = 1 ∨ i = 2 ∨ i = 3 ∨ i = 4 ∨ i = 5 ∨ i = 6 ∨ i = 7 ∨ i = 8 ∨ i = 9 ∨ i = 10 ∨ i = 11 ∨ i = 12 ∨ i = 13 ∨ i = 14 ∨ i = 15 ∨ i = 16 ∨ i = 17 ∨ i = 18 ∨ i = 19 ∨ i = 20 ∨ i = 21 ∨ i = 22 ∨ i = 23 ∨ i = 24 ∨ i = 25 ∨ i = 26 ∨ i = 27 ∨ i = 28 ∨ i = 29 := by omega
    clear hi
    rcases hcs with rfl | rfl | rfl | rfl | rfl | rfl | rfl | rfl | rfl | rfl | rfl | rfl | rfl | rfl | rfl | rfl | rfl | rfl | rfl | rfl | rfl | rfl | rfl | rfl | rfl | rfl | rfl | rfl | rfl | rfl
    · refine wpOpS_go rfl rfl ?_
      have t2 : b'.tmps[2]?.getD undef = Value.pointer (some ⟨ub, 0, none⟩) := he 2 (by kernel_rfl)
      obtain ⟨s0, s1, s2, s3, s4, s5, s6, s7⟩ := hSW
      have c0' := cell_but0 d0 n0 s0
      have HK := Lib.hid hK1
      clear hK1 hK2 hdep hsh he hsv hsl hFF hL
      clear s0 s1 s2 s3 s4 s5 s6 s7
      go_simp
      exact HK.out rfl _ (fp_mk rfl rfl trivial)
    · refine wpOpS_go rfl rfl ?_
      have t3 : b'.tmps[3]?.getD undef = Value.pointer (some ⟨mb, 0, none⟩) := he 3 (by kernel_rfl)
      have HK := Lib.hid hK1
      clear hK1 hK2 hdep hsh he hsv hsl hFF hL
      clear hSW
      go_simp
      exact HK.out rfl _ (fp_mk rfl rfl trivial)
    · refine wpOpS_go rfl rfl ?_
      have t10 : b'.tmps[10]?.getD undef = Value.pointer (some ⟨mb, 2, none⟩) := hsv 1 10 _ (by kernel_rfl) (by kernel_rfl) rfl
      obtain ⟨s0, s1, s2, s3, s4, s5, s6, s7⟩ := hSW
      have c0' := cell_but0 d2 n1 s0
      have HK := Lib.hid hK1
      clear hK1 hK2 hdep hsh he hsv hsl hFF hL
      clear s0 s1 s2 s3 s4 s5 s6 s7
      go_simp
      exact HK.out rfl _ (fp_mk rfl rfl trivial)
    · refine wpOpS_go rfl rfl ?_
      have t0 : b'.tmps[0]?.getD undef = Value.int .i64 (a : Int) := he 0 (by kernel_rfl)
      have HK := Lib.hid hK1
      clear hK1 hK2 hdep hsh he hsv hsl hFF hL
      clear hSW
      go_simp
      exact HK.out rfl _ (fp_mk rfl rfl trivial)
    · refine wpOpS_go rfl rfl ?_
      have t11 : b'.tmps[11]?.getD undef = Value.slice (some x) N k1 := hsv 2 11 _ (by kernel_rfl) (by kernel_rfl) rfl
      have t12 : b'.tmps[12]?.getD undef = Value.int .i64 (a : Int) := hsv 3 12 _ (by kernel_rfl) (by kernel_rfl) rfl
      have HK := Lib.hid hK1
      clear hK1 hK2 hdep hsh he hsv hsl hFF hL
      clear hSW
      go_simp
      exact HK.out rfl _ (fp_mk rfl rfl trivial)
    · refine wpOpS_go rfl rfl ?_
      have t13 : b'.tmps[13]?.getD undef = Value.pointer (some (x.add a)) := hsv 4 13 _ (by kernel_rfl) (by kernel_rfl) rfl
      obtain ⟨s0, s1, s2, s3, s4, s5, s6, s7⟩ := hSW
      have c0' := cell_but0 q0 m0 s0
      have HK := Lib.hid hK1
      clear hK1 hK2 hdep hsh he hsv hsl hFF hL
      clear s0 s1 s2 s3 s4 s5 s6 s7
      go_simp
      exact HK.out rfl _ (fp_mk rfl rfl trivial)
    · refine wpOpS_go rfl rfl ?_
      have t2 : b'.tmps[2]?.getD undef = Value.pointer (some ⟨ub, 0, none⟩) := he 2 (by kernel_rfl)
      obtain ⟨s0, s1, s2, s3, s4, s5, s6, s7⟩ := hSW
      have c0' := cell_but0 d0 n0 s0
      have HK := Lib.hid hK1
      clear hK1 hK2 hdep hsh he hsv hsl hFF hL
      clear s0 s1 s2 s3 s4 s5 s6 s7
      go_simp
      exact HK.out rfl _ (fp_mk rfl rfl trivial)
    · refine wpOpS_go rfl rfl ?_
      have t4 : b'.tmps[4]?.getD undef = Value.pointer (some ⟨sb, 0, none⟩) := he 4 (by kernel_rfl)
      obtain ⟨s0, s1, s2, s3, s4, s5, s6, s7⟩ := hSW
      have c0' := cell_but0 d3 n2 s0
      have HK := Lib.hid hK1
      clear hK1 hK2 hdep hsh he hsv hsl hFF hL
      clear s0 s1 s2 s3 s4 s5 s6 s7
      go_simp
      exact HK.out rfl _ (fp_mk rfl rfl trivial)
    · refine wpOpS_go rfl rfl ?_
      have t2 : b'.tmps[2]?.getD undef = Value.pointer (some ⟨ub, 0, none⟩) := he 2 (by kernel_rfl)
      obtain ⟨s0, s1, s2, s3, s4, s5, s6, s7⟩ := hSW
      have c0' := cell_but0 d0 n0 s0
      have HK := Lib.hid hK1
      clear hK1 hK2 hdep hsh he hsv hsl hFF hL
      clear s0 s1 s2 s3 s4 s5 s6 s7
      go_simp
      exact HK.out rfl _ (fp_mk rfl rfl trivial)
    · refine wpOpS_go rfl rfl ?_
      have t5 : b'.tmps[5]?.getD undef = Value.pointer (some ⟨kb, 0, none⟩) := he 5 (by kernel_rfl)
      obtain ⟨s0, s1, s2, s3, s4, s5, s6, s7⟩ := hSW
      have c0' := cell_but0 d4 n3 s0
      have HK := Lib.hid hK1
      clear hK1 hK2 hdep hsh he hsv hsl hFF hL
      clear s0 s1 s2 s3 s4 s5 s6 s7
      go_simp
      exact HK.out rfl _ (fp_mk rfl rfl trivial)
    · refine wpOpS_go rfl rfl ?_
      have t0 : b'.tmps[0]?.getD undef = Value.int .i64 (a : Int) := he 0 (by kernel_rfl)
      have HK := Lib.hid hK1
      clear hK1 hK2 hdep hsh he hsv hsl hFF hL
      clear hSW
      go_simp
      exact HK.out rfl _ (fp_mk rfl rfl trivial)
    · refine wpOpS_go rfl rfl ?_
      have t3 : b'.tmps[3]?.getD undef = Value.pointer (some ⟨mb, 0, none⟩) := he 3 (by kernel_rfl)
      have HK := Lib.hid hK1
      clear hK1 hK2 hdep hsh he hsv hsl hFF hL
      clear hSW
      go_simp
      exact HK.out rfl _ (fp_mk rfl rfl trivial)
    · refine wpOpS_go rfl rfl ?_
      have t20 : b'.tmps[20]?.getD undef = Value.pointer (some ⟨mb, 0, none⟩) := hsv 11 20 _ (by kernel_rfl) (by kernel_rfl) rfl
      obtain ⟨s0, s1, s2, s3, s4, s5, s6, s7⟩ := hSW
      have c0' := cell_but0 d1 n1 s0
      have HK := Lib.hid hK1
      clear hK1 hK2 hdep hsh he hsv hsl hFF hL
      clear s0 s1 s2 s3 s4 s5 s6 s7
      go_simp
      exact HK.out rfl _ (fp_mk rfl rfl trivial)
    · refine wpOpS_go rfl rfl ?_
      have t19 : b'.tmps[19]?.getD undef = Value.int .i64 (a : Int) := hsv 10 19 _ (by kernel_rfl) (by kernel_rfl) rfl
      have t21 : b'.tmps[21]?.getD undef = Value.int .i64 (n : Int) := hsv 12 21 _ (by kernel_rfl) (by kernel_rfl) rfl
      have HK := Lib.hid hK1
      clear hK1 hK2 hdep hsh he hsv hsl hFF hL
      clear hSW
      go_simp
      exact HK.out rfl _ (fp_mk rfl rfl trivial)
    · refine wpOpS_go rfl rfl ?_
      have t18 : b'.tmps[18]?.getD undef = Value.slice (some kx) nk kc := hsv 9 18 _ (by kernel_rfl) (by kernel_rfl) rfl
      have t22 : b'.tmps[22]?.getD undef = Value.int .i64 (i : Int) := hsv 13 22 _ (by kernel_rfl) (by kernel_rfl) rfl
      have HK := Lib.hid hK1
      clear hK1 hK2 hdep hsh he hsv hsl hFF hL
      clear hSW
      go_simp
      exact HK.out rfl _ (fp_mk rfl rfl trivial)
    · refine wpOpS_go rfl rfl ?_
      have t23 : b'.tmps[23]?.getD undef = Value.pointer (some (kx.add i)) := hsv 14 23 _ (by kernel_rfl) (by kernel_rfl) rfl
      obtain ⟨s0, s1, s2, s3, s4, s5, s6, s7⟩ := hSW
      have c0' := cell_but0 q1 m1 s0
      have HK := Lib.hid hK1
      clear hK1 hK2 hdep hsh he hsv hsl hFF hL
      clear s0 s1 s2 s3 s4 s5 s6 s7
      go_simp
      exact HK.out rfl _ (fp_mk rfl rfl trivial)
    · refine wpOpS_go rfl rfl ?_
      have t5 : b'.tmps[5]?.getD undef = Value.pointer (some ⟨kb, 0, none⟩) := he 5 (by kernel_rfl)
      obtain ⟨s0, s1, s2, s3, s4, s5, s6, s7⟩ := hSW
      have c0' := cell_but0 d4 n3 s0
      have HK := Lib.hid hK1
      clear hK1 hK2 hdep hsh he hsv hsl hFF hL
      clear s0 s1 s2 s3 s4 s5 s6 s7
      go_simp
      exact HK.out rfl _ (fp_mk rfl rfl trivial)
    · refine wpOpS_go rfl rfl ?_
      have t0 : b'.tmps[0]?.getD undef = Value.int .i64 (a : Int) := he 0 (by kernel_rfl)
      have HK := Lib.hid hK1
      clear hK1 hK2 hdep hsh he hsv hsl hFF hL
      clear hSW
      go_simp
      exact HK.out rfl _ (fp_mk rfl rfl trivial)
    · refine wpOpS_go rfl rfl ?_
      have t3 : b'.tmps[3]?.getD undef = Value.pointer (some ⟨mb, 0, none⟩) := he 3 (by kernel_rfl)
      have HK := Lib.hid hK1
      clear hK1 hK2 hdep hsh he hsv hsl hFF hL
      clear hSW
      go_simp
      exact HK.out rfl _ (fp_mk rfl rfl trivial)
    · refine wpOpS_go rfl rfl ?_
      have t27 : b'.tmps[27]?.getD undef = Value.pointer (some ⟨mb, 0, none⟩) := hsv 18 27 _ (by kernel_rfl) (by kernel_rfl) rfl
      obtain ⟨s0, s1, s2, s3, s4, s5, s6, s7⟩ := hSW
      have c0' := cell_but0 d1 n1 s0
      have HK := Lib.hid hK1
      clear hK1 hK2 hdep hsh he hsv hsl hFF hL
      clear s0 s1 s2 s3 s4 s5 s6 s7
      go_simp
      exact HK.out rfl _ (fp_mk rfl rfl trivial)
    · refine wpOpS_go rfl rfl ?_
      have t26 : b'.tmps[26]?.getD undef = Value.int .i64 (a : Int) := hsv 17 26 _ (by kernel_rfl) (by kernel_rfl) rfl
      have t28 : b'.tmps[28]?.getD undef = Value.int .i64 (n : Int) := hsv 19 28 _ (by kernel_rfl) (by kernel_rfl) rfl
      have HK := Lib.hid hK1
      clear hK1 hK2 hdep hsh he hsv hsl hFF hL
      clear hSW
      go_simp
      exact HK.out rfl _ (fp_mk rfl rfl trivial)
    · refine wpOpS_go rfl rfl ?_
      have t25 : b'.tmps[25]?.getD undef = Value.slice (some kx) nk kc := hsv 16 25 _ (by kernel_rfl) (by kernel_rfl) rfl
      have t29 : b'.tmps[29]?.getD undef = Value.int .i64 (j : Int) := hsv 20 29 _ (by kernel_rfl) (by kernel_rfl) rfl
      have HK := Lib.hid hK1
      clear hK1 hK2 hdep hsh he hsv hsl hFF hL
      clear hSW
      go_simp
      exact HK.out rfl _ (fp_mk rfl rfl trivial)
    · refine wpOpS_go rfl rfl ?_
      have t30 : b'.tmps[30]?.getD undef = Value.pointer (some (kx.add j)) := hsv 21 30 _ (by kernel_rfl) (by kernel_rfl) rfl
      obtain ⟨s0, s1, s2, s3, s4, s5, s6, s7⟩ := hSW
      have c0' := cell_but0 q2 m2 s0
      have HK := Lib.hid hK1
      clear hK1 hK2 hdep hsh he hsv hsl hFF hL
      clear s0 s1 s2 s3 s4 s5 s6 s7
      go_simp
      exact HK.out rfl _ (fp_mk rfl rfl trivial)
    · refine wpOpS_go rfl rfl ?_
      have t24 : b'.tmps[24]?.getD undef = Value.int .i64 ki := hsv 15 24 _ (by kernel_rfl) (by kernel_rfl) rfl
      have t31 : b'.tmps[31]?.getD undef = Value.int .i64 kj := hsv 22 31 _ (by kernel_rfl) (by kernel_rfl) rfl
      obtain ⟨s0, s1, s2, s3, s4, s5, s6, s7⟩ := hSW
      have HK := Lib.hid hK2
      have hlt : b < W.heap.size := Nat.lt_of_lt_of_le hblt s0.size
      clear hK1 hK2 hdep hsh he hsv hsl hFF hL
      refine op_slice2 (cs := #[.int .i64 ki, .int .i64 kj]) (t := 3) (by go_simp) ?_
      intro w6 hbn hB hz
      exact HK.out _ _ (fp_x rfl ⟨_, rfl, hbn, by omega⟩) (But.of hB) ⟨s0.trans (But.of hB), fun h => (s1 h).keep hB, fun h h' => (s2 h h').keep hB, fun h h' => (s3 h h').keep hB, fun h => (s4 h).keep hB, s5, s6, s7⟩
    · refine wpOpS_go rfl rfl ?_
      have t17 : b'.tmps[17]?.getD undef = Value.pointer (some ⟨b, 0, none⟩) := hsv 8 17 _ (by kernel_rfl) (by kernel_rfl) rfl
      obtain ⟨t32, hx⟩ := hsl 23 32 (by kernel_rfl) (by kernel_rfl)
      obtain ⟨e1, e2, hb1, hn1⟩ := hx
      rw [e2] at t32
      obtain ⟨s0, s1, s2, s3, s4, s5, s6, s7⟩ := hSW
      have HK := Lib.hid hK2
      have hu := s1 hL
      have h26 := hsh 26 (by kernel_rfl)
      have h28 := hsh 28 (by kernel_rfl)
      clear hK1 hK2 hdep hsh he hsv hsl hFF e2
      go_simp
      refine (HC1.out _ hu (ml_new (zs := [ki, kj]) hb1 hn1 (two_i64 hki hkj) (by simp))).mono ?_
      rintro e w6 ⟨rfl, hU6, hB6⟩
      exact HK.out _ _ (fp_mk rfl rfl trivial) hB6 ⟨s0.trans hB6, fun h => absurd h (by rw [updF_same]; decide), fun _ _ => hU6, fun h => absurd h (by show ¬ L 26 = true; rw [h26]; decide), fun h => absurd h (by show ¬ L 28 = true; rw [h28]; decide), fun _ => by rw [updF_same], fun _ => by rw [updF_same], s7⟩
    · refine wpOpS_go rfl rfl ?_
      have t16 : b'.tmps[16]?.getD undef = Value.int .i64 s := hsv 7 16 _ (by kernel_rfl) (by kernel_rfl) rfl
      have t33 : b'.tmps[33]?.getD undef = Value.int .i64 p1.1 := hsv 24 33 _ (by kernel_rfl) (by kernel_rfl) rfl
      obtain ⟨s0, s1, s2, s3, s4, s5, s6, s7⟩ := hSW
      have l24 := hdep 24 (by kernel_rfl)
      have HK := Lib.hid hK2
      have hlt : b < W.heap.size := Nat.lt_of_lt_of_le hblt s0.size
      clear hK1 hK2 hdep hsh he hsv hsl hFF hL
      refine op_slice2 (cs := #[.int .i64 s, .int .i64 p1.1]) (t := 3) (by go_simp) ?_
      intro w6 hbn hB hz
      exact HK.out _ _ (fp_x rfl ⟨_, rfl, hbn, by omega⟩) (But.of hB) ⟨s0.trans (But.of hB), fun h => (s1 h).keep hB, fun h h' => (s2 h h').keep hB, fun h h' => (s3 h h').keep hB, fun h => (s4 h).keep hB, fun _ => l24, s6, s7⟩
    · refine wpOpS_go rfl rfl ?_
      have t15 : b'.tmps[15]?.getD undef = Value.pointer (some ⟨b, 0, none⟩) := hsv 6 15 _ (by kernel_rfl) (by kernel_rfl) rfl
      obtain ⟨t34, hx⟩ := hsl 25 34 (by kernel_rfl) (by kernel_rfl)
      obtain ⟨e1, e2, hb1, hn1⟩ := hx
      rw [e2] at t34
      obtain ⟨s0, s1, s2, s3, s4, s5, s6, s7⟩ := hSW
      have HK := Lib.hid hK2
      have l24 : L 24 = true := s5 (hdep 25 (by kernel_rfl))
      have hu := s2 l24 hL
      have h28 := hsh 28 (by kernel_rfl)
      clear hK1 hK2 hdep hsh he hsv hsl hFF e2
      go_simp
      refine (HC2.out _ hu (ml_new (zs := [s, p1.1]) hb1 hn1 (two_i64 hs hp1) (by simp))).mono ?_
      rintro e w6 ⟨rfl, hU6, hB6⟩
      exact HK.out _ _ (fp_mk rfl rfl trivial) hB6 ⟨s0.trans hB6, fun h => absurd (show L 24 = false from h) (by rw [l24]; decide), fun _ h => absurd h (by rw [updF_same]; decide), fun _ _ => hU6, fun h => absurd h (by show ¬ L 28 = true; rw [h28]; decide), s5, fun _ => l24, fun _ => by rw [updF_same]⟩
    · refine wpOpS_go rfl rfl ?_
      have t14 : b'.tmps[14]?.getD undef = Value.int .i64 z := hsv 5 14 _ (by kernel_rfl) (by kernel_rfl) rfl
      have t35 : b'.tmps[35]?.getD undef = Value.int .i64 p2.1 := hsv 26 35 _ (by kernel_rfl) (by kernel_rfl) rfl
      obtain ⟨s0, s1, s2, s3, s4, s5, s6, s7⟩ := hSW
      have l26 := hdep 26 (by kernel_rfl)
      have HK := Lib.hid hK2
      have hlt : b < W.heap.size := Nat.lt_of_lt_of_le hblt s0.size
      clear hK1 hK2 hdep hsh he hsv hsl hFF hL
      refine op_slice2 (cs := #[.int .i64 z, .int .i64 p2.1]) (t := 3) (by go_simp) ?_
      intro w6 hbn hB hz
      exact HK.out _ _ (fp_x rfl ⟨_, rfl, hbn, by omega⟩) (But.of hB) ⟨s0.trans (But.of hB), fun h => (s1 h).keep hB, fun h h' => (s2 h h').keep hB, fun h h' => (s3 h h').keep hB, fun h => (s4 h).keep hB, s5, s6, fun _ => l26⟩
    · refine wpOpS_go rfl rfl ?_
      have t9 : b'.tmps[9]?.getD undef = Value.pointer (some ⟨b, 0, none⟩) := hsv 0 9 _ (by kernel_rfl) (by kernel_rfl) rfl
      obtain ⟨t36, hx⟩ := hsl 27 36 (by kernel_rfl) (by kernel_rfl)
      obtain ⟨e1, e2, hb1, hn1⟩ := hx
      rw [e2] at t36
      obtain ⟨s0, s1, s2, s3, s4, s5, s6, s7⟩ := hSW
      have HK := Lib.hid hK2
      have l26 : L 26 = true := s7 (hdep 27 (by kernel_rfl))
      have l24 : L 24 = true := s6 l26
      have hu := s3 l26 hL
      clear hK1 hK2 hdep hsh he hsv hsl hFF e2
      go_simp
      refine (HC3.out _ hu (ml_new (zs := [z, p2.1]) hb1 hn1 (two_i64 hz64 hp2) (by simp))).mono ?_
      rintro e w6 ⟨rfl, hU6, hB6⟩
      exact HK.out _ _ (fp_mk rfl rfl trivial) hB6 ⟨s0.trans hB6, fun h => absurd (show L 24 = false from h) (by rw [l24]; decide), fun _ h => absurd (show L 26 = false from h) (by rw [l26]; decide), fun _ h => absurd h (by rw [updF_same]; decide), fun _ => hU6, s5, s6, s7⟩
    · refine wpOpS_go rfl rfl ?_
      have t37 : b'.tmps[37]?.getD undef = Value.int .i64 p3.1 := hsv 28 37 _ (by kernel_rfl) (by kernel_rfl) rfl
      have HK := Lib.hid hK1
      clear hK1 hK2 hdep hsh he hsv hsl hFF hL
      clear hSW
      go_simp
      exact HK.out rfl _ (fp_mk rfl rfl trivial)
  · intro f W hf L hL hS
    obtain ⟨s0, s1, s2, s3, s4, s5, s6, s7⟩ := (hS : _ ∧ _ ∧ _ ∧ _ ∧ _ ∧ _ ∧ _ ∧ _)
    replace s4 := s4 (hL 28 (by decide))
    obtain ⟨z23, e23, _, _⟩ := (hf 23 (by decide)).2
    obtain ⟨z25, e25, _, _⟩ := (hf 25 (by decide)).2
    obtain ⟨z27, e27, _, _⟩ := (hf 27 (by decide)).2
    have e0 : f 0 = Value.pointer (some ⟨b, 0, none⟩) := (hf 0 (by decide)).1 _ rfl
    have e1 : f 1 = Value.pointer (some ⟨mb, 2, none⟩) := (hf 1 (by decide)).1 _ rfl
    have e2 : f 2 = Value.slice (some x) N k1 := (hf 2 (by decide)).1 _ rfl
    have e3 : f 3 = Value.int .i64 (a : Int) := (hf 3 (by decide)).1 _ rfl
    have e4 : f 4 = Value.pointer (some (x.add a)) := (hf 4 (by decide)).1 _ rfl
    have e5 : f 5 = Value.int .i64 z := (hf 5 (by decide)).1 _ rfl
    have e6 : f 6 = Value.pointer (some ⟨b, 0, none⟩) := (hf 6 (by decide)).1 _ rfl
    have e7 : f 7 = Value.int .i64 s := (hf 7 (by decide)).1 _ rfl
    have e8 : f 8 = Value.pointer (some ⟨b, 0, none⟩) := (hf 8 (by decide)).1 _ rfl
    have e9 : f 9 = Value.slice (some kx) nk kc := (hf 9 (by decide)).1 _ rfl
    have e10 : f 10 = Value.int .i64 (a : Int) := (hf 10 (by decide)).1 _ rfl
    have e11 : f 11 = Value.pointer (some ⟨mb, 0, none⟩) := (hf 11 (by decide)).1 _ rfl
    have e12 : f 12 = Value.int .i64 (n : Int) := (hf 12 (by decide)).1 _ rfl
    have e13 : f 13 = Value.int .i64 (i : Int) := (hf 13 (by decide)).1 _ rfl
    have e14 : f 14 = Value.pointer (some (kx.add i)) := (hf 14 (by decide)).1 _ rfl
    have e15 : f 15 = Value.int .i64 ki := (hf 15 (by decide)).1 _ rfl
    have e16 : f 16 = Value.slice (some kx) nk kc := (hf 16 (by decide)).1 _ rfl
    have e17 : f 17 = Value.int .i64 (a : Int) := (hf 17 (by decide)).1 _ rfl
    have e18 : f 18 = Value.pointer (some ⟨mb, 0, none⟩) := (hf 18 (by decide)).1 _ rfl
    have e19 : f 19 = Value.int .i64 (n : Int) := (hf 19 (by decide)).1 _ rfl
    have e20 : f 20 = Value.int .i64 (j : Int) := (hf 20 (by decide)).1 _ rfl
    have e21 : f 21 = Value.pointer (some (kx.add j)) := (hf 21 (by decide)).1 _ rfl
    have e22 : f 22 = Value.int .i64 kj := (hf 22 (by decide)).1 _ rfl
    have e24 : f 24 = Value.int .i64 p1.1 := (hf 24 (by decide)).1 _ rfl
    have e26 : f 26 = Value.int .i64 p2.1 := (hf 26 (by decide)).1 _ rfl
    have e28 : f 28 = Value.int .i64 p3.1 := (hf 28 (by decide)).1 _ rfl
    have e29 : f 29 = Value.int .i64 p3.1 := (hf 29 (by decide)).1 _ rfl
    clear hf hL s1 s2 s3 s5 s6 s7
    simp only [puts2, Act.put, e0, e1, e2, e3, e4, e5, e6, e7, e8, e9, e10, e11, e12, e13, e14, e15, e16, e17, e18, e19, e20, e21, e22, e23, e24, e25, e26, e27, e28, e29]
    try simp only [List.setIfInBounds_toArray, List.set_cons_zero, List.set_cons_succ]
    clear e0 e1 e2 e3 e4 e5 e6 e7 e8 e9 e10 e11 e12 e13 e14 e15 e16 e17 e18 e19 e20 e21 e22 e23 e24 e25 e26 e27 e28 e29
    go_wp2_with fail
    go_ret
    exact ⟨rfl, by rw [HPE.out]; exact s4, s0⟩

set_option maxHeartbeats 4000000 in
set_option maxRecDepth 100000 in
theorem rank_is {W : World} {b : Nat} {c0 : Bool} (hU : UP W b c0) {m : Mt} {a1 : Option Addr} {k1 : Nat} (h1 : ML b W a1 k1 m.v) (ok : okMt m) (hs : m.r = m.c) {a2 : Option Addr} {k2 : Nat} {ks : List Int} (h2 : ML b W a2 k2 ks) (hkl : (ks.length : Int) = m.r) (s : Int) (h64 : I64 s) :
    Calls Tryz.prog 101 #[.pointer (some ⟨b, 0, none⟩), .agg #[.int .i64 m.r, .int .i64 m.c, .slice a1 m.v.length k1], .slice a2 ks.length k2, .int .i64 s] W
      fun e w' => ∃ v, e = .returned (.tuple #[v, .int .i64 0]) ∧ MO W.heap.size w' v (rankM m ks s).1 ∧ UP w' b (c0 || (rankM m ks s).2) ∧ But b W w' := by
  have hR := fun (W' : World) (hU' : UP W' b c0) => srefuses_is hU' m a1 k1
  rw [sq_ok ok hs] at hR
  obtain ⟨n, n', hr, hc, hn1, hn2, _, _, hlen⟩ := ok.nat
  have hnn : n' = n := by omega
  subst hnn
  obtain ⟨mr, mc, xs⟩ := m
  dsimp only at *
  subst hr hc
  have HT := Lib.hid (show rankM ⟨(n' : Int), (n' : Int), xs⟩ ks s = (⟨(n' : Int), (n' : Int), chgL n' (fun i j => (rkF (xs.getD (i * n' + j) 0) s (ks.getD i 0) (ks.getD j 0)).1) xs (prU n' 0 n')⟩, (prU n' 0 n').any fun p => (rkF (xs.getD (p.1 * n' + p.2) 0) s (ks.getD p.1 0) (ks.getD p.2 0)).2) by
    unfold rankM; rw [chgM_nat]; simp [atM])
  obtain ⟨N, hN⟩ : ∃ N, n' * n' = N := ⟨_, rfl⟩
  have hN1 : 0 < N := by rw [← hN]; exact Nat.mul_pos hn1 hn1
  rw [hN] at hlen
  rw [hlen] at hR ⊢
  obtain ⟨nk, hnk⟩ : ∃ nk, ks.length = nk := ⟨_, rfl⟩
  rw [hnk] at hkl ⊢
  have hkn : nk = n' := by omega
  clear hs hkl
  obtain ⟨x, rfl⟩ : ∃ x, a1 = some x := by obtain ⟨x, hx, _⟩ := h1.mi.cell 0 (by omega); exact ⟨x, hx⟩
  obtain ⟨kx, rfl⟩ : ∃ x, a2 = some x := by obtain ⟨x, hx, _⟩ := h2.mi.cell 0 (by omega); exact ⟨x, hx⟩
  have hfx : ∀ x s a b, I64 (rkF x s a b).1 := fun x s a b => (plusL_fx _).i64
  have HKN := Lib.hid hkn
  clear hkn
  go_enter Tryz.func101, Tryz.ntmps101
  go_wp2_with fail
  have hB := below_allocs W [Obj.cells #[Value.pointer (some ⟨b, 0, none⟩)] 30, Obj.cells #[Value.int .i64 (n' : Int), .int .i64 (n' : Int), .slice (some x) N k1] 78, Obj.cells #[Value.slice (some kx) nk k2] 22, Obj.cells #[Value.int .i64 s] 3, Obj.cells #[Value.int .i64 0, .int .i64 0, .slice none 0 0] 78]
  have g0 := blk_at W [Obj.cells #[Value.pointer (some ⟨b, 0, none⟩)] 30, Obj.cells #[Value.int .i64 (n' : Int), .int .i64 (n' : Int), .slice (some x) N k1] 78, Obj.cells #[Value.slice (some kx) nk k2] 22, Obj.cells #[Value.int .i64 s] 3, Obj.cells #[Value.int .i64 0, .int .i64 0, .slice none 0 0] 78] 0 _ _ rfl
  have g1 := blk_at W [Obj.cells #[Value.pointer (some ⟨b, 0, none⟩)] 30, Obj.cells #[Value.int .i64 (n' : Int), .int .i64 (n' : Int), .slice (some x) N k1] 78, Obj.cells #[Value.slice (some kx) nk k2] 22, Obj.cells #[Value.int .i64 s] 3, Obj.cells #[Value.int .i64 0, .int .i64 0, .slice none 0 0] 78] 1 _ _ rfl
  have g2 := blk_at W [Obj.cells #[Value.pointer (some ⟨b, 0, none⟩)] 30, Obj.cells #[Value.int .i64 (n' : Int), .int .i64 (n' : Int), .slice (some x) N k1] 78, Obj.cells #[Value.slice (some kx) nk k2] 22, Obj.cells #[Value.int .i64 s] 3, Obj.cells #[Value.int .i64 0, .int .i64 0, .slice none 0 0] 78] 2 _ _ rfl
  have g3 := blk_at W [Obj.cells #[Value.pointer (some ⟨b, 0, none⟩)] 30, Obj.cells #[Value.int .i64 (n' : Int), .int .i64 (n' : Int), .slice (some x) N k1] 78, Obj.cells #[Value.slice (some kx) nk k2] 22, Obj.cells #[Value.int .i64 s] 3, Obj.cells #[Value.int .i64 0, .int .i64 0, .slice none 0 0] 78] 3 _ _ rfl
  have g4 := blk_at W [Obj.cells #[Value.pointer (some ⟨b, 0, none⟩)] 30, Obj.cells #[Value.int .i64 (n' : Int), .int .i64 (n' : Int), .slice (some x) N k1] 78, Obj.cells #[Value.slice (some kx) nk k2] 22, Obj.cells #[Value.int .i64 s] 3, Obj.cells #[Value.int .i64 0, .int .i64 0, .slice none 0 0] 78] 4 _ _ rfl
  simp only [List.foldl_cons, List.foldl_nil, Nat.add_zero, List.length_cons, List.length_nil, Nat.zero_add, Nat.reduceAdd] at hB g0 g1 g2 g3 g4
  obtain ⟨hB, hs1⟩ := hB
  have hU1 := hU.keep hB
  obtain ⟨w1, hw1⟩ : ∃ w1 : World, ((((W.alloc (Obj.cells #[Value.pointer (some ⟨b, 0, none⟩)] 30)).alloc (Obj.cells #[Value.int .i64 (n' : Int), .int .i64 (n' : Int), .slice (some x) N k1] 78)).alloc (Obj.cells #[Value.slice (some kx) nk k2] 22)).alloc (Obj.cells #[Value.int .i64 s] 3)).alloc (Obj.cells #[Value.int .i64 0, .int .i64 0, .slice none 0 0] 78) = w1 := ⟨_, rfl⟩
  rw [hw1] at hB g0 g1 g2 g3 g4 hs1 hU1 ⊢
  clear hw1
  refine (hR _ hU1).mono ?_
  rintro e w2 ⟨rfl, hK⟩
  replace g0 := g0.keep hK
  replace g1 := g1.keep hK
  replace g2 := g2.keep hK
  replace g3 := g3.keep hK
  replace g4 := g4.keep hK
  replace hB := more hB hK
  have hU2 := hU1.keep hK
  have hx := h1.keep hB
  have hk := h2.keep hB
  have hbW := hU.lt
  have c0 := g0.cell
  have c1 := g1.cell
  have c2 := g2.cell
  have c3 := g3.cell
  clear hK hR hU1
  have hq : ((nk : Int) == (n' : Int)) = true := by have := HKN.out; simp; omega
  have hq2 : ((nk : Int) = (n' : Int)) := by have := HKN.out; omega
  have hq3 : nk = n' := HKN.out
  go_wp2_with fail
  clear c0 c1 c2 c3 hq hq2 hq3
  refine (changed_is (w0 := w2) (fun k => k = b) (fun k h => by subst h; exact hU2.lt) 156 (enters_of Tryz.func156 (by kernel_rfl) rfl) #[.pointer (some ⟨W.heap.size, 0, none⟩), .pointer (some ⟨W.heap.size + 1, 0, none⟩), .pointer (some ⟨W.heap.size + 3, 0, none⟩), .pointer (some ⟨W.heap.size + 2, 0, none⟩)] n' 0 N hN ⟨hn1, hn2⟩ (Nat.zero_le _) hx.mi hlen
    (fun i j => (rkF (xs.getD (i * n' + j) 0) s (ks.getD i 0) (ks.getD j 0)).1) (fun _ _ => hfx _ _ _ _)
    (fun pre W' => But b w2 W' ∧ UP W' b (c0 || pre.any fun p => (rkF (xs.getD (p.1 * n' + p.2) 0) s (ks.getD p.1 0) (ks.getD p.2 0)).2))
    (fun pre W1 W2 h1 h2 => ⟨but_below h1.1 h2, h1.2.below h2 hU2.lt⟩) (fun pre i k W1 hik hkn hj hsz => ?_) ⟨But.refl _ _, by simpa using hU2⟩).mono ?_
  · rw [any_snocP, ← Bool.or_assoc]
    refine (rank1_is hj.2 h64 (hj.1.blk g0 (by omega)) (hj.1.blk g1 (by omega)) (hj.1.blk g3 (by omega)) (hj.1.blk g2 (by omega)) (by omega) (hx.but hj.1) hlen (hk.but hj.1) hnk HKN.out hn2 i k (i * n' + k) (by omega) hkn rfl (by rw [← hN]; exact ix_lt (by omega) hkn)).mono ?_
    rintro e w3 ⟨rfl, hU3, hB3⟩
    exact ⟨rfl, ⟨hj.1.trans hB3, hU3⟩, but_eff hB3⟩
  · rintro e w3 ⟨v, rfl, hmo, hj, hE⟩
    obtain ⟨hB3, hU3⟩ := hj
    have hB4 := (But.of (b := b) hB).trans hB3
    have g5 := hB3.blk g4 (by omega)
    have hsz := hB.size
    have hU3' : UP w3 b (c0 || (rankM ⟨(n' : Int), (n' : Int), xs⟩ ks s).2) := by rw [HT.out]; exact hU3
    have HMO := Lib.hid (show MO w2.heap.size w3 v (rankM ⟨(n' : Int), (n' : Int), xs⟩ ks s).1 by rw [HT.out]; exact hmo)
    obtain ⟨av, kv, rfl, hLI⟩ := hmo.ex
    generalize (chgL n' (fun i j => (rkF (xs.getD (i * n' + j) 0) s (ks.getD i 0) (ks.getD j 0)).1) xs (prU n' 0 n')) = vv at *
    generalize vv.length = ll at *
    clear hE g0 g1 g2 g3 g4 hx hk hU2 hB3 hU3 hmo hLI
    go_wp2_with ((with_reducible refine at_st (p := 8) (q := 26) rfl ?_); refine ev_store rfl 78 _ _ rfl rfl g5 0 rfl rfl [.int .i64 n', .int .i64 n', .slice av ll kv] rfl (by kernel_rfl) rfl rfl #[.int .i64 n', .int .i64 n', .slice av ll kv] rfl ?_; intro w4 g6 ef hz4)
    have hmo4 := (HMO.out.eff ef (fun k hk ht => by subst hk; exact absurd (ht.inj g5.ty) (by decide))).mono hsz
    have hU4 := up_eff hU3' ef (by omega)
    have hB5 := but_eff2 hB4 ef (by omega)
    refine bodyPost_ret (results_ct (g := W.heap.size + 4) (cs := #[.int .i64 n', .int .i64 n', .slice av ll kv]) rfl _ _ rfl g6 Tryz.underlying78 rfl (by kernel_rfl)) rfl ?_
    exact ⟨_, rfl, hmo4, hU4, hB5⟩

end Go.Proofs.YtnofoommindocaaGreat.Base
