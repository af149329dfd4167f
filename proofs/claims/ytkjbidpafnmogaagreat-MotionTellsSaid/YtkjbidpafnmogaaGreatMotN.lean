/- binnaclelaw11: square, a matrix of two rows of whole numbers. motion: what is refused; binnaclelaw11: two. binnaclelaw11: awake. -/
import Derived.Test.YtkjbidpafnmogaaGreatMotM
namespace Go.Proofs.YtkjbidpafnmogaaGreat.Base
open Go.RowKit Go
set_option linter.unusedVariables false
set_option linter.unusedSimpArgs false

def ofM (n : Int) (zs : List Int) : Mt := ⟨n, n, zs.map fun z => z * 4294967296⟩

set_option maxHeartbeats 8000000 in
set_option maxRecDepth 100000 in
theorem whole2_is2 {w0 : World} {x : Addr} {k : Nat} {zs : List Int} (h : MI 0 w0 (some x) k zs) (hz : ∀ z ∈ zs, -1000000 ≤ z ∧ z ≤ 1000000) (hl : zs.length ≤ 1000) (h0 : 0 < zs.length) :
    Calls Tryz.prog 36 #[.slice (some x) zs.length k] w0 fun e w' => ∃ v, e = .returned v ∧ MO w0.heap.size w' v (ofM 2 zs) ∧ Below w0.heap.size w0 w' ∧ ∃ g c, v = .agg #[.int .i64 2, .int .i64 2, .slice (some ⟨g, 0, none⟩) zs.length c] := by
  obtain ⟨n, hn⟩ : ∃ n, zs.length = n := ⟨_, rfl⟩
  rw [hn] at hl h0 ⊢
  have HN := Lib.hid hn
  have hn1000 : n ≤ 1000 := hl
  clear hn hl
  obtain ⟨i0, hi, hz0, hz1, hz2⟩ : ∃ i, Tryz.prog.info? 3 = some i ∧ i.zero = some (.int .i64 0) ∧ i.size = 1 ∧ i.bytes = 8 := info_parts (by kernel_rfl)
  have HI := Lib.hid (⟨hi, hz0, hz1, hz2⟩ : Tryz.prog.info? 3 = some i0 ∧ i0.zero = some (.int .i64 0) ∧ i0.size = 1 ∧ i0.bytes = 8)
  clear hi hz0 hz1 hz2
  go_enter Tryz.func36, Tryz.ntmps36
  go_wp2_with fail
  have hB := below_allocs w0 [Obj.cells #[Value.int .i64 0, .int .i64 0, .slice none 0 0] 24, Obj.cells #[Value.int .i64 2, .int .i64 2, .slice none 0 0] 24]
  have g0 := blk_at w0 [Obj.cells #[Value.int .i64 0, .int .i64 0, .slice none 0 0] 24, Obj.cells #[Value.int .i64 2, .int .i64 2, .slice none 0 0] 24] 0 _ _ rfl
  have g1 := blk_at w0 [Obj.cells #[Value.int .i64 0, .int .i64 0, .slice none 0 0] 24, Obj.cells #[Value.int .i64 2, .int .i64 2, .slice none 0 0] 24] 1 _ _ rfl
  simp only [List.foldl_cons, List.foldl_nil, Nat.add_zero] at hB g0 g1
  replace hB := hB.1
  generalize (w0.alloc (Obj.cells #[Value.int .i64 0, .int .i64 0, .slice none 0 0] 24)).alloc (Obj.cells #[Value.int .i64 2, .int .i64 2, .slice none 0 0] 24) = w1 at *
  obtain ⟨mb, hmb⟩ : ∃ mb, w0.heap.size + 1 = mb := ⟨_, rfl⟩
  rw [hmb] at g1 ⊢
  have hmb1 : w0.heap.size + 1 ≤ mb := by omega
  clear hmb
  go_loopw [4] (fun i wr => ∃ j : Nat, j ≤ n ∧ i = .int .i64 j ∧ ∃ ov, Blk wr mb #[.int .i64 2, .int .i64 2, ov] 24 ∧ wr.ownsRow w0.heap.size 3 1 ov j ((zs.take j).map fun z => .int .i64 (z * 4294967296)) ∧ Below w0.heap.size w0 wr ∧ Blk wr w0.heap.size #[.int .i64 0, .int .i64 0, .slice none 0 0] 24) (fun i _ => n - (intOf i).toNat)
  case atStart => exact ⟨0, Nat.zero_le _, rfl, _, g1, World.ownsRow_nil _ _ _ _, hB, g0⟩
  case round =>
    clear g0 g1 hB
    obtain ⟨j, hj, rfl, ov, hov, hrow, hB, g0⟩ := hrel
    by_cases hlt : j < n
    · have hlt' : (j : Int) < (n : Int) := by omega
      have hj0 : (0 : Int) ≤ (j : Int) := by omega
      have hjz : j < zs.length := by rw [HN.out]; exact hlt
      have HTK := Lib.hid (show ((zs.take (j + 1)).map fun z => Value.int .i64 (z * 4294967296)) = ((zs.take j).map fun z => Value.int .i64 (z * 4294967296)) ++ [Value.int .i64 (zs[j] * 4294967296)] by rw [List.take_succ_eq_append_getElem hjz, List.map_append]; rfl)
      have hzb := hz zs[j] (List.getElem_mem hjz)
      have hcell : ∀ W, Below w0.heap.size w0 W → W.cell? (x.add j) = some (.int .i64 zs[j]) := fun W hb => by
        obtain ⟨y, hy, hc⟩ := (h.keep hb).cell j hjz
        cases hy; exact hc
      generalize zs[j] = z at *
      obtain ⟨xs, hxs⟩ : ∃ xs, ((zs.take j).map fun z => Value.int .i64 (z * 4294967296)) = xs := ⟨_, rfl⟩
      rw [hxs] at HTK hrow
      clear hxs hjz
      have hwz : IntKind.i64.wrap (z * 4294967296) = z * 4294967296 := IntWalk.i64_in _ (by omega)
      have hmlt := hov.lt
      have HGE := Lib.hid (show ∀ W, Eff (fun k => k = mb ∨ ov.ownBlock = some k) wr W → Blk W w0.heap.size #[.int .i64 0, .int .i64 0, .slice none 0 0] 24 from fun W hE => hE.blk g0 (fun h => by
        rcases h with h | h
        · omega
        · obtain ⟨cs', q, hc⟩ := (row_ty hrow _ h).1
          have := (show wr.heap[w0.heap.size]? = _ from g0).symm.trans hc
          simp at this))
      go_wp2_with fail
      have HS0 : ((fun _ : Nat => false) 10 = false → Blk wr.drew mb #[.int .i64 2, .int .i64 2, ov] 24) ∧ ((fun _ : Nat => false) 10 = true → Blk wr.drew mb #[.int .i64 2, .int .i64 2, (fun _ : Nat => undef) 8] 24) ∧ ((fun _ : Nat => false) 8 = false → wr.drew.ownsRow w0.heap.size 3 1 ov j xs) ∧ ((fun _ : Nat => false) 8 = true → wr.drew.ownsRow w0.heap.size 3 1 ((fun _ : Nat => undef) 8) (j + 1) (xs ++ [Value.int .i64 (z * 4294967296)])) ∧ Below w0.heap.size w0 wr.drew ∧ Eff (fun k => k = mb ∨ ov.ownBlock = some k) wr wr.drew :=
        ⟨fun _ => hov.drew, fun h => (by cases h), fun _ => ownsRow_keep hrow (upD (upR _)), fun h => (by cases h), more hB (upD (upR _)), Eff.of (upD (upR _))⟩
      clear hov hrow hB g0
      refine region_fp [some 12, some 13, some 14, some 15, some 16, some 17, some 18, some 19, some 20, some 21, none] [8, 10] [some (Value.pointer (some ⟨mb, 2, none⟩)), some (ov), some (Value.slice (some x) n k), some (Value.int .i64 (j : Int)), some (Value.pointer (some (x.add j))), some (Value.int .i64 z), some (Value.int .i64 (z * 4294967296)), none, none, some (Value.pointer (some ⟨mb, 2, none⟩)), none]
        (fun i v W => match i with | 7 => ∃ e1, v = Value.slice (some ⟨e1, 0, none⟩) 1 1 ∧ Blk W e1 #[Value.int .i64 (z * 4294967296)] 3 ∧ w0.heap.size ≤ e1 ∧ e1 ≠ mb ∧ (∀ k, ov.ownBlock = some k → k ≠ e1) | 8 => ∃ g' c', v = Value.slice (some ⟨g', 0, none⟩) (j + 1) c' | _ => True) (fun W W' => Eff (fun k => k = mb ∨ ov.ownBlock = some k) W W') (fun L f W => (L 10 = false → Blk W mb #[.int .i64 2, .int .i64 2, ov] 24) ∧ (L 10 = true → Blk W mb #[.int .i64 2, .int .i64 2, f 8] 24) ∧ (L 8 = false → W.ownsRow w0.heap.size 3 1 ov j xs) ∧ (L 8 = true → W.ownsRow w0.heap.size 3 1 (f 8) (j + 1) (xs ++ [Value.int .i64 (z * 4294967296)])) ∧ Below w0.heap.size w0 W ∧ Eff (fun k => k = mb ∨ ov.ownBlock = some k) wr W)
        (by kernel_rfl) (by kernel_rfl) (by kernel_rfl) (by kernel_rfl) (by kernel_rfl) (fun _ => Eff.refl _ _) (fun i v W W' h hb => by
          match i, h with
          | 7, ⟨e1, h1, h2, h3, h4, h5⟩ => exact ⟨e1, h1, hb.blk h2 (fun h => by rcases h with h | h; exact h4 h; exact h5 _ h rfl), h3, h4, h5⟩
          | 8, ⟨g', c', h1⟩ => exact ⟨g', c', h1⟩
          | 0, _ | 1, _ | 2, _ | 3, _ | 4, _ | 5, _ | 6, _ | 9, _ | 10, _ => trivial
          | (n + 11), _ => trivial) (fun L L' f f' W h hs => by have q8 := (h 8 (by decide)); have q10 := (h 10 (by decide)).1; (try dsimp only at hs ⊢); rw [← q8.1, ← q8.2, ← q10]; exact hs) HS0 ?_ ?_
      · intro i hi b' L f W hSW hL hdep hsh he hsv hsl hFF K hK1 hK2
        replace hi : i < 11 := hi
        have hcs : i = 0 ∨ i = 1 ∨ i = 2 ∨ i = 3 ∨ i = 4 ∨ i = 5 ∨ i = 6 ∨ i = 7 ∨ i = 8 ∨ i = 9 ∨ i = 10 := by omega
        clear hi
        rcases hcs with rfl | rfl | rfl | rfl | rfl | rfl | rfl | rfl | rfl | rfl | rfl
        · refine wpOpS_go rfl rfl ?_
          have t3 : b'.tmps[3]?.getD undef = Value.pointer (some ⟨mb, 0, none⟩) := he 3 (by kernel_rfl)
          have HK := Lib.hid hK1
          clear hK1 hK2 hdep hsh he hsv hsl hFF hL
          clear hSW
          go_simp
          exact HK.out rfl _ (fp_mk rfl rfl trivial)
        · refine wpOpS_go rfl rfl ?_
          have t12 : b'.tmps[12]?.getD undef = Value.pointer (some ⟨mb, 2, none⟩) := hsv 0 12 _ (by kernel_rfl) (by kernel_rfl) rfl
          obtain ⟨s0, s1, s2, s3, s4, s5⟩ := hSW
          have n10 := hsh 10 (by kernel_rfl)
          have c0 := (s0 n10).cell
          have HK := Lib.hid hK1
          clear hK1 hK2 hdep hsh he hsv hsl hFF hL
          clear s0 s1 s2 s3 s4 s5
          go_simp
          exact HK.out rfl _ (fp_mk rfl rfl trivial)
        · refine wpOpS_go rfl rfl ?_
          have t0 : b'.tmps[0]?.getD undef = Value.slice (some x) n k := he 0 (by kernel_rfl)
          have HK := Lib.hid hK1
          clear hK1 hK2 hdep hsh he hsv hsl hFF hL
          clear hSW
          go_simp
          exact HK.out rfl _ (fp_mk rfl rfl trivial)
        · refine wpOpS_go rfl rfl ?_
          have t4 : b'.tmps[4]?.getD undef = Value.int .i64 (j : Int) := he 4 (by kernel_rfl)
          have HK := Lib.hid hK1
          clear hK1 hK2 hdep hsh he hsv hsl hFF hL
          clear hSW
          go_simp
          exact HK.out rfl _ (fp_mk rfl rfl trivial)
        · refine wpOpS_go rfl rfl ?_
          have t14 : b'.tmps[14]?.getD undef = Value.slice (some x) n k := hsv 2 14 _ (by kernel_rfl) (by kernel_rfl) rfl
          have t15 : b'.tmps[15]?.getD undef = Value.int .i64 (j : Int) := hsv 3 15 _ (by kernel_rfl) (by kernel_rfl) rfl
          have HK := Lib.hid hK1
          clear hK1 hK2 hdep hsh he hsv hsl hFF hL
          clear hSW
          go_simp
          exact HK.out rfl _ (fp_mk rfl rfl trivial)
        · refine wpOpS_go rfl rfl ?_
          have t16 : b'.tmps[16]?.getD undef = Value.pointer (some (x.add j)) := hsv 4 16 _ (by kernel_rfl) (by kernel_rfl) rfl
          obtain ⟨s0, s1, s2, s3, s4, s5⟩ := hSW
          have c0 := hcell W s4
          have HK := Lib.hid hK1
          clear hK1 hK2 hdep hsh he hsv hsl hFF hL
          clear s0 s1 s2 s3 s4 s5
          go_simp
          exact HK.out rfl _ (fp_mk rfl rfl trivial)
        · refine wpOpS_go rfl rfl ?_
          have t17 : b'.tmps[17]?.getD undef = Value.int .i64 z := hsv 5 17 _ (by kernel_rfl) (by kernel_rfl) rfl
          have HK := Lib.hid hK1
          clear hK1 hK2 hdep hsh he hsv hsl hFF hL
          clear hSW
          go_simp
          exact HK.out rfl _ (fp_mk rfl rfl trivial)
        · refine wpOpS_go rfl rfl ?_
          have t18 : b'.tmps[18]?.getD undef = Value.int .i64 (z * 4294967296) := hsv 6 18 _ (by kernel_rfl) (by kernel_rfl) rfl
          obtain ⟨s0, s1, s2, s3, s4, s5⟩ := hSW
          have HK := Lib.hid hK2
          clear hK1 hK2 hdep he hsv hsl hFF hL
          have n8 := hsh 8 (by kernel_rfl)
          have hlt := fun k hk => ((s2 n8).lt k hk).2
          have hmlt := (s0 (hsh 10 (by kernel_rfl))).lt
          clear hsh
          refine op_slice1 (cs := #[Value.int .i64 (z * 4294967296)]) (t := 3) (by go_simp) ?_
          intro w' hbn hb hz
          exact HK.out _ _ (fp_x rfl ⟨_, rfl, hbn, s4.size, by omega, fun k hk => by have := hlt k hk; omega⟩) (Eff.of hb) ⟨fun h => (s0 h).keep hb, fun h => (s1 h).keep hb, fun h => ownsRow_keep (s2 h) hb, fun h => ownsRow_keep (s3 h) hb, more s4 hb, s5.trans (Eff.of (P := fun _ => False) hb) (fun _ _ h => h.elim)⟩
        · refine wpOpS_go rfl rfl ?_
          have t13 : b'.tmps[13]?.getD undef = ov := hsv 1 13 _ (by kernel_rfl) (by kernel_rfl) rfl
          obtain ⟨t19, hx6⟩ := hsl 7 19 (by kernel_rfl) (by kernel_rfl)
          obtain ⟨e1, e6, b6, le6, ne6, no6⟩ := hx6
          rw [e6] at t19
          obtain ⟨s0, s1, s2, s3, s4, s5⟩ := hSW
          have HK := Lib.hid hK2
          have hrow := s2 hL
          have n10 := hsh 10 (by kernel_rfl)
          clear hK1 hK2 hdep he hsv hsl hFF e6 hsh
          have hmb := s0 n10
          refine op_app_box (B := w0.heap.size) (n := j) (xs := xs) (cs := #[Value.int .i64 (z * 4294967296)]) Tryz.underlying22 ⟨_, HI.out⟩ rfl (by decide) (by decide) (.tmp 13) (.tmp 19) rfl (eval_tmp t13) hrow s4.size e1 rfl (eval_tmp t19) b6 (by intro u hu; simp at hu; subst hu; rfl) (by omega) ?_
          intro g' c' w' ho hg hgg
          have hne : ∀ {b : Nat} {cs : Array Value} {t : TypeId}, t ≠ 3 → Blk W b cs t → Blk w' b cs t := fun {b} {cs} {t} ht h => h.grown hg (fun e => by obtain ⟨cs', q, hc⟩ := (row_ty hrow b e.symm).1; have := (show W.heap[b]? = _ from h).symm.trans hc; simp at this; exact ht this.2.1)
          have hE' : Eff (fun k => k = mb ∨ ov.ownBlock = some k) W w' := Eff.grown hg (fun k hk => .inr hk)
          have hb0 : Below w0.heap.size w0 w' := s4.trans ⟨hg.os, hg.tape, hg.output, hg.size, fun k hk => hg.block k (by have := s4.size; omega) (fun e => by have := (hrow.lt k e.symm).1; omega)⟩
          exact HK.out _ _ (fp_x rfl ⟨g', c', rfl⟩) hE' ⟨fun h => hne (by decide) (s0 h), fun h => absurd h (by show ¬ L 10 = true; rw [n10]; decide), fun h => absurd h (by rw [updF_same]; decide), fun _ => by rw [updF_same]; exact ho, hb0, s5.trans hE' (fun _ _ h => h)⟩
        · refine wpOpS_go rfl rfl ?_
          have t3 : b'.tmps[3]?.getD undef = Value.pointer (some ⟨mb, 0, none⟩) := he 3 (by kernel_rfl)
          have HK := Lib.hid hK1
          clear hK1 hK2 hdep hsh he hsv hsl hFF hL
          clear hSW
          go_simp
          exact HK.out rfl _ (fp_mk rfl rfl trivial)
        · refine wpOpS_go rfl rfl ?_
          have t21 : b'.tmps[21]?.getD undef = Value.pointer (some ⟨mb, 2, none⟩) := hsv 9 21 _ (by kernel_rfl) (by kernel_rfl) rfl
          obtain ⟨t20, hx7⟩ := hsl 8 20 (by kernel_rfl) (by kernel_rfl)
          obtain ⟨g', c', e7⟩ := hx7
          obtain ⟨s0, s1, s2, s3, s4, s5⟩ := hSW
          have HK := Lib.hid hK2
          have hmb := s0 hL
          clear hK1 hK2 hdep hsh he hsv hsl hFF
          refine op_store 22 _ _ rfl rfl hmb 2 (eval_tmp t21) (eval_tmp t20) [f 8] (by rw [e7]; rfl) (by kernel_rfl) (by rw [e7]; rfl) (by rfl) #[.int .i64 2, .int .i64 2, f 8] rfl ?_
          intro w' h1 h2 h3
          have hE' := h2.mono (P' := fun k => k = mb ∨ ov.ownBlock = some k) (fun _ _ h => .inl h)
          have hb0 : Below w0.heap.size w0 w' := s4.trans ⟨h2.os, h2.tape, h2.output, h2.size, fun k hk => h2.block k (by have := s4.size; omega) (fun e => by omega)⟩
          have hnr : ∀ {u : Value} {n : Nat} {ys : List Value}, W.ownsRow w0.heap.size 3 1 u n ys → w'.ownsRow w0.heap.size 3 1 u n ys := fun {u} {n} {ys} h => ownsRow_eff h h2 (fun k hk e => by subst e; obtain ⟨cs', q, hc⟩ := (row_ty h k hk).1; have := (show W.heap[k]? = _ from hmb).symm.trans hc; simp at this)
          exact HK.out undef _ (fp_x (v := undef) rfl trivial) hE' ⟨fun h => absurd h (by rw [updF_same]; decide), fun _ => h1, fun h => hnr (s2 h), fun h => hnr (s3 h), hb0, s5.trans hE' (fun _ _ h => h)⟩
      · intro f W hf L hL hS
        obtain ⟨s0, s1, s2, s3, s4, s5⟩ := (hS : _ ∧ _ ∧ _ ∧ _ ∧ _ ∧ _)
        obtain ⟨q1, e7, b6, le6, ne6, no6⟩ := (hf 7 (by decide)).2
        obtain ⟨g', c', e8⟩ := (hf 8 (by decide)).2
        replace s1 := s1 (hL 10 (by decide))
        replace s3 := s3 (hL 8 (by decide))
        rw [e8] at s1 s3
        have e0 : f 0 = Value.pointer (some ⟨mb, 2, none⟩) := (hf 0 (by decide)).1 _ rfl
        have e1 : f 1 = ov := (hf 1 (by decide)).1 _ rfl
        have e2 : f 2 = Value.slice (some x) n k := (hf 2 (by decide)).1 _ rfl
        have e3 : f 3 = Value.int .i64 (j : Int) := (hf 3 (by decide)).1 _ rfl
        have e4 : f 4 = Value.pointer (some (x.add j)) := (hf 4 (by decide)).1 _ rfl
        have e5 : f 5 = Value.int .i64 z := (hf 5 (by decide)).1 _ rfl
        have e6 : f 6 = Value.int .i64 (z * 4294967296) := (hf 6 (by decide)).1 _ rfl
        have e9 : f 9 = Value.pointer (some ⟨mb, 2, none⟩) := (hf 9 (by decide)).1 _ rfl
        clear hf hL s0 s2
        simp only [puts2, Act.put, e0, e1, e2, e3, e4, e5, e6, e7, e8, e9]
        try simp only [List.setIfInBounds_toArray, List.set_cons_zero, List.set_cons_succ]
        go_wp2_with fail
        go_roundw
        case rel => exact ⟨j + 1, by omega, by go_num, _, s1, by rw [HTK.out]; exact s3, s4, HGE.out _ s5⟩
        case measure => simp [intOf]; omega
    · have hge : ¬ (j : Int) < (n : Int) := by omega
      have hjn : j = zs.length := by rw [HN.out]; omega
      have HJ := Lib.hid hjn
      rw [hjn, List.take_length] at hrow
      have HROW := Lib.hid hrow
      obtain ⟨gv, cv, rfl⟩ := Joins.ownsRow_form hrow (by rw [HN.out]; exact h0)
      rw [HN.out] at hov
      have o0 := hov.cell
      clear hjn hrow
      go_wp2_with ((with_reducible refine at_st (p := 2) (q := 22) rfl ?_); refine ev_store rfl 24 _ _ rfl rfl g0 0 rfl rfl [.int .i64 2, .int .i64 2, .slice (some ⟨gv, 0, none⟩) n cv] rfl (by kernel_rfl) rfl rfl #[.int .i64 2, .int .i64 2, .slice (some ⟨gv, 0, none⟩) n cv] rfl ?_; intro w6 g6 ef hz6)
      have hrow6 := ownsRow_eff HROW.out ef (fun k hk e => by
        subst e
        obtain ⟨cs', q, hc⟩ := (row_ty HROW.out _ hk).1
        have := (show wr.heap[w0.heap.size]? = _ from g0).symm.trans hc
        simp at this)
      rw [show (zs.map fun z => Value.int .i64 (z * 4294967296)) = ((zs.map fun z => z * 4294967296).map fun z => Value.int .i64 z) by rw [List.map_map]; rfl] at hrow6
      have hr64 : ∀ z ∈ zs.map (fun z => z * 4294967296), I64 z := fun z hzz => by
        obtain ⟨y, hy, rfl⟩ := List.mem_map.1 hzz
        have := hz y hy
        unfold I64; omega
      have hlm : (zs.map fun z => z * 4294967296).length = n := by rw [List.length_map]; exact HN.out
      refine bodyPost_ret (results_cell_row rfl _ _ _ 24 #[.int .i64 2, .int .i64 2, .slice (some ⟨gv, 0, none⟩) n cv] (0, 0) _ rfl g6 Tryz.underlying24 rfl (by kernel_rfl)) rfl ?_
      refine ⟨_, rfl, ⟨⟨some ⟨gv, 0, none⟩, cv, by show _ = Value.agg #[.int .i64 2, .int .i64 2, .slice _ (zs.map fun z => z * 4294967296).length _]; rw [hlm], ?_⟩, i64_lit (z := 2) (by decide), i64_lit (z := 2) (by decide)⟩, ef.below hB (fun k hk => by omega), gv, cv, rfl⟩
      rw [HN.out] at hrow6
      exact (OI.of_row (v := .slice none 0 0) hrow6 hr64).1.li
theorem whole2_is {w0 : World} {x : Addr} {k : Nat} {zs : List Int} (h : MI 0 w0 (some x) k zs) (hz : ∀ z ∈ zs, -1000000 ≤ z ∧ z ≤ 1000000) (hl : zs.length ≤ 1000) (h0 : 0 < zs.length) :
    Calls Tryz.prog 36 #[.slice (some x) zs.length k] w0 fun e w' => ∃ v, e = .returned v ∧ MO w0.heap.size w' v (ofM 2 zs) ∧ Below w0.heap.size w0 w' :=
  (whole2_is2 h hz hl h0).mono fun e w' ⟨v, h1, h2, h3, _⟩ => ⟨v, h1, h2, h3⟩

end Go.Proofs.YtkjbidpafnmogaaGreat.Base
namespace Go.Proofs.YtkjbidpafnmogaaGreat.Base
open Go.RowKit Go Go.Shelf Go.Deep
set_option linter.unusedVariables false
set_option linter.unusedSimpArgs false

def zeroMat : Value := .agg #[.int .i64 0, .int .i64 0, .slice none 0 0]
/-- Why nothing is told. -/
def Ref (p v : Value) (ticks least r : Int) (w0 : World) : Prop := ∀ W, Below w0.heap.size w0 W → Calls Tryz.prog 64 #[p, v, .int .i64 ticks, .int .i64 least] W fun e w' => e = .returned (.int .i64 r) ∧ Below W.heap.size W w'

set_option maxHeartbeats 2000000 in
set_option maxRecDepth 100000 in
theorem mSpan_ref {w0 : World} {p : Value} {v : Value} {M : Mdl} (hM : MM 0 w0 v M) {ticks r : Int} (hr : r ≠ 0) (hR : Ref p v ticks (-1099511627776) r w0) :
    Calls Tryz.prog 35 #[p, v, .int .i64 ticks] w0 fun e w' => e = .returned (.tuple #[.int .i64 0, .int .i64 r]) ∧ Below w0.heap.size w0 w' := by
  obtain ⟨aA, cA, aQ, cQ, aR, cR, rfl, _⟩ := hM.ex
  clear hM
  unfold Ref at hR
  have HR := Lib.hid hR
  clear hR
  obtain ⟨la, hla⟩ : ∃ n, M.A.length = n := ⟨_, rfl⟩
  obtain ⟨lq, hlq⟩ : ∃ n, M.Q.length = n := ⟨_, rfl⟩
  obtain ⟨lr, hlr⟩ : ∃ n, M.rows.length = n := ⟨_, rfl⟩
  rw [hla, hlq, hlr] at HR ⊢
  clear hla hlq hlr
  have hr' : (r == 0) = false := beq_false_of_ne hr
  have hB := upA (upR w0) (Obj.cells #[.int .i64 M.n, .slice aA la cA, .slice aQ lq cQ, .int .i64 M.tick, .int .i64 M.gate, .int .i64 M.rmin, .slice aR lr cR] 54)
  have d0 := (Blk.new w0 #[.int .i64 M.n, .slice aA la cA, .slice aQ lq cQ, .int .i64 M.tick, .int .i64 M.gate, .int .i64 M.rmin, .slice aR lr cR] 54).cell
  go_enter Tryz.func35, Tryz.ntmps35
  go_wp2_with fail
  clear d0
  refine (HR.out _ hB).mono ?_
  rintro e w2 ⟨rfl, hK⟩
  replace hB := more hB hK
  go_wp2_with fail
  go_ret2
  exact ⟨rfl, hB⟩
set_option maxHeartbeats 2000000 in
set_option maxRecDepth 100000 in
theorem mFlow_ref {w0 : World} {p : Value} {v : Value} {M : Mdl} (hM : MM 0 w0 v M) {ticks r : Int} (hr : r ≠ 0) (hR : Ref p v ticks (-1099511627776) r w0) :
    Calls Tryz.prog 31 #[p, v, .int .i64 ticks] w0 fun e w' => e = .returned (.tuple #[.agg #[.int .i64 0, .int .i64 0, .slice none 0 0], .int .i64 r]) ∧ Below w0.heap.size w0 w' := by
  obtain ⟨aA, cA, aQ, cQ, aR, cR, rfl, _⟩ := hM.ex
  clear hM
  unfold Ref at hR
  have HR := Lib.hid hR
  clear hR
  obtain ⟨la, hla⟩ : ∃ n, M.A.length = n := ⟨_, rfl⟩
  obtain ⟨lq, hlq⟩ : ∃ n, M.Q.length = n := ⟨_, rfl⟩
  obtain ⟨lr, hlr⟩ : ∃ n, M.rows.length = n := ⟨_, rfl⟩
  rw [hla, hlq, hlr] at HR ⊢
  clear hla hlq hlr
  have hr' : (r == 0) = false := beq_false_of_ne hr
  have hB := below_allocs w0 [Obj.cells #[.int .i64 M.n, .slice aA la cA, .slice aQ lq cQ, .int .i64 M.tick, .int .i64 M.gate, .int .i64 M.rmin, .slice aR lr cR] 54, Obj.cells #[Value.int .i64 0, .int .i64 0, .slice none 0 0] 24]
  have g0 := blk_at w0 [Obj.cells #[.int .i64 M.n, .slice aA la cA, .slice aQ lq cQ, .int .i64 M.tick, .int .i64 M.gate, .int .i64 M.rmin, .slice aR lr cR] 54, Obj.cells #[Value.int .i64 0, .int .i64 0, .slice none 0 0] 24] 0 _ _ rfl
  have g1 := blk_at w0 [Obj.cells #[.int .i64 M.n, .slice aA la cA, .slice aQ lq cQ, .int .i64 M.tick, .int .i64 M.gate, .int .i64 M.rmin, .slice aR lr cR] 54, Obj.cells #[Value.int .i64 0, .int .i64 0, .slice none 0 0] 24] 1 _ _ rfl
  simp only [List.foldl_cons, List.foldl_nil, Nat.add_zero] at hB g0 g1
  replace hB := hB.1
  have d0 := g0.cell
  go_enter Tryz.func31, Tryz.ntmps31
  go_wp2_with fail
  clear d0 g0
  refine (HR.out _ hB).mono ?_
  rintro e w2 ⟨rfl, hK⟩
  replace hB := more hB hK
  replace g1 := g1.keep hK
  go_wp2_with ((with_reducible refine at_st (p := 6) (q := 15) rfl ?_); refine ev_store rfl 24 _ _ rfl rfl g1 0 rfl rfl [.int .i64 0, .int .i64 0, .slice none 0 0] rfl (by kernel_rfl) rfl rfl #[.int .i64 0, .int .i64 0, .slice none 0 0] rfl ?_; intro w8 g8 ef hz8)
  refine bodyPost_ret (results_ct (g := w0.heap.size + 1) (cs := #[.int .i64 0, .int .i64 0, .slice none 0 0]) rfl _ _ rfl g8 Tryz.underlying24 rfl (by kernel_rfl)) rfl ?_
  exact ⟨rfl, ef.below hB (fun k hk => by omega)⟩
set_option maxHeartbeats 2000000 in
set_option maxRecDepth 100000 in
theorem mNoise_ref {w0 : World} {p : Value} {v : Value} {M : Mdl} (hM : MM 0 w0 v M) {ticks r : Int} (hr : r ≠ 0) (hR : Ref p v ticks 0 r w0) :
    Calls Tryz.prog 30 #[p, v, .int .i64 ticks] w0 fun e w' => e = .returned (.tuple #[.agg #[.int .i64 0, .int .i64 0, .slice none 0 0], .int .i64 r]) ∧ Below w0.heap.size w0 w' := by
  obtain ⟨aA, cA, aQ, cQ, aR, cR, rfl, _⟩ := hM.ex
  clear hM
  unfold Ref at hR
  have HR := Lib.hid hR
  clear hR
  obtain ⟨la, hla⟩ : ∃ n, M.A.length = n := ⟨_, rfl⟩
  obtain ⟨lq, hlq⟩ : ∃ n, M.Q.length = n := ⟨_, rfl⟩
  obtain ⟨lr, hlr⟩ : ∃ n, M.rows.length = n := ⟨_, rfl⟩
  rw [hla, hlq, hlr] at HR ⊢
  clear hla hlq hlr
  have hr' : (r == 0) = false := beq_false_of_ne hr
  have hB := below_allocs w0 [Obj.cells #[.int .i64 M.n, .slice aA la cA, .slice aQ lq cQ, .int .i64 M.tick, .int .i64 M.gate, .int .i64 M.rmin, .slice aR lr cR] 54, Obj.cells #[Value.int .i64 0, .int .i64 0, .slice none 0 0] 24]
  have g0 := blk_at w0 [Obj.cells #[.int .i64 M.n, .slice aA la cA, .slice aQ lq cQ, .int .i64 M.tick, .int .i64 M.gate, .int .i64 M.rmin, .slice aR lr cR] 54, Obj.cells #[Value.int .i64 0, .int .i64 0, .slice none 0 0] 24] 0 _ _ rfl
  have g1 := blk_at w0 [Obj.cells #[.int .i64 M.n, .slice aA la cA, .slice aQ lq cQ, .int .i64 M.tick, .int .i64 M.gate, .int .i64 M.rmin, .slice aR lr cR] 54, Obj.cells #[Value.int .i64 0, .int .i64 0, .slice none 0 0] 24] 1 _ _ rfl
  simp only [List.foldl_cons, List.foldl_nil, Nat.add_zero] at hB g0 g1
  replace hB := hB.1
  have d0 := g0.cell
  go_enter Tryz.func30, Tryz.ntmps30
  go_wp2_with fail
  clear d0 g0
  refine (HR.out _ hB).mono ?_
  rintro e w2 ⟨rfl, hK⟩
  replace hB := more hB hK
  replace g1 := g1.keep hK
  go_wp2_with ((with_reducible refine at_st (p := 6) (q := 18) rfl ?_); refine ev_store rfl 24 _ _ rfl rfl g1 0 rfl rfl [.int .i64 0, .int .i64 0, .slice none 0 0] rfl (by kernel_rfl) rfl rfl #[.int .i64 0, .int .i64 0, .slice none 0 0] rfl ?_; intro w8 g8 ef hz8)
  refine bodyPost_ret (results_ct (g := w0.heap.size + 1) (cs := #[.int .i64 0, .int .i64 0, .slice none 0 0]) rfl _ _ rfl g8 Tryz.underlying24 rfl (by kernel_rfl)) rfl ?_
  exact ⟨rfl, ef.below hB (fun k hk => by omega)⟩

/-- A model of two numbers. -/
def twoM (mv a q : Int) : Mdl := ⟨2, [0, mv * 4294967296, 0, 0], [a * 4294967296, q * 4294967296], 4294967296, 1, 1, []⟩
theorem MR.nil (W : World) : MR 0 W none 0 [] := ⟨fun k hk => by simp at hk, by simp, fun x hx => by simp at hx, fun _ => rfl, by simp⟩
set_option maxHeartbeats 2000000 in
set_option maxRecDepth 100000 in
theorem two11_is {w0 : World} {b : Nat} {c : Bool} (hU : UP w0 b c) (mv a q : Int) (hm : mv.natAbs ≤ 1000) (ha : a.natAbs ≤ 1000) (hq : q.natAbs ≤ 1000) :
    Calls Tryz.prog 29 #[.int .i64 mv, .int .i64 a, .int .i64 q] w0 fun e w' => ∃ v, e = .returned v ∧ MW b w' v (twoM mv a q) ∧ Below w0.heap.size w0 w' := by
  have hw1 : IntKind.i64.wrap (mv * 4294967296) = mv * 4294967296 := IntWalk.i64_in _ (by omega)
  have hw2 : IntKind.i64.wrap (a * 4294967296) = a * 4294967296 := IntWalk.i64_in _ (by omega)
  have hw3 : IntKind.i64.wrap (q * 4294967296) = q * 4294967296 := IntWalk.i64_in _ (by omega)
  go_enter Tryz.func29, Tryz.ntmps29
  go_wp2_with fail
  have hB := below_allocs w0 [Obj.cells #[Value.int .i64 2, .slice (some ⟨w0.heap.size + 1, 0, none⟩) 4 4, .slice (some ⟨w0.heap.size + 1 + 1, 0, none⟩) 2 2, .int .i64 4294967296, .int .i64 1, .int .i64 1, .slice none 0 0] 54, Obj.cells #[Value.int .i64 0, .int .i64 (mv * 4294967296), .int .i64 0, .int .i64 0] 3, Obj.cells #[Value.int .i64 (a * 4294967296), .int .i64 (q * 4294967296)] 3]
  have g0 := blk_at w0 [Obj.cells #[Value.int .i64 2, .slice (some ⟨w0.heap.size + 1, 0, none⟩) 4 4, .slice (some ⟨w0.heap.size + 1 + 1, 0, none⟩) 2 2, .int .i64 4294967296, .int .i64 1, .int .i64 1, .slice none 0 0] 54, Obj.cells #[Value.int .i64 0, .int .i64 (mv * 4294967296), .int .i64 0, .int .i64 0] 3, Obj.cells #[Value.int .i64 (a * 4294967296), .int .i64 (q * 4294967296)] 3] 0 _ _ rfl
  have g1 := blk_at w0 [Obj.cells #[Value.int .i64 2, .slice (some ⟨w0.heap.size + 1, 0, none⟩) 4 4, .slice (some ⟨w0.heap.size + 1 + 1, 0, none⟩) 2 2, .int .i64 4294967296, .int .i64 1, .int .i64 1, .slice none 0 0] 54, Obj.cells #[Value.int .i64 0, .int .i64 (mv * 4294967296), .int .i64 0, .int .i64 0] 3, Obj.cells #[Value.int .i64 (a * 4294967296), .int .i64 (q * 4294967296)] 3] 1 _ _ rfl
  have g2 := blk_at w0 [Obj.cells #[Value.int .i64 2, .slice (some ⟨w0.heap.size + 1, 0, none⟩) 4 4, .slice (some ⟨w0.heap.size + 1 + 1, 0, none⟩) 2 2, .int .i64 4294967296, .int .i64 1, .int .i64 1, .slice none 0 0] 54, Obj.cells #[Value.int .i64 0, .int .i64 (mv * 4294967296), .int .i64 0, .int .i64 0] 3, Obj.cells #[Value.int .i64 (a * 4294967296), .int .i64 (q * 4294967296)] 3] 2 _ _ rfl
  simp only [List.foldl_cons, List.foldl_nil, Nat.add_zero] at hB g0 g1 g2
  replace hB := hB.1
  have hlt := hU.lt
  have hA : ML b _ (some ⟨w0.heap.size + 1, 0, none⟩) 4 [0, mv * 4294967296, 0, 0] := ⟨MI.of_blk (zs := [0, mv * 4294967296, 0, 0]) g1 (Nat.zero_le _) (fun z hz => by simp at hz; unfold I64; omega) (show (4 : Nat) ≤ 1000 by decide), fun x hx _ => by cases hx; show w0.heap.size + 1 ≠ b; omega⟩
  have hQ : ML b _ (some ⟨w0.heap.size + 2, 0, none⟩) 2 [a * 4294967296, q * 4294967296] := ⟨MI.of_blk (zs := [a * 4294967296, q * 4294967296]) g2 (Nat.zero_le _) (fun z hz => by simp at hz; unfold I64; omega) (show (2 : Nat) ≤ 1000 by decide), fun x hx _ => by cases hx; show w0.heap.size + 2 ≠ b; omega⟩
  refine bodyPost_ret (results_cell_row rfl _ _ _ 54 #[Value.int .i64 2, .slice (some ⟨w0.heap.size + 1, 0, none⟩) 4 4, .slice (some ⟨w0.heap.size + 1 + 1, 0, none⟩) 2 2, .int .i64 4294967296, .int .i64 1, .int .i64 1, .slice none 0 0] (0, 0) _ rfl g0 Tryz.underlying54 rfl (by kernel_rfl)) rfl ?_
  refine ⟨_, rfl, ⟨⟨_, _, _, _, none, 0, rfl, hA, hQ⟩, fun W' k => ⟨⟨_, _, _, _, none, 0, rfl, (hA.but k).mi, (hQ.but k).mi, MR.nil W'⟩, i64_lit (z := 2) (by decide), i64_lit (z := 4294967296) (by decide), i64_lit (z := 1) (by decide), i64_lit (z := 1) (by decide)⟩⟩, hB⟩

end Go.Proofs.YtkjbidpafnmogaaGreat.Base
namespace Go.Proofs.YtkjbidpafnmogaaGreat.Base
open Go.RowKit Go Go.Shelf Go.Deep
set_option linter.unusedVariables false
set_option linter.unusedSimpArgs false

theorem okM_two {mv a q : Int} (hm : mv.natAbs ≤ 16) (ha : 0 ≤ a ∧ a ≤ 16) (hq : 0 ≤ q ∧ q ≤ 16) : okM (twoM mv a q) := by
  refine ⟨⟨show (1 : Int) ≤ 2 by decide, show (2 : Int) ≤ 6 by decide⟩, ⟨fun j hb => ?_, rfl⟩, ⟨rfl, fun ⟨z, hz, ho⟩ => ?_⟩, ⟨⟨show (1 : Int) ≤ 4294967296 by decide, show (4294967296 : Int) ≤ 4294967296 by decide⟩, show (1 : Int) ≤ 1 by decide, show (1 : Int) ≤ 1 by decide⟩, ⟨fun j ⟨h, _⟩ => absurd h (Nat.not_lt_zero j), Nat.zero_le _⟩⟩
  · obtain ⟨h, hne, hor⟩ := hb
    have h4 : j < 4 := h
    have hj : j = 0 ∨ j = 1 ∨ j = 2 ∨ j = 3 := by omega
    rcases hj with rfl | rfl | rfl | rfl
    · exact hne rfl
    · rcases hor with e | e
      · exact absurd e (show ¬ ((1 : Nat) : Int) % 2 ≤ ((1 : Nat) : Int) / 2 by decide)
      · have e' : farP (mv * 4294967296) := e
        unfold farP at e'
        omega
    · exact hne rfl
    · exact hne rfl
  · have hz' : z ∈ [a * 4294967296, q * 4294967296] := hz
    simp at hz'
    unfold offP at ho
    omega
theorem okM_twoN {mv a q : Int} (hm : mv.natAbs ≤ 16) (ha : 0 ≤ a ∧ a ≤ 16) (hq : 0 ≤ q ∧ q ≤ 16) : (twoM mv a q).rows.length ≤ 1000 := Nat.zero_le _
theorem MO.two {B : Nat} {W : World} {v : Value} {m : Mt} {zs : List Int} (h : MO B W v m) (hm : m = ofM 2 zs) (hl : zs.length = 4) : ∃ a k, v = .agg #[.int .i64 2, .int .i64 2, .slice a 4 k] ∧ LI B W a k (zs.map fun z => z * 4294967296) := by
  subst hm
  obtain ⟨a, k, h1, h2⟩ := h.ex
  refine ⟨a, k, ?_, h2⟩
  rw [h1]
  show Value.agg #[.int .i64 2, .int .i64 2, .slice a (zs.map fun z => z * 4294967296).length k] = _
  rw [List.length_map, hl]
theorem same_two {W : World} {zs : List Int} (hl : zs.length = 4) {a1 a2 : Option Addr} {k1 k2 : Nat} (h1 : MI 0 W a1 k1 (zs.map fun z => z * 4294967296)) (h2 : MI 0 W a2 k2 (zs.map fun z => z * 4294967296)) :
    Calls Tryz.prog 19 #[.agg #[.int .i64 2, .int .i64 2, .slice a1 4 k1], .agg #[.int .i64 2, .int .i64 2, .slice a2 4 k2]] W fun e w' => e = .returned (.bool true) ∧ Below W.heap.size W w' := by
  have h := sameMat_is (m1 := ofM 2 zs) (m2 := ofM 2 zs) h1 h2
  rw [decide_eq_true ⟨rfl, rfl, rfl⟩] at h
  have e : (ofM 2 zs).v.length = 4 := by show (zs.map fun z => z * 4294967296).length = 4; rw [List.length_map, hl]
  rw [e] at h
  exact h
set_option maxRecDepth 100000 in
theorem flow_w1 : (mflowM (twoM 1 0 3) 2).1 = ofM 2 [1, 2, 0, 1] := by kernel_rfl
set_option maxRecDepth 100000 in
theorem noise_w1 : (noiseM (twoM 1 0 3) 2).1 = ofM 2 [8, 6, 6, 6] := by kernel_rfl
/-- A 2x2 matrix of whole numbers, boxed. -/
structure Bx2 (g : Nat) (a : Option Addr) (k : Nat) (zs : List Int) (W : World) : Prop where
  bk : Blk W g #[.int .i64 2, .int .i64 2, .slice a 4 k] 24
  l : MI 0 W a k (zs.map fun z => z * 4294967296)
theorem Bx2.keep {g : Nat} {a : Option Addr} {k : Nat} {zs : List Int} {W W' : World} (h : Bx2 g a k zs W) (hb : Below W.heap.size W W') : Bx2 g a k zs W' := ⟨h.bk.keep hb, h.l.keep hb⟩
theorem Bx2.but {g b : Nat} {c : Bool} {a : Option Addr} {k : Nat} {zs : List Int} {W W' : World} (h : Bx2 g a k zs W) (hU : UP W b c) (hb : But b W W') (hl : LI 0 W a k (zs.map fun z => z * 4294967296)) : Bx2 g a k zs W' := by
  obtain ⟨mm, hm⟩ := hU
  exact ⟨hb.blk h.bk (blk_ne h.bk hm (by decide)), (hl.but ⟨mm, hm⟩ hb).mi⟩

set_option maxHeartbeats 8000000 in
set_option maxRecDepth 100000 in
theorem awake11_is (w0 : World) : Calls Tryz.prog 27 #[] w0 fun e w' => e = .returned (.bool true) ∧ Below w0.heap.size w0 w' := by
  go_enter Tryz.func27, Tryz.ntmps27
  go_wp2_with fail
  refine (uNew_is w0).mono ?_
  rintro e w1 ⟨rfl, hU, hB⟩
  obtain ⟨b, hbb⟩ : ∃ b, w0.heap.size = b := ⟨_, rfl⟩
  have hub : w0.heap.size ≤ b := by omega
  rw [hbb] at hU ⊢
  clear hbb
  have HOK := Lib.hid (okM_two (mv := 1) (a := 0) (q := 3) (by decide) (by decide) (by decide))
  go_wp2_with fail
  refine (two11_is hU 1 0 3 (by decide) (by decide) (by decide)).mono ?_
  rintro e w2 ⟨v, rfl, hMW, hK⟩
  replace hU := hU.keep hK
  replace hB := more hB hK
  have hF := mFlow_is hU hMW (Nat.zero_le _) HOK.out 2 (by decide) (by decide)
  have HF := Lib.hid hF
  clear hK hF hMW
  go_wp2_with fail
  refine HF.out.mono ?_
  rintro e w3 ⟨v, rfl, hmo, hU3, hB3⟩
  obtain ⟨a3, k3, rfl, hL3⟩ := hmo.two flow_w1 rfl
  replace hB := hB.trans (hB3.below hub hB.size)
  have hBA := upA (upR w3) (Obj.cells #[Value.int .i64 2, .int .i64 2, .slice a3 4 k3] 24)
  have b3 : Bx2 w3.heap.size a3 k3 [1, 2, 0, 1] _ := ⟨Blk.new w3 #[Value.int .i64 2, .int .i64 2, .slice a3 4 k3] 24, (hL3.mi.mono (Nat.zero_le _)).keep hBA⟩
  have l3 := (hL3.mono (Nat.zero_le _)).keep hBA
  replace hB := more hB hBA
  replace hU := hU3.keep hBA
  clear hU3 hB3 HF hmo hL3
  go_wp2_with fail
  generalize w3.alloc (Obj.cells #[Value.int .i64 2, .int .i64 2, .slice a3 4 k3] 24) = w4 at *
  obtain ⟨g3, hg3⟩ : ∃ g, w3.heap.size = g := ⟨_, rfl⟩
  rw [hg3] at b3 ⊢
  clear hBA hg3
  refine (two11_is hU 1 0 3 (by decide) (by decide) (by decide)).mono ?_
  rintro e w5 ⟨v, rfl, hMW, hK⟩
  replace hU := hU.keep hK
  replace hB := more hB hK
  replace b3 := b3.keep hK
  replace l3 := l3.keep hK
  have HF := Lib.hid (mNoise_is hU hMW (Nat.zero_le _) HOK.out 2 (by decide) (by decide))
  clear hK hMW
  go_wp2_with fail
  refine HF.out.mono ?_
  rintro e w6 ⟨v, rfl, hmo, hU6, hB6⟩
  obtain ⟨a6, k6, rfl, hL6⟩ := hmo.two noise_w1 rfl
  replace hB := hB.trans (hB6.below hub hB.size)
  replace b3 := b3.but hU hB6 l3
  have hBA := (upA (upR w6) (Obj.cells #[Value.int .i64 2, .int .i64 2, .slice a6 4 k6] 24)).drew
  have b6 : Bx2 w6.heap.size a6 k6 [8, 6, 6, 6] _ := ⟨(Blk.new w6 #[Value.int .i64 2, .int .i64 2, .slice a6 4 k6] 24).drew, (hL6.mi.mono (Nat.zero_le _)).keep hBA⟩
  replace hB := more hB hBA
  replace b3 := b3.keep hBA
  clear hU6 hB6 HF hmo hL6 l3 hU
  go_wp2_with fail
  obtain ⟨g6, hg6⟩ : ∃ g, w6.heap.size = g := ⟨_, rfl⟩
  rw [hg6] at b6 ⊢
  have HS0 := (show Bx2 g3 a3 k3 [1, 2, 0, 1] _ ∧ Bx2 g6 a6 k6 [8, 6, 6, 6] _ ∧ Below w0.heap.size w0 _ from ⟨b3, b6, hB⟩)
  clear hBA hg6 b3 b6 hB HOK hub
  refine region_fp [some 19, some 20, some 21, some 22, some 23, some 24, some 25, some 26, some 27, some 28, some 29, some 30, some 31, some 32, some 33, some 34, some 35, some 36, some 0] [] [some (Value.int .i64 0), some (Value.bool true), some (Value.bool true), some (Value.int .i64 0), some (Value.bool true), some (Value.bool true), some (Value.bool true), some (Value.agg #[Value.int .i64 2, Value.int .i64 2, Value.slice a3 4 k3]), none, none, some (Value.bool true), some (Value.bool true), some (Value.bool true), some (Value.agg #[Value.int .i64 2, Value.int .i64 2, Value.slice a6 4 k6]), none, none, some (Value.bool true), some (Value.bool true), some (Value.bool true)]
    (fun i v W => match i with | 8 => ∃ e1, v = Value.slice (some ⟨e1, 0, none⟩) 4 4 ∧ Blk W e1 #[Value.int .i64 1, Value.int .i64 2, Value.int .i64 0, Value.int .i64 1] 3 | 9 => MO 0 W v (ofM 2 [1, 2, 0, 1]) | 14 => ∃ e1, v = Value.slice (some ⟨e1, 0, none⟩) 4 4 ∧ Blk W e1 #[Value.int .i64 8, Value.int .i64 6, Value.int .i64 6, Value.int .i64 6] 3 | 15 => MO 0 W v (ofM 2 [8, 6, 6, 6]) | _ => True) (fun W W' => Below W.heap.size W W') (fun L f W => Bx2 g3 a3 k3 [1, 2, 0, 1] W ∧ Bx2 g6 a6 k6 [8, 6, 6, 6] W ∧ Below w0.heap.size w0 W)
    (by kernel_rfl) (by kernel_rfl) (by kernel_rfl) (by kernel_rfl) (by kernel_rfl) (fun _ => Below.refl _ _) (fun i v W W' h hb => by
      match i, h with
      | 8, ⟨e1, h1, h2⟩ => exact ⟨e1, h1, h2.keep hb⟩
      | 14, ⟨e1, h1, h2⟩ => exact ⟨e1, h1, h2.keep hb⟩
      | 9, h => exact h.keep hb
      | 15, h => exact h.keep hb
      | 0, _ | 1, _ | 2, _ | 3, _ | 4, _ | 5, _ | 6, _ | 7, _ | 10, _ | 11, _ | 12, _ | 13, _ | 16, _ | 17, _ | 18, _ => trivial
      | (n + 19), _ => trivial) (fun _ _ _ _ _ _ h => h) HS0 ?_ ?_
  · intro i hi b' L f W hSW hL hdep hsh he hsv hsl hFF K hK1 hK2
    replace hi : i < 19 := hi
    have hcs : i = 0 ∨ i = 1 ∨ i = 2 ∨ i = 3 ∨ i = 4 ∨ i = 5 ∨ i = 6 ∨ i = 7 ∨ i = 8 ∨ i = 9 ∨ i = 10 ∨ i = 11 ∨ i = 12 ∨ i = 13 ∨ i = 14 ∨ i = 15 ∨ i = 16 ∨ i = 17 ∨ i = 18 := by omega
    clear hi
    rcases hcs with rfl | rfl | rfl | rfl | rfl | rfl | rfl | rfl | rfl | rfl | rfl | rfl | rfl | rfl | rfl | rfl | rfl | rfl | rfl
    · refine wpOpS_go rfl rfl ?_
      have t3 : b'.tmps[3]?.getD undef = Value.int .i64 0 := he 3 (by kernel_rfl)
      have HK := Lib.hid hK1
      clear hK1 hK2 hdep hsh he hsv hsl hFF hL hSW
      go_simp
      exact HK.out rfl _ (fp_mk rfl rfl trivial)
    · refine wpOpS_go rfl rfl ?_
      have t19 : b'.tmps[19]?.getD undef = Value.int .i64 0 := hsv 0 19 _ (by kernel_rfl) (by kernel_rfl) rfl
      have HK := Lib.hid hK1
      clear hK1 hK2 hdep hsh he hsv hsl hFF hL hSW
      go_simp
      exact HK.out rfl _ (fp_mk rfl rfl trivial)
    · refine wpOpS_go rfl rfl ?_
      have t20 : b'.tmps[20]?.getD undef = Value.bool true := hsv 1 20 _ (by kernel_rfl) (by kernel_rfl) rfl
      have HK := Lib.hid hK1
      clear hK1 hK2 hdep hsh he hsv hsl hFF hL hSW
      go_simp
      exact HK.out rfl _ (fp_mk rfl rfl trivial)
    · refine wpOpS_guard (dg := 21) rfl rfl rfl rfl (hsv 2 21 _ (by kernel_rfl) (by kernel_rfl) rfl) ?_
      rw [if_pos rfl]
      have t5 : b'.tmps[5]?.getD undef = Value.int .i64 0 := he 5 (by kernel_rfl)
      have HK := Lib.hid hK1
      clear hK1 hK2 hdep hsh he hsv hsl hFF hL hSW
      go_simp
      exact HK.out rfl _ (fp_mk rfl rfl trivial)
    · refine wpOpS_guard (dg := 21) rfl rfl rfl rfl (hsv 2 21 _ (by kernel_rfl) (by kernel_rfl) rfl) ?_
      rw [if_pos rfl]
      have t22 : b'.tmps[22]?.getD undef = Value.int .i64 0 := hsv 3 22 _ (by kernel_rfl) (by kernel_rfl) rfl
      have HK := Lib.hid hK1
      clear hK1 hK2 hdep hsh he hsv hsl hFF hL hSW
      go_simp
      exact HK.out rfl _ (fp_mk rfl rfl trivial)
    · refine wpOpS_go rfl rfl ?_
      have t21 : b'.tmps[21]?.getD undef = Value.bool true := hsv 2 21 _ (by kernel_rfl) (by kernel_rfl) rfl
      have t23 : b'.tmps[23]?.getD undef = Value.bool true := hsv 4 23 _ (by kernel_rfl) (by kernel_rfl) rfl
      have HK := Lib.hid hK1
      clear hK1 hK2 hdep hsh he hsv hsl hFF hL hSW
      go_simp
      exact HK.out rfl _ (fp_mk rfl rfl trivial)
    · refine wpOpS_go rfl rfl ?_
      have t24 : b'.tmps[24]?.getD undef = Value.bool true := hsv 5 24 _ (by kernel_rfl) (by kernel_rfl) rfl
      have HK := Lib.hid hK1
      clear hK1 hK2 hdep hsh he hsv hsl hFF hL hSW
      go_simp
      exact HK.out rfl _ (fp_mk rfl rfl trivial)
    · refine wpOpS_guard (dg := 25) rfl rfl rfl rfl (hsv 6 25 _ (by kernel_rfl) (by kernel_rfl) rfl) ?_
      rw [if_pos rfl]
      have t2 : b'.tmps[2]?.getD undef = Value.pointer (some ⟨g3, 0, none⟩) := he 2 (by kernel_rfl)
      obtain ⟨s0, s1, s2⟩ := hSW
      have c0 := s0.bk.cell
      have HK := Lib.hid hK1
      clear hK1 hK2 hdep hsh he hsv hsl hFF hL
      go_simp
      exact HK.out rfl _ (fp_mk rfl rfl trivial)
    · refine wpOpS_guard (dg := 25) rfl rfl rfl rfl (hsv 6 25 _ (by kernel_rfl) (by kernel_rfl) rfl) ?_
      rw [if_pos rfl]
      obtain ⟨s0, s1, s2⟩ := hSW
      have HK := Lib.hid hK2
      clear hK1 hK2 hdep hsh he hsv hsl hFF hL
      go_simp
      have hb := upA (upR W) (Obj.cells #[Value.int .i64 1, Value.int .i64 2, Value.int .i64 0, Value.int .i64 1] 3)
      exact HK.out _ _ (fp_x rfl ⟨_, rfl, Blk.new _ _ _⟩) hb ⟨s0.keep hb, s1.keep hb, more s2 hb⟩
    · refine wpOpS_guard (dg := 25) rfl rfl rfl rfl (hsv 6 25 _ (by kernel_rfl) (by kernel_rfl) rfl) ?_
      rw [if_pos rfl]
      obtain ⟨t27, hx⟩ := hsl 8 27 (by kernel_rfl) (by kernel_rfl)
      obtain ⟨e1, e4, b4⟩ := hx
      rw [e4] at t27
      obtain ⟨s0, s1, s2⟩ := hSW
      have HK := Lib.hid hK2
      clear hK1 hK2 hdep hsh he hsv hsl hFF hL e4
      have hmi := MI.of_blk (B := 0) (zs := [1, 2, 0, 1]) b4 (Nat.zero_le _) (all_i64 (by decide)) (by decide)
      have hof := whole2_is hmi (by decide) (by decide) (by decide)
      go_simp
      refine hof.mono ?_
      rintro e w6 ⟨v, rfl, hmo, hK⟩
      exact HK.out _ _ (fp_x rfl (show MO 0 w6 v (ofM 2 [1, 2, 0, 1]) from hmo.mono (Nat.zero_le _))) hK ⟨s0.keep hK, s1.keep hK, more s2 hK⟩
    · refine wpOpS_guard (dg := 25) rfl rfl rfl rfl (hsv 6 25 _ (by kernel_rfl) (by kernel_rfl) rfl) ?_
      rw [if_pos rfl]
      have t26 : b'.tmps[26]?.getD undef = Value.agg #[Value.int .i64 2, Value.int .i64 2, Value.slice a3 4 k3] := hsv 7 26 _ (by kernel_rfl) (by kernel_rfl) rfl
      obtain ⟨t28, hx⟩ := hsl 9 28 (by kernel_rfl) (by kernel_rfl)
      obtain ⟨a9, k9, e9, l9⟩ := MO.two (show MO 0 W (f 9) (ofM 2 [1, 2, 0, 1]) from hx) rfl rfl
      rw [e9] at t28
      obtain ⟨s0, s1, s2⟩ := hSW
      have HK := Lib.hid hK2
      clear hK1 hK2 hdep hsh he hsv hsl hFF hL hx e9
      have hsm := same_two (zs := [1, 2, 0, 1]) rfl s0.l (l9.mi.mono (Nat.zero_le _))
      go_simp
      refine hsm.mono ?_
      rintro e w6 ⟨rfl, hK⟩
      exact HK.out _ _ (fp_mk rfl rfl trivial) hK ⟨s0.keep hK, s1.keep hK, more s2 hK⟩
    · refine wpOpS_go rfl rfl ?_
      have t25 : b'.tmps[25]?.getD undef = Value.bool true := hsv 6 25 _ (by kernel_rfl) (by kernel_rfl) rfl
      have t29 : b'.tmps[29]?.getD undef = Value.bool true := hsv 10 29 _ (by kernel_rfl) (by kernel_rfl) rfl
      have HK := Lib.hid hK1
      clear hK1 hK2 hdep hsh he hsv hsl hFF hL hSW
      go_simp
      exact HK.out rfl _ (fp_mk rfl rfl trivial)
    · refine wpOpS_go rfl rfl ?_
      have t30 : b'.tmps[30]?.getD undef = Value.bool true := hsv 11 30 _ (by kernel_rfl) (by kernel_rfl) rfl
      have HK := Lib.hid hK1
      clear hK1 hK2 hdep hsh he hsv hsl hFF hL hSW
      go_simp
      exact HK.out rfl _ (fp_mk rfl rfl trivial)
    · refine wpOpS_guard (dg := 31) rfl rfl rfl rfl (hsv 12 31 _ (by kernel_rfl) (by kernel_rfl) rfl) ?_
      rw [if_pos rfl]
      have t4 : b'.tmps[4]?.getD undef = Value.pointer (some ⟨g6, 0, none⟩) := he 4 (by kernel_rfl)
      obtain ⟨s0, s1, s2⟩ := hSW
      have c0 := s1.bk.cell
      have HK := Lib.hid hK1
      clear hK1 hK2 hdep hsh he hsv hsl hFF hL
      go_simp
      exact HK.out rfl _ (fp_mk rfl rfl trivial)
    · refine wpOpS_guard (dg := 31) rfl rfl rfl rfl (hsv 12 31 _ (by kernel_rfl) (by kernel_rfl) rfl) ?_
      rw [if_pos rfl]
      obtain ⟨s0, s1, s2⟩ := hSW
      have HK := Lib.hid hK2
      clear hK1 hK2 hdep hsh he hsv hsl hFF hL
      go_simp
      have hb := upA (upR W) (Obj.cells #[Value.int .i64 8, Value.int .i64 6, Value.int .i64 6, Value.int .i64 6] 3)
      exact HK.out _ _ (fp_x rfl ⟨_, rfl, Blk.new _ _ _⟩) hb ⟨s0.keep hb, s1.keep hb, more s2 hb⟩
    · refine wpOpS_guard (dg := 31) rfl rfl rfl rfl (hsv 12 31 _ (by kernel_rfl) (by kernel_rfl) rfl) ?_
      rw [if_pos rfl]
      obtain ⟨t33, hx⟩ := hsl 14 33 (by kernel_rfl) (by kernel_rfl)
      obtain ⟨e1, e4, b4⟩ := hx
      rw [e4] at t33
      obtain ⟨s0, s1, s2⟩ := hSW
      have HK := Lib.hid hK2
      clear hK1 hK2 hdep hsh he hsv hsl hFF hL e4
      have hmi := MI.of_blk (B := 0) (zs := [8, 6, 6, 6]) b4 (Nat.zero_le _) (all_i64 (by decide)) (by decide)
      have hof := whole2_is hmi (by decide) (by decide) (by decide)
      go_simp
      refine hof.mono ?_
      rintro e w6 ⟨v, rfl, hmo, hK⟩
      exact HK.out _ _ (fp_x rfl (show MO 0 w6 v (ofM 2 [8, 6, 6, 6]) from hmo.mono (Nat.zero_le _))) hK ⟨s0.keep hK, s1.keep hK, more s2 hK⟩
    · refine wpOpS_guard (dg := 31) rfl rfl rfl rfl (hsv 12 31 _ (by kernel_rfl) (by kernel_rfl) rfl) ?_
      rw [if_pos rfl]
      have t32 : b'.tmps[32]?.getD undef = Value.agg #[Value.int .i64 2, Value.int .i64 2, Value.slice a6 4 k6] := hsv 13 32 _ (by kernel_rfl) (by kernel_rfl) rfl
      obtain ⟨t34, hx⟩ := hsl 15 34 (by kernel_rfl) (by kernel_rfl)
      obtain ⟨a9, k9, e9, l9⟩ := MO.two (show MO 0 W (f 15) (ofM 2 [8, 6, 6, 6]) from hx) rfl rfl
      rw [e9] at t34
      obtain ⟨s0, s1, s2⟩ := hSW
      have HK := Lib.hid hK2
      clear hK1 hK2 hdep hsh he hsv hsl hFF hL hx e9
      have hsm := same_two (zs := [8, 6, 6, 6]) rfl s1.l (l9.mi.mono (Nat.zero_le _))
      go_simp
      refine hsm.mono ?_
      rintro e w6 ⟨rfl, hK⟩
      exact HK.out _ _ (fp_mk rfl rfl trivial) hK ⟨s0.keep hK, s1.keep hK, more s2 hK⟩
    · refine wpOpS_go rfl rfl ?_
      have t31 : b'.tmps[31]?.getD undef = Value.bool true := hsv 12 31 _ (by kernel_rfl) (by kernel_rfl) rfl
      have t35 : b'.tmps[35]?.getD undef = Value.bool true := hsv 16 35 _ (by kernel_rfl) (by kernel_rfl) rfl
      have HK := Lib.hid hK1
      clear hK1 hK2 hdep hsh he hsv hsl hFF hL hSW
      go_simp
      exact HK.out rfl _ (fp_mk rfl rfl trivial)
    · refine wpOpS_go rfl rfl ?_
      have t36 : b'.tmps[36]?.getD undef = Value.bool true := hsv 17 36 _ (by kernel_rfl) (by kernel_rfl) rfl
      have HK := Lib.hid hK1
      clear hK1 hK2 hdep hsh he hsv hsl hFF hL hSW
      go_simp
      exact HK.out rfl _ (fp_mk rfl rfl trivial)
  · intro f W hf L hL hS
    obtain ⟨s0, s1, s2⟩ := (hS : _ ∧ _ ∧ _)
    have e9 : f 18 = Value.bool true := (hf 18 (by decide)).1 _ rfl
    clear hf hL
    simp only [puts2, Act.put]
    generalize f 0 = y0, f 1 = y1, f 2 = y2, f 3 = y3, f 4 = y4, f 5 = y5, f 6 = y6, f 7 = y7, f 8 = y8, f 9 = y9, f 10 = y10, f 11 = y11, f 12 = y12, f 13 = y13, f 14 = y14, f 15 = y15, f 16 = y16, f 17 = y17
    rw [e9]
    try simp only [List.setIfInBounds_toArray, List.set_cons_zero, List.set_cons_succ]
    go_wp2_with fail
    go_ret
    exact ⟨rfl, s2⟩

end Go.Proofs.YtkjbidpafnmogaaGreat.Base
