/- binnaclelaw09: of, a square matrix of whole numbers. -/
import Derived.Test.YtkjbidpafnmogaaGreatPolM
namespace Go.Proofs.YtkjbidpafnmogaaGreat.Base
open Go.RowKit Go
set_option linter.unusedVariables false
set_option linter.unusedSimpArgs false

def ofM (n : Int) (zs : List Int) : Mt := ⟨n, n, zs.map fun z => z * 4294967296⟩

set_option maxHeartbeats 8000000 in
set_option maxRecDepth 100000 in
theorem of_is2 {w0 : World} {x : Addr} {k : Nat} {zs : List Int} (h : MI 0 w0 (some x) k zs) (d : Int) (hd : I64 d) (hz : ∀ z ∈ zs, -1000000 ≤ z ∧ z ≤ 1000000) (hl : zs.length ≤ 1000) (h0 : 0 < zs.length) :
    Calls Tryz.prog 46 #[.int .i64 d, .slice (some x) zs.length k] w0 fun e w' => ∃ v, e = .returned v ∧ MO w0.heap.size w' v (ofM d zs) ∧ Below w0.heap.size w0 w' ∧ ∃ g c, v = .agg #[.int .i64 d, .int .i64 d, .slice (some ⟨g, 0, none⟩) zs.length c] := by
  obtain ⟨n, hn⟩ : ∃ n, zs.length = n := ⟨_, rfl⟩
  rw [hn] at hl h0 ⊢
  have HN := Lib.hid hn
  have hn1000 : n ≤ 1000 := hl
  clear hn hl
  obtain ⟨i0, hi, hz0, hz1, hz2⟩ : ∃ i, Tryz.prog.info? 3 = some i ∧ i.zero = some (.int .i64 0) ∧ i.size = 1 ∧ i.bytes = 8 := info_parts (by kernel_rfl)
  have HI := Lib.hid (⟨hi, hz0, hz1, hz2⟩ : Tryz.prog.info? 3 = some i0 ∧ i0.zero = some (.int .i64 0) ∧ i0.size = 1 ∧ i0.bytes = 8)
  clear hi hz0 hz1 hz2
  go_enter Tryz.func46, Tryz.ntmps46
  go_wp2_with fail
  have hB := below_allocs w0 [Obj.cells #[Value.int .i64 0, .int .i64 0, .slice none 0 0] 24, Obj.cells #[Value.int .i64 d, .int .i64 d, .slice none 0 0] 24]
  have g0 := blk_at w0 [Obj.cells #[Value.int .i64 0, .int .i64 0, .slice none 0 0] 24, Obj.cells #[Value.int .i64 d, .int .i64 d, .slice none 0 0] 24] 0 _ _ rfl
  have g1 := blk_at w0 [Obj.cells #[Value.int .i64 0, .int .i64 0, .slice none 0 0] 24, Obj.cells #[Value.int .i64 d, .int .i64 d, .slice none 0 0] 24] 1 _ _ rfl
  simp only [List.foldl_cons, List.foldl_nil, Nat.add_zero] at hB g0 g1
  replace hB := hB.1
  generalize (w0.alloc (Obj.cells #[Value.int .i64 0, .int .i64 0, .slice none 0 0] 24)).alloc (Obj.cells #[Value.int .i64 d, .int .i64 d, .slice none 0 0] 24) = w1 at *
  obtain ⟨mb, hmb⟩ : ∃ mb, w0.heap.size + 1 = mb := ⟨_, rfl⟩
  rw [hmb] at g1 ⊢
  have hmb1 : w0.heap.size + 1 ≤ mb := by omega
  clear hmb
  go_loopw [6] (fun i wr => ∃ j : Nat, j ≤ n ∧ i = .int .i64 j ∧ ∃ ov, Blk wr mb #[.int .i64 d, .int .i64 d, ov] 24 ∧ wr.ownsRow w0.heap.size 3 1 ov j ((zs.take j).map fun z => .int .i64 (z * 4294967296)) ∧ Below w0.heap.size w0 wr ∧ Blk wr w0.heap.size #[.int .i64 0, .int .i64 0, .slice none 0 0] 24) (fun i _ => n - (intOf i).toNat)
  case atStart => exact ⟨0, Nat.zero_le _, rfl, _, g1, World.ownsRow_nil _ _ _ _, hB, g0⟩
  case round =>
    clear g0 g1 hB
    obtain ⟨j, hj, rfl, ov, hov, hrow, hB, g0⟩ := hrel
    by_cases hlt : j < n
    · have hlt' : (j : Int) < (n : Int) := by omega
      have hj0 : (0 : Int) ≤ (j : Int) := by omega
      have hjz : j < zs.length := by rw [HN.out]; exact hlt
      have HTK := Lib.hid (show ((zs.take (j + 1)).map fun z => Value.int .i64 (z * 4294967296)) = ((zs.take j).map fun z => Value.int .i64 (z * 4294967296)) ++ [Value.int .i64 (zs[j] * 4294967296)] by rw [List.take_succ_eq_append_getElem hjz, List.map_append]; rfl)
      have hzb := hz zs[j] (List.getElem_mem hjz)
      have hcell : ∀ W, Below w0.heap.size w0 W → W.cell? (x.add j) = some (.int .i64 zs[j]) := fun W hb => by
        obtain ⟨y, hy, hc⟩ := (h.keep hb).cell j hjz
        cases hy; exact hc
      generalize zs[j] = z at *
      obtain ⟨xs, hxs⟩ : ∃ xs, ((zs.take j).map fun z => Value.int .i64 (z * 4294967296)) = xs := ⟨_, rfl⟩
      rw [hxs] at HTK hrow
      clear hxs hjz
      have hwz : IntKind.i64.wrap (z * 4294967296) = z * 4294967296 := IntWalk.i64_in _ (by omega)
      have hmlt := hov.lt
      have HGE := Lib.hid (show ∀ W, Eff (fun k => k = mb ∨ ov.ownBlock = some k) wr W → Blk W w0.heap.size #[.int .i64 0, .int .i64 0, .slice none 0 0] 24 from fun W hE => hE.blk g0 (fun h => by
        rcases h with h | h
        · omega
        · obtain ⟨cs', q, hc⟩ := (row_ty hrow _ h).1
          have := (show wr.heap[w0.heap.size]? = _ from g0).symm.trans hc
          simp at this))
      go_wp2_with fail
      have HS0 : ((fun _ : Nat => false) 10 = false → Blk wr.drew mb #[.int .i64 d, .int .i64 d, ov] 24) ∧ ((fun _ : Nat => false) 10 = true → Blk wr.drew mb #[.int .i64 d, .int .i64 d, (fun _ : Nat => undef) 8] 24) ∧ ((fun _ : Nat => false) 8 = false → wr.drew.ownsRow w0.heap.size 3 1 ov j xs) ∧ ((fun _ : Nat => false) 8 = true → wr.drew.ownsRow w0.heap.size 3 1 ((fun _ : Nat => undef) 8) (j + 1) (xs ++ [Value.int .i64 (z * 4294967296)])) ∧ Below w0.heap.size w0 wr.drew ∧ Eff (fun k => k = mb ∨ ov.ownBlock = some k) wr wr.drew :=
        ⟨fun _ => hov.drew, fun h => (by cases h), fun _ => ownsRow_keep hrow (upD (upR _)), fun h => (by cases h), more hB (upD (upR _)), Eff.of (upD (upR _))⟩
      clear hov hrow hB g0
      refine region_fp [some 16, some 17, some 18, some 19, some 20, some 21, some 22, some 23, some 24, some 25, none] [8, 10] [some (Value.pointer (some ⟨mb, 2, none⟩)), some (ov), some (Value.slice (some x) n k), some (Value.int .i64 (j : Int)), some (Value.pointer (some (x.add j))), some (Value.int .i64 z), some (Value.int .i64 (z * 4294967296)), none, none, some (Value.pointer (some ⟨mb, 2, none⟩)), none]
        (fun i v W => match i with | 7 => ∃ e1, v = Value.slice (some ⟨e1, 0, none⟩) 1 1 ∧ Blk W e1 #[Value.int .i64 (z * 4294967296)] 3 ∧ w0.heap.size ≤ e1 ∧ e1 ≠ mb ∧ (∀ k, ov.ownBlock = some k → k ≠ e1) | 8 => ∃ g' c', v = Value.slice (some ⟨g', 0, none⟩) (j + 1) c' | _ => True) (fun W W' => Eff (fun k => k = mb ∨ ov.ownBlock = some k) W W') (fun L f W => (L 10 = false → Blk W mb #[.int .i64 d, .int .i64 d, ov] 24) ∧ (L 10 = true → Blk W mb #[.int .i64 d, .int .i64 d, f 8] 24) ∧ (L 8 = false → W.ownsRow w0.heap.size 3 1 ov j xs) ∧ (L 8 = true → W.ownsRow w0.heap.size 3 1 (f 8) (j + 1) (xs ++ [Value.int .i64 (z * 4294967296)])) ∧ Below w0.heap.size w0 W ∧ Eff (fun k => k = mb ∨ ov.ownBlock = some k) wr W)
        (by kernel_rfl) (by kernel_rfl) (by kernel_rfl) (by kernel_rfl) (by kernel_rfl) (fun _ => Eff.refl _ _) (fun i v W W' h hb => by
          match i, h with
          | 7, ⟨e1, h1, h2, h3, h4, h5⟩ => exact ⟨e1, h1, hb.blk h2 (fun h => by rcases h with h | h; exact h4 h; exact h5 _ h rfl), h3, h4, h5⟩
          | 8, ⟨g', c', h1⟩ => exact ⟨g', c', h1⟩
          | 0, _ | 1, _ | 2, _ | 3, _ | 4, _ | 5, _ | 6, _ | 9, _ | 10, _ => trivial
          | (n + 11), _ => trivial) (fun L L' f f' W h hs => by have q8 := (h 8 (by decide)); have q10 := (h 10 (by decide)).1; (try dsimp only at hs ⊢); rw [← q8.1, ← q8.2, ← q10]; exact hs) HS0 ?_ ?_
      · intro i hi b' L f W hSW hL hdep hsh he hsv hsl hFF K hK1 hK2
        replace hi : i < 11 := hi
        have hcs : i = 0 ∨ i = 1 ∨ i = 2 ∨ i = 3 ∨ i = 4 ∨ i = 5 ∨ i = 6 ∨ i = 7 ∨ i = 8 ∨ i = 9 ∨ i = 10 := by omega
        clear hi
        rcases hcs with rfl | rfl | rfl | rfl | rfl | rfl | rfl | rfl | rfl | rfl | rfl
        · refine wpOpS_go rfl rfl ?_
          have t5 : b'.tmps[5]?.getD undef = Value.pointer (some ⟨mb, 0, none⟩) := he 5 (by kernel_rfl)
          have HK := Lib.hid hK1
          clear hK1 hK2 hdep hsh he hsv hsl hFF hL
          clear hSW
          go_simp
          exact HK.out rfl _ (fp_mk rfl rfl trivial)
        · refine wpOpS_go rfl rfl ?_
          have t16 : b'.tmps[16]?.getD undef = Value.pointer (some ⟨mb, 2, none⟩) := hsv 0 16 _ (by kernel_rfl) (by kernel_rfl) rfl
          obtain ⟨s0, s1, s2, s3, s4, s5⟩ := hSW
          have n10 := hsh 10 (by kernel_rfl)
          have c0 := (s0 n10).cell
          have HK := Lib.hid hK1
          clear hK1 hK2 hdep hsh he hsv hsl hFF hL
          clear s0 s1 s2 s3 s4 s5
          go_simp
          exact HK.out rfl _ (fp_mk rfl rfl trivial)
        · refine wpOpS_go rfl rfl ?_
          have t1 : b'.tmps[1]?.getD undef = Value.slice (some x) n k := he 1 (by kernel_rfl)
          have HK := Lib.hid hK1
          clear hK1 hK2 hdep hsh he hsv hsl hFF hL
          clear hSW
          go_simp
          exact HK.out rfl _ (fp_mk rfl rfl trivial)
        · refine wpOpS_go rfl rfl ?_
          have t6 : b'.tmps[6]?.getD undef = Value.int .i64 (j : Int) := he 6 (by kernel_rfl)
          have HK := Lib.hid hK1
          clear hK1 hK2 hdep hsh he hsv hsl hFF hL
          clear hSW
          go_simp
          exact HK.out rfl _ (fp_mk rfl rfl trivial)
        · refine wpOpS_go rfl rfl ?_
          have t18 : b'.tmps[18]?.getD undef = Value.slice (some x) n k := hsv 2 18 _ (by kernel_rfl) (by kernel_rfl) rfl
          have t19 : b'.tmps[19]?.getD undef = Value.int .i64 (j : Int) := hsv 3 19 _ (by kernel_rfl) (by kernel_rfl) rfl
          have HK := Lib.hid hK1
          clear hK1 hK2 hdep hsh he hsv hsl hFF hL
          clear hSW
          go_simp
          exact HK.out rfl _ (fp_mk rfl rfl trivial)
        · refine wpOpS_go rfl rfl ?_
          have t20 : b'.tmps[20]?.getD undef = Value.pointer (some (x.add j)) := hsv 4 20 _ (by kernel_rfl) (by kernel_rfl) rfl
          obtain ⟨s0, s1, s2, s3, s4, s5⟩ := hSW
          have c0 := hcell W s4
          have HK := Lib.hid hK1
          clear hK1 hK2 hdep hsh he hsv hsl hFF hL
          clear s0 s1 s2 s3 s4 s5
          go_simp
          exact HK.out rfl _ (fp_mk rfl rfl trivial)
        · refine wpOpS_go rfl rfl ?_
          have t21 : b'.tmps[21]?.getD undef = Value.int .i64 z := hsv 5 21 _ (by kernel_rfl) (by kernel_rfl) rfl
          have HK := Lib.hid hK1
          clear hK1 hK2 hdep hsh he hsv hsl hFF hL
          clear hSW
          go_simp
          exact HK.out rfl _ (fp_mk rfl rfl trivial)
        · refine wpOpS_go rfl rfl ?_
          have t22 : b'.tmps[22]?.getD undef = Value.int .i64 (z * 4294967296) := hsv 6 22 _ (by kernel_rfl) (by kernel_rfl) rfl
          obtain ⟨s0, s1, s2, s3, s4, s5⟩ := hSW
          have HK := Lib.hid hK2
          clear hK1 hK2 hdep he hsv hsl hFF hL
          have n8 := hsh 8 (by kernel_rfl)
          have hlt := fun k hk => ((s2 n8).lt k hk).2
          have hmlt := (s0 (hsh 10 (by kernel_rfl))).lt
          clear hsh
          refine op_slice1 (cs := #[Value.int .i64 (z * 4294967296)]) (t := 3) (by go_simp) ?_
          intro w' hbn hb hz
          exact HK.out _ _ (fp_x rfl ⟨_, rfl, hbn, s4.size, by omega, fun k hk => by have := hlt k hk; omega⟩) (Eff.of hb) ⟨fun h => (s0 h).keep hb, fun h => (s1 h).keep hb, fun h => ownsRow_keep (s2 h) hb, fun h => ownsRow_keep (s3 h) hb, more s4 hb, s5.trans (Eff.of (P := fun _ => False) hb) (fun _ _ h => h.elim)⟩
        · refine wpOpS_go rfl rfl ?_
          have t17 : b'.tmps[17]?.getD undef = ov := hsv 1 17 _ (by kernel_rfl) (by kernel_rfl) rfl
          obtain ⟨t23, hx6⟩ := hsl 7 23 (by kernel_rfl) (by kernel_rfl)
          obtain ⟨e1, e6, b6, le6, ne6, no6⟩ := hx6
          rw [e6] at t23
          obtain ⟨s0, s1, s2, s3, s4, s5⟩ := hSW
          have HK := Lib.hid hK2
          have hrow := s2 hL
          have n10 := hsh 10 (by kernel_rfl)
          clear hK1 hK2 hdep he hsv hsl hFF e6 hsh
          have hmb := s0 n10
          refine op_app_box (B := w0.heap.size) (n := j) (xs := xs) (cs := #[Value.int .i64 (z * 4294967296)]) Tryz.underlying22 ⟨_, HI.out⟩ rfl (by decide) (by decide) (.tmp 17) (.tmp 23) rfl (eval_tmp t17) hrow s4.size e1 rfl (eval_tmp t23) b6 (by intro u hu; simp at hu; subst hu; rfl) (by omega) ?_
          intro g' c' w' ho hg hgg
          have hne : ∀ {b : Nat} {cs : Array Value} {t : TypeId}, t ≠ 3 → Blk W b cs t → Blk w' b cs t := fun {b} {cs} {t} ht h => h.grown hg (fun e => by obtain ⟨cs', q, hc⟩ := (row_ty hrow b e.symm).1; have := (show W.heap[b]? = _ from h).symm.trans hc; simp at this; exact ht this.2.1)
          have hE' : Eff (fun k => k = mb ∨ ov.ownBlock = some k) W w' := Eff.grown hg (fun k hk => .inr hk)
          have hb0 : Below w0.heap.size w0 w' := s4.trans ⟨hg.os, hg.tape, hg.output, hg.size, fun k hk => hg.block k (by have := s4.size; omega) (fun e => by have := (hrow.lt k e.symm).1; omega)⟩
          exact HK.out _ _ (fp_x rfl ⟨g', c', rfl⟩) hE' ⟨fun h => hne (by decide) (s0 h), fun h => absurd h (by show ¬ L 10 = true; rw [n10]; decide), fun h => absurd h (by rw [updF_same]; decide), fun _ => by rw [updF_same]; exact ho, hb0, s5.trans hE' (fun _ _ h => h)⟩
        · refine wpOpS_go rfl rfl ?_
          have t5 : b'.tmps[5]?.getD undef = Value.pointer (some ⟨mb, 0, none⟩) := he 5 (by kernel_rfl)
          have HK := Lib.hid hK1
          clear hK1 hK2 hdep hsh he hsv hsl hFF hL
          clear hSW
          go_simp
          exact HK.out rfl _ (fp_mk rfl rfl trivial)
        · refine wpOpS_go rfl rfl ?_
          have t25 : b'.tmps[25]?.getD undef = Value.pointer (some ⟨mb, 2, none⟩) := hsv 9 25 _ (by kernel_rfl) (by kernel_rfl) rfl
          obtain ⟨t24, hx7⟩ := hsl 8 24 (by kernel_rfl) (by kernel_rfl)
          obtain ⟨g', c', e7⟩ := hx7
          obtain ⟨s0, s1, s2, s3, s4, s5⟩ := hSW
          have HK := Lib.hid hK2
          have hmb := s0 hL
          clear hK1 hK2 hdep hsh he hsv hsl hFF
          refine op_store 22 _ _ rfl rfl hmb 2 (eval_tmp t25) (eval_tmp t24) [f 8] (by rw [e7]; rfl) (by kernel_rfl) (by rw [e7]; rfl) (by rfl) #[.int .i64 d, .int .i64 d, f 8] rfl ?_
          intro w' h1 h2 h3
          have hE' := h2.mono (P' := fun k => k = mb ∨ ov.ownBlock = some k) (fun _ _ h => .inl h)
          have hb0 : Below w0.heap.size w0 w' := s4.trans ⟨h2.os, h2.tape, h2.output, h2.size, fun k hk => h2.block k (by have := s4.size; omega) (fun e => by omega)⟩
          have hnr : ∀ {u : Value} {n : Nat} {ys : List Value}, W.ownsRow w0.heap.size 3 1 u n ys → w'.ownsRow w0.heap.size 3 1 u n ys := fun {u} {n} {ys} h => ownsRow_eff h h2 (fun k hk e => by subst e; obtain ⟨cs', q, hc⟩ := (row_ty h k hk).1; have := (show W.heap[k]? = _ from hmb).symm.trans hc; simp at this)
          exact HK.out undef _ (fp_x (v := undef) rfl trivial) hE' ⟨fun h => absurd h (by rw [updF_same]; decide), fun _ => h1, fun h => hnr (s2 h), fun h => hnr (s3 h), hb0, s5.trans hE' (fun _ _ h => h)⟩
      · intro f W hf L hL hS
        obtain ⟨s0, s1, s2, s3, s4, s5⟩ := (hS : _ ∧ _ ∧ _ ∧ _ ∧ _ ∧ _)
        obtain ⟨q1, e7, b6, le6, ne6, no6⟩ := (hf 7 (by decide)).2
        obtain ⟨g', c', e8⟩ := (hf 8 (by decide)).2
        replace s1 := s1 (hL 10 (by decide))
        replace s3 := s3 (hL 8 (by decide))
        rw [e8] at s1 s3
        have e0 : f 0 = Value.pointer (some ⟨mb, 2, none⟩) := (hf 0 (by decide)).1 _ rfl
        have e1 : f 1 = ov := (hf 1 (by decide)).1 _ rfl
        have e2 : f 2 = Value.slice (some x) n k := (hf 2 (by decide)).1 _ rfl
        have e3 : f 3 = Value.int .i64 (j : Int) := (hf 3 (by decide)).1 _ rfl
        have e4 : f 4 = Value.pointer (some (x.add j)) := (hf 4 (by decide)).1 _ rfl
        have e5 : f 5 = Value.int .i64 z := (hf 5 (by decide)).1 _ rfl
        have e6 : f 6 = Value.int .i64 (z * 4294967296) := (hf 6 (by decide)).1 _ rfl
        have e9 : f 9 = Value.pointer (some ⟨mb, 2, none⟩) := (hf 9 (by decide)).1 _ rfl
        clear hf hL s0 s2
        simp only [puts2, Act.put, e0, e1, e2, e3, e4, e5, e6, e7, e8, e9]
        try simp only [List.setIfInBounds_toArray, List.set_cons_zero, List.set_cons_succ]
        go_wp2_with fail
        go_roundw
        case rel => exact ⟨j + 1, by omega, by go_num, _, s1, by rw [HTK.out]; exact s3, s4, HGE.out _ s5⟩
        case measure => simp [intOf]; omega
    · have hge : ¬ (j : Int) < (n : Int) := by omega
      have hjn : j = zs.length := by rw [HN.out]; omega
      have HJ := Lib.hid hjn
      rw [hjn, List.take_length] at hrow
      have HROW := Lib.hid hrow
      obtain ⟨gv, cv, rfl⟩ := Joins.ownsRow_form hrow (by rw [HN.out]; exact h0)
      rw [HN.out] at hov
      have o0 := hov.cell
      clear hjn hrow
      go_wp2_with ((with_reducible refine at_st (p := 4) (q := 26) rfl ?_); refine ev_store rfl 24 _ _ rfl rfl g0 0 rfl rfl [.int .i64 d, .int .i64 d, .slice (some ⟨gv, 0, none⟩) n cv] rfl (by kernel_rfl) rfl rfl #[.int .i64 d, .int .i64 d, .slice (some ⟨gv, 0, none⟩) n cv] rfl ?_; intro w6 g6 ef hz6)
      have hrow6 := ownsRow_eff HROW.out ef (fun k hk e => by
        subst e
        obtain ⟨cs', q, hc⟩ := (row_ty HROW.out _ hk).1
        have := (show wr.heap[w0.heap.size]? = _ from g0).symm.trans hc
        simp at this)
      rw [show (zs.map fun z => Value.int .i64 (z * 4294967296)) = ((zs.map fun z => z * 4294967296).map fun z => Value.int .i64 z) by rw [List.map_map]; rfl] at hrow6
      have hr64 : ∀ z ∈ zs.map (fun z => z * 4294967296), I64 z := fun z hzz => by
        obtain ⟨y, hy, rfl⟩ := List.mem_map.1 hzz
        have := hz y hy
        unfold I64; omega
      have hlm : (zs.map fun z => z * 4294967296).length = n := by rw [List.length_map]; exact HN.out
      refine bodyPost_ret (results_cell_row rfl _ _ _ 24 #[.int .i64 d, .int .i64 d, .slice (some ⟨gv, 0, none⟩) n cv] (0, 0) _ rfl g6 Tryz.underlying24 rfl (by kernel_rfl)) rfl ?_
      refine ⟨_, rfl, ⟨⟨some ⟨gv, 0, none⟩, cv, by show _ = Value.agg #[.int .i64 d, .int .i64 d, .slice _ (zs.map fun z => z * 4294967296).length _]; rw [hlm], ?_⟩, hd, hd⟩, ef.below hB (fun k hk => by omega), gv, cv, rfl⟩
      rw [HN.out] at hrow6
      exact (OI.of_row (v := .slice none 0 0) hrow6 hr64).1.li
theorem of_is {w0 : World} {x : Addr} {k : Nat} {zs : List Int} (h : MI 0 w0 (some x) k zs) (d : Int) (hd : I64 d) (hz : ∀ z ∈ zs, -1000000 ≤ z ∧ z ≤ 1000000) (hl : zs.length ≤ 1000) (h0 : 0 < zs.length) :
    Calls Tryz.prog 46 #[.int .i64 d, .slice (some x) zs.length k] w0 fun e w' => ∃ v, e = .returned v ∧ MO w0.heap.size w' v (ofM d zs) ∧ Below w0.heap.size w0 w' :=
  (of_is2 h d hd hz hl h0).mono fun e w' ⟨v, h1, h2, h3, _⟩ => ⟨v, h1, h2, h3⟩

end Go.Proofs.YtkjbidpafnmogaaGreat.Base
