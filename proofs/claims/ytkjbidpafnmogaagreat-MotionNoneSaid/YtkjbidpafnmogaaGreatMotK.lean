/- binnaclelaw11: MotionNone. -/
import Derived.Test.YtkjbidpafnmogaaGreatMotJ
import Derived.Test.YtkjbidpafnmogaaGreatKitC
namespace Go.Proofs.YtkjbidpafnmogaaGreat.Base
open Go.RowKit Go Go.Shelf Go.Deep
set_option linter.unusedVariables false
set_option linter.unusedSimpArgs false

/-- What the loop of MotionNone has. -/
structure NnS (w0 : World) (mb sb gb : Nat) (V : Value) (mv : Array Value) (M : Mdl) (W : World) : Prop where
  bm : Blk W mb mv 54
  bs : Blk W sb #[.pointer none, .pointer (some ⟨gb, 0, none⟩)] 25
  bg : Blk W gb #[.bool false, .int .i64 0, .bool false] 44
  mm : MM 0 W V M
  bel : Below w0.heap.size w0 W
theorem NnS.keep {w0 : World} {mb sb gb : Nat} {V : Value} {mv : Array Value} {M : Mdl} {W W' : World} (h : NnS w0 mb sb gb V mv M W) (k : Below W.heap.size W W') : NnS w0 mb sb gb V mv M W' := ⟨h.bm.keep k, h.bs.keep k, h.bg.keep k, h.mm.keep k, more h.bel k⟩
/-- One of the two units that are none. -/
theorem NnS.at_ {w0 : World} {mb sb gb : Nat} {V : Value} {mv : Array Value} {M : Mdl} {W : World} (h : NnS w0 mb sb gb V mv M W) {j : Nat} (hj : j < 2) :
    ∃ p, (∀ W', Below W.heap.size W W' → W'.cell? ⟨sb, j, none⟩ = some p) ∧ ∀ W', Below W.heap.size W W' → Calls Tryz.prog 114 #[p] W' fun e w' => e = .returned (.bool true) ∧ W' = w' := by
  have h2 : j = 0 ∨ j = 1 := by omega
  rcases h2 with rfl | rfl
  · exact ⟨.pointer none, fun W' k => by rw [(h.bs.keep k).cell]; rfl, fun W' _ => none_nil W'⟩
  · exact ⟨.pointer (some ⟨gb, 0, none⟩), fun W' k => by rw [(h.bs.keep k).cell]; rfl, fun W' k => none_un (h.bg.keep k)⟩

set_option maxHeartbeats 8000000 in
set_option maxRecDepth 100000 in
theorem none11_walk (v : Value) (M : Mdl) (ticks : Int) (w0 : World) (hM : MM 0 w0 v M) (ht : (Lit.int .i64 ticks).wf = true) :
    Calls Tryz.prog 7 #[v, .int .i64 ticks] w0 fun e w' => e = .returned (.bool true) ∧ Below w0.heap.size w0 w' := by
  have hM0 := hM
  obtain ⟨aA, cA, aQ, cQ, aR, cR, rfl, _⟩ := hM.ex
  clear hM
  obtain ⟨la, hla⟩ : ∃ n, M.A.length = n := ⟨_, rfl⟩
  obtain ⟨lq, hlq⟩ : ∃ n, M.Q.length = n := ⟨_, rfl⟩
  obtain ⟨lr, hlr⟩ : ∃ n, M.rows.length = n := ⟨_, rfl⟩
  rw [hla, hlq, hlr] at hM0 ⊢
  clear hla hlq hlr
  obtain ⟨nM, hnM⟩ : ∃ n, M.n = n := ⟨_, rfl⟩
  obtain ⟨tk, htk⟩ : ∃ n, M.tick = n := ⟨_, rfl⟩
  obtain ⟨gt, hgt⟩ : ∃ n, M.gate = n := ⟨_, rfl⟩
  obtain ⟨rm, hrm⟩ : ∃ n, M.rmin = n := ⟨_, rfl⟩
  rw [hnM, htk, hgt, hrm] at hM0 ⊢
  clear hnM htk hgt hrm
  have hBA := upA (upR w0) (Obj.cells #[.int .i64 nM, .slice aA la cA, .slice aQ lq cQ, .int .i64 tk, .int .i64 gt, .int .i64 rm, .slice aR lr cR] 54)
  have gm := Blk.new w0 #[.int .i64 nM, .slice aA la cA, .slice aQ lq cQ, .int .i64 tk, .int .i64 gt, .int .i64 rm, .slice aR lr cR] 54
  have hM1 := hM0.keep hBA
  have d0 := gm.cell
  go_enter Tryz.func7, Tryz.ntmps7
  go_wp2_with fail
  clear d0
  generalize w0.alloc (Obj.cells #[.int .i64 nM, .slice aA la cA, .slice aQ lq cQ, .int .i64 tk, .int .i64 gt, .int .i64 rm, .slice aR lr cR] 54) = w1 at *
  refine (longModel_is hM1).mono ?_
  rintro e w2 ⟨⟨hm, rfl⟩ | ⟨hm, rfl⟩, hK⟩
  · have hB := more hBA hK
    clear hm
    go_wp2_with fail
    refine (awake11_is _).mono ?_
    rintro e w3 ⟨rfl, hK3⟩
    replace hB := more hB hK3
    go_wp2_with fail
    go_ret
    exact ⟨rfl, hB⟩
  · have hB := more hBA hK
    have hM2 := hM1.keep hK
    have gm2 := gm.keep hK
    clear hm hM1 hM0 gm hK hBA
    obtain ⟨mb, hmb⟩ : ∃ g, w0.heap.size = g := ⟨_, rfl⟩
    rw [hmb] at gm2 ⊢
    have HMB := Lib.hid hmb
    clear hmb
    go_wp2_with fail
    have hC := below_allocs w2 [Obj.cells #[.bool false, .int .i64 0, .bool false] 44, Obj.cells #[.pointer none, .pointer (some ⟨w2.heap.size, 0, none⟩)] 25]
    have g1 := blk_at w2 [Obj.cells #[.bool false, .int .i64 0, .bool false] 44, Obj.cells #[.pointer none, .pointer (some ⟨w2.heap.size, 0, none⟩)] 25] 0 _ _ rfl
    have g2 := blk_at w2 [Obj.cells #[.bool false, .int .i64 0, .bool false] 44, Obj.cells #[.pointer none, .pointer (some ⟨w2.heap.size, 0, none⟩)] 25] 1 _ _ rfl
    simp only [List.foldl_cons, List.foldl_nil, Nat.add_zero] at hC g1 g2
    replace hC := hC.1
    have hN : NnS w0 mb (w2.heap.size + 1) w2.heap.size _ _ M _ := ⟨gm2.keep hC, g2, g1, hM2.keep hC, more hB hC⟩
    clear gm2 g1 g2 hM2 hB hC
    generalize (w2.alloc (Obj.cells #[.bool false, .int .i64 0, .bool false] 44)).alloc (Obj.cells #[.pointer none, .pointer (some ⟨w2.heap.size, 0, none⟩)] 25) = w3 at *
    obtain ⟨sb, hsb⟩ : ∃ g, w2.heap.size + 1 = g := ⟨_, rfl⟩
    obtain ⟨gb, hgb⟩ : ∃ g, w2.heap.size = g := ⟨_, rfl⟩
    rw [hsb, hgb] at hN
    try rw [hsb]
    clear hsb hgb
    go_loopw [6] (fun i wr => ∃ j : Nat, j ≤ 2 ∧ i = .int .i64 j ∧ NnS w0 mb sb gb (.agg #[.int .i64 nM, .slice aA la cA, .slice aQ lq cQ, .int .i64 tk, .int .i64 gt, .int .i64 rm, .slice aR lr cR]) #[.int .i64 nM, .slice aA la cA, .slice aQ lq cQ, .int .i64 tk, .int .i64 gt, .int .i64 rm, .slice aR lr cR] M wr) (fun i _ => 2 - (intOf i).toNat)
    case atStart => exact ⟨0, by omega, rfl, hN⟩
    case round =>
      clear hN
      obtain ⟨j, hj, rfl, hN⟩ := hrel
      by_cases hlt : j < 2
      · have hlt' : (j : Int) < 2 := by omega
        have hj0 : (0 : Int) ≤ (j : Int) := by omega
        obtain ⟨p, hpc, hpn⟩ := hN.at_ hlt
        have HPC := Lib.hid hpc
        have HSP := Lib.hid (fun (W : World) (hb : Below wr.heap.size wr W) => mSpan_ref (ticks := ticks) (hN.keep hb).mm (by decide) (ref_nil (fun W' hb' => hpn W' (more hb hb')) (hN.keep hb).mm ticks (-1099511627776)))
        have HFL := Lib.hid (fun (W : World) (hb : Below wr.heap.size wr W) => mFlow_ref (ticks := ticks) (hN.keep hb).mm (by decide) (ref_nil (fun W' hb' => hpn W' (more hb hb')) (hN.keep hb).mm ticks (-1099511627776)))
        have HNO := Lib.hid (fun (W : World) (hb : Below wr.heap.size wr W) => mNoise_ref (ticks := ticks) (hN.keep hb).mm (by decide) (ref_nil (fun W' hb' => hpn W' (more hb hb')) (hN.keep hb).mm ticks 0))
        clear hpc hpn
        go_wp2_with fail
        have HS0 := (show Below wr.heap.size wr _ from upD (upR wr))
        refine region_fp [some 26, some 27, some 28, some 29, some 30, some 31, some 32, some 25, some 33, some 34, some 7, some 8] [] [some (Value.slice (some ⟨sb, 0, none⟩) 2 2), some (Value.int .i64 (j : Int)), some (Value.pointer (some ⟨sb, j, none⟩)), some (p), some (Value.agg #[.int .i64 nM, .slice aA la cA, .slice aQ lq cQ, .int .i64 tk, .int .i64 gt, .int .i64 rm, .slice aR lr cR]), some (Value.int .i64 (ticks)), some (Value.tuple #[Value.int .i64 (0), .int .i64 1]), some (Value.tuple #[Value.int .i64 (0), .int .i64 1]), some (Value.int .i64 (0)), some (Value.int .i64 (1)), some (Value.int .i64 (0)), some (Value.int .i64 (1))]
          (fun _ _ _ => True) (fun _ _ => True) (fun L f W => Below wr.heap.size wr W)
          (by kernel_rfl) (by kernel_rfl) (by kernel_rfl) (by kernel_rfl) (by kernel_rfl) (fun _ => trivial) (fun _ _ _ _ _ _ => trivial) (fun _ _ _ _ _ _ h => h) HS0 ?_ ?_
        · intro i hi b' L f W hSW hL hdep hsh he hsv hsl hFF K hK1 hK2
          replace hi : i < 12 := hi
          have hcs : i = 0 ∨ i = 1 ∨ i = 2 ∨ i = 3 ∨ i = 4 ∨ i = 5 ∨ i = 6 ∨ i = 7 ∨ i = 8 ∨ i = 9 ∨ i = 10 ∨ i = 11 := by omega
          clear hi
          rcases hcs with rfl | rfl | rfl | rfl | rfl | rfl | rfl | rfl | rfl | rfl | rfl | rfl
          · refine wpOpS_go rfl rfl ?_
            have t5 : b'.tmps[5]?.getD undef = Value.slice (some ⟨sb, 0, none⟩) 2 2 := he 5 (by kernel_rfl)
            have HK := Lib.hid hK1
            clear hK1 hK2 hdep hsh he hsv hsl hFF hL hSW
            go_simp
            exact HK.out rfl _ (fp_mk rfl rfl trivial)
          · refine wpOpS_go rfl rfl ?_
            have t6 : b'.tmps[6]?.getD undef = Value.int .i64 (j : Int) := he 6 (by kernel_rfl)
            have HK := Lib.hid hK1
            clear hK1 hK2 hdep hsh he hsv hsl hFF hL hSW
            go_simp
            exact HK.out rfl _ (fp_mk rfl rfl trivial)
          · refine wpOpS_go rfl rfl ?_
            have t26 : b'.tmps[26]?.getD undef = Value.slice (some ⟨sb, 0, none⟩) 2 2 := hsv 0 26 _ (by kernel_rfl) (by kernel_rfl) rfl
            have t27 : b'.tmps[27]?.getD undef = Value.int .i64 (j : Int) := hsv 1 27 _ (by kernel_rfl) (by kernel_rfl) rfl
            have HK := Lib.hid hK1
            clear hK1 hK2 hdep hsh he hsv hsl hFF hL hSW
            go_simp
            exact HK.out rfl _ (fp_mk rfl rfl trivial)
          · refine wpOpS_go rfl rfl ?_
            have t28 : b'.tmps[28]?.getD undef = Value.pointer (some ⟨sb, j, none⟩) := hsv 2 28 _ (by kernel_rfl) (by kernel_rfl) rfl
            have s0 := hSW
            have c0 := HPC.out W s0
            have HK := Lib.hid hK1
            clear hK1 hK2 hdep hsh he hsv hsl hFF hL
            clear hSW
            go_simp
            exact HK.out rfl _ (fp_mk rfl rfl trivial)
          · refine wpOpS_go rfl rfl ?_
            have t2 : b'.tmps[2]?.getD undef = Value.pointer (some ⟨mb, 0, none⟩) := he 2 (by kernel_rfl)
            have s0 := hSW
            have c0 := (hN.keep s0).bm.cell
            have HK := Lib.hid hK1
            clear hK1 hK2 hdep hsh he hsv hsl hFF hL
            clear hSW
            go_simp
            exact HK.out rfl _ (fp_mk rfl rfl trivial)
          · refine wpOpS_go rfl rfl ?_
            have t1 : b'.tmps[1]?.getD undef = Value.int .i64 (ticks) := he 1 (by kernel_rfl)
            have HK := Lib.hid hK1
            clear hK1 hK2 hdep hsh he hsv hsl hFF hL hSW
            go_simp
            exact HK.out rfl _ (fp_mk rfl rfl trivial)
          · refine wpOpS_go rfl rfl ?_
            have t29 : b'.tmps[29]?.getD undef = p := hsv 3 29 _ (by kernel_rfl) (by kernel_rfl) rfl
            have t30 : b'.tmps[30]?.getD undef = Value.agg #[.int .i64 nM, .slice aA la cA, .slice aQ lq cQ, .int .i64 tk, .int .i64 gt, .int .i64 rm, .slice aR lr cR] := hsv 4 30 _ (by kernel_rfl) (by kernel_rfl) rfl
            have t31 : b'.tmps[31]?.getD undef = Value.int .i64 (ticks) := hsv 5 31 _ (by kernel_rfl) (by kernel_rfl) rfl
            have s0 := hSW
            have HK := Lib.hid hK2
            clear hK1 hK2 hdep hsh he hsv hsl hFF hL
            go_simp
            refine (HSP.out W s0).mono ?_
            rintro e w6 ⟨rfl, hK⟩
            exact HK.out _ _ (fp_mk rfl rfl trivial) trivial (more s0 hK)
          · refine wpOpS_go rfl rfl ?_
            have t32 : b'.tmps[32]?.getD undef = Value.tuple #[Value.int .i64 (0), .int .i64 1] := hsv 6 32 _ (by kernel_rfl) (by kernel_rfl) rfl
            have HK := Lib.hid hK1
            clear hK1 hK2 hdep hsh he hsv hsl hFF hL hSW
            go_simp
            exact HK.out rfl _ (fp_mk rfl rfl trivial)
          · refine wpOpS_go rfl rfl ?_
            have t25 : b'.tmps[25]?.getD undef = Value.tuple #[Value.int .i64 (0), .int .i64 1] := hsv 7 25 _ (by kernel_rfl) (by kernel_rfl) rfl
            have HK := Lib.hid hK1
            clear hK1 hK2 hdep hsh he hsv hsl hFF hL hSW
            go_simp
            exact HK.out rfl _ (fp_mk rfl rfl trivial)
          · refine wpOpS_go rfl rfl ?_
            have t25 : b'.tmps[25]?.getD undef = Value.tuple #[Value.int .i64 (0), .int .i64 1] := hsv 7 25 _ (by kernel_rfl) (by kernel_rfl) rfl
            have HK := Lib.hid hK1
            clear hK1 hK2 hdep hsh he hsv hsl hFF hL hSW
            go_simp
            exact HK.out rfl _ (fp_mk rfl rfl trivial)
          · refine wpOpS_go rfl rfl ?_
            have t33 : b'.tmps[33]?.getD undef = Value.int .i64 (0) := hsv 8 33 _ (by kernel_rfl) (by kernel_rfl) rfl
            have HK := Lib.hid hK1
            clear hK1 hK2 hdep hsh he hsv hsl hFF hL hSW
            go_simp
            exact HK.out rfl _ (fp_mk rfl rfl trivial)
          · refine wpOpS_go rfl rfl ?_
            have t34 : b'.tmps[34]?.getD undef = Value.int .i64 (1) := hsv 9 34 _ (by kernel_rfl) (by kernel_rfl) rfl
            have HK := Lib.hid hK1
            clear hK1 hK2 hdep hsh he hsv hsl hFF hL hSW
            go_simp
            exact HK.out rfl _ (fp_mk rfl rfl trivial)
        · intro f W hf L hL hS
          have s0 := hS
          have e9 : f 11 = Value.int .i64 (1) := (hf 11 (by decide)).1 _ rfl
          clear hf hL
          simp only [puts2, Act.put]
          generalize f 0 = y0, f 1 = y1, f 2 = y2, f 3 = y3, f 4 = y4, f 5 = y5, f 6 = y6, f 7 = y7, f 8 = y8, f 9 = y9, f 10 = y10
          rw [e9]
          try simp only [List.setIfInBounds_toArray, List.set_cons_zero, List.set_cons_succ]
          clear e9
          go_wp2_with fail
          have HS0 := (show Below wr.heap.size wr W.drew ∧ ((fun _ : Nat => false) 10 = true → wr.heap.size ≤ pb ((fun _ : Nat => undef) 10)) ∧ ((fun _ : Nat => false) 10 = true → (fun _ : Nat => false) 11 = false → Blk W.drew (pb ((fun _ : Nat => undef) 10)) #[.int .i64 0, .int .i64 0, .slice none 0 0] 24) from ⟨s0.drew, fun h => (by cases h), fun h => (by cases h)⟩)
          clear s0
          refine region_fp [some 36, some 37, some 38, some 39, some 40, some 41, some 42, some 35, some 43, some 44, some 9, none, some 10] [10, 11] [some (Value.slice (some ⟨sb, 0, none⟩) 2 2), some (Value.int .i64 (j : Int)), some (Value.pointer (some ⟨sb, j, none⟩)), some (p), some (Value.agg #[.int .i64 nM, .slice aA la cA, .slice aQ lq cQ, .int .i64 tk, .int .i64 gt, .int .i64 rm, .slice aR lr cR]), some (Value.int .i64 (ticks)), some (Value.tuple #[Value.agg #[.int .i64 0, .int .i64 0, .slice none 0 0], .int .i64 1]), some (Value.tuple #[Value.agg #[.int .i64 0, .int .i64 0, .slice none 0 0], .int .i64 1]), some (Value.agg #[.int .i64 0, .int .i64 0, .slice none 0 0]), some (Value.int .i64 (1)), none, none, some (Value.int .i64 (1))]
            (fun i v W => match i with | 10 => ∃ e, v = Value.pointer (some ⟨e, 0, none⟩) | _ => True) (fun _ _ => True) (fun L f W => Below wr.heap.size wr W ∧ (L 10 = true → wr.heap.size ≤ pb (f 10)) ∧ (L 10 = true → L 11 = false → Blk W (pb (f 10)) #[.int .i64 0, .int .i64 0, .slice none 0 0] 24))
            (by kernel_rfl) (by kernel_rfl) (by kernel_rfl) (by kernel_rfl) (by kernel_rfl) (fun _ => trivial) (fun i v W W' h hb => by
              match i, h with
              | 10, h => exact h
              | 0, _ | 1, _ | 2, _ | 3, _ | 4, _ | 5, _ | 6, _ | 7, _ | 8, _ | 9, _ | 11, _ | 12, _ => trivial
              | (n + 13), _ => trivial) (fun L L' f f' W h hs => by have q10 := h 10 (by decide); have q11 := (h 11 (by decide)).1; (try dsimp only at hs ⊢); rw [← q10.1, ← q10.2, ← q11]; exact hs) HS0 ?_ ?_
          · intro i hi b' L f W hSW hL hdep hsh he hsv hsl hFF K hK1 hK2
            replace hi : i < 13 := hi
            have hcs : i = 0 ∨ i = 1 ∨ i = 2 ∨ i = 3 ∨ i = 4 ∨ i = 5 ∨ i = 6 ∨ i = 7 ∨ i = 8 ∨ i = 9 ∨ i = 10 ∨ i = 11 ∨ i = 12 := by omega
            clear hi
            rcases hcs with rfl | rfl | rfl | rfl | rfl | rfl | rfl | rfl | rfl | rfl | rfl | rfl | rfl
            · refine wpOpS_go rfl rfl ?_
              have t5 : b'.tmps[5]?.getD undef = Value.slice (some ⟨sb, 0, none⟩) 2 2 := he 5 (by kernel_rfl)
              have HK := Lib.hid hK1
              clear hK1 hK2 hdep hsh he hsv hsl hFF hL hSW
              go_simp
              exact HK.out rfl _ (fp_mk rfl rfl trivial)
            · refine wpOpS_go rfl rfl ?_
              have t6 : b'.tmps[6]?.getD undef = Value.int .i64 (j : Int) := he 6 (by kernel_rfl)
              have HK := Lib.hid hK1
              clear hK1 hK2 hdep hsh he hsv hsl hFF hL hSW
              go_simp
              exact HK.out rfl _ (fp_mk rfl rfl trivial)
            · refine wpOpS_go rfl rfl ?_
              have t36 : b'.tmps[36]?.getD undef = Value.slice (some ⟨sb, 0, none⟩) 2 2 := hsv 0 36 _ (by kernel_rfl) (by kernel_rfl) rfl
              have t37 : b'.tmps[37]?.getD undef = Value.int .i64 (j : Int) := hsv 1 37 _ (by kernel_rfl) (by kernel_rfl) rfl
              have HK := Lib.hid hK1
              clear hK1 hK2 hdep hsh he hsv hsl hFF hL hSW
              go_simp
              exact HK.out rfl _ (fp_mk rfl rfl trivial)
            · refine wpOpS_go rfl rfl ?_
              have t38 : b'.tmps[38]?.getD undef = Value.pointer (some ⟨sb, j, none⟩) := hsv 2 38 _ (by kernel_rfl) (by kernel_rfl) rfl
              obtain ⟨s0, s1, s2⟩ := hSW
              have c0 := HPC.out W s0
              have HK := Lib.hid hK1
              clear hK1 hK2 hdep hsh he hsv hsl hFF hL
              clear s1 s2
              go_simp
              exact HK.out rfl _ (fp_mk rfl rfl trivial)
            · refine wpOpS_go rfl rfl ?_
              have t2 : b'.tmps[2]?.getD undef = Value.pointer (some ⟨mb, 0, none⟩) := he 2 (by kernel_rfl)
              obtain ⟨s0, s1, s2⟩ := hSW
              have c0 := (hN.keep s0).bm.cell
              have HK := Lib.hid hK1
              clear hK1 hK2 hdep hsh he hsv hsl hFF hL
              clear s1 s2
              go_simp
              exact HK.out rfl _ (fp_mk rfl rfl trivial)
            · refine wpOpS_go rfl rfl ?_
              have t1 : b'.tmps[1]?.getD undef = Value.int .i64 (ticks) := he 1 (by kernel_rfl)
              have HK := Lib.hid hK1
              clear hK1 hK2 hdep hsh he hsv hsl hFF hL hSW
              go_simp
              exact HK.out rfl _ (fp_mk rfl rfl trivial)
            · refine wpOpS_go rfl rfl ?_
              have t39 : b'.tmps[39]?.getD undef = p := hsv 3 39 _ (by kernel_rfl) (by kernel_rfl) rfl
              have t40 : b'.tmps[40]?.getD undef = Value.agg #[.int .i64 nM, .slice aA la cA, .slice aQ lq cQ, .int .i64 tk, .int .i64 gt, .int .i64 rm, .slice aR lr cR] := hsv 4 40 _ (by kernel_rfl) (by kernel_rfl) rfl
              have t41 : b'.tmps[41]?.getD undef = Value.int .i64 (ticks) := hsv 5 41 _ (by kernel_rfl) (by kernel_rfl) rfl
              obtain ⟨s0, s1, s2⟩ := hSW
              have HK := Lib.hid hK2
              clear hK1 hK2 hdep hsh he hsv hsl hFF hL
              go_simp
              refine (HFL.out W s0).mono ?_
              rintro e w6 ⟨rfl, hK⟩
              exact HK.out _ _ (fp_mk rfl rfl trivial) trivial ⟨more s0 hK, s1, fun h h' => (s2 h h').keep hK⟩
            · refine wpOpS_go rfl rfl ?_
              have t42 : b'.tmps[42]?.getD undef = Value.tuple #[Value.agg #[.int .i64 0, .int .i64 0, .slice none 0 0], .int .i64 1] := hsv 6 42 _ (by kernel_rfl) (by kernel_rfl) rfl
              have HK := Lib.hid hK1
              clear hK1 hK2 hdep hsh he hsv hsl hFF hL hSW
              go_simp
              exact HK.out rfl _ (fp_mk rfl rfl trivial)
            · refine wpOpS_go rfl rfl ?_
              have t35 : b'.tmps[35]?.getD undef = Value.tuple #[Value.agg #[.int .i64 0, .int .i64 0, .slice none 0 0], .int .i64 1] := hsv 7 35 _ (by kernel_rfl) (by kernel_rfl) rfl
              have HK := Lib.hid hK1
              clear hK1 hK2 hdep hsh he hsv hsl hFF hL hSW
              go_simp
              exact HK.out rfl _ (fp_mk rfl rfl trivial)
            · refine wpOpS_go rfl rfl ?_
              have t35 : b'.tmps[35]?.getD undef = Value.tuple #[Value.agg #[.int .i64 0, .int .i64 0, .slice none 0 0], .int .i64 1] := hsv 7 35 _ (by kernel_rfl) (by kernel_rfl) rfl
              have HK := Lib.hid hK1
              clear hK1 hK2 hdep hsh he hsv hsl hFF hL hSW
              go_simp
              exact HK.out rfl _ (fp_mk rfl rfl trivial)
            · refine wpOpS_go rfl rfl ?_
              obtain ⟨s0, s1, s2⟩ := hSW
              have HK := Lib.hid hK2
              clear hK1 hK2 hdep hsh he hsv hsl hFF hL
              refine op_new (cs := #[.int .i64 0, .int .i64 0, .slice none 0 0]) (t := 24) (by go_simp) ?_
              intro w6 hb6 hK hz6
              exact HK.out _ _ (fp_x rfl ⟨_, rfl⟩) trivial ⟨more s0 hK, fun _ => (by rw [updF_same]; exact s0.size), fun _ _ => (by rw [updF_same]; exact hb6)⟩
            · refine wpOpS_go rfl rfl ?_
              have t43 : b'.tmps[43]?.getD undef = Value.agg #[.int .i64 0, .int .i64 0, .slice none 0 0] := hsv 8 43 _ (by kernel_rfl) (by kernel_rfl) rfl
              obtain ⟨ta, hxa⟩ := hsl 10 9 (by kernel_rfl) (by kernel_rfl)
              obtain ⟨ea, e9⟩ := hxa
              have tv : b'.tmps[43]?.getD undef = Value.agg #[.int .i64 0, .int .i64 0, .slice none 0 0] := hsv 8 43 _ (by kernel_rfl) (by kernel_rfl) rfl
              obtain ⟨s0, s1, s2⟩ := hSW
              have h10 := hdep 10 (by kernel_rfl)
              have hxb := s2 h10 hL
              have hxn := s1 h10
              rw [e9] at hxb ta hxn
              have HK := Lib.hid hK2
              clear hK1 hK2 hdep hsh he hsv hsl hFF e9
              change Blk W ea #[.int .i64 0, .int .i64 0, .slice none 0 0] 24 at hxb
              change wr.heap.size ≤ ea at hxn
              refine op_store 24 _ _ rfl rfl hxb 0 (eval_tmp ta) (eval_tmp tv) [.int .i64 0, .int .i64 0, .slice none 0 0] rfl (by kernel_rfl) rfl rfl #[.int .i64 0, .int .i64 0, .slice none 0 0] rfl ?_
              intro w' h1 h2 h3
              exact HK.out undef _ (fp_x (v := undef) rfl trivial) trivial ⟨h2.below s0 (fun k hk => by omega), s1, fun _ h => absurd h (by rw [updF_same]; decide)⟩
            · refine wpOpS_go rfl rfl ?_
              have t44 : b'.tmps[44]?.getD undef = Value.int .i64 (1) := hsv 9 44 _ (by kernel_rfl) (by kernel_rfl) rfl
              have HK := Lib.hid hK1
              clear hK1 hK2 hdep hsh he hsv hsl hFF hL hSW
              go_simp
              exact HK.out rfl _ (fp_mk rfl rfl trivial)
          · intro f W hf L hL hS
            obtain ⟨s0, _, _⟩ := (hS : _ ∧ _ ∧ _)
            obtain ⟨ea, hea⟩ : ∃ e, f 10 = Value.pointer (some ⟨e, 0, none⟩) := (hf 10 (by decide)).2
            have e9 : f 12 = Value.int .i64 (1) := (hf 12 (by decide)).1 _ rfl
            clear hf hL
            simp only [puts2, Act.put]
            generalize f 0 = y0, f 1 = y1, f 2 = y2, f 3 = y3, f 4 = y4, f 5 = y5, f 6 = y6, f 7 = y7, f 8 = y8, f 9 = y9, f 11 = y11
            rw [hea, e9]
            try simp only [List.setIfInBounds_toArray, List.set_cons_zero, List.set_cons_succ]
            clear e9 hea
            go_wp2_with fail
            have HS0 := (show Below wr.heap.size wr W.drew ∧ ((fun _ : Nat => false) 10 = true → wr.heap.size ≤ pb ((fun _ : Nat => undef) 10)) ∧ ((fun _ : Nat => false) 10 = true → (fun _ : Nat => false) 11 = false → Blk W.drew (pb ((fun _ : Nat => undef) 10)) #[.int .i64 0, .int .i64 0, .slice none 0 0] 24) from ⟨s0.drew, fun h => (by cases h), fun h => (by cases h)⟩)
            clear s0
            refine region_fp [some 46, some 47, some 48, some 49, some 50, some 51, some 52, some 45, some 53, some 54, some 11, none, some 12] [10, 11] [some (Value.slice (some ⟨sb, 0, none⟩) 2 2), some (Value.int .i64 (j : Int)), some (Value.pointer (some ⟨sb, j, none⟩)), some (p), some (Value.agg #[.int .i64 nM, .slice aA la cA, .slice aQ lq cQ, .int .i64 tk, .int .i64 gt, .int .i64 rm, .slice aR lr cR]), some (Value.int .i64 (ticks)), some (Value.tuple #[Value.agg #[.int .i64 0, .int .i64 0, .slice none 0 0], .int .i64 1]), some (Value.tuple #[Value.agg #[.int .i64 0, .int .i64 0, .slice none 0 0], .int .i64 1]), some (Value.agg #[.int .i64 0, .int .i64 0, .slice none 0 0]), some (Value.int .i64 (1)), none, none, some (Value.int .i64 (1))]
              (fun i v W => match i with | 10 => ∃ e, v = Value.pointer (some ⟨e, 0, none⟩) | _ => True) (fun _ _ => True) (fun L f W => Below wr.heap.size wr W ∧ (L 10 = true → wr.heap.size ≤ pb (f 10)) ∧ (L 10 = true → L 11 = false → Blk W (pb (f 10)) #[.int .i64 0, .int .i64 0, .slice none 0 0] 24))
              (by kernel_rfl) (by kernel_rfl) (by kernel_rfl) (by kernel_rfl) (by kernel_rfl) (fun _ => trivial) (fun i v W W' h hb => by
                match i, h with
                | 10, h => exact h
                | 0, _ | 1, _ | 2, _ | 3, _ | 4, _ | 5, _ | 6, _ | 7, _ | 8, _ | 9, _ | 11, _ | 12, _ => trivial
                | (n + 13), _ => trivial) (fun L L' f f' W h hs => by have q10 := h 10 (by decide); have q11 := (h 11 (by decide)).1; (try dsimp only at hs ⊢); rw [← q10.1, ← q10.2, ← q11]; exact hs) HS0 ?_ ?_
            · intro i hi b' L f W hSW hL hdep hsh he hsv hsl hFF K hK1 hK2
              replace hi : i < 13 := hi
              have hcs : i = 0 ∨ i = 1 ∨ i = 2 ∨ i = 3 ∨ i = 4 ∨ i = 5 ∨ i = 6 ∨ i = 7 ∨ i = 8 ∨ i = 9 ∨ i = 10 ∨ i = 11 ∨ i = 12 := by omega
              clear hi
              rcases hcs with rfl | rfl | rfl | rfl | rfl | rfl | rfl | rfl | rfl | rfl | rfl | rfl | rfl
              · refine wpOpS_go rfl rfl ?_
                have t5 : b'.tmps[5]?.getD undef = Value.slice (some ⟨sb, 0, none⟩) 2 2 := he 5 (by kernel_rfl)
                have HK := Lib.hid hK1
                clear hK1 hK2 hdep hsh he hsv hsl hFF hL hSW
                go_simp
                exact HK.out rfl _ (fp_mk rfl rfl trivial)
              · refine wpOpS_go rfl rfl ?_
                have t6 : b'.tmps[6]?.getD undef = Value.int .i64 (j : Int) := he 6 (by kernel_rfl)
                have HK := Lib.hid hK1
                clear hK1 hK2 hdep hsh he hsv hsl hFF hL hSW
                go_simp
                exact HK.out rfl _ (fp_mk rfl rfl trivial)
              · refine wpOpS_go rfl rfl ?_
                have t46 : b'.tmps[46]?.getD undef = Value.slice (some ⟨sb, 0, none⟩) 2 2 := hsv 0 46 _ (by kernel_rfl) (by kernel_rfl) rfl
                have t47 : b'.tmps[47]?.getD undef = Value.int .i64 (j : Int) := hsv 1 47 _ (by kernel_rfl) (by kernel_rfl) rfl
                have HK := Lib.hid hK1
                clear hK1 hK2 hdep hsh he hsv hsl hFF hL hSW
                go_simp
                exact HK.out rfl _ (fp_mk rfl rfl trivial)
              · refine wpOpS_go rfl rfl ?_
                have t48 : b'.tmps[48]?.getD undef = Value.pointer (some ⟨sb, j, none⟩) := hsv 2 48 _ (by kernel_rfl) (by kernel_rfl) rfl
                obtain ⟨s0, s1, s2⟩ := hSW
                have c0 := HPC.out W s0
                have HK := Lib.hid hK1
                clear hK1 hK2 hdep hsh he hsv hsl hFF hL
                clear s1 s2
                go_simp
                exact HK.out rfl _ (fp_mk rfl rfl trivial)
              · refine wpOpS_go rfl rfl ?_
                have t2 : b'.tmps[2]?.getD undef = Value.pointer (some ⟨mb, 0, none⟩) := he 2 (by kernel_rfl)
                obtain ⟨s0, s1, s2⟩ := hSW
                have c0 := (hN.keep s0).bm.cell
                have HK := Lib.hid hK1
                clear hK1 hK2 hdep hsh he hsv hsl hFF hL
                clear s1 s2
                go_simp
                exact HK.out rfl _ (fp_mk rfl rfl trivial)
              · refine wpOpS_go rfl rfl ?_
                have t1 : b'.tmps[1]?.getD undef = Value.int .i64 (ticks) := he 1 (by kernel_rfl)
                have HK := Lib.hid hK1
                clear hK1 hK2 hdep hsh he hsv hsl hFF hL hSW
                go_simp
                exact HK.out rfl _ (fp_mk rfl rfl trivial)
              · refine wpOpS_go rfl rfl ?_
                have t49 : b'.tmps[49]?.getD undef = p := hsv 3 49 _ (by kernel_rfl) (by kernel_rfl) rfl
                have t50 : b'.tmps[50]?.getD undef = Value.agg #[.int .i64 nM, .slice aA la cA, .slice aQ lq cQ, .int .i64 tk, .int .i64 gt, .int .i64 rm, .slice aR lr cR] := hsv 4 50 _ (by kernel_rfl) (by kernel_rfl) rfl
                have t51 : b'.tmps[51]?.getD undef = Value.int .i64 (ticks) := hsv 5 51 _ (by kernel_rfl) (by kernel_rfl) rfl
                obtain ⟨s0, s1, s2⟩ := hSW
                have HK := Lib.hid hK2
                clear hK1 hK2 hdep hsh he hsv hsl hFF hL
                go_simp
                refine (HNO.out W s0).mono ?_
                rintro e w6 ⟨rfl, hK⟩
                exact HK.out _ _ (fp_mk rfl rfl trivial) trivial ⟨more s0 hK, s1, fun h h' => (s2 h h').keep hK⟩
              · refine wpOpS_go rfl rfl ?_
                have t52 : b'.tmps[52]?.getD undef = Value.tuple #[Value.agg #[.int .i64 0, .int .i64 0, .slice none 0 0], .int .i64 1] := hsv 6 52 _ (by kernel_rfl) (by kernel_rfl) rfl
                have HK := Lib.hid hK1
                clear hK1 hK2 hdep hsh he hsv hsl hFF hL hSW
                go_simp
                exact HK.out rfl _ (fp_mk rfl rfl trivial)
              · refine wpOpS_go rfl rfl ?_
                have t45 : b'.tmps[45]?.getD undef = Value.tuple #[Value.agg #[.int .i64 0, .int .i64 0, .slice none 0 0], .int .i64 1] := hsv 7 45 _ (by kernel_rfl) (by kernel_rfl) rfl
                have HK := Lib.hid hK1
                clear hK1 hK2 hdep hsh he hsv hsl hFF hL hSW
                go_simp
                exact HK.out rfl _ (fp_mk rfl rfl trivial)
              · refine wpOpS_go rfl rfl ?_
                have t45 : b'.tmps[45]?.getD undef = Value.tuple #[Value.agg #[.int .i64 0, .int .i64 0, .slice none 0 0], .int .i64 1] := hsv 7 45 _ (by kernel_rfl) (by kernel_rfl) rfl
                have HK := Lib.hid hK1
                clear hK1 hK2 hdep hsh he hsv hsl hFF hL hSW
                go_simp
                exact HK.out rfl _ (fp_mk rfl rfl trivial)
              · refine wpOpS_go rfl rfl ?_
                obtain ⟨s0, s1, s2⟩ := hSW
                have HK := Lib.hid hK2
                clear hK1 hK2 hdep hsh he hsv hsl hFF hL
                refine op_new (cs := #[.int .i64 0, .int .i64 0, .slice none 0 0]) (t := 24) (by go_simp) ?_
                intro w6 hb6 hK hz6
                exact HK.out _ _ (fp_x rfl ⟨_, rfl⟩) trivial ⟨more s0 hK, fun _ => (by rw [updF_same]; exact s0.size), fun _ _ => (by rw [updF_same]; exact hb6)⟩
              · refine wpOpS_go rfl rfl ?_
                have t53 : b'.tmps[53]?.getD undef = Value.agg #[.int .i64 0, .int .i64 0, .slice none 0 0] := hsv 8 53 _ (by kernel_rfl) (by kernel_rfl) rfl
                obtain ⟨ta, hxa⟩ := hsl 10 11 (by kernel_rfl) (by kernel_rfl)
                obtain ⟨ea, e9⟩ := hxa
                have tv : b'.tmps[53]?.getD undef = Value.agg #[.int .i64 0, .int .i64 0, .slice none 0 0] := hsv 8 53 _ (by kernel_rfl) (by kernel_rfl) rfl
                obtain ⟨s0, s1, s2⟩ := hSW
                have h10 := hdep 10 (by kernel_rfl)
                have hxb := s2 h10 hL
                have hxn := s1 h10
                rw [e9] at hxb ta hxn
                have HK := Lib.hid hK2
                clear hK1 hK2 hdep hsh he hsv hsl hFF e9
                change Blk W ea #[.int .i64 0, .int .i64 0, .slice none 0 0] 24 at hxb
                change wr.heap.size ≤ ea at hxn
                refine op_store 24 _ _ rfl rfl hxb 0 (eval_tmp ta) (eval_tmp tv) [.int .i64 0, .int .i64 0, .slice none 0 0] rfl (by kernel_rfl) rfl rfl #[.int .i64 0, .int .i64 0, .slice none 0 0] rfl ?_
                intro w' h1 h2 h3
                exact HK.out undef _ (fp_x (v := undef) rfl trivial) trivial ⟨h2.below s0 (fun k hk => by omega), s1, fun _ h => absurd h (by rw [updF_same]; decide)⟩
              · refine wpOpS_go rfl rfl ?_
                have t54 : b'.tmps[54]?.getD undef = Value.int .i64 (1) := hsv 9 54 _ (by kernel_rfl) (by kernel_rfl) rfl
                have HK := Lib.hid hK1
                clear hK1 hK2 hdep hsh he hsv hsl hFF hL hSW
                go_simp
                exact HK.out rfl _ (fp_mk rfl rfl trivial)
            · intro f W hf L hL hS
              obtain ⟨s0, _, _⟩ := (hS : _ ∧ _ ∧ _)
              obtain ⟨ea, hea⟩ : ∃ e, f 10 = Value.pointer (some ⟨e, 0, none⟩) := (hf 10 (by decide)).2
              have e9 : f 12 = Value.int .i64 (1) := (hf 12 (by decide)).1 _ rfl
              clear hf hL
              simp only [puts2, Act.put]
              generalize f 0 = y0, f 1 = y1, f 2 = y2, f 3 = y3, f 4 = y4, f 5 = y5, f 6 = y6, f 7 = y7, f 8 = y8, f 9 = y9, f 11 = y11
              rw [hea, e9]
              try simp only [List.setIfInBounds_toArray, List.set_cons_zero, List.set_cons_succ]
              clear e9 hea
              replace hN := hN.keep s0
              clear s0 HPC HSP HFL HNO
              go_wp2_with fail
              go_roundw
              case rel => exact ⟨j + 1, by omega, by go_num, hN⟩
              case measure => simp [intOf]; omega
      · have hge : ¬ (j : Int) < 2 := by omega
        have hB := hN.bel
        go_wp2_with fail
        refine (awake11_is _).mono ?_
        rintro e w4 ⟨rfl, hK4⟩
        replace hB := more hB hK4
        go_wp2_with fail
        go_ret
        exact ⟨rfl, hB⟩

end Go.Proofs.YtkjbidpafnmogaaGreat.Base
