/- poly.polynomial. -/
import Derived.Test.YtkjbidpafnmogaaGreatPolE
import Derived.Deep.RegionHeld3
namespace Go.Proofs.YtkjbidpafnmogaaGreat.Base
open Go.RowKit
set_option linter.unusedVariables false
set_option linter.unusedSimpArgs false

structure PcS (W : World) (pb mb : Nat) (x : Addr) (n k : Nat) (pr pc mr mc : Int) (a : Option Addr) (vl kk : Nat) (w : World) : Prop where
  c0 : Blk w mb #[.int .i64 mr, .int .i64 mc, .slice a vl kk] 24
  c1 : w.cell? ⟨pb, 0, none⟩ = some (.slice (some x) n k)
  c2 : w.cell? x = some (.int .i64 pr)
  c3 : w.cell? ⟨x.block, x.off + 1, none⟩ = some (.int .i64 pc)
  bel : Below W.heap.size W w
theorem cell_kp {w w' : World} {p : Addr} {v : Value} (hc : w.cell? p = some v) (h : Below w.heap.size w w') : w'.cell? p = some v := (h.cell (World.block_lt_of_cell? w _ hc)).trans hc
theorem PcS.keep {W : World} {pb mb : Nat} {x : Addr} {n k : Nat} {pr pc mr mc : Int} {a : Option Addr} {vl kk : Nat} {w w' : World} (h : PcS W pb mb x n k pr pc mr mc a vl kk w) (hb : Below w.heap.size w w') : PcS W pb mb x n k pr pc mr mc a vl kk w' :=
  ⟨h.c0.keep hb, cell_kp h.c1 hb, cell_kp h.c2 hb, cell_kp h.c3 hb, more h.bel hb⟩
theorem PcS.cells {W : World} {pb mb : Nat} {x : Addr} {n k : Nat} {pr pc mr mc : Int} {a : Option Addr} {vl kk : Nat} {w : World} (h : PcS W pb mb x n k pr pc mr mc a vl kk w) :
    PcS W pb mb x n k pr pc mr mc a vl kk w ∧ w.cell? ⟨mb, 0, none⟩ = some (.int .i64 mr) ∧ w.cell? ⟨mb, 1, none⟩ = some (.int .i64 mc) ∧ w.cell? ⟨mb, 2, none⟩ = some (.slice a vl kk) ∧ w.cell? ⟨pb, 0, none⟩ = some (.slice (some x) n k) ∧ w.cell? x = some (.int .i64 pr) ∧ w.cell? ⟨x.block, x.off + 1, none⟩ = some (.int .i64 pc) :=
  ⟨h, by simpa using h.c0.cell 0, by simpa using h.c0.cell 1, by simpa using h.c0.cell 2, h.c1, h.c2, h.c3⟩

set_option maxHeartbeats 4000000 in
set_option maxRecDepth 100000 in
theorem poly1_is {W : World} {pb : Nat} {x : Addr} {n k : Nat} {p0 m : Mt} {a : Option Addr} {kk : Nat} (hn : 0 < n) (hp : W.cell? ⟨pb, 0, none⟩ = some (.slice (some x) n k)) (h1 : W.cell? x = some (.int .i64 p0.r)) (h2 : W.cell? ⟨x.block, x.off + 1, none⟩ = some (.int .i64 p0.c)) :
    Calls Tryz.prog 105 #[.agg #[.int .i64 m.r, .int .i64 m.c, .slice a m.v.length kk], .pointer (some ⟨pb, 0, none⟩)] W fun e w' => e = .returned (.bool (decide (¬ (okMt m ∧ m.r = p0.r ∧ m.c = p0.c)))) ∧ Below W.heap.size W w' := by
  obtain ⟨ans, hans⟩ : ∃ ans, decide (¬ (okMt m ∧ m.r = p0.r ∧ m.c = p0.c)) = ans := ⟨_, rfl⟩
  rw [hans]
  have hCh := fun w => mcheck_is m a kk w
  have HA := Lib.hid hans
  clear hans
  have HOK := Lib.hid (show okMt m ↔ chkMt m = 0 by unfold chkMt; split <;> simp_all)
  have hn0 : ¬ (n = 0) := by omega
  have hS0 : PcS W pb W.heap.size x n k p0.r p0.c m.r m.c a m.v.length kk (W.alloc (.cells #[.int .i64 m.r, .int .i64 m.c, .slice a m.v.length kk] 24)).drew := by
    have hBA := (upA (upR W) (Obj.cells #[Value.int .i64 m.r, .int .i64 m.c, .slice a m.v.length kk] 24)).drew
    exact ⟨(Blk.new _ _ _).drew, cell_kp hp hBA, cell_kp h1 hBA, cell_kp h2 hBA, hBA⟩
  clear hp h1 h2
  by_cases hok : okMt m
  · have hc0 := HOK.out.1 hok
    rw [hc0] at hCh
    have HOK2 := Lib.hid hok
    clear hc0 HOK hok
    obtain ⟨mr, mc, mv⟩ := m
    obtain ⟨pr, pc, pv⟩ := p0
    dsimp only at *
    generalize mv.length = vl at *
    by_cases hr : mr = pr
    · by_cases hc : mc = pc
      · have HF := Lib.hid (show ans = false by rw [← HA.out]; exact decide_eq_false fun h => h ⟨HOK2.out, hr, hc⟩)
        subst hr hc
        clear HA
        go_enter Tryz.func105, Tryz.ntmps105
        go_wp2_with fail
        go_region_held3 (fun w => PcS W pb W.heap.size x n k mr mc mr mc a vl kk w ∧ w.cell? ⟨W.heap.size, 0, none⟩ = some (.int .i64 mr) ∧ w.cell? ⟨W.heap.size, 1, none⟩ = some (.int .i64 mc) ∧ w.cell? ⟨W.heap.size, 2, none⟩ = some (.slice a vl kk) ∧ w.cell? ⟨pb, 0, none⟩ = some (.slice (some x) n k) ∧ w.cell? x = some (.int .i64 mr) ∧ w.cell? ⟨x.block, x.off + 1, none⟩ = some (.int .i64 mc))
          (exact PcS.cells (by assumption))
          (first
            | (go_at_call 68; refine (hCh _).mono ?_; rintro e w3 ⟨rfl, hK3⟩; have hS3 := PcS.keep (by assumption) hK3; clear hK3))
        have hbel := hS3.bel
        clear hS3 hS0
        go_wp2_with fail
        go_ret
        exact ⟨by rw [HF.out]; rfl, hbel⟩
      · have HF := Lib.hid (show ans = true by rw [← HA.out]; exact decide_eq_true fun h => hc h.2.2)
        subst hr
        have hb : (mc == pc) = false := by simpa using hc
        have hb2 : (mc != pc) = true := by simpa using hc
        clear HA
        go_enter Tryz.func105, Tryz.ntmps105
        go_wp2_with fail
        go_region_held3 (fun w => PcS W pb W.heap.size x n k mr pc mr mc a vl kk w ∧ w.cell? ⟨W.heap.size, 0, none⟩ = some (.int .i64 mr) ∧ w.cell? ⟨W.heap.size, 1, none⟩ = some (.int .i64 mc) ∧ w.cell? ⟨W.heap.size, 2, none⟩ = some (.slice a vl kk) ∧ w.cell? ⟨pb, 0, none⟩ = some (.slice (some x) n k) ∧ w.cell? x = some (.int .i64 mr) ∧ w.cell? ⟨x.block, x.off + 1, none⟩ = some (.int .i64 pc))
          (exact PcS.cells (by assumption))
          (first
            | (go_at_call 68; refine (hCh _).mono ?_; rintro e w3 ⟨rfl, hK3⟩; have hS3 := PcS.keep (by assumption) hK3; clear hK3))
        have hbel := hS3.bel
        clear hS3 hS0
        go_wp2_with fail
        go_ret
        exact ⟨by rw [HF.out]; rfl, hbel⟩
    · have HF := Lib.hid (show ans = true by rw [← HA.out]; exact decide_eq_true fun h => hr h.2.1)
      have hb : (mr == pr) = false := by simpa using hr
      have hb2 : (mr != pr) = true := by simpa using hr
      clear HA
      go_enter Tryz.func105, Tryz.ntmps105
      go_wp2_with fail
      refine region_fp [some 4, some 5, some 6, some 7, some 8, some 9, some 10, some 11, some 12, some 13, some 14, some 15, some 16, some 17, some 18, some 19, some 20, some 21, some 22, some 23, some 24, some 3] [] [some (Value.agg #[Value.int .i64 mr, Value.int .i64 mc, Value.slice a vl kk]), some (Value.int .i64 0), some (Value.bool false), some (Value.bool false), some (Value.pointer (some ⟨W.heap.size, 0, none⟩)), some (Value.int .i64 mr), some (Value.slice (some x) n k), some (Value.pointer (some x)), some (Value.pointer (some x)), some (Value.int .i64 pr), some (Value.bool true), some (Value.bool true), some (Value.bool true), some (undef), some (undef), some (undef), some (undef), some (undef), some (undef), some (undef), some (Value.bool true), some (Value.bool true)]
        (fun _ _ _ => True) (fun W W' => Below W.heap.size W W') (fun _ _ w => PcS W pb W.heap.size x n k pr pc mr mc a vl kk w)
        (by kernel_rfl) (by kernel_rfl) (by kernel_rfl) (by kernel_rfl) (by kernel_rfl) (fun _ => Below.refl _ _) (fun _ _ _ _ h _ => h) (fun _ _ _ _ _ _ h => h) hS0 ?_ ?_
      · intro i hi b' L f W' hSW hL hdep hsh he hsv hsl hFF K hK1 hK2
        replace hi : i < 22 := hi
        have hcs : i = 0 ∨ i = 1 ∨ i = 2 ∨ i = 3 ∨ i = 4 ∨ i = 5 ∨ i = 6 ∨ i = 7 ∨ i = 8 ∨ i = 9 ∨ i = 10 ∨ i = 11 ∨ i = 12 ∨ i = 13 ∨ i = 14 ∨ i = 15 ∨ i = 16 ∨ i = 17 ∨ i = 18 ∨ i = 19 ∨ i = 20 ∨ i = 21 := by omega
        clear hi
        rcases hcs with rfl | rfl | rfl | rfl | rfl | rfl | rfl | rfl | rfl | rfl | rfl | rfl | rfl | rfl | rfl | rfl | rfl | rfl | rfl | rfl | rfl | rfl
        · refine wpOpS_go rfl rfl ?_
          have t2 : b'.tmps[2]?.getD undef = Value.pointer (some ⟨W.heap.size, 0, none⟩) := he 2 (by kernel_rfl)
          obtain ⟨_, b0, b1, b2, b3, b4, b5⟩ := hSW.cells
          clear hSW
          have HK := Lib.hid hK1
          clear hK1 hK2 hdep hsh he hsv hsl hFF hL
          go_simp
          exact HK.out rfl _ (fp_mk rfl rfl trivial)
        · refine wpOpS_go rfl rfl ?_
          have t4 : b'.tmps[4]?.getD undef = Value.agg #[Value.int .i64 mr, Value.int .i64 mc, Value.slice a vl kk] := hsv 0 4 _ (by kernel_rfl) (by kernel_rfl) rfl
          have HK := Lib.hid hK2
          clear hK1 hK2 hdep hsh he hsv hsl hFF hL
          go_simp
          refine (hCh _).mono ?_
          rintro e w6 ⟨rfl, hK⟩
          exact HK.out _ _ (fp_mk rfl rfl trivial) hK (PcS.keep hSW hK)
        · refine wpOpS_go rfl rfl ?_
          have t5 : b'.tmps[5]?.getD undef = Value.int .i64 0 := hsv 1 5 _ (by kernel_rfl) (by kernel_rfl) rfl
          have HK := Lib.hid hK1
          clear hK1 hK2 hdep hsh he hsv hsl hFF hL hSW
          go_simp
          exact HK.out rfl _ (fp_mk rfl rfl trivial)
        · refine wpOpS_go rfl rfl ?_
          have t6 : b'.tmps[6]?.getD undef = Value.bool false := hsv 2 6 _ (by kernel_rfl) (by kernel_rfl) rfl
          have HK := Lib.hid hK1
          clear hK1 hK2 hdep hsh he hsv hsl hFF hL hSW
          go_simp
          exact HK.out rfl _ (fp_mk rfl rfl trivial)
        · refine wpOpS_guard (dg := 7) rfl rfl rfl rfl (hsv 3 7 _ (by kernel_rfl) (by kernel_rfl) rfl) ?_
          rw [if_pos rfl]
          have t2 : b'.tmps[2]?.getD undef = Value.pointer (some ⟨W.heap.size, 0, none⟩) := he 2 (by kernel_rfl)
          have HK := Lib.hid hK1
          clear hK1 hK2 hdep hsh he hsv hsl hFF hL hSW
          go_simp
          exact HK.out rfl _ (fp_mk rfl rfl trivial)
        · refine wpOpS_guard (dg := 7) rfl rfl rfl rfl (hsv 3 7 _ (by kernel_rfl) (by kernel_rfl) rfl) ?_
          rw [if_pos rfl]
          have t8 : b'.tmps[8]?.getD undef = Value.pointer (some ⟨W.heap.size, 0, none⟩) := hsv 4 8 _ (by kernel_rfl) (by kernel_rfl) rfl
          obtain ⟨_, b0, b1, b2, b3, b4, b5⟩ := hSW.cells
          clear hSW
          have HK := Lib.hid hK1
          clear hK1 hK2 hdep hsh he hsv hsl hFF hL
          go_simp
          exact HK.out rfl _ (fp_mk rfl rfl trivial)
        · refine wpOpS_guard (dg := 7) rfl rfl rfl rfl (hsv 3 7 _ (by kernel_rfl) (by kernel_rfl) rfl) ?_
          rw [if_pos rfl]
          have t1 : b'.tmps[1]?.getD undef = Value.pointer (some ⟨pb, 0, none⟩) := he 1 (by kernel_rfl)
          obtain ⟨_, b0, b1, b2, b3, b4, b5⟩ := hSW.cells
          clear hSW
          have HK := Lib.hid hK1
          clear hK1 hK2 hdep hsh he hsv hsl hFF hL
          go_simp
          exact HK.out rfl _ (fp_mk rfl rfl trivial)
        · refine wpOpS_guard (dg := 7) rfl rfl rfl rfl (hsv 3 7 _ (by kernel_rfl) (by kernel_rfl) rfl) ?_
          rw [if_pos rfl]
          have t10 : b'.tmps[10]?.getD undef = Value.slice (some x) n k := hsv 6 10 _ (by kernel_rfl) (by kernel_rfl) rfl
          obtain ⟨_, b0, b1, b2, b3, b4, b5⟩ := hSW.cells
          clear hSW
          have HK := Lib.hid hK1
          clear hK1 hK2 hdep hsh he hsv hsl hFF hL
          go_simp
          exact HK.out rfl _ (fp_mk rfl rfl trivial)
        · refine wpOpS_guard (dg := 7) rfl rfl rfl rfl (hsv 3 7 _ (by kernel_rfl) (by kernel_rfl) rfl) ?_
          rw [if_pos rfl]
          have t11 : b'.tmps[11]?.getD undef = Value.pointer (some x) := hsv 7 11 _ (by kernel_rfl) (by kernel_rfl) rfl
          have HK := Lib.hid hK1
          clear hK1 hK2 hdep hsh he hsv hsl hFF hL hSW
          go_simp
          exact HK.out rfl _ (fp_mk rfl rfl trivial)
        · refine wpOpS_guard (dg := 7) rfl rfl rfl rfl (hsv 3 7 _ (by kernel_rfl) (by kernel_rfl) rfl) ?_
          rw [if_pos rfl]
          have t12 : b'.tmps[12]?.getD undef = Value.pointer (some x) := hsv 8 12 _ (by kernel_rfl) (by kernel_rfl) rfl
          obtain ⟨_, b0, b1, b2, b3, b4, b5⟩ := hSW.cells
          clear hSW
          have HK := Lib.hid hK1
          clear hK1 hK2 hdep hsh he hsv hsl hFF hL
          go_simp
          exact HK.out rfl _ (fp_mk rfl rfl trivial)
        · refine wpOpS_guard (dg := 7) rfl rfl rfl rfl (hsv 3 7 _ (by kernel_rfl) (by kernel_rfl) rfl) ?_
          rw [if_pos rfl]
          have t9 : b'.tmps[9]?.getD undef = Value.int .i64 mr := hsv 5 9 _ (by kernel_rfl) (by kernel_rfl) rfl
          have t13 : b'.tmps[13]?.getD undef = Value.int .i64 pr := hsv 9 13 _ (by kernel_rfl) (by kernel_rfl) rfl
          have HK := Lib.hid hK1
          clear hK1 hK2 hdep hsh he hsv hsl hFF hL hSW
          go_simp
          exact HK.out rfl _ (fp_mk rfl rfl trivial)
        · refine wpOpS_go rfl rfl ?_
          have t7 : b'.tmps[7]?.getD undef = Value.bool false := hsv 3 7 _ (by kernel_rfl) (by kernel_rfl) rfl
          have t14 : b'.tmps[14]?.getD undef = Value.bool true := hsv 10 14 _ (by kernel_rfl) (by kernel_rfl) rfl
          have HK := Lib.hid hK1
          clear hK1 hK2 hdep hsh he hsv hsl hFF hL hSW
          go_simp
          exact HK.out rfl _ (fp_mk rfl rfl trivial)
        · refine wpOpS_go rfl rfl ?_
          have t15 : b'.tmps[15]?.getD undef = Value.bool true := hsv 11 15 _ (by kernel_rfl) (by kernel_rfl) rfl
          have HK := Lib.hid hK1
          clear hK1 hK2 hdep hsh he hsv hsl hFF hL hSW
          go_simp
          exact HK.out rfl _ (fp_mk rfl rfl trivial)
        · refine wpOpS_guard (dg := 16) rfl rfl rfl rfl (hsv 12 16 _ (by kernel_rfl) (by kernel_rfl) rfl) ?_
          rw [if_neg (by decide)]
          exact hK1 rfl _ (fp_mk rfl rfl trivial)
        · refine wpOpS_guard (dg := 16) rfl rfl rfl rfl (hsv 12 16 _ (by kernel_rfl) (by kernel_rfl) rfl) ?_
          rw [if_neg (by decide)]
          exact hK1 rfl _ (fp_mk rfl rfl trivial)
        · refine wpOpS_guard (dg := 16) rfl rfl rfl rfl (hsv 12 16 _ (by kernel_rfl) (by kernel_rfl) rfl) ?_
          rw [if_neg (by decide)]
          exact hK1 rfl _ (fp_mk rfl rfl trivial)
        · refine wpOpS_guard (dg := 16) rfl rfl rfl rfl (hsv 12 16 _ (by kernel_rfl) (by kernel_rfl) rfl) ?_
          rw [if_neg (by decide)]
          exact hK1 rfl _ (fp_mk rfl rfl trivial)
        · refine wpOpS_guard (dg := 16) rfl rfl rfl rfl (hsv 12 16 _ (by kernel_rfl) (by kernel_rfl) rfl) ?_
          rw [if_neg (by decide)]
          exact hK1 rfl _ (fp_mk rfl rfl trivial)
        · refine wpOpS_guard (dg := 16) rfl rfl rfl rfl (hsv 12 16 _ (by kernel_rfl) (by kernel_rfl) rfl) ?_
          rw [if_neg (by decide)]
          exact hK1 rfl _ (fp_mk rfl rfl trivial)
        · refine wpOpS_guard (dg := 16) rfl rfl rfl rfl (hsv 12 16 _ (by kernel_rfl) (by kernel_rfl) rfl) ?_
          rw [if_neg (by decide)]
          exact hK1 rfl _ (fp_mk rfl rfl trivial)
        · refine wpOpS_go rfl rfl ?_
          have t16 : b'.tmps[16]?.getD undef = Value.bool true := hsv 12 16 _ (by kernel_rfl) (by kernel_rfl) rfl
          have t23 : b'.tmps[23]?.getD undef = undef := hsv 19 23 _ (by kernel_rfl) (by kernel_rfl) rfl
          have HK := Lib.hid hK1
          clear hK1 hK2 hdep hsh he hsv hsl hFF hL hSW
          go_simp
          exact HK.out rfl _ (fp_mk rfl rfl trivial)
        · refine wpOpS_go rfl rfl ?_
          have t24 : b'.tmps[24]?.getD undef = Value.bool true := hsv 20 24 _ (by kernel_rfl) (by kernel_rfl) rfl
          have HK := Lib.hid hK1
          clear hK1 hK2 hdep hsh he hsv hsl hFF hL hSW
          go_simp
          exact HK.out rfl _ (fp_mk rfl rfl trivial)
      · intro f W' hf L hL hS
        have e0 : f 0 = Value.agg #[Value.int .i64 mr, Value.int .i64 mc, Value.slice a vl kk] := (hf 0 (by decide)).1 _ rfl
        have e1 : f 1 = Value.int .i64 0 := (hf 1 (by decide)).1 _ rfl
        have e2 : f 2 = Value.bool false := (hf 2 (by decide)).1 _ rfl
        have e3 : f 3 = Value.bool false := (hf 3 (by decide)).1 _ rfl
        have e4 : f 4 = Value.pointer (some ⟨W.heap.size, 0, none⟩) := (hf 4 (by decide)).1 _ rfl
        have e5 : f 5 = Value.int .i64 mr := (hf 5 (by decide)).1 _ rfl
        have e6 : f 6 = Value.slice (some x) n k := (hf 6 (by decide)).1 _ rfl
        have e7 : f 7 = Value.pointer (some x) := (hf 7 (by decide)).1 _ rfl
        have e8 : f 8 = Value.pointer (some x) := (hf 8 (by decide)).1 _ rfl
        have e9 : f 9 = Value.int .i64 pr := (hf 9 (by decide)).1 _ rfl
        have e10 : f 10 = Value.bool true := (hf 10 (by decide)).1 _ rfl
        have e11 : f 11 = Value.bool true := (hf 11 (by decide)).1 _ rfl
        have e12 : f 12 = Value.bool true := (hf 12 (by decide)).1 _ rfl
        have e13 : f 13 = undef := (hf 13 (by decide)).1 _ rfl
        have e14 : f 14 = undef := (hf 14 (by decide)).1 _ rfl
        have e15 : f 15 = undef := (hf 15 (by decide)).1 _ rfl
        have e16 : f 16 = undef := (hf 16 (by decide)).1 _ rfl
        have e17 : f 17 = undef := (hf 17 (by decide)).1 _ rfl
        have e18 : f 18 = undef := (hf 18 (by decide)).1 _ rfl
        have e19 : f 19 = undef := (hf 19 (by decide)).1 _ rfl
        have e20 : f 20 = Value.bool true := (hf 20 (by decide)).1 _ rfl
        have e21 : f 21 = Value.bool true := (hf 21 (by decide)).1 _ rfl
        have hbel := PcS.bel hS
        clear hf hL hS hS0
        simp only [puts2, Act.put, e0, e1, e2, e3, e4, e5, e6, e7, e8, e9, e10, e11, e12, e13, e14, e15, e16, e17, e18, e19, e20, e21]
        try simp only [List.setIfInBounds_toArray, List.set_cons_zero, List.set_cons_succ]
        go_wp2_with fail
        go_ret
        exact ⟨by rw [HF.out]; rfl, hbel⟩
  · have HF := Lib.hid (show ans = true by rw [← HA.out]; exact decide_eq_true fun h => hok h.1)
    have hc0 : chkMt m = 3 := if_neg hok
    rw [hc0] at hCh
    clear hc0 HOK hok HA
    obtain ⟨mr, mc, mv⟩ := m
    obtain ⟨pr, pc, pv⟩ := p0
    dsimp only at *
    generalize mv.length = vl at *
    go_enter Tryz.func105, Tryz.ntmps105
    go_wp2_with fail
    refine region_fp [some 4, some 5, some 6, some 7, some 8, some 9, some 10, some 11, some 12, some 13, some 14, some 15, some 16, some 17, some 18, some 19, some 20, some 21, some 22, some 23, some 24, some 3] [] [some (Value.agg #[Value.int .i64 mr, Value.int .i64 mc, Value.slice a vl kk]), some (Value.int .i64 3), some (Value.bool true), some (Value.bool true), some (undef), some (undef), some (undef), some (undef), some (undef), some (undef), some (undef), some (Value.bool true), some (Value.bool true), some (undef), some (undef), some (undef), some (undef), some (undef), some (undef), some (undef), some (Value.bool true), some (Value.bool true)]
      (fun _ _ _ => True) (fun W W' => Below W.heap.size W W') (fun _ _ w => PcS W pb W.heap.size x n k pr pc mr mc a vl kk w)
      (by kernel_rfl) (by kernel_rfl) (by kernel_rfl) (by kernel_rfl) (by kernel_rfl) (fun _ => Below.refl _ _) (fun _ _ _ _ h _ => h) (fun _ _ _ _ _ _ h => h) hS0 ?_ ?_
    · intro i hi b' L f W' hSW hL hdep hsh he hsv hsl hFF K hK1 hK2
      replace hi : i < 22 := hi
      have hcs : i = 0 ∨ i = 1 ∨ i = 2 ∨ i = 3 ∨ i = 4 ∨ i = 5 ∨ i = 6 ∨ i = 7 ∨ i = 8 ∨ i = 9 ∨ i = 10 ∨ i = 11 ∨ i = 12 ∨ i = 13 ∨ i = 14 ∨ i = 15 ∨ i = 16 ∨ i = 17 ∨ i = 18 ∨ i = 19 ∨ i = 20 ∨ i = 21 := by omega
      clear hi
      rcases hcs with rfl | rfl | rfl | rfl | rfl | rfl | rfl | rfl | rfl | rfl | rfl | rfl | rfl | rfl | rfl | rfl | rfl | rfl | rfl | rfl | rfl | rfl
      · refine wpOpS_go rfl rfl ?_
        have t2 : b'.tmps[2]?.getD undef = Value.pointer (some ⟨W.heap.size, 0, none⟩) := he 2 (by kernel_rfl)
        obtain ⟨_, b0, b1, b2, b3, b4, b5⟩ := hSW.cells
        clear hSW
        have HK := Lib.hid hK1
        clear hK1 hK2 hdep hsh he hsv hsl hFF hL
        go_simp
        exact HK.out rfl _ (fp_mk rfl rfl trivial)
      · refine wpOpS_go rfl rfl ?_
        have t4 : b'.tmps[4]?.getD undef = Value.agg #[Value.int .i64 mr, Value.int .i64 mc, Value.slice a vl kk] := hsv 0 4 _ (by kernel_rfl) (by kernel_rfl) rfl
        have HK := Lib.hid hK2
        clear hK1 hK2 hdep hsh he hsv hsl hFF hL
        go_simp
        refine (hCh _).mono ?_
        rintro e w6 ⟨rfl, hK⟩
        exact HK.out _ _ (fp_mk rfl rfl trivial) hK (PcS.keep hSW hK)
      · refine wpOpS_go rfl rfl ?_
        have t5 : b'.tmps[5]?.getD undef = Value.int .i64 3 := hsv 1 5 _ (by kernel_rfl) (by kernel_rfl) rfl
        have HK := Lib.hid hK1
        clear hK1 hK2 hdep hsh he hsv hsl hFF hL hSW
        go_simp
        exact HK.out rfl _ (fp_mk rfl rfl trivial)
      · refine wpOpS_go rfl rfl ?_
        have t6 : b'.tmps[6]?.getD undef = Value.bool true := hsv 2 6 _ (by kernel_rfl) (by kernel_rfl) rfl
        have HK := Lib.hid hK1
        clear hK1 hK2 hdep hsh he hsv hsl hFF hL hSW
        go_simp
        exact HK.out rfl _ (fp_mk rfl rfl trivial)
      · refine wpOpS_guard (dg := 7) rfl rfl rfl rfl (hsv 3 7 _ (by kernel_rfl) (by kernel_rfl) rfl) ?_
        rw [if_neg (by decide)]
        exact hK1 rfl _ (fp_mk rfl rfl trivial)
      · refine wpOpS_guard (dg := 7) rfl rfl rfl rfl (hsv 3 7 _ (by kernel_rfl) (by kernel_rfl) rfl) ?_
        rw [if_neg (by decide)]
        exact hK1 rfl _ (fp_mk rfl rfl trivial)
      · refine wpOpS_guard (dg := 7) rfl rfl rfl rfl (hsv 3 7 _ (by kernel_rfl) (by kernel_rfl) rfl) ?_
        rw [if_neg (by decide)]
        exact hK1 rfl _ (fp_mk rfl rfl trivial)
      · refine wpOpS_guard (dg := 7) rfl rfl rfl rfl (hsv 3 7 _ (by kernel_rfl) (by kernel_rfl) rfl) ?_
        rw [if_neg (by decide)]
        exact hK1 rfl _ (fp_mk rfl rfl trivial)
      · refine wpOpS_guard (dg := 7) rfl rfl rfl rfl (hsv 3 7 _ (by kernel_rfl) (by kernel_rfl) rfl) ?_
        rw [if_neg (by decide)]
        exact hK1 rfl _ (fp_mk rfl rfl trivial)
      · refine wpOpS_guard (dg := 7) rfl rfl rfl rfl (hsv 3 7 _ (by kernel_rfl) (by kernel_rfl) rfl) ?_
        rw [if_neg (by decide)]
        exact hK1 rfl _ (fp_mk rfl rfl trivial)
      · refine wpOpS_guard (dg := 7) rfl rfl rfl rfl (hsv 3 7 _ (by kernel_rfl) (by kernel_rfl) rfl) ?_
        rw [if_neg (by decide)]
        exact hK1 rfl _ (fp_mk rfl rfl trivial)
      · refine wpOpS_go rfl rfl ?_
        have t7 : b'.tmps[7]?.getD undef = Value.bool true := hsv 3 7 _ (by kernel_rfl) (by kernel_rfl) rfl
        have t14 : b'.tmps[14]?.getD undef = undef := hsv 10 14 _ (by kernel_rfl) (by kernel_rfl) rfl
        have HK := Lib.hid hK1
        clear hK1 hK2 hdep hsh he hsv hsl hFF hL hSW
        go_simp
        exact HK.out rfl _ (fp_mk rfl rfl trivial)
      · refine wpOpS_go rfl rfl ?_
        have t15 : b'.tmps[15]?.getD undef = Value.bool true := hsv 11 15 _ (by kernel_rfl) (by kernel_rfl) rfl
        have HK := Lib.hid hK1
        clear hK1 hK2 hdep hsh he hsv hsl hFF hL hSW
        go_simp
        exact HK.out rfl _ (fp_mk rfl rfl trivial)
      · refine wpOpS_guard (dg := 16) rfl rfl rfl rfl (hsv 12 16 _ (by kernel_rfl) (by kernel_rfl) rfl) ?_
        rw [if_neg (by decide)]
        exact hK1 rfl _ (fp_mk rfl rfl trivial)
      · refine wpOpS_guard (dg := 16) rfl rfl rfl rfl (hsv 12 16 _ (by kernel_rfl) (by kernel_rfl) rfl) ?_
        rw [if_neg (by decide)]
        exact hK1 rfl _ (fp_mk rfl rfl trivial)
      · refine wpOpS_guard (dg := 16) rfl rfl rfl rfl (hsv 12 16 _ (by kernel_rfl) (by kernel_rfl) rfl) ?_
        rw [if_neg (by decide)]
        exact hK1 rfl _ (fp_mk rfl rfl trivial)
      · refine wpOpS_guard (dg := 16) rfl rfl rfl rfl (hsv 12 16 _ (by kernel_rfl) (by kernel_rfl) rfl) ?_
        rw [if_neg (by decide)]
        exact hK1 rfl _ (fp_mk rfl rfl trivial)
      · refine wpOpS_guard (dg := 16) rfl rfl rfl rfl (hsv 12 16 _ (by kernel_rfl) (by kernel_rfl) rfl) ?_
        rw [if_neg (by decide)]
        exact hK1 rfl _ (fp_mk rfl rfl trivial)
      · refine wpOpS_guard (dg := 16) rfl rfl rfl rfl (hsv 12 16 _ (by kernel_rfl) (by kernel_rfl) rfl) ?_
        rw [if_neg (by decide)]
        exact hK1 rfl _ (fp_mk rfl rfl trivial)
      · refine wpOpS_guard (dg := 16) rfl rfl rfl rfl (hsv 12 16 _ (by kernel_rfl) (by kernel_rfl) rfl) ?_
        rw [if_neg (by decide)]
        exact hK1 rfl _ (fp_mk rfl rfl trivial)
      · refine wpOpS_go rfl rfl ?_
        have t16 : b'.tmps[16]?.getD undef = Value.bool true := hsv 12 16 _ (by kernel_rfl) (by kernel_rfl) rfl
        have t23 : b'.tmps[23]?.getD undef = undef := hsv 19 23 _ (by kernel_rfl) (by kernel_rfl) rfl
        have HK := Lib.hid hK1
        clear hK1 hK2 hdep hsh he hsv hsl hFF hL hSW
        go_simp
        exact HK.out rfl _ (fp_mk rfl rfl trivial)
      · refine wpOpS_go rfl rfl ?_
        have t24 : b'.tmps[24]?.getD undef = Value.bool true := hsv 20 24 _ (by kernel_rfl) (by kernel_rfl) rfl
        have HK := Lib.hid hK1
        clear hK1 hK2 hdep hsh he hsv hsl hFF hL hSW
        go_simp
        exact HK.out rfl _ (fp_mk rfl rfl trivial)
    · intro f W' hf L hL hS
      have e0 : f 0 = Value.agg #[Value.int .i64 mr, Value.int .i64 mc, Value.slice a vl kk] := (hf 0 (by decide)).1 _ rfl
      have e1 : f 1 = Value.int .i64 3 := (hf 1 (by decide)).1 _ rfl
      have e2 : f 2 = Value.bool true := (hf 2 (by decide)).1 _ rfl
      have e3 : f 3 = Value.bool true := (hf 3 (by decide)).1 _ rfl
      have e4 : f 4 = undef := (hf 4 (by decide)).1 _ rfl
      have e5 : f 5 = undef := (hf 5 (by decide)).1 _ rfl
      have e6 : f 6 = undef := (hf 6 (by decide)).1 _ rfl
      have e7 : f 7 = undef := (hf 7 (by decide)).1 _ rfl
      have e8 : f 8 = undef := (hf 8 (by decide)).1 _ rfl
      have e9 : f 9 = undef := (hf 9 (by decide)).1 _ rfl
      have e10 : f 10 = undef := (hf 10 (by decide)).1 _ rfl
      have e11 : f 11 = Value.bool true := (hf 11 (by decide)).1 _ rfl
      have e12 : f 12 = Value.bool true := (hf 12 (by decide)).1 _ rfl
      have e13 : f 13 = undef := (hf 13 (by decide)).1 _ rfl
      have e14 : f 14 = undef := (hf 14 (by decide)).1 _ rfl
      have e15 : f 15 = undef := (hf 15 (by decide)).1 _ rfl
      have e16 : f 16 = undef := (hf 16 (by decide)).1 _ rfl
      have e17 : f 17 = undef := (hf 17 (by decide)).1 _ rfl
      have e18 : f 18 = undef := (hf 18 (by decide)).1 _ rfl
      have e19 : f 19 = undef := (hf 19 (by decide)).1 _ rfl
      have e20 : f 20 = Value.bool true := (hf 20 (by decide)).1 _ rfl
      have e21 : f 21 = Value.bool true := (hf 21 (by decide)).1 _ rfl
      have hbel := PcS.bel hS
      clear hf hL hS hS0
      simp only [puts2, Act.put, e0, e1, e2, e3, e4, e5, e6, e7, e8, e9, e10, e11, e12, e13, e14, e15, e16, e17, e18, e19, e20, e21]
      try simp only [List.setIfInBounds_toArray, List.set_cons_zero, List.set_cons_succ]
      go_wp2_with fail
      go_ret
      exact ⟨by rw [HF.out]; rfl, hbel⟩

/-- Which matrices are a polynomial. -/
def polyM (p : List Mt) : Prop := 1 ≤ p.length ∧ p.length ≤ 25 ∧ ∀ m ∈ p, okMt m ∧ m.r = (p.headD default).r ∧ m.c = (p.headD default).c
instance (p : List Mt) : Decidable (polyM p) := by unfold polyM; infer_instance
def badM (p0 m : Mt) : Bool := decide (¬ (okMt m ∧ m.r = p0.r ∧ m.c = p0.c))

set_option maxHeartbeats 4000000 in
set_option maxRecDepth 100000 in
theorem index1_is {W : World} {pb : Nat} {x : Addr} {n k : Nat} {ms : List Mt} (hn : ms.length = n) (h0 : 0 < n) (hp : W.cell? ⟨pb, 0, none⟩ = some (.slice (some x) n k)) (hm : MsC W x ms) (hl : n ≤ 100) :
    Calls Tryz.prog 135 #[.slice (some x) n k, .func (.func 105) #[] #[.pointer (some ⟨pb, 0, none⟩)]] W fun e w' => (∃ z : Int, e = .returned (.int .i64 z) ∧ (0 ≤ z ↔ ∃ m ∈ ms, badM (ms.headD default) m = true)) ∧ Below W.heap.size W w' := by
  obtain ⟨a0, k0, i1, i2, i3⟩ := hm.at_ 0 (by omega)
  have hhd : ms.headD default = ms[0]'(by omega) := by
    cases ms with
    | nil => simp at hn; omega
    | cons y ys => rfl
  rw [← hhd] at i1 i2 i3
  have j1 : W.cell? x = some (.int .i64 (ms.headD default).r) := i1
  have j2 : W.cell? ⟨x.block, x.off + 1, none⟩ = some (.int .i64 (ms.headD default).c) := i2
  obtain ⟨p0, hp0⟩ : ∃ p0, ms.headD default = p0 := ⟨_, rfl⟩
  rw [hp0] at j1 j2 ⊢
  clear i1 i2 i3 hp0 hhd
  go_enter Tryz.func135, Tryz.ntmps135
  go_wp2_with fail
  go_loopw [8] (fun i wr => ∃ j : Nat, j ≤ n ∧ i = .int .i64 j ∧ Hid (∀ i, (h : i < ms.length) → i < j → badM p0 ms[i] = false) ∧ Below W.heap.size W wr) (fun i _ => n - (intOf i).toNat)
  case atStart => exact ⟨0, Nat.zero_le _, rfl, fun i _ h => absurd h (Nat.not_lt_zero _), upR _⟩
  case round =>
    obtain ⟨j, hj, rfl, hS, hB⟩ := hrel
    by_cases hlt : j < n
    · have hlt' : (j : Int) < (n : Int) := by omega
      have hj0 : (0 : Int) ≤ (j : Int) := by omega
      have hjm : j < ms.length := by omega
      obtain ⟨a, kk, h1, h2, h3⟩ := (hm.keep hB).at_ j hjm
      have HY := Lib.hid (fun h : badM p0 ms[j] = true => (⟨ms[j], List.getElem_mem hjm, h⟩ : ∃ m ∈ ms, badM p0 m = true))
      have HM := Lib.hid (fun (h : badM p0 ms[j] = false) => (show ∀ i, (h : i < ms.length) → i < j + 1 → badM p0 ms[i] = false from fun i hi hij => by
        by_cases e : i = j
        · subst e; exact h
        · exact hS.out i hi (by omega)))
      have hck := poly1_is (W := wr) (pb := pb) (x := x) (n := n) (k := k) (p0 := p0) (m := ms[j]) (a := a) (kk := kk) h0 (cell_kp hp hB) (cell_kp j1 hB) (cell_kp j2 hB)
      rw [show decide (¬ (okMt ms[j] ∧ ms[j].r = p0.r ∧ ms[j].c = p0.c)) = badM p0 ms[j] from rfl] at hck
      generalize badM p0 ms[j] = bb at *
      generalize ms[j] = m at *
      clear hjm hS
      go_wp2_with fail
      refine hck.mono ?_
      rintro e w2 ⟨rfl, hK⟩
      have hB2 := more hB hK
      clear hK h1 h2 h3 hck
      cases bb with
      | false =>
        have HM2 := Lib.hid (HM.out rfl)
        clear HM HY
        go_wp2_with fail
        go_roundw
        case rel => exact ⟨j + 1, by omega, by go_num, HM2.out, hB2⟩
        case measure => simp [intOf]; omega
      | true =>
        have HY2 := Lib.hid (HY.out rfl)
        clear HM HY
        go_wp2_with fail
        go_ret
        exact ⟨⟨j, rfl, ⟨fun _ => HY2.out, fun _ => hj0⟩⟩, hB2⟩
    · have hge : ¬ (j : Int) < (n : Int) := by omega
      have HALL := Lib.hid (show ¬ ∃ m ∈ ms, badM p0 m = true from fun ⟨m, hmm, hb⟩ => by
        obtain ⟨i, hi, rfl⟩ := List.mem_iff_getElem.1 hmm
        rw [hS.out i hi (by omega)] at hb
        cases hb)
      clear hS
      go_wp2_with fail
      go_ret
      exact ⟨⟨-1, rfl, ⟨fun h => absurd h (by decide), fun h => absurd h HALL.out⟩⟩, hB⟩

end Go.Proofs.YtkjbidpafnmogaaGreat.Base
