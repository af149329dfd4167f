/- binnacleref09: fine. -/
import Derived.Test.YtkjbidpafnmogaaGreatRefV
namespace Go.Proofs.YtkjbidpafnmogaaGreat.Base
open Go.RowKit Go Go.Shelf Go.Deep
set_option linter.unusedVariables false
set_option linter.unusedSimpArgs false

structure FiS (W : World) (x y : Addr) (pr pc mr mc : Int) (a : Option Addr) (vl kk : Nat) (w : World) : Prop where
  c0 : w.cell? y = some (.int .i64 mr)
  c1 : w.cell? ⟨y.block, y.off + 1, none⟩ = some (.int .i64 mc)
  c2 : w.cell? ⟨y.block, y.off + 2, none⟩ = some (.slice a vl kk)
  p0 : w.cell? x = some (.int .i64 pr)
  p1 : w.cell? ⟨x.block, x.off + 1, none⟩ = some (.int .i64 pc)
  bel : Below W.heap.size W w
theorem FiS.keep {W : World} {x y : Addr} {pr pc mr mc : Int} {a : Option Addr} {vl kk : Nat} {w w' : World} (h : FiS W x y pr pc mr mc a vl kk w) (hb : Below w.heap.size w w') : FiS W x y pr pc mr mc a vl kk w' :=
  ⟨cell_kp h.c0 hb, cell_kp h.c1 hb, cell_kp h.c2 hb, cell_kp h.p0 hb, cell_kp h.p1 hb, more h.bel hb⟩

set_option maxHeartbeats 8000000 in
set_option maxRecDepth 100000 in
theorem fineR_is {W : World} {a : Option Addr} {k : Nat} {ms : List Mt} (hm : 0 < ms.length → ∃ x, a = some x ∧ MsC W x ms) :
    Calls Tryz.prog 61 #[.slice a ms.length k] W fun e w' => e = .returned (.bool (decide (polyM ms))) ∧ Below W.heap.size W w' := by
  obtain ⟨ans, hans⟩ : ∃ ans, decide (polyM ms) = ans := ⟨_, rfl⟩
  rw [hans]
  have HA := Lib.hid hans
  clear hans
  obtain ⟨n, hn⟩ : ∃ n, ms.length = n := ⟨_, rfl⟩
  rw [hn] at hm ⊢
  by_cases h1 : 1 ≤ n
  · have h1' : ¬ (n : Int) = 0 := by omega
    have h0' : (0 : Int) < (n : Int) := by omega
    have h0n : 0 < n := h1
    have h1b : ((n : Int) == 0) = false := by simpa using h1'
    by_cases h2 : n ≤ 25
    · have h2' : ¬ (25 : Int) < (n : Int) := by omega
      obtain ⟨x, rfl, hms⟩ := hm h1
      obtain ⟨p0, hp0⟩ : ∃ p0, ms.headD default = p0 := ⟨_, rfl⟩
      have hx0 : ms[0]'(by omega) = p0 := by
        rw [← hp0]
        cases ms with
        | nil => simp at hn; omega
        | cons u l => rfl
      have HX := Lib.hid (show ans = true ↔ ∀ j, (h : j < ms.length) → okMt ms[j] ∧ ms[j].r = p0.r ∧ ms[j].c = p0.c by
        rw [← HA.out, ← hp0]
        exact ⟨fun h j hj => (of_decide_eq_true h).2.2 _ (List.getElem_mem hj), fun h => decide_eq_true ⟨by omega, by omega, fun m hm => by
          obtain ⟨j, hj, rfl⟩ := List.mem_iff_getElem.1 hm
          exact h j hj⟩⟩)
      have HCELL := Lib.hid (show ∀ w, Below W.heap.size W w → ∀ j, (h : j < ms.length) → ∃ a k, FiS W x (x.add (j * 3)) p0.r p0.c ms[j].r ms[j].c a ms[j].v.length k w from fun w hB j hj => by
        obtain ⟨a, k, h1, h2, h3⟩ := (hms.keep hB).at_ j hj
        obtain ⟨a0, k0, g1, g2, g3⟩ := (hms.keep hB).at_ 0 (by omega)
        rw [hx0] at g1 g2
        simp only [Nat.zero_mul] at g1 g2
        have e0 : x.add 0 = x := by simp [Addr.add]
        rw [e0] at g1 g2
        exact ⟨a, k, h1, h2, h3, g1, g2, hB⟩)
      obtain ⟨pr, pc, pv⟩ := p0
      dsimp only at HX HCELL
      clear hx0 hp0 hms hm
      go_enter Tryz.func61, Tryz.ntmps61
      go_wp2_with fail
      go_loopw [3] (fun i wr => ∃ j : Nat, j ≤ n ∧ i = .int .i64 j ∧ Below W.heap.size W wr ∧ Hid (∀ t, (h : t < ms.length) → t < j → okMt ms[t] ∧ ms[t].r = pr ∧ ms[t].c = pc)) (fun i _ => n - (intOf i).toNat)
      case atStart => exact ⟨0, Nat.zero_le _, rfl, Below.refl _ _, Lib.hid fun t _ ht => absurd ht (Nat.not_lt_zero _)⟩
      case round =>
        obtain ⟨j, hj, rfl, hB, hall⟩ := hrel
        by_cases hjl : j < n
        · have hjl' : (j : Int) < (n : Int) := by omega
          have hj0 : (0 : Int) ≤ (j : Int) := by omega
          have hjz : j < ms.length := by omega
          obtain ⟨a, kk, hS0⟩ := HCELL.out wr.drew hB.drew j hjz
          obtain ⟨m, hmj⟩ : ∃ m, ms[j] = m := ⟨_, rfl⟩
          rw [hmj] at hS0
          have HM := Lib.hid hmj
          have hCh := fun w => rCheck_is m a kk w
          by_cases hok : okMt m
          · rw [show chkMt m = 0 from if_pos hok] at hCh
            by_cases hr : m.r = pr
            · by_cases hc : m.c = pc
              · have HN := Lib.hid (show ∀ t, (h : t < ms.length) → t < j + 1 → okMt ms[t] ∧ ms[t].r = pr ∧ ms[t].c = pc from fun t ht hlt => by
                  by_cases e : t = j
                  · subst e; rw [HM.out]; exact ⟨hok, hr, hc⟩
                  · exact hall.out t ht (by omega))
                obtain ⟨mr, mc, mv⟩ := m
                dsimp only at hr hc hS0 hCh
                subst hr hc
                generalize mv.length = vl at *
                clear hok hmj hall HA
                go_wp2_with fail
                refine region_fp [some 18, some 19, some 20, some 21, some 22, some 23, some 24, some 25, some 26, some 27, some 28, some 29, some 30, some 31, some 32, some 33, some 34, some 35, some 36, some 37, some 38, some 39, some 40, some 41, some 42, some 43, some 44, some 45, some 46, some 47] [] [some (Value.slice (some x) n k), some (Value.int .i64 (j : Int)), some (Value.pointer (some (x.add (j * 3)))), some (Value.agg #[Value.int .i64 mr, Value.int .i64 mc, Value.slice a vl kk]), some (Value.int .i64 0), some (Value.bool false), some (Value.bool false), some (Value.slice (some x) n k), some (Value.int .i64 (j : Int)), some (Value.pointer (some (x.add (j * 3)))), some (Value.pointer (some (x.add (j * 3)))), some (Value.int .i64 mr), some (Value.slice (some x) n k), some (Value.pointer (some x)), some (Value.pointer (some x)), some (Value.int .i64 mr), some (Value.bool false), some (Value.bool false), some (Value.bool false), some (Value.slice (some x) n k), some (Value.int .i64 (j : Int)), some (Value.pointer (some (x.add (j * 3)))), some (Value.pointer (some ⟨(x.add (j * 3)).block, (x.add (j * 3)).off + 1, none⟩)), some (Value.int .i64 mc), some (Value.slice (some x) n k), some (Value.pointer (some x)), some (Value.pointer (some ⟨x.block, x.off + 1, none⟩)), some (Value.int .i64 mc), some (Value.bool false), some (Value.bool false)]
                  (fun _ _ _ => True) (fun W W' => Below W.heap.size W W') (fun _ _ w => FiS W x (x.add (j * 3)) mr mc mr mc a vl kk w)
                  (by kernel_rfl) (by kernel_rfl) (by kernel_rfl) (by kernel_rfl) (by kernel_rfl) (fun _ => Below.refl _ _) (fun _ _ _ _ h _ => h) (fun _ _ _ _ _ _ h => h) hS0 ?_ ?_
                · intro i hi b' L f W' hSW hL hdep hsh he hsv hsl hFF K hK1 hK2
                  replace hi : i < 30 := hi
                  have hcs : i = 0 ∨ i = 1 ∨ i = 2 ∨ i = 3 ∨ i = 4 ∨ i = 5 ∨ i = 6 ∨ i = 7 ∨ i = 8 ∨ i = 9 ∨ i = 10 ∨ i = 11 ∨ i = 12 ∨ i = 13 ∨ i = 14 ∨ i = 15 ∨ i = 16 ∨ i = 17 ∨ i = 18 ∨ i = 19 ∨ i = 20 ∨ i = 21 ∨ i = 22 ∨ i = 23 ∨ i = 24 ∨ i = 25 ∨ i = 26 ∨ i = 27 ∨ i = 28 ∨ i = 29 := by omega
                  clear hi
                  rcases hcs with rfl | rfl | rfl | rfl | rfl | rfl | rfl | rfl | rfl | rfl | rfl | rfl | rfl | rfl | rfl | rfl | rfl | rfl | rfl | rfl | rfl | rfl | rfl | rfl | rfl | rfl | rfl | rfl | rfl | rfl
                  · refine wpOpS_go rfl rfl ?_
                    have t0 : b'.tmps[0]?.getD undef = Value.slice (some x) n k := he 0 (by kernel_rfl)
                    have HK := Lib.hid hK1
                    clear hK1 hK2 hdep hsh he hsv hsl hFF hL hSW
                    go_simp
                    exact HK.out rfl _ (fp_mk rfl rfl trivial)
                  · refine wpOpS_go rfl rfl ?_
                    have t3 : b'.tmps[3]?.getD undef = Value.int .i64 (j : Int) := he 3 (by kernel_rfl)
                    have HK := Lib.hid hK1
                    clear hK1 hK2 hdep hsh he hsv hsl hFF hL hSW
                    go_simp
                    exact HK.out rfl _ (fp_mk rfl rfl trivial)
                  · refine wpOpS_go rfl rfl ?_
                    have t18 : b'.tmps[18]?.getD undef = Value.slice (some x) n k := hsv 0 18 _ (by kernel_rfl) (by kernel_rfl) rfl
                    have t19 : b'.tmps[19]?.getD undef = Value.int .i64 (j : Int) := hsv 1 19 _ (by kernel_rfl) (by kernel_rfl) rfl
                    obtain ⟨b0, b1, b2, b3, b4, b5⟩ := hSW
                    have HK := Lib.hid hK1
                    clear hK1 hK2 hdep hsh he hsv hsl hFF hL
                    go_simp
                    exact HK.out rfl _ (fp_mk rfl rfl trivial)
                  · refine wpOpS_go rfl rfl ?_
                    have t20 : b'.tmps[20]?.getD undef = Value.pointer (some (x.add (j * 3))) := hsv 2 20 _ (by kernel_rfl) (by kernel_rfl) rfl
                    obtain ⟨b0, b1, b2, b3, b4, b5⟩ := hSW
                    have HK := Lib.hid hK1
                    clear hK1 hK2 hdep hsh he hsv hsl hFF hL
                    go_simp
                    exact HK.out rfl _ (fp_mk rfl rfl trivial)
                  · refine wpOpS_go rfl rfl ?_
                    have t21 : b'.tmps[21]?.getD undef = Value.agg #[Value.int .i64 mr, Value.int .i64 mc, Value.slice a vl kk] := hsv 3 21 _ (by kernel_rfl) (by kernel_rfl) rfl
                    have HK := Lib.hid hK2
                    clear hK1 hK2 hdep hsh he hsv hsl hFF hL
                    go_simp
                    refine (hCh _).mono ?_
                    rintro e w6 ⟨rfl, hK⟩
                    exact HK.out _ _ (fp_mk rfl rfl trivial) hK (FiS.keep hSW hK)
                  · refine wpOpS_go rfl rfl ?_
                    have t22 : b'.tmps[22]?.getD undef = Value.int .i64 0 := hsv 4 22 _ (by kernel_rfl) (by kernel_rfl) rfl
                    have HK := Lib.hid hK1
                    clear hK1 hK2 hdep hsh he hsv hsl hFF hL hSW
                    go_simp
                    exact HK.out rfl _ (fp_mk rfl rfl trivial)
                  · refine wpOpS_go rfl rfl ?_
                    have t23 : b'.tmps[23]?.getD undef = Value.bool false := hsv 5 23 _ (by kernel_rfl) (by kernel_rfl) rfl
                    have HK := Lib.hid hK1
                    clear hK1 hK2 hdep hsh he hsv hsl hFF hL hSW
                    go_simp
                    exact HK.out rfl _ (fp_mk rfl rfl trivial)
                  · refine wpOpS_guard (dg := 24) rfl rfl rfl rfl (hsv 6 24 _ (by kernel_rfl) (by kernel_rfl) rfl) ?_
                    rw [if_pos rfl]
                    have t0 : b'.tmps[0]?.getD undef = Value.slice (some x) n k := he 0 (by kernel_rfl)
                    have HK := Lib.hid hK1
                    clear hK1 hK2 hdep hsh he hsv hsl hFF hL hSW
                    go_simp
                    exact HK.out rfl _ (fp_mk rfl rfl trivial)
                  · refine wpOpS_guard (dg := 24) rfl rfl rfl rfl (hsv 6 24 _ (by kernel_rfl) (by kernel_rfl) rfl) ?_
                    rw [if_pos rfl]
                    have t3 : b'.tmps[3]?.getD undef = Value.int .i64 (j : Int) := he 3 (by kernel_rfl)
                    have HK := Lib.hid hK1
                    clear hK1 hK2 hdep hsh he hsv hsl hFF hL hSW
                    go_simp
                    exact HK.out rfl _ (fp_mk rfl rfl trivial)
                  · refine wpOpS_guard (dg := 24) rfl rfl rfl rfl (hsv 6 24 _ (by kernel_rfl) (by kernel_rfl) rfl) ?_
                    rw [if_pos rfl]
                    have t25 : b'.tmps[25]?.getD undef = Value.slice (some x) n k := hsv 7 25 _ (by kernel_rfl) (by kernel_rfl) rfl
                    have t26 : b'.tmps[26]?.getD undef = Value.int .i64 (j : Int) := hsv 8 26 _ (by kernel_rfl) (by kernel_rfl) rfl
                    obtain ⟨b0, b1, b2, b3, b4, b5⟩ := hSW
                    have HK := Lib.hid hK1
                    clear hK1 hK2 hdep hsh he hsv hsl hFF hL
                    go_simp
                    exact HK.out rfl _ (fp_mk rfl rfl trivial)
                  · refine wpOpS_guard (dg := 24) rfl rfl rfl rfl (hsv 6 24 _ (by kernel_rfl) (by kernel_rfl) rfl) ?_
                    rw [if_pos rfl]
                    have t27 : b'.tmps[27]?.getD undef = Value.pointer (some (x.add (j * 3))) := hsv 9 27 _ (by kernel_rfl) (by kernel_rfl) rfl
                    have HK := Lib.hid hK1
                    clear hK1 hK2 hdep hsh he hsv hsl hFF hL hSW
                    go_simp
                    exact HK.out rfl _ (fp_mk rfl rfl trivial)
                  · refine wpOpS_guard (dg := 24) rfl rfl rfl rfl (hsv 6 24 _ (by kernel_rfl) (by kernel_rfl) rfl) ?_
                    rw [if_pos rfl]
                    have t28 : b'.tmps[28]?.getD undef = Value.pointer (some (x.add (j * 3))) := hsv 10 28 _ (by kernel_rfl) (by kernel_rfl) rfl
                    obtain ⟨b0, b1, b2, b3, b4, b5⟩ := hSW
                    have HK := Lib.hid hK1
                    clear hK1 hK2 hdep hsh he hsv hsl hFF hL
                    go_simp
                    exact HK.out rfl _ (fp_mk rfl rfl trivial)
                  · refine wpOpS_guard (dg := 24) rfl rfl rfl rfl (hsv 6 24 _ (by kernel_rfl) (by kernel_rfl) rfl) ?_
                    rw [if_pos rfl]
                    have t0 : b'.tmps[0]?.getD undef = Value.slice (some x) n k := he 0 (by kernel_rfl)
                    have HK := Lib.hid hK1
                    clear hK1 hK2 hdep hsh he hsv hsl hFF hL hSW
                    go_simp
                    exact HK.out rfl _ (fp_mk rfl rfl trivial)
                  · refine wpOpS_guard (dg := 24) rfl rfl rfl rfl (hsv 6 24 _ (by kernel_rfl) (by kernel_rfl) rfl) ?_
                    rw [if_pos rfl]
                    have t30 : b'.tmps[30]?.getD undef = Value.slice (some x) n k := hsv 12 30 _ (by kernel_rfl) (by kernel_rfl) rfl
                    obtain ⟨b0, b1, b2, b3, b4, b5⟩ := hSW
                    have HK := Lib.hid hK1
                    clear hK1 hK2 hdep hsh he hsv hsl hFF hL
                    go_simp
                    exact HK.out rfl _ (fp_mk rfl rfl trivial)
                  · refine wpOpS_guard (dg := 24) rfl rfl rfl rfl (hsv 6 24 _ (by kernel_rfl) (by kernel_rfl) rfl) ?_
                    rw [if_pos rfl]
                    have t31 : b'.tmps[31]?.getD undef = Value.pointer (some x) := hsv 13 31 _ (by kernel_rfl) (by kernel_rfl) rfl
                    have HK := Lib.hid hK1
                    clear hK1 hK2 hdep hsh he hsv hsl hFF hL hSW
                    go_simp
                    exact HK.out rfl _ (fp_mk rfl rfl trivial)
                  · refine wpOpS_guard (dg := 24) rfl rfl rfl rfl (hsv 6 24 _ (by kernel_rfl) (by kernel_rfl) rfl) ?_
                    rw [if_pos rfl]
                    have t32 : b'.tmps[32]?.getD undef = Value.pointer (some x) := hsv 14 32 _ (by kernel_rfl) (by kernel_rfl) rfl
                    obtain ⟨b0, b1, b2, b3, b4, b5⟩ := hSW
                    have HK := Lib.hid hK1
                    clear hK1 hK2 hdep hsh he hsv hsl hFF hL
                    go_simp
                    exact HK.out rfl _ (fp_mk rfl rfl trivial)
                  · refine wpOpS_guard (dg := 24) rfl rfl rfl rfl (hsv 6 24 _ (by kernel_rfl) (by kernel_rfl) rfl) ?_
                    rw [if_pos rfl]
                    have t29 : b'.tmps[29]?.getD undef = Value.int .i64 mr := hsv 11 29 _ (by kernel_rfl) (by kernel_rfl) rfl
                    have t33 : b'.tmps[33]?.getD undef = Value.int .i64 mr := hsv 15 33 _ (by kernel_rfl) (by kernel_rfl) rfl
                    have HK := Lib.hid hK1
                    clear hK1 hK2 hdep hsh he hsv hsl hFF hL hSW
                    go_simp
                    exact HK.out rfl _ (fp_mk rfl rfl trivial)
                  · refine wpOpS_go rfl rfl ?_
                    have t24 : b'.tmps[24]?.getD undef = Value.bool false := hsv 6 24 _ (by kernel_rfl) (by kernel_rfl) rfl
                    have t34 : b'.tmps[34]?.getD undef = Value.bool false := hsv 16 34 _ (by kernel_rfl) (by kernel_rfl) rfl
                    have HK := Lib.hid hK1
                    clear hK1 hK2 hdep hsh he hsv hsl hFF hL hSW
                    go_simp
                    exact HK.out rfl _ (fp_mk rfl rfl trivial)
                  · refine wpOpS_go rfl rfl ?_
                    have t35 : b'.tmps[35]?.getD undef = Value.bool false := hsv 17 35 _ (by kernel_rfl) (by kernel_rfl) rfl
                    have HK := Lib.hid hK1
                    clear hK1 hK2 hdep hsh he hsv hsl hFF hL hSW
                    go_simp
                    exact HK.out rfl _ (fp_mk rfl rfl trivial)
                  · refine wpOpS_guard (dg := 36) rfl rfl rfl rfl (hsv 18 36 _ (by kernel_rfl) (by kernel_rfl) rfl) ?_
                    rw [if_pos rfl]
                    have t0 : b'.tmps[0]?.getD undef = Value.slice (some x) n k := he 0 (by kernel_rfl)
                    have HK := Lib.hid hK1
                    clear hK1 hK2 hdep hsh he hsv hsl hFF hL hSW
                    go_simp
                    exact HK.out rfl _ (fp_mk rfl rfl trivial)
                  · refine wpOpS_guard (dg := 36) rfl rfl rfl rfl (hsv 18 36 _ (by kernel_rfl) (by kernel_rfl) rfl) ?_
                    rw [if_pos rfl]
                    have t3 : b'.tmps[3]?.getD undef = Value.int .i64 (j : Int) := he 3 (by kernel_rfl)
                    have HK := Lib.hid hK1
                    clear hK1 hK2 hdep hsh he hsv hsl hFF hL hSW
                    go_simp
                    exact HK.out rfl _ (fp_mk rfl rfl trivial)
                  · refine wpOpS_guard (dg := 36) rfl rfl rfl rfl (hsv 18 36 _ (by kernel_rfl) (by kernel_rfl) rfl) ?_
                    rw [if_pos rfl]
                    have t37 : b'.tmps[37]?.getD undef = Value.slice (some x) n k := hsv 19 37 _ (by kernel_rfl) (by kernel_rfl) rfl
                    have t38 : b'.tmps[38]?.getD undef = Value.int .i64 (j : Int) := hsv 20 38 _ (by kernel_rfl) (by kernel_rfl) rfl
                    obtain ⟨b0, b1, b2, b3, b4, b5⟩ := hSW
                    have HK := Lib.hid hK1
                    clear hK1 hK2 hdep hsh he hsv hsl hFF hL
                    go_simp
                    exact HK.out rfl _ (fp_mk rfl rfl trivial)
                  · refine wpOpS_guard (dg := 36) rfl rfl rfl rfl (hsv 18 36 _ (by kernel_rfl) (by kernel_rfl) rfl) ?_
                    rw [if_pos rfl]
                    have t39 : b'.tmps[39]?.getD undef = Value.pointer (some (x.add (j * 3))) := hsv 21 39 _ (by kernel_rfl) (by kernel_rfl) rfl
                    have HK := Lib.hid hK1
                    clear hK1 hK2 hdep hsh he hsv hsl hFF hL hSW
                    go_simp
                    exact HK.out rfl _ (fp_mk rfl rfl trivial)
                  · refine wpOpS_guard (dg := 36) rfl rfl rfl rfl (hsv 18 36 _ (by kernel_rfl) (by kernel_rfl) rfl) ?_
                    rw [if_pos rfl]
                    have t40 : b'.tmps[40]?.getD undef = Value.pointer (some ⟨(x.add (j * 3)).block, (x.add (j * 3)).off + 1, none⟩) := hsv 22 40 _ (by kernel_rfl) (by kernel_rfl) rfl
                    obtain ⟨b0, b1, b2, b3, b4, b5⟩ := hSW
                    have HK := Lib.hid hK1
                    clear hK1 hK2 hdep hsh he hsv hsl hFF hL
                    go_simp
                    exact HK.out rfl _ (fp_mk rfl rfl trivial)
                  · refine wpOpS_guard (dg := 36) rfl rfl rfl rfl (hsv 18 36 _ (by kernel_rfl) (by kernel_rfl) rfl) ?_
                    rw [if_pos rfl]
                    have t0 : b'.tmps[0]?.getD undef = Value.slice (some x) n k := he 0 (by kernel_rfl)
                    have HK := Lib.hid hK1
                    clear hK1 hK2 hdep hsh he hsv hsl hFF hL hSW
                    go_simp
                    exact HK.out rfl _ (fp_mk rfl rfl trivial)
                  · refine wpOpS_guard (dg := 36) rfl rfl rfl rfl (hsv 18 36 _ (by kernel_rfl) (by kernel_rfl) rfl) ?_
                    rw [if_pos rfl]
                    have t42 : b'.tmps[42]?.getD undef = Value.slice (some x) n k := hsv 24 42 _ (by kernel_rfl) (by kernel_rfl) rfl
                    obtain ⟨b0, b1, b2, b3, b4, b5⟩ := hSW
                    have HK := Lib.hid hK1
                    clear hK1 hK2 hdep hsh he hsv hsl hFF hL
                    go_simp
                    exact HK.out rfl _ (fp_mk rfl rfl trivial)
                  · refine wpOpS_guard (dg := 36) rfl rfl rfl rfl (hsv 18 36 _ (by kernel_rfl) (by kernel_rfl) rfl) ?_
                    rw [if_pos rfl]
                    have t43 : b'.tmps[43]?.getD undef = Value.pointer (some x) := hsv 25 43 _ (by kernel_rfl) (by kernel_rfl) rfl
                    have HK := Lib.hid hK1
                    clear hK1 hK2 hdep hsh he hsv hsl hFF hL hSW
                    go_simp
                    exact HK.out rfl _ (fp_mk rfl rfl trivial)
                  · refine wpOpS_guard (dg := 36) rfl rfl rfl rfl (hsv 18 36 _ (by kernel_rfl) (by kernel_rfl) rfl) ?_
                    rw [if_pos rfl]
                    have t44 : b'.tmps[44]?.getD undef = Value.pointer (some ⟨x.block, x.off + 1, none⟩) := hsv 26 44 _ (by kernel_rfl) (by kernel_rfl) rfl
                    obtain ⟨b0, b1, b2, b3, b4, b5⟩ := hSW
                    have HK := Lib.hid hK1
                    clear hK1 hK2 hdep hsh he hsv hsl hFF hL
                    go_simp
                    exact HK.out rfl _ (fp_mk rfl rfl trivial)
                  · refine wpOpS_guard (dg := 36) rfl rfl rfl rfl (hsv 18 36 _ (by kernel_rfl) (by kernel_rfl) rfl) ?_
                    rw [if_pos rfl]
                    have t41 : b'.tmps[41]?.getD undef = Value.int .i64 mc := hsv 23 41 _ (by kernel_rfl) (by kernel_rfl) rfl
                    have t45 : b'.tmps[45]?.getD undef = Value.int .i64 mc := hsv 27 45 _ (by kernel_rfl) (by kernel_rfl) rfl
                    have HK := Lib.hid hK1
                    clear hK1 hK2 hdep hsh he hsv hsl hFF hL hSW
                    go_simp
                    exact HK.out rfl _ (fp_mk rfl rfl trivial)
                  · refine wpOpS_go rfl rfl ?_
                    have t36 : b'.tmps[36]?.getD undef = Value.bool false := hsv 18 36 _ (by kernel_rfl) (by kernel_rfl) rfl
                    have t46 : b'.tmps[46]?.getD undef = Value.bool false := hsv 28 46 _ (by kernel_rfl) (by kernel_rfl) rfl
                    have HK := Lib.hid hK1
                    clear hK1 hK2 hdep hsh he hsv hsl hFF hL hSW
                    go_simp
                    exact HK.out rfl _ (fp_mk rfl rfl trivial)
                · intro f W' hf L hL hS
                  have e0 : f 0 = Value.slice (some x) n k := (hf 0 (by decide)).1 _ rfl
                  have e1 : f 1 = Value.int .i64 (j : Int) := (hf 1 (by decide)).1 _ rfl
                  have e2 : f 2 = Value.pointer (some (x.add (j * 3))) := (hf 2 (by decide)).1 _ rfl
                  have e3 : f 3 = Value.agg #[Value.int .i64 mr, Value.int .i64 mc, Value.slice a vl kk] := (hf 3 (by decide)).1 _ rfl
                  have e4 : f 4 = Value.int .i64 0 := (hf 4 (by decide)).1 _ rfl
                  have e5 : f 5 = Value.bool false := (hf 5 (by decide)).1 _ rfl
                  have e6 : f 6 = Value.bool false := (hf 6 (by decide)).1 _ rfl
                  have e7 : f 7 = Value.slice (some x) n k := (hf 7 (by decide)).1 _ rfl
                  have e8 : f 8 = Value.int .i64 (j : Int) := (hf 8 (by decide)).1 _ rfl
                  have e9 : f 9 = Value.pointer (some (x.add (j * 3))) := (hf 9 (by decide)).1 _ rfl
                  have e10 : f 10 = Value.pointer (some (x.add (j * 3))) := (hf 10 (by decide)).1 _ rfl
                  have e11 : f 11 = Value.int .i64 mr := (hf 11 (by decide)).1 _ rfl
                  have e12 : f 12 = Value.slice (some x) n k := (hf 12 (by decide)).1 _ rfl
                  have e13 : f 13 = Value.pointer (some x) := (hf 13 (by decide)).1 _ rfl
                  have e14 : f 14 = Value.pointer (some x) := (hf 14 (by decide)).1 _ rfl
                  have e15 : f 15 = Value.int .i64 mr := (hf 15 (by decide)).1 _ rfl
                  have e16 : f 16 = Value.bool false := (hf 16 (by decide)).1 _ rfl
                  have e17 : f 17 = Value.bool false := (hf 17 (by decide)).1 _ rfl
                  have e18 : f 18 = Value.bool false := (hf 18 (by decide)).1 _ rfl
                  have e19 : f 19 = Value.slice (some x) n k := (hf 19 (by decide)).1 _ rfl
                  have e20 : f 20 = Value.int .i64 (j : Int) := (hf 20 (by decide)).1 _ rfl
                  have e21 : f 21 = Value.pointer (some (x.add (j * 3))) := (hf 21 (by decide)).1 _ rfl
                  have e22 : f 22 = Value.pointer (some ⟨(x.add (j * 3)).block, (x.add (j * 3)).off + 1, none⟩) := (hf 22 (by decide)).1 _ rfl
                  have e23 : f 23 = Value.int .i64 mc := (hf 23 (by decide)).1 _ rfl
                  have e24 : f 24 = Value.slice (some x) n k := (hf 24 (by decide)).1 _ rfl
                  have e25 : f 25 = Value.pointer (some x) := (hf 25 (by decide)).1 _ rfl
                  have e26 : f 26 = Value.pointer (some ⟨x.block, x.off + 1, none⟩) := (hf 26 (by decide)).1 _ rfl
                  have e27 : f 27 = Value.int .i64 mc := (hf 27 (by decide)).1 _ rfl
                  have e28 : f 28 = Value.bool false := (hf 28 (by decide)).1 _ rfl
                  have e29 : f 29 = Value.bool false := (hf 29 (by decide)).1 _ rfl
                  have hbel := FiS.bel hS
                  clear hf hL hS hS0 hCh
                  simp only [puts2, Act.put, e0, e1, e2, e3, e4, e5, e6, e7, e8, e9, e10, e11, e12, e13, e14, e15, e16, e17, e18, e19, e20, e21, e22, e23, e24, e25, e26, e27, e28, e29]
                  try simp only [List.setIfInBounds_toArray, List.set_cons_zero, List.set_cons_succ]
                  clear e0 e1 e2 e3 e4 e5 e6 e7 e8 e9 e10 e11 e12 e13 e14 e15 e16 e17 e18 e19 e20 e21 e22 e23 e24 e25 e26 e27 e28 e29
                  go_wp2_with fail
                  go_roundw
                  case rel => exact ⟨j + 1, by omega, by go_num, hbel, HN⟩
                  case measure => simp [intOf]; omega
              · have HF := Lib.hid (show ans = false by
                  cases he : ans
                  · rfl
                  · exact absurd (HM.out ▸ (HX.out.1 he j hjz).2.2) hc)
                obtain ⟨mr, mc, mv⟩ := m
                dsimp only at hr hc hS0 hCh
                subst hr
                have hcb : (mc != pc) = true := by simpa using hc
                generalize mv.length = vl at *
                clear hok hmj hall HA hc
                go_wp2_with fail
                refine region_fp [some 18, some 19, some 20, some 21, some 22, some 23, some 24, some 25, some 26, some 27, some 28, some 29, some 30, some 31, some 32, some 33, some 34, some 35, some 36, some 37, some 38, some 39, some 40, some 41, some 42, some 43, some 44, some 45, some 46, some 47] [] [some (Value.slice (some x) n k), some (Value.int .i64 (j : Int)), some (Value.pointer (some (x.add (j * 3)))), some (Value.agg #[Value.int .i64 mr, Value.int .i64 mc, Value.slice a vl kk]), some (Value.int .i64 0), some (Value.bool false), some (Value.bool false), some (Value.slice (some x) n k), some (Value.int .i64 (j : Int)), some (Value.pointer (some (x.add (j * 3)))), some (Value.pointer (some (x.add (j * 3)))), some (Value.int .i64 mr), some (Value.slice (some x) n k), some (Value.pointer (some x)), some (Value.pointer (some x)), some (Value.int .i64 mr), some (Value.bool false), some (Value.bool false), some (Value.bool false), some (Value.slice (some x) n k), some (Value.int .i64 (j : Int)), some (Value.pointer (some (x.add (j * 3)))), some (Value.pointer (some ⟨(x.add (j * 3)).block, (x.add (j * 3)).off + 1, none⟩)), some (Value.int .i64 mc), some (Value.slice (some x) n k), some (Value.pointer (some x)), some (Value.pointer (some ⟨x.block, x.off + 1, none⟩)), some (Value.int .i64 pc), some (Value.bool true), some (Value.bool true)]
                  (fun _ _ _ => True) (fun W W' => Below W.heap.size W W') (fun _ _ w => FiS W x (x.add (j * 3)) mr pc mr mc a vl kk w)
                  (by kernel_rfl) (by kernel_rfl) (by kernel_rfl) (by kernel_rfl) (by kernel_rfl) (fun _ => Below.refl _ _) (fun _ _ _ _ h _ => h) (fun _ _ _ _ _ _ h => h) hS0 ?_ ?_
                · intro i hi b' L f W' hSW hL hdep hsh he hsv hsl hFF K hK1 hK2
                  replace hi : i < 30 := hi
                  have hcs : i = 0 ∨ i = 1 ∨ i = 2 ∨ i = 3 ∨ i = 4 ∨ i = 5 ∨ i = 6 ∨ i = 7 ∨ i = 8 ∨ i = 9 ∨ i = 10 ∨ i = 11 ∨ i = 12 ∨ i = 13 ∨ i = 14 ∨ i = 15 ∨ i = 16 ∨ i = 17 ∨ i = 18 ∨ i = 19 ∨ i = 20 ∨ i = 21 ∨ i = 22 ∨ i = 23 ∨ i = 24 ∨ i = 25 ∨ i = 26 ∨ i = 27 ∨ i = 28 ∨ i = 29 := by omega
                  clear hi
                  rcases hcs with rfl | rfl | rfl | rfl | rfl | rfl | rfl | rfl | rfl | rfl | rfl | rfl | rfl | rfl | rfl | rfl | rfl | rfl | rfl | rfl | rfl | rfl | rfl | rfl | rfl | rfl | rfl | rfl | rfl | rfl
                  · refine wpOpS_go rfl rfl ?_
                    have t0 : b'.tmps[0]?.getD undef = Value.slice (some x) n k := he 0 (by kernel_rfl)
                    have HK := Lib.hid hK1
                    clear hK1 hK2 hdep hsh he hsv hsl hFF hL hSW
                    go_simp
                    exact HK.out rfl _ (fp_mk rfl rfl trivial)
                  · refine wpOpS_go rfl rfl ?_
                    have t3 : b'.tmps[3]?.getD undef = Value.int .i64 (j : Int) := he 3 (by kernel_rfl)
                    have HK := Lib.hid hK1
                    clear hK1 hK2 hdep hsh he hsv hsl hFF hL hSW
                    go_simp
                    exact HK.out rfl _ (fp_mk rfl rfl trivial)
                  · refine wpOpS_go rfl rfl ?_
                    have t18 : b'.tmps[18]?.getD undef = Value.slice (some x) n k := hsv 0 18 _ (by kernel_rfl) (by kernel_rfl) rfl
                    have t19 : b'.tmps[19]?.getD undef = Value.int .i64 (j : Int) := hsv 1 19 _ (by kernel_rfl) (by kernel_rfl) rfl
                    obtain ⟨b0, b1, b2, b3, b4, b5⟩ := hSW
                    have HK := Lib.hid hK1
                    clear hK1 hK2 hdep hsh he hsv hsl hFF hL
                    go_simp
                    exact HK.out rfl _ (fp_mk rfl rfl trivial)
                  · refine wpOpS_go rfl rfl ?_
                    have t20 : b'.tmps[20]?.getD undef = Value.pointer (some (x.add (j * 3))) := hsv 2 20 _ (by kernel_rfl) (by kernel_rfl) rfl
                    obtain ⟨b0, b1, b2, b3, b4, b5⟩ := hSW
                    have HK := Lib.hid hK1
                    clear hK1 hK2 hdep hsh he hsv hsl hFF hL
                    go_simp
                    exact HK.out rfl _ (fp_mk rfl rfl trivial)
                  · refine wpOpS_go rfl rfl ?_
                    have t21 : b'.tmps[21]?.getD undef = Value.agg #[Value.int .i64 mr, Value.int .i64 mc, Value.slice a vl kk] := hsv 3 21 _ (by kernel_rfl) (by kernel_rfl) rfl
                    have HK := Lib.hid hK2
                    clear hK1 hK2 hdep hsh he hsv hsl hFF hL
                    go_simp
                    refine (hCh _).mono ?_
                    rintro e w6 ⟨rfl, hK⟩
                    exact HK.out _ _ (fp_mk rfl rfl trivial) hK (FiS.keep hSW hK)
                  · refine wpOpS_go rfl rfl ?_
                    have t22 : b'.tmps[22]?.getD undef = Value.int .i64 0 := hsv 4 22 _ (by kernel_rfl) (by kernel_rfl) rfl
                    have HK := Lib.hid hK1
                    clear hK1 hK2 hdep hsh he hsv hsl hFF hL hSW
                    go_simp
                    exact HK.out rfl _ (fp_mk rfl rfl trivial)
                  · refine wpOpS_go rfl rfl ?_
                    have t23 : b'.tmps[23]?.getD undef = Value.bool false := hsv 5 23 _ (by kernel_rfl) (by kernel_rfl) rfl
                    have HK := Lib.hid hK1
                    clear hK1 hK2 hdep hsh he hsv hsl hFF hL hSW
                    go_simp
                    exact HK.out rfl _ (fp_mk rfl rfl trivial)
                  · refine wpOpS_guard (dg := 24) rfl rfl rfl rfl (hsv 6 24 _ (by kernel_rfl) (by kernel_rfl) rfl) ?_
                    rw [if_pos rfl]
                    have t0 : b'.tmps[0]?.getD undef = Value.slice (some x) n k := he 0 (by kernel_rfl)
                    have HK := Lib.hid hK1
                    clear hK1 hK2 hdep hsh he hsv hsl hFF hL hSW
                    go_simp
                    exact HK.out rfl _ (fp_mk rfl rfl trivial)
                  · refine wpOpS_guard (dg := 24) rfl rfl rfl rfl (hsv 6 24 _ (by kernel_rfl) (by kernel_rfl) rfl) ?_
                    rw [if_pos rfl]
                    have t3 : b'.tmps[3]?.getD undef = Value.int .i64 (j : Int) := he 3 (by kernel_rfl)
                    have HK := Lib.hid hK1
                    clear hK1 hK2 hdep hsh he hsv hsl hFF hL hSW
                    go_simp
                    exact HK.out rfl _ (fp_mk rfl rfl trivial)
                  · refine wpOpS_guard (dg := 24) rfl rfl rfl rfl (hsv 6 24 _ (by kernel_rfl) (by kernel_rfl) rfl) ?_
                    rw [if_pos rfl]
                    have t25 : b'.tmps[25]?.getD undef = Value.slice (some x) n k := hsv 7 25 _ (by kernel_rfl) (by kernel_rfl) rfl
                    have t26 : b'.tmps[26]?.getD undef = Value.int .i64 (j : Int) := hsv 8 26 _ (by kernel_rfl) (by kernel_rfl) rfl
                    obtain ⟨b0, b1, b2, b3, b4, b5⟩ := hSW
                    have HK := Lib.hid hK1
                    clear hK1 hK2 hdep hsh he hsv hsl hFF hL
                    go_simp
                    exact HK.out rfl _ (fp_mk rfl rfl trivial)
                  · refine wpOpS_guard (dg := 24) rfl rfl rfl rfl (hsv 6 24 _ (by kernel_rfl) (by kernel_rfl) rfl) ?_
                    rw [if_pos rfl]
                    have t27 : b'.tmps[27]?.getD undef = Value.pointer (some (x.add (j * 3))) := hsv 9 27 _ (by kernel_rfl) (by kernel_rfl) rfl
                    have HK := Lib.hid hK1
                    clear hK1 hK2 hdep hsh he hsv hsl hFF hL hSW
                    go_simp
                    exact HK.out rfl _ (fp_mk rfl rfl trivial)
                  · refine wpOpS_guard (dg := 24) rfl rfl rfl rfl (hsv 6 24 _ (by kernel_rfl) (by kernel_rfl) rfl) ?_
                    rw [if_pos rfl]
                    have t28 : b'.tmps[28]?.getD undef = Value.pointer (some (x.add (j * 3))) := hsv 10 28 _ (by kernel_rfl) (by kernel_rfl) rfl
                    obtain ⟨b0, b1, b2, b3, b4, b5⟩ := hSW
                    have HK := Lib.hid hK1
                    clear hK1 hK2 hdep hsh he hsv hsl hFF hL
                    go_simp
                    exact HK.out rfl _ (fp_mk rfl rfl trivial)
                  · refine wpOpS_guard (dg := 24) rfl rfl rfl rfl (hsv 6 24 _ (by kernel_rfl) (by kernel_rfl) rfl) ?_
                    rw [if_pos rfl]
                    have t0 : b'.tmps[0]?.getD undef = Value.slice (some x) n k := he 0 (by kernel_rfl)
                    have HK := Lib.hid hK1
                    clear hK1 hK2 hdep hsh he hsv hsl hFF hL hSW
                    go_simp
                    exact HK.out rfl _ (fp_mk rfl rfl trivial)
                  · refine wpOpS_guard (dg := 24) rfl rfl rfl rfl (hsv 6 24 _ (by kernel_rfl) (by kernel_rfl) rfl) ?_
                    rw [if_pos rfl]
                    have t30 : b'.tmps[30]?.getD undef = Value.slice (some x) n k := hsv 12 30 _ (by kernel_rfl) (by kernel_rfl) rfl
                    obtain ⟨b0, b1, b2, b3, b4, b5⟩ := hSW
                    have HK := Lib.hid hK1
                    clear hK1 hK2 hdep hsh he hsv hsl hFF hL
                    go_simp
                    exact HK.out rfl _ (fp_mk rfl rfl trivial)
                  · refine wpOpS_guard (dg := 24) rfl rfl rfl rfl (hsv 6 24 _ (by kernel_rfl) (by kernel_rfl) rfl) ?_
                    rw [if_pos rfl]
                    have t31 : b'.tmps[31]?.getD undef = Value.pointer (some x) := hsv 13 31 _ (by kernel_rfl) (by kernel_rfl) rfl
                    have HK := Lib.hid hK1
                    clear hK1 hK2 hdep hsh he hsv hsl hFF hL hSW
                    go_simp
                    exact HK.out rfl _ (fp_mk rfl rfl trivial)
                  · refine wpOpS_guard (dg := 24) rfl rfl rfl rfl (hsv 6 24 _ (by kernel_rfl) (by kernel_rfl) rfl) ?_
                    rw [if_pos rfl]
                    have t32 : b'.tmps[32]?.getD undef = Value.pointer (some x) := hsv 14 32 _ (by kernel_rfl) (by kernel_rfl) rfl
                    obtain ⟨b0, b1, b2, b3, b4, b5⟩ := hSW
                    have HK := Lib.hid hK1
                    clear hK1 hK2 hdep hsh he hsv hsl hFF hL
                    go_simp
                    exact HK.out rfl _ (fp_mk rfl rfl trivial)
                  · refine wpOpS_guard (dg := 24) rfl rfl rfl rfl (hsv 6 24 _ (by kernel_rfl) (by kernel_rfl) rfl) ?_
                    rw [if_pos rfl]
                    have t29 : b'.tmps[29]?.getD undef = Value.int .i64 mr := hsv 11 29 _ (by kernel_rfl) (by kernel_rfl) rfl
                    have t33 : b'.tmps[33]?.getD undef = Value.int .i64 mr := hsv 15 33 _ (by kernel_rfl) (by kernel_rfl) rfl
                    have HK := Lib.hid hK1
                    clear hK1 hK2 hdep hsh he hsv hsl hFF hL hSW
                    go_simp
                    exact HK.out rfl _ (fp_mk rfl rfl trivial)
                  · refine wpOpS_go rfl rfl ?_
                    have t24 : b'.tmps[24]?.getD undef = Value.bool false := hsv 6 24 _ (by kernel_rfl) (by kernel_rfl) rfl
                    have t34 : b'.tmps[34]?.getD undef = Value.bool false := hsv 16 34 _ (by kernel_rfl) (by kernel_rfl) rfl
                    have HK := Lib.hid hK1
                    clear hK1 hK2 hdep hsh he hsv hsl hFF hL hSW
                    go_simp
                    exact HK.out rfl _ (fp_mk rfl rfl trivial)
                  · refine wpOpS_go rfl rfl ?_
                    have t35 : b'.tmps[35]?.getD undef = Value.bool false := hsv 17 35 _ (by kernel_rfl) (by kernel_rfl) rfl
                    have HK := Lib.hid hK1
                    clear hK1 hK2 hdep hsh he hsv hsl hFF hL hSW
                    go_simp
                    exact HK.out rfl _ (fp_mk rfl rfl trivial)
                  · refine wpOpS_guard (dg := 36) rfl rfl rfl rfl (hsv 18 36 _ (by kernel_rfl) (by kernel_rfl) rfl) ?_
                    rw [if_pos rfl]
                    have t0 : b'.tmps[0]?.getD undef = Value.slice (some x) n k := he 0 (by kernel_rfl)
                    have HK := Lib.hid hK1
                    clear hK1 hK2 hdep hsh he hsv hsl hFF hL hSW
                    go_simp
                    exact HK.out rfl _ (fp_mk rfl rfl trivial)
                  · refine wpOpS_guard (dg := 36) rfl rfl rfl rfl (hsv 18 36 _ (by kernel_rfl) (by kernel_rfl) rfl) ?_
                    rw [if_pos rfl]
                    have t3 : b'.tmps[3]?.getD undef = Value.int .i64 (j : Int) := he 3 (by kernel_rfl)
                    have HK := Lib.hid hK1
                    clear hK1 hK2 hdep hsh he hsv hsl hFF hL hSW
                    go_simp
                    exact HK.out rfl _ (fp_mk rfl rfl trivial)
                  · refine wpOpS_guard (dg := 36) rfl rfl rfl rfl (hsv 18 36 _ (by kernel_rfl) (by kernel_rfl) rfl) ?_
                    rw [if_pos rfl]
                    have t37 : b'.tmps[37]?.getD undef = Value.slice (some x) n k := hsv 19 37 _ (by kernel_rfl) (by kernel_rfl) rfl
                    have t38 : b'.tmps[38]?.getD undef = Value.int .i64 (j : Int) := hsv 20 38 _ (by kernel_rfl) (by kernel_rfl) rfl
                    obtain ⟨b0, b1, b2, b3, b4, b5⟩ := hSW
                    have HK := Lib.hid hK1
                    clear hK1 hK2 hdep hsh he hsv hsl hFF hL
                    go_simp
                    exact HK.out rfl _ (fp_mk rfl rfl trivial)
                  · refine wpOpS_guard (dg := 36) rfl rfl rfl rfl (hsv 18 36 _ (by kernel_rfl) (by kernel_rfl) rfl) ?_
                    rw [if_pos rfl]
                    have t39 : b'.tmps[39]?.getD undef = Value.pointer (some (x.add (j * 3))) := hsv 21 39 _ (by kernel_rfl) (by kernel_rfl) rfl
                    have HK := Lib.hid hK1
                    clear hK1 hK2 hdep hsh he hsv hsl hFF hL hSW
                    go_simp
                    exact HK.out rfl _ (fp_mk rfl rfl trivial)
                  · refine wpOpS_guard (dg := 36) rfl rfl rfl rfl (hsv 18 36 _ (by kernel_rfl) (by kernel_rfl) rfl) ?_
                    rw [if_pos rfl]
                    have t40 : b'.tmps[40]?.getD undef = Value.pointer (some ⟨(x.add (j * 3)).block, (x.add (j * 3)).off + 1, none⟩) := hsv 22 40 _ (by kernel_rfl) (by kernel_rfl) rfl
                    obtain ⟨b0, b1, b2, b3, b4, b5⟩ := hSW
                    have HK := Lib.hid hK1
                    clear hK1 hK2 hdep hsh he hsv hsl hFF hL
                    go_simp
                    exact HK.out rfl _ (fp_mk rfl rfl trivial)
                  · refine wpOpS_guard (dg := 36) rfl rfl rfl rfl (hsv 18 36 _ (by kernel_rfl) (by kernel_rfl) rfl) ?_
                    rw [if_pos rfl]
                    have t0 : b'.tmps[0]?.getD undef = Value.slice (some x) n k := he 0 (by kernel_rfl)
                    have HK := Lib.hid hK1
                    clear hK1 hK2 hdep hsh he hsv hsl hFF hL hSW
                    go_simp
                    exact HK.out rfl _ (fp_mk rfl rfl trivial)
                  · refine wpOpS_guard (dg := 36) rfl rfl rfl rfl (hsv 18 36 _ (by kernel_rfl) (by kernel_rfl) rfl) ?_
                    rw [if_pos rfl]
                    have t42 : b'.tmps[42]?.getD undef = Value.slice (some x) n k := hsv 24 42 _ (by kernel_rfl) (by kernel_rfl) rfl
                    obtain ⟨b0, b1, b2, b3, b4, b5⟩ := hSW
                    have HK := Lib.hid hK1
                    clear hK1 hK2 hdep hsh he hsv hsl hFF hL
                    go_simp
                    exact HK.out rfl _ (fp_mk rfl rfl trivial)
                  · refine wpOpS_guard (dg := 36) rfl rfl rfl rfl (hsv 18 36 _ (by kernel_rfl) (by kernel_rfl) rfl) ?_
                    rw [if_pos rfl]
                    have t43 : b'.tmps[43]?.getD undef = Value.pointer (some x) := hsv 25 43 _ (by kernel_rfl) (by kernel_rfl) rfl
                    have HK := Lib.hid hK1
                    clear hK1 hK2 hdep hsh he hsv hsl hFF hL hSW
                    go_simp
                    exact HK.out rfl _ (fp_mk rfl rfl trivial)
                  · refine wpOpS_guard (dg := 36) rfl rfl rfl rfl (hsv 18 36 _ (by kernel_rfl) (by kernel_rfl) rfl) ?_
                    rw [if_pos rfl]
                    have t44 : b'.tmps[44]?.getD undef = Value.pointer (some ⟨x.block, x.off + 1, none⟩) := hsv 26 44 _ (by kernel_rfl) (by kernel_rfl) rfl
                    obtain ⟨b0, b1, b2, b3, b4, b5⟩ := hSW
                    have HK := Lib.hid hK1
                    clear hK1 hK2 hdep hsh he hsv hsl hFF hL
                    go_simp
                    exact HK.out rfl _ (fp_mk rfl rfl trivial)
                  · refine wpOpS_guard (dg := 36) rfl rfl rfl rfl (hsv 18 36 _ (by kernel_rfl) (by kernel_rfl) rfl) ?_
                    rw [if_pos rfl]
                    have t41 : b'.tmps[41]?.getD undef = Value.int .i64 mc := hsv 23 41 _ (by kernel_rfl) (by kernel_rfl) rfl
                    have t45 : b'.tmps[45]?.getD undef = Value.int .i64 pc := hsv 27 45 _ (by kernel_rfl) (by kernel_rfl) rfl
                    have HK := Lib.hid hK1
                    clear hK1 hK2 hdep hsh he hsv hsl hFF hL hSW
                    go_simp
                    exact HK.out rfl _ (fp_mk rfl rfl trivial)
                  · refine wpOpS_go rfl rfl ?_
                    have t36 : b'.tmps[36]?.getD undef = Value.bool false := hsv 18 36 _ (by kernel_rfl) (by kernel_rfl) rfl
                    have t46 : b'.tmps[46]?.getD undef = Value.bool true := hsv 28 46 _ (by kernel_rfl) (by kernel_rfl) rfl
                    have HK := Lib.hid hK1
                    clear hK1 hK2 hdep hsh he hsv hsl hFF hL hSW
                    go_simp
                    exact HK.out rfl _ (fp_mk rfl rfl trivial)
                · intro f W' hf L hL hS
                  have e0 : f 0 = Value.slice (some x) n k := (hf 0 (by decide)).1 _ rfl
                  have e1 : f 1 = Value.int .i64 (j : Int) := (hf 1 (by decide)).1 _ rfl
                  have e2 : f 2 = Value.pointer (some (x.add (j * 3))) := (hf 2 (by decide)).1 _ rfl
                  have e3 : f 3 = Value.agg #[Value.int .i64 mr, Value.int .i64 mc, Value.slice a vl kk] := (hf 3 (by decide)).1 _ rfl
                  have e4 : f 4 = Value.int .i64 0 := (hf 4 (by decide)).1 _ rfl
                  have e5 : f 5 = Value.bool false := (hf 5 (by decide)).1 _ rfl
                  have e6 : f 6 = Value.bool false := (hf 6 (by decide)).1 _ rfl
                  have e7 : f 7 = Value.slice (some x) n k := (hf 7 (by decide)).1 _ rfl
                  have e8 : f 8 = Value.int .i64 (j : Int) := (hf 8 (by decide)).1 _ rfl
                  have e9 : f 9 = Value.pointer (some (x.add (j * 3))) := (hf 9 (by decide)).1 _ rfl
                  have e10 : f 10 = Value.pointer (some (x.add (j * 3))) := (hf 10 (by decide)).1 _ rfl
                  have e11 : f 11 = Value.int .i64 mr := (hf 11 (by decide)).1 _ rfl
                  have e12 : f 12 = Value.slice (some x) n k := (hf 12 (by decide)).1 _ rfl
                  have e13 : f 13 = Value.pointer (some x) := (hf 13 (by decide)).1 _ rfl
                  have e14 : f 14 = Value.pointer (some x) := (hf 14 (by decide)).1 _ rfl
                  have e15 : f 15 = Value.int .i64 mr := (hf 15 (by decide)).1 _ rfl
                  have e16 : f 16 = Value.bool false := (hf 16 (by decide)).1 _ rfl
                  have e17 : f 17 = Value.bool false := (hf 17 (by decide)).1 _ rfl
                  have e18 : f 18 = Value.bool false := (hf 18 (by decide)).1 _ rfl
                  have e19 : f 19 = Value.slice (some x) n k := (hf 19 (by decide)).1 _ rfl
                  have e20 : f 20 = Value.int .i64 (j : Int) := (hf 20 (by decide)).1 _ rfl
                  have e21 : f 21 = Value.pointer (some (x.add (j * 3))) := (hf 21 (by decide)).1 _ rfl
                  have e22 : f 22 = Value.pointer (some ⟨(x.add (j * 3)).block, (x.add (j * 3)).off + 1, none⟩) := (hf 22 (by decide)).1 _ rfl
                  have e23 : f 23 = Value.int .i64 mc := (hf 23 (by decide)).1 _ rfl
                  have e24 : f 24 = Value.slice (some x) n k := (hf 24 (by decide)).1 _ rfl
                  have e25 : f 25 = Value.pointer (some x) := (hf 25 (by decide)).1 _ rfl
                  have e26 : f 26 = Value.pointer (some ⟨x.block, x.off + 1, none⟩) := (hf 26 (by decide)).1 _ rfl
                  have e27 : f 27 = Value.int .i64 pc := (hf 27 (by decide)).1 _ rfl
                  have e28 : f 28 = Value.bool true := (hf 28 (by decide)).1 _ rfl
                  have e29 : f 29 = Value.bool true := (hf 29 (by decide)).1 _ rfl
                  have hbel := FiS.bel hS
                  clear hf hL hS hS0 hCh
                  simp only [puts2, Act.put, e0, e1, e2, e3, e4, e5, e6, e7, e8, e9, e10, e11, e12, e13, e14, e15, e16, e17, e18, e19, e20, e21, e22, e23, e24, e25, e26, e27, e28, e29]
                  try simp only [List.setIfInBounds_toArray, List.set_cons_zero, List.set_cons_succ]
                  clear e0 e1 e2 e3 e4 e5 e6 e7 e8 e9 e10 e11 e12 e13 e14 e15 e16 e17 e18 e19 e20 e21 e22 e23 e24 e25 e26 e27 e28 e29
                  go_wp2_with fail
                  go_ret
                  exact ⟨by rw [HF.out]; rfl, hbel⟩
            · have HF := Lib.hid (show ans = false by
                cases he : ans
                · rfl
                · exact absurd (HM.out ▸ (HX.out.1 he j hjz).2.1) hr)
              obtain ⟨mr, mc, mv⟩ := m
              dsimp only at hr hS0 hCh
              have hrb : (mr != pr) = true := by simpa using hr
              generalize mv.length = vl at *
              clear hok hmj hall HA hr
              go_wp2_with fail
              refine region_fp [some 18, some 19, some 20, some 21, some 22, some 23, some 24, some 25, some 26, some 27, some 28, some 29, some 30, some 31, some 32, some 33, some 34, some 35, some 36, some 37, some 38, some 39, some 40, some 41, some 42, some 43, some 44, some 45, some 46, some 47] [] [some (Value.slice (some x) n k), some (Value.int .i64 (j : Int)), some (Value.pointer (some (x.add (j * 3)))), some (Value.agg #[Value.int .i64 mr, Value.int .i64 mc, Value.slice a vl kk]), some (Value.int .i64 0), some (Value.bool false), some (Value.bool false), some (Value.slice (some x) n k), some (Value.int .i64 (j : Int)), some (Value.pointer (some (x.add (j * 3)))), some (Value.pointer (some (x.add (j * 3)))), some (Value.int .i64 mr), some (Value.slice (some x) n k), some (Value.pointer (some x)), some (Value.pointer (some x)), some (Value.int .i64 pr), some (Value.bool true), some (Value.bool true), some (Value.bool true), some (undef), some (undef), some (undef), some (undef), some (undef), some (undef), some (undef), some (undef), some (undef), some (undef), some (Value.bool true)]
                (fun _ _ _ => True) (fun W W' => Below W.heap.size W W') (fun _ _ w => FiS W x (x.add (j * 3)) pr pc mr mc a vl kk w)
                (by kernel_rfl) (by kernel_rfl) (by kernel_rfl) (by kernel_rfl) (by kernel_rfl) (fun _ => Below.refl _ _) (fun _ _ _ _ h _ => h) (fun _ _ _ _ _ _ h => h) hS0 ?_ ?_
              · intro i hi b' L f W' hSW hL hdep hsh he hsv hsl hFF K hK1 hK2
                replace hi : i < 30 := hi
                have hcs : i = 0 ∨ i = 1 ∨ i = 2 ∨ i = 3 ∨ i = 4 ∨ i = 5 ∨ i = 6 ∨ i = 7 ∨ i = 8 ∨ i = 9 ∨ i = 10 ∨ i = 11 ∨ i = 12 ∨ i = 13 ∨ i = 14 ∨ i = 15 ∨ i = 16 ∨ i = 17 ∨ i = 18 ∨ i = 19 ∨ i = 20 ∨ i = 21 ∨ i = 22 ∨ i = 23 ∨ i = 24 ∨ i = 25 ∨ i = 26 ∨ i = 27 ∨ i = 28 ∨ i = 29 := by omega
                clear hi
                rcases hcs with rfl | rfl | rfl | rfl | rfl | rfl | rfl | rfl | rfl | rfl | rfl | rfl | rfl | rfl | rfl | rfl | rfl | rfl | rfl | rfl | rfl | rfl | rfl | rfl | rfl | rfl | rfl | rfl | rfl | rfl
                · refine wpOpS_go rfl rfl ?_
                  have t0 : b'.tmps[0]?.getD undef = Value.slice (some x) n k := he 0 (by kernel_rfl)
                  have HK := Lib.hid hK1
                  clear hK1 hK2 hdep hsh he hsv hsl hFF hL hSW
                  go_simp
                  exact HK.out rfl _ (fp_mk rfl rfl trivial)
                · refine wpOpS_go rfl rfl ?_
                  have t3 : b'.tmps[3]?.getD undef = Value.int .i64 (j : Int) := he 3 (by kernel_rfl)
                  have HK := Lib.hid hK1
                  clear hK1 hK2 hdep hsh he hsv hsl hFF hL hSW
                  go_simp
                  exact HK.out rfl _ (fp_mk rfl rfl trivial)
                · refine wpOpS_go rfl rfl ?_
                  have t18 : b'.tmps[18]?.getD undef = Value.slice (some x) n k := hsv 0 18 _ (by kernel_rfl) (by kernel_rfl) rfl
                  have t19 : b'.tmps[19]?.getD undef = Value.int .i64 (j : Int) := hsv 1 19 _ (by kernel_rfl) (by kernel_rfl) rfl
                  obtain ⟨b0, b1, b2, b3, b4, b5⟩ := hSW
                  have HK := Lib.hid hK1
                  clear hK1 hK2 hdep hsh he hsv hsl hFF hL
                  go_simp
                  exact HK.out rfl _ (fp_mk rfl rfl trivial)
                · refine wpOpS_go rfl rfl ?_
                  have t20 : b'.tmps[20]?.getD undef = Value.pointer (some (x.add (j * 3))) := hsv 2 20 _ (by kernel_rfl) (by kernel_rfl) rfl
                  obtain ⟨b0, b1, b2, b3, b4, b5⟩ := hSW
                  have HK := Lib.hid hK1
                  clear hK1 hK2 hdep hsh he hsv hsl hFF hL
                  go_simp
                  exact HK.out rfl _ (fp_mk rfl rfl trivial)
                · refine wpOpS_go rfl rfl ?_
                  have t21 : b'.tmps[21]?.getD undef = Value.agg #[Value.int .i64 mr, Value.int .i64 mc, Value.slice a vl kk] := hsv 3 21 _ (by kernel_rfl) (by kernel_rfl) rfl
                  have HK := Lib.hid hK2
                  clear hK1 hK2 hdep hsh he hsv hsl hFF hL
                  go_simp
                  refine (hCh _).mono ?_
                  rintro e w6 ⟨rfl, hK⟩
                  exact HK.out _ _ (fp_mk rfl rfl trivial) hK (FiS.keep hSW hK)
                · refine wpOpS_go rfl rfl ?_
                  have t22 : b'.tmps[22]?.getD undef = Value.int .i64 0 := hsv 4 22 _ (by kernel_rfl) (by kernel_rfl) rfl
                  have HK := Lib.hid hK1
                  clear hK1 hK2 hdep hsh he hsv hsl hFF hL hSW
                  go_simp
                  exact HK.out rfl _ (fp_mk rfl rfl trivial)
                · refine wpOpS_go rfl rfl ?_
                  have t23 : b'.tmps[23]?.getD undef = Value.bool false := hsv 5 23 _ (by kernel_rfl) (by kernel_rfl) rfl
                  have HK := Lib.hid hK1
                  clear hK1 hK2 hdep hsh he hsv hsl hFF hL hSW
                  go_simp
                  exact HK.out rfl _ (fp_mk rfl rfl trivial)
                · refine wpOpS_guard (dg := 24) rfl rfl rfl rfl (hsv 6 24 _ (by kernel_rfl) (by kernel_rfl) rfl) ?_
                  rw [if_pos rfl]
                  have t0 : b'.tmps[0]?.getD undef = Value.slice (some x) n k := he 0 (by kernel_rfl)
                  have HK := Lib.hid hK1
                  clear hK1 hK2 hdep hsh he hsv hsl hFF hL hSW
                  go_simp
                  exact HK.out rfl _ (fp_mk rfl rfl trivial)
                · refine wpOpS_guard (dg := 24) rfl rfl rfl rfl (hsv 6 24 _ (by kernel_rfl) (by kernel_rfl) rfl) ?_
                  rw [if_pos rfl]
                  have t3 : b'.tmps[3]?.getD undef = Value.int .i64 (j : Int) := he 3 (by kernel_rfl)
                  have HK := Lib.hid hK1
                  clear hK1 hK2 hdep hsh he hsv hsl hFF hL hSW
                  go_simp
                  exact HK.out rfl _ (fp_mk rfl rfl trivial)
                · refine wpOpS_guard (dg := 24) rfl rfl rfl rfl (hsv 6 24 _ (by kernel_rfl) (by kernel_rfl) rfl) ?_
                  rw [if_pos rfl]
                  have t25 : b'.tmps[25]?.getD undef = Value.slice (some x) n k := hsv 7 25 _ (by kernel_rfl) (by kernel_rfl) rfl
                  have t26 : b'.tmps[26]?.getD undef = Value.int .i64 (j : Int) := hsv 8 26 _ (by kernel_rfl) (by kernel_rfl) rfl
                  obtain ⟨b0, b1, b2, b3, b4, b5⟩ := hSW
                  have HK := Lib.hid hK1
                  clear hK1 hK2 hdep hsh he hsv hsl hFF hL
                  go_simp
                  exact HK.out rfl _ (fp_mk rfl rfl trivial)
                · refine wpOpS_guard (dg := 24) rfl rfl rfl rfl (hsv 6 24 _ (by kernel_rfl) (by kernel_rfl) rfl) ?_
                  rw [if_pos rfl]
                  have t27 : b'.tmps[27]?.getD undef = Value.pointer (some (x.add (j * 3))) := hsv 9 27 _ (by kernel_rfl) (by kernel_rfl) rfl
                  have HK := Lib.hid hK1
                  clear hK1 hK2 hdep hsh he hsv hsl hFF hL hSW
                  go_simp
                  exact HK.out rfl _ (fp_mk rfl rfl trivial)
                · refine wpOpS_guard (dg := 24) rfl rfl rfl rfl (hsv 6 24 _ (by kernel_rfl) (by kernel_rfl) rfl) ?_
                  rw [if_pos rfl]
                  have t28 : b'.tmps[28]?.getD undef = Value.pointer (some (x.add (j * 3))) := hsv 10 28 _ (by kernel_rfl) (by kernel_rfl) rfl
                  obtain ⟨b0, b1, b2, b3, b4, b5⟩ := hSW
                  have HK := Lib.hid hK1
                  clear hK1 hK2 hdep hsh he hsv hsl hFF hL
                  go_simp
                  exact HK.out rfl _ (fp_mk rfl rfl trivial)
                · refine wpOpS_guard (dg := 24) rfl rfl rfl rfl (hsv 6 24 _ (by kernel_rfl) (by kernel_rfl) rfl) ?_
                  rw [if_pos rfl]
                  have t0 : b'.tmps[0]?.getD undef = Value.slice (some x) n k := he 0 (by kernel_rfl)
                  have HK := Lib.hid hK1
                  clear hK1 hK2 hdep hsh he hsv hsl hFF hL hSW
                  go_simp
                  exact HK.out rfl _ (fp_mk rfl rfl trivial)
                · refine wpOpS_guard (dg := 24) rfl rfl rfl rfl (hsv 6 24 _ (by kernel_rfl) (by kernel_rfl) rfl) ?_
                  rw [if_pos rfl]
                  have t30 : b'.tmps[30]?.getD undef = Value.slice (some x) n k := hsv 12 30 _ (by kernel_rfl) (by kernel_rfl) rfl
                  obtain ⟨b0, b1, b2, b3, b4, b5⟩ := hSW
                  have HK := Lib.hid hK1
                  clear hK1 hK2 hdep hsh he hsv hsl hFF hL
                  go_simp
                  exact HK.out rfl _ (fp_mk rfl rfl trivial)
                · refine wpOpS_guard (dg := 24) rfl rfl rfl rfl (hsv 6 24 _ (by kernel_rfl) (by kernel_rfl) rfl) ?_
                  rw [if_pos rfl]
                  have t31 : b'.tmps[31]?.getD undef = Value.pointer (some x) := hsv 13 31 _ (by kernel_rfl) (by kernel_rfl) rfl
                  have HK := Lib.hid hK1
                  clear hK1 hK2 hdep hsh he hsv hsl hFF hL hSW
                  go_simp
                  exact HK.out rfl _ (fp_mk rfl rfl trivial)
                · refine wpOpS_guard (dg := 24) rfl rfl rfl rfl (hsv 6 24 _ (by kernel_rfl) (by kernel_rfl) rfl) ?_
                  rw [if_pos rfl]
                  have t32 : b'.tmps[32]?.getD undef = Value.pointer (some x) := hsv 14 32 _ (by kernel_rfl) (by kernel_rfl) rfl
                  obtain ⟨b0, b1, b2, b3, b4, b5⟩ := hSW
                  have HK := Lib.hid hK1
                  clear hK1 hK2 hdep hsh he hsv hsl hFF hL
                  go_simp
                  exact HK.out rfl _ (fp_mk rfl rfl trivial)
                · refine wpOpS_guard (dg := 24) rfl rfl rfl rfl (hsv 6 24 _ (by kernel_rfl) (by kernel_rfl) rfl) ?_
                  rw [if_pos rfl]
                  have t29 : b'.tmps[29]?.getD undef = Value.int .i64 mr := hsv 11 29 _ (by kernel_rfl) (by kernel_rfl) rfl
                  have t33 : b'.tmps[33]?.getD undef = Value.int .i64 pr := hsv 15 33 _ (by kernel_rfl) (by kernel_rfl) rfl
                  have HK := Lib.hid hK1
                  clear hK1 hK2 hdep hsh he hsv hsl hFF hL hSW
                  go_simp
                  exact HK.out rfl _ (fp_mk rfl rfl trivial)
                · refine wpOpS_go rfl rfl ?_
                  have t24 : b'.tmps[24]?.getD undef = Value.bool false := hsv 6 24 _ (by kernel_rfl) (by kernel_rfl) rfl
                  have t34 : b'.tmps[34]?.getD undef = Value.bool true := hsv 16 34 _ (by kernel_rfl) (by kernel_rfl) rfl
                  have HK := Lib.hid hK1
                  clear hK1 hK2 hdep hsh he hsv hsl hFF hL hSW
                  go_simp
                  exact HK.out rfl _ (fp_mk rfl rfl trivial)
                · refine wpOpS_go rfl rfl ?_
                  have t35 : b'.tmps[35]?.getD undef = Value.bool true := hsv 17 35 _ (by kernel_rfl) (by kernel_rfl) rfl
                  have HK := Lib.hid hK1
                  clear hK1 hK2 hdep hsh he hsv hsl hFF hL hSW
                  go_simp
                  exact HK.out rfl _ (fp_mk rfl rfl trivial)
                · refine wpOpS_guard (dg := 36) rfl rfl rfl rfl (hsv 18 36 _ (by kernel_rfl) (by kernel_rfl) rfl) ?_
                  rw [if_neg (by decide)]
                  exact hK1 rfl _ (fp_mk rfl rfl trivial)
                · refine wpOpS_guard (dg := 36) rfl rfl rfl rfl (hsv 18 36 _ (by kernel_rfl) (by kernel_rfl) rfl) ?_
                  rw [if_neg (by decide)]
                  exact hK1 rfl _ (fp_mk rfl rfl trivial)
                · refine wpOpS_guard (dg := 36) rfl rfl rfl rfl (hsv 18 36 _ (by kernel_rfl) (by kernel_rfl) rfl) ?_
                  rw [if_neg (by decide)]
                  exact hK1 rfl _ (fp_mk rfl rfl trivial)
                · refine wpOpS_guard (dg := 36) rfl rfl rfl rfl (hsv 18 36 _ (by kernel_rfl) (by kernel_rfl) rfl) ?_
                  rw [if_neg (by decide)]
                  exact hK1 rfl _ (fp_mk rfl rfl trivial)
                · refine wpOpS_guard (dg := 36) rfl rfl rfl rfl (hsv 18 36 _ (by kernel_rfl) (by kernel_rfl) rfl) ?_
                  rw [if_neg (by decide)]
                  exact hK1 rfl _ (fp_mk rfl rfl trivial)
                · refine wpOpS_guard (dg := 36) rfl rfl rfl rfl (hsv 18 36 _ (by kernel_rfl) (by kernel_rfl) rfl) ?_
                  rw [if_neg (by decide)]
                  exact hK1 rfl _ (fp_mk rfl rfl trivial)
                · refine wpOpS_guard (dg := 36) rfl rfl rfl rfl (hsv 18 36 _ (by kernel_rfl) (by kernel_rfl) rfl) ?_
                  rw [if_neg (by decide)]
                  exact hK1 rfl _ (fp_mk rfl rfl trivial)
                · refine wpOpS_guard (dg := 36) rfl rfl rfl rfl (hsv 18 36 _ (by kernel_rfl) (by kernel_rfl) rfl) ?_
                  rw [if_neg (by decide)]
                  exact hK1 rfl _ (fp_mk rfl rfl trivial)
                · refine wpOpS_guard (dg := 36) rfl rfl rfl rfl (hsv 18 36 _ (by kernel_rfl) (by kernel_rfl) rfl) ?_
                  rw [if_neg (by decide)]
                  exact hK1 rfl _ (fp_mk rfl rfl trivial)
                · refine wpOpS_guard (dg := 36) rfl rfl rfl rfl (hsv 18 36 _ (by kernel_rfl) (by kernel_rfl) rfl) ?_
                  rw [if_neg (by decide)]
                  exact hK1 rfl _ (fp_mk rfl rfl trivial)
                · refine wpOpS_go rfl rfl ?_
                  have t36 : b'.tmps[36]?.getD undef = Value.bool true := hsv 18 36 _ (by kernel_rfl) (by kernel_rfl) rfl
                  have t46 : b'.tmps[46]?.getD undef = undef := hsv 28 46 _ (by kernel_rfl) (by kernel_rfl) rfl
                  have HK := Lib.hid hK1
                  clear hK1 hK2 hdep hsh he hsv hsl hFF hL hSW
                  go_simp
                  exact HK.out rfl _ (fp_mk rfl rfl trivial)
              · intro f W' hf L hL hS
                have e0 : f 0 = Value.slice (some x) n k := (hf 0 (by decide)).1 _ rfl
                have e1 : f 1 = Value.int .i64 (j : Int) := (hf 1 (by decide)).1 _ rfl
                have e2 : f 2 = Value.pointer (some (x.add (j * 3))) := (hf 2 (by decide)).1 _ rfl
                have e3 : f 3 = Value.agg #[Value.int .i64 mr, Value.int .i64 mc, Value.slice a vl kk] := (hf 3 (by decide)).1 _ rfl
                have e4 : f 4 = Value.int .i64 0 := (hf 4 (by decide)).1 _ rfl
                have e5 : f 5 = Value.bool false := (hf 5 (by decide)).1 _ rfl
                have e6 : f 6 = Value.bool false := (hf 6 (by decide)).1 _ rfl
                have e7 : f 7 = Value.slice (some x) n k := (hf 7 (by decide)).1 _ rfl
                have e8 : f 8 = Value.int .i64 (j : Int) := (hf 8 (by decide)).1 _ rfl
                have e9 : f 9 = Value.pointer (some (x.add (j * 3))) := (hf 9 (by decide)).1 _ rfl
                have e10 : f 10 = Value.pointer (some (x.add (j * 3))) := (hf 10 (by decide)).1 _ rfl
                have e11 : f 11 = Value.int .i64 mr := (hf 11 (by decide)).1 _ rfl
                have e12 : f 12 = Value.slice (some x) n k := (hf 12 (by decide)).1 _ rfl
                have e13 : f 13 = Value.pointer (some x) := (hf 13 (by decide)).1 _ rfl
                have e14 : f 14 = Value.pointer (some x) := (hf 14 (by decide)).1 _ rfl
                have e15 : f 15 = Value.int .i64 pr := (hf 15 (by decide)).1 _ rfl
                have e16 : f 16 = Value.bool true := (hf 16 (by decide)).1 _ rfl
                have e17 : f 17 = Value.bool true := (hf 17 (by decide)).1 _ rfl
                have e18 : f 18 = Value.bool true := (hf 18 (by decide)).1 _ rfl
                have e19 : f 19 = undef := (hf 19 (by decide)).1 _ rfl
                have e20 : f 20 = undef := (hf 20 (by decide)).1 _ rfl
                have e21 : f 21 = undef := (hf 21 (by decide)).1 _ rfl
                have e22 : f 22 = undef := (hf 22 (by decide)).1 _ rfl
                have e23 : f 23 = undef := (hf 23 (by decide)).1 _ rfl
                have e24 : f 24 = undef := (hf 24 (by decide)).1 _ rfl
                have e25 : f 25 = undef := (hf 25 (by decide)).1 _ rfl
                have e26 : f 26 = undef := (hf 26 (by decide)).1 _ rfl
                have e27 : f 27 = undef := (hf 27 (by decide)).1 _ rfl
                have e28 : f 28 = undef := (hf 28 (by decide)).1 _ rfl
                have e29 : f 29 = Value.bool true := (hf 29 (by decide)).1 _ rfl
                have hbel := FiS.bel hS
                clear hf hL hS hS0 hCh
                simp only [puts2, Act.put, e0, e1, e2, e3, e4, e5, e6, e7, e8, e9, e10, e11, e12, e13, e14, e15, e16, e17, e18, e19, e20, e21, e22, e23, e24, e25, e26, e27, e28, e29]
                try simp only [List.setIfInBounds_toArray, List.set_cons_zero, List.set_cons_succ]
                clear e0 e1 e2 e3 e4 e5 e6 e7 e8 e9 e10 e11 e12 e13 e14 e15 e16 e17 e18 e19 e20 e21 e22 e23 e24 e25 e26 e27 e28 e29
                go_wp2_with fail
                go_ret
                exact ⟨by rw [HF.out]; rfl, hbel⟩
          · rw [show chkMt m = 3 from if_neg hok] at hCh
            have HF := Lib.hid (show ans = false by
              cases he : ans
              · rfl
              · exact absurd (HM.out ▸ (HX.out.1 he j hjz).1) hok)
            obtain ⟨mr, mc, mv⟩ := m
            dsimp only at hS0 hCh
            generalize mv.length = vl at *
            clear hok hmj hall HA
            go_wp2_with fail
            refine region_fp [some 18, some 19, some 20, some 21, some 22, some 23, some 24, some 25, some 26, some 27, some 28, some 29, some 30, some 31, some 32, some 33, some 34, some 35, some 36, some 37, some 38, some 39, some 40, some 41, some 42, some 43, some 44, some 45, some 46, some 47] [] [some (Value.slice (some x) n k), some (Value.int .i64 (j : Int)), some (Value.pointer (some (x.add (j * 3)))), some (Value.agg #[Value.int .i64 mr, Value.int .i64 mc, Value.slice a vl kk]), some (Value.int .i64 3), some (Value.bool true), some (Value.bool true), some (undef), some (undef), some (undef), some (undef), some (undef), some (undef), some (undef), some (undef), some (undef), some (undef), some (Value.bool true), some (Value.bool true), some (undef), some (undef), some (undef), some (undef), some (undef), some (undef), some (undef), some (undef), some (undef), some (undef), some (Value.bool true)]
              (fun _ _ _ => True) (fun W W' => Below W.heap.size W W') (fun _ _ w => FiS W x (x.add (j * 3)) pr pc mr mc a vl kk w)
              (by kernel_rfl) (by kernel_rfl) (by kernel_rfl) (by kernel_rfl) (by kernel_rfl) (fun _ => Below.refl _ _) (fun _ _ _ _ h _ => h) (fun _ _ _ _ _ _ h => h) hS0 ?_ ?_
            · intro i hi b' L f W' hSW hL hdep hsh he hsv hsl hFF K hK1 hK2
              replace hi : i < 30 := hi
              have hcs : i = 0 ∨ i = 1 ∨ i = 2 ∨ i = 3 ∨ i = 4 ∨ i = 5 ∨ i = 6 ∨ i = 7 ∨ i = 8 ∨ i = 9 ∨ i = 10 ∨ i = 11 ∨ i = 12 ∨ i = 13 ∨ i = 14 ∨ i = 15 ∨ i = 16 ∨ i = 17 ∨ i = 18 ∨ i = 19 ∨ i = 20 ∨ i = 21 ∨ i = 22 ∨ i = 23 ∨ i = 24 ∨ i = 25 ∨ i = 26 ∨ i = 27 ∨ i = 28 ∨ i = 29 := by omega
              clear hi
              rcases hcs with rfl | rfl | rfl | rfl | rfl | rfl | rfl | rfl | rfl | rfl | rfl | rfl | rfl | rfl | rfl | rfl | rfl | rfl | rfl | rfl | rfl | rfl | rfl | rfl | rfl | rfl | rfl | rfl | rfl | rfl
              · refine wpOpS_go rfl rfl ?_
                have t0 : b'.tmps[0]?.getD undef = Value.slice (some x) n k := he 0 (by kernel_rfl)
                have HK := Lib.hid hK1
                clear hK1 hK2 hdep hsh he hsv hsl hFF hL hSW
                go_simp
                exact HK.out rfl _ (fp_mk rfl rfl trivial)
              · refine wpOpS_go rfl rfl ?_
                have t3 : b'.tmps[3]?.getD undef = Value.int .i64 (j : Int) := he 3 (by kernel_rfl)
                have HK := Lib.hid hK1
                clear hK1 hK2 hdep hsh he hsv hsl hFF hL hSW
                go_simp
                exact HK.out rfl _ (fp_mk rfl rfl trivial)
              · refine wpOpS_go rfl rfl ?_
                have t18 : b'.tmps[18]?.getD undef = Value.slice (some x) n k := hsv 0 18 _ (by kernel_rfl) (by kernel_rfl) rfl
                have t19 : b'.tmps[19]?.getD undef = Value.int .i64 (j : Int) := hsv 1 19 _ (by kernel_rfl) (by kernel_rfl) rfl
                obtain ⟨b0, b1, b2, b3, b4, b5⟩ := hSW
                have HK := Lib.hid hK1
                clear hK1 hK2 hdep hsh he hsv hsl hFF hL
                go_simp
                exact HK.out rfl _ (fp_mk rfl rfl trivial)
              · refine wpOpS_go rfl rfl ?_
                have t20 : b'.tmps[20]?.getD undef = Value.pointer (some (x.add (j * 3))) := hsv 2 20 _ (by kernel_rfl) (by kernel_rfl) rfl
                obtain ⟨b0, b1, b2, b3, b4, b5⟩ := hSW
                have HK := Lib.hid hK1
                clear hK1 hK2 hdep hsh he hsv hsl hFF hL
                go_simp
                exact HK.out rfl _ (fp_mk rfl rfl trivial)
              · refine wpOpS_go rfl rfl ?_
                have t21 : b'.tmps[21]?.getD undef = Value.agg #[Value.int .i64 mr, Value.int .i64 mc, Value.slice a vl kk] := hsv 3 21 _ (by kernel_rfl) (by kernel_rfl) rfl
                have HK := Lib.hid hK2
                clear hK1 hK2 hdep hsh he hsv hsl hFF hL
                go_simp
                refine (hCh _).mono ?_
                rintro e w6 ⟨rfl, hK⟩
                exact HK.out _ _ (fp_mk rfl rfl trivial) hK (FiS.keep hSW hK)
              · refine wpOpS_go rfl rfl ?_
                have t22 : b'.tmps[22]?.getD undef = Value.int .i64 3 := hsv 4 22 _ (by kernel_rfl) (by kernel_rfl) rfl
                have HK := Lib.hid hK1
                clear hK1 hK2 hdep hsh he hsv hsl hFF hL hSW
                go_simp
                exact HK.out rfl _ (fp_mk rfl rfl trivial)
              · refine wpOpS_go rfl rfl ?_
                have t23 : b'.tmps[23]?.getD undef = Value.bool true := hsv 5 23 _ (by kernel_rfl) (by kernel_rfl) rfl
                have HK := Lib.hid hK1
                clear hK1 hK2 hdep hsh he hsv hsl hFF hL hSW
                go_simp
                exact HK.out rfl _ (fp_mk rfl rfl trivial)
              · refine wpOpS_guard (dg := 24) rfl rfl rfl rfl (hsv 6 24 _ (by kernel_rfl) (by kernel_rfl) rfl) ?_
                rw [if_neg (by decide)]
                exact hK1 rfl _ (fp_mk rfl rfl trivial)
              · refine wpOpS_guard (dg := 24) rfl rfl rfl rfl (hsv 6 24 _ (by kernel_rfl) (by kernel_rfl) rfl) ?_
                rw [if_neg (by decide)]
                exact hK1 rfl _ (fp_mk rfl rfl trivial)
              · refine wpOpS_guard (dg := 24) rfl rfl rfl rfl (hsv 6 24 _ (by kernel_rfl) (by kernel_rfl) rfl) ?_
                rw [if_neg (by decide)]
                exact hK1 rfl _ (fp_mk rfl rfl trivial)
              · refine wpOpS_guard (dg := 24) rfl rfl rfl rfl (hsv 6 24 _ (by kernel_rfl) (by kernel_rfl) rfl) ?_
                rw [if_neg (by decide)]
                exact hK1 rfl _ (fp_mk rfl rfl trivial)
              · refine wpOpS_guard (dg := 24) rfl rfl rfl rfl (hsv 6 24 _ (by kernel_rfl) (by kernel_rfl) rfl) ?_
                rw [if_neg (by decide)]
                exact hK1 rfl _ (fp_mk rfl rfl trivial)
              · refine wpOpS_guard (dg := 24) rfl rfl rfl rfl (hsv 6 24 _ (by kernel_rfl) (by kernel_rfl) rfl) ?_
                rw [if_neg (by decide)]
                exact hK1 rfl _ (fp_mk rfl rfl trivial)
              · refine wpOpS_guard (dg := 24) rfl rfl rfl rfl (hsv 6 24 _ (by kernel_rfl) (by kernel_rfl) rfl) ?_
                rw [if_neg (by decide)]
                exact hK1 rfl _ (fp_mk rfl rfl trivial)
              · refine wpOpS_guard (dg := 24) rfl rfl rfl rfl (hsv 6 24 _ (by kernel_rfl) (by kernel_rfl) rfl) ?_
                rw [if_neg (by decide)]
                exact hK1 rfl _ (fp_mk rfl rfl trivial)
              · refine wpOpS_guard (dg := 24) rfl rfl rfl rfl (hsv 6 24 _ (by kernel_rfl) (by kernel_rfl) rfl) ?_
                rw [if_neg (by decide)]
                exact hK1 rfl _ (fp_mk rfl rfl trivial)
              · refine wpOpS_guard (dg := 24) rfl rfl rfl rfl (hsv 6 24 _ (by kernel_rfl) (by kernel_rfl) rfl) ?_
                rw [if_neg (by decide)]
                exact hK1 rfl _ (fp_mk rfl rfl trivial)
              · refine wpOpS_go rfl rfl ?_
                have t24 : b'.tmps[24]?.getD undef = Value.bool true := hsv 6 24 _ (by kernel_rfl) (by kernel_rfl) rfl
                have t34 : b'.tmps[34]?.getD undef = undef := hsv 16 34 _ (by kernel_rfl) (by kernel_rfl) rfl
                have HK := Lib.hid hK1
                clear hK1 hK2 hdep hsh he hsv hsl hFF hL hSW
                go_simp
                exact HK.out rfl _ (fp_mk rfl rfl trivial)
              · refine wpOpS_go rfl rfl ?_
                have t35 : b'.tmps[35]?.getD undef = Value.bool true := hsv 17 35 _ (by kernel_rfl) (by kernel_rfl) rfl
                have HK := Lib.hid hK1
                clear hK1 hK2 hdep hsh he hsv hsl hFF hL hSW
                go_simp
                exact HK.out rfl _ (fp_mk rfl rfl trivial)
              · refine wpOpS_guard (dg := 36) rfl rfl rfl rfl (hsv 18 36 _ (by kernel_rfl) (by kernel_rfl) rfl) ?_
                rw [if_neg (by decide)]
                exact hK1 rfl _ (fp_mk rfl rfl trivial)
              · refine wpOpS_guard (dg := 36) rfl rfl rfl rfl (hsv 18 36 _ (by kernel_rfl) (by kernel_rfl) rfl) ?_
                rw [if_neg (by decide)]
                exact hK1 rfl _ (fp_mk rfl rfl trivial)
              · refine wpOpS_guard (dg := 36) rfl rfl rfl rfl (hsv 18 36 _ (by kernel_rfl) (by kernel_rfl) rfl) ?_
                rw [if_neg (by decide)]
                exact hK1 rfl _ (fp_mk rfl rfl trivial)
              · refine wpOpS_guard (dg := 36) rfl rfl rfl rfl (hsv 18 36 _ (by kernel_rfl) (by kernel_rfl) rfl) ?_
                rw [if_neg (by decide)]
                exact hK1 rfl _ (fp_mk rfl rfl trivial)
              · refine wpOpS_guard (dg := 36) rfl rfl rfl rfl (hsv 18 36 _ (by kernel_rfl) (by kernel_rfl) rfl) ?_
                rw [if_neg (by decide)]
                exact hK1 rfl _ (fp_mk rfl rfl trivial)
              · refine wpOpS_guard (dg := 36) rfl rfl rfl rfl (hsv 18 36 _ (by kernel_rfl) (by kernel_rfl) rfl) ?_
                rw [if_neg (by decide)]
                exact hK1 rfl _ (fp_mk rfl rfl trivial)
              · refine wpOpS_guard (dg := 36) rfl rfl rfl rfl (hsv 18 36 _ (by kernel_rfl) (by kernel_rfl) rfl) ?_
                rw [if_neg (by decide)]
                exact hK1 rfl _ (fp_mk rfl rfl trivial)
              · refine wpOpS_guard (dg := 36) rfl rfl rfl rfl (hsv 18 36 _ (by kernel_rfl) (by kernel_rfl) rfl) ?_
                rw [if_neg (by decide)]
                exact hK1 rfl _ (fp_mk rfl rfl trivial)
              · refine wpOpS_guard (dg := 36) rfl rfl rfl rfl (hsv 18 36 _ (by kernel_rfl) (by kernel_rfl) rfl) ?_
                rw [if_neg (by decide)]
                exact hK1 rfl _ (fp_mk rfl rfl trivial)
              · refine wpOpS_guard (dg := 36) rfl rfl rfl rfl (hsv 18 36 _ (by kernel_rfl) (by kernel_rfl) rfl) ?_
                rw [if_neg (by decide)]
                exact hK1 rfl _ (fp_mk rfl rfl trivial)
              · refine wpOpS_go rfl rfl ?_
                have t36 : b'.tmps[36]?.getD undef = Value.bool true := hsv 18 36 _ (by kernel_rfl) (by kernel_rfl) rfl
                have t46 : b'.tmps[46]?.getD undef = undef := hsv 28 46 _ (by kernel_rfl) (by kernel_rfl) rfl
                have HK := Lib.hid hK1
                clear hK1 hK2 hdep hsh he hsv hsl hFF hL hSW
                go_simp
                exact HK.out rfl _ (fp_mk rfl rfl trivial)
            · intro f W' hf L hL hS
              have e0 : f 0 = Value.slice (some x) n k := (hf 0 (by decide)).1 _ rfl
              have e1 : f 1 = Value.int .i64 (j : Int) := (hf 1 (by decide)).1 _ rfl
              have e2 : f 2 = Value.pointer (some (x.add (j * 3))) := (hf 2 (by decide)).1 _ rfl
              have e3 : f 3 = Value.agg #[Value.int .i64 mr, Value.int .i64 mc, Value.slice a vl kk] := (hf 3 (by decide)).1 _ rfl
              have e4 : f 4 = Value.int .i64 3 := (hf 4 (by decide)).1 _ rfl
              have e5 : f 5 = Value.bool true := (hf 5 (by decide)).1 _ rfl
              have e6 : f 6 = Value.bool true := (hf 6 (by decide)).1 _ rfl
              have e7 : f 7 = undef := (hf 7 (by decide)).1 _ rfl
              have e8 : f 8 = undef := (hf 8 (by decide)).1 _ rfl
              have e9 : f 9 = undef := (hf 9 (by decide)).1 _ rfl
              have e10 : f 10 = undef := (hf 10 (by decide)).1 _ rfl
              have e11 : f 11 = undef := (hf 11 (by decide)).1 _ rfl
              have e12 : f 12 = undef := (hf 12 (by decide)).1 _ rfl
              have e13 : f 13 = undef := (hf 13 (by decide)).1 _ rfl
              have e14 : f 14 = undef := (hf 14 (by decide)).1 _ rfl
              have e15 : f 15 = undef := (hf 15 (by decide)).1 _ rfl
              have e16 : f 16 = undef := (hf 16 (by decide)).1 _ rfl
              have e17 : f 17 = Value.bool true := (hf 17 (by decide)).1 _ rfl
              have e18 : f 18 = Value.bool true := (hf 18 (by decide)).1 _ rfl
              have e19 : f 19 = undef := (hf 19 (by decide)).1 _ rfl
              have e20 : f 20 = undef := (hf 20 (by decide)).1 _ rfl
              have e21 : f 21 = undef := (hf 21 (by decide)).1 _ rfl
              have e22 : f 22 = undef := (hf 22 (by decide)).1 _ rfl
              have e23 : f 23 = undef := (hf 23 (by decide)).1 _ rfl
              have e24 : f 24 = undef := (hf 24 (by decide)).1 _ rfl
              have e25 : f 25 = undef := (hf 25 (by decide)).1 _ rfl
              have e26 : f 26 = undef := (hf 26 (by decide)).1 _ rfl
              have e27 : f 27 = undef := (hf 27 (by decide)).1 _ rfl
              have e28 : f 28 = undef := (hf 28 (by decide)).1 _ rfl
              have e29 : f 29 = Value.bool true := (hf 29 (by decide)).1 _ rfl
              have hbel := FiS.bel hS
              clear hf hL hS hS0 hCh
              simp only [puts2, Act.put, e0, e1, e2, e3, e4, e5, e6, e7, e8, e9, e10, e11, e12, e13, e14, e15, e16, e17, e18, e19, e20, e21, e22, e23, e24, e25, e26, e27, e28, e29]
              try simp only [List.setIfInBounds_toArray, List.set_cons_zero, List.set_cons_succ]
              clear e0 e1 e2 e3 e4 e5 e6 e7 e8 e9 e10 e11 e12 e13 e14 e15 e16 e17 e18 e19 e20 e21 e22 e23 e24 e25 e26 e27 e28 e29
              go_wp2_with fail
              go_ret
              exact ⟨by rw [HF.out]; rfl, hbel⟩
        · have hjn : j = n := by omega
          have HT := Lib.hid (HX.out.2 fun t ht => hall.out t ht (by omega))
          subst hjn
          clear HA
          go_wp2_with fail
          go_ret
          exact ⟨by rw [HT.out]; rfl, hB⟩
    · have h2' : (25 : Int) < (n : Int) := by omega
      have HF := Lib.hid (show ans = false by rw [← HA.out]; exact decide_eq_false fun h => by have := h.2.1; omega)
      clear HA
      go_enter Tryz.func61, Tryz.ntmps61
      go_wp2_with fail
      go_ret
      exact ⟨by rw [HF.out]; rfl, Below.refl _ _⟩
  · have hn0 : n = 0 := by omega
    have HF := Lib.hid (show ans = false by rw [← HA.out]; exact decide_eq_false fun h => by have := h.1; omega)
    subst hn0
    clear HA
    go_enter Tryz.func61, Tryz.ntmps61
    go_wp2_with fail
    go_ret
    exact ⟨by rw [HF.out]; rfl, Below.refl _ _⟩
