/- PolyValues: the walk. -/
import Derived.Test.YtkjbidpafnmogaaGreatTmM
import Derived.Test.YtkjbidpafnmogaaGreatPolP
namespace Go.Proofs.YtkjbidpafnmogaaGreat.Base
open Go.RowKit Go Go.Shelf Go.Deep Go.ChangeShapes Go.WideShapes
set_option linter.unusedVariables false
set_option linter.unusedSimpArgs false

theorem OMs.atv {B b : Nat} {W : World} {c : Bool} {v : Value} {ms : List Mt} (h : OMs B W v ms) (hU : UP W b c) : ∃ a k, v = .slice a ms.length k ∧ ms.length ≤ k ∧ (0 < ms.length → ∃ x, a = some x ∧ MLs b W x ms) := by
  by_cases h0 : 0 < ms.length
  · obtain ⟨x, k, h1, h2, h3⟩ := h.mls hU h0
    exact ⟨some x, k, h1, h2, fun _ => ⟨x, rfl, h3⟩⟩
  · obtain ⟨vs, ho, hr⟩ := h.ex
    obtain ⟨hl2, ⟨rfl, h1⟩ | ⟨g, cap, cur, rfl, hB, hh, hn, hm, hs, ht⟩⟩ := ho
    · exact ⟨none, 0, by rw [h1], by omega, fun h => absurd h h0⟩
    · exact ⟨_, cap, rfl, hn, fun h => absurd h h0⟩
theorem old_lt {W : World} {y : Addr} {v : Value} (h : W.cell? y = some v) : y.block < W.heap.size := World.block_lt_of_cell? W _ h
theorem ml_old {W0 W : World} {b : Nat} {a : Option Addr} {k : Nat} {zs : List Int} (h : MI 0 W0 a k zs) (hB : Below W0.heap.size W0 W) (hb : W0.heap.size ≤ b) : ML b W a k zs :=
  ⟨h.keep hB, fun x hx h0 => by
    obtain ⟨y, hy, hc⟩ := h.cell 0 h0
    rw [hx] at hy
    cases hy
    have := World.block_lt_of_cell? W0 _ hc
    rw [add_block] at this
    omega⟩
theorem MAt.mls {W0 W : World} {b : Nat} {x : Addr} {ms : List Mt} (h : MAt W0 x ms) (h0 : 0 < ms.length) (hB : Below W0.heap.size W0 W) (hb : W0.heap.size ≤ b) : MLs b W x ms := by
  refine ⟨fun j hj => ?_, ?_⟩
  · obtain ⟨a, k, h1, h2⟩ := h.at_ j hj
    obtain ⟨a', k', h1', h2'⟩ := (h.keep hB).at_ j hj
    exact ⟨a', k', h1', by
      have e : W.cell? ⟨(x.add (j * 3)).block, (x.add (j * 3)).off + 2, none⟩ = some (.slice a ms[j].v.length k) := (hB.cell (old_lt h1.2.2)).trans h1.2.2
      have e2 := e.symm.trans h1'.2.2
      simp at e2
      obtain ⟨ea, ek⟩ := e2
      subst ea ek
      exact ml_old h2 hB hb⟩
  · obtain ⟨a, k, h1, h2⟩ := h.at_ 0 h0
    have := old_lt h1.1
    rw [add_block] at this
    omega
theorem MO.step {b B : Nat} {W W' : World} {v : Value} {m : Mt} (h : MO B W v m) (k : But b W W') (ht : ¬ Ty W b 3) : MO B W' v m :=
  h.eff (but_eff k) (fun k hk ht' => by subst hk; exact ht ht')
theorem UP.ty {W : World} {b : Nat} {c : Bool} (h : UP W b c) : ¬ Ty W b 3 := fun ht => by
  obtain ⟨mm, hm⟩ := h
  exact absurd (ht.inj hm.ty) (by decide)
theorem UR.ty {W : World} {b : Nat} {c : Bool} (h : UR W b c) : ¬ Ty W b 3 := fun ht => by
  obtain ⟨mm, hm⟩ := h
  exact absurd (ht.inj hm.ty) (by decide)

set_option maxHeartbeats 16000000 in
set_option maxRecDepth 100000 in
theorem pvalues_walk (a : Option Addr) (cap : Nat) (ms : List Mt) (t : Int) (W : World) (hm : 0 < ms.length → ∃ x, a = some x ∧ MAt W x ms) (hcap : ms.length ≤ cap) (wt : (Lit.int .i64 t).wf = true) :
    Calls Tryz.prog 4 #[.slice a ms.length cap, .int .i64 t] W fun e w' => e = .returned (.bool true) ∧ Below W.heap.size W w' := by
  have ht64 := bounds_i64 wt
  clear wt
  have hAP : ∀ (w : World) (c : Bool) (b : Nat) (_ : UP w b c) (v : Value) (B : Nat) (_ : OMs B w v ms), Calls Tryz.prog 25 #[.pointer (some ⟨b, 0, none⟩), v, .int .i64 t] w fun e w' => ∃ u, e = .returned (.tuple #[u, .int .i64 (aAll ms t).2.1]) ∧ MO w.heap.size w' u (aAll ms t).1 ∧ UP w' b (c || (aAll ms t).2.2) ∧ But b w w' := fun w c b hU v B h => by
    obtain ⟨a', k', h1, h2, h3⟩ := h.atv hU
    have := at_all hU h3 h2 t ht64
    rw [← h1] at this
    exact this
  have hAR := fun (w : World) (hB : Below W.heap.size W w) (b : Nat) (hb : W.heap.size ≤ b) (c : Bool) (hU : UR w b c) => atR_all (ms := ms) hU (a := a) (k := cap) (fun h => by obtain ⟨x, hx, h1⟩ := hm h; exact ⟨x, hx, h1.mls h hB hb⟩) hcap t ht64
  have hPV : MsV W (.slice a ms.length cap) ms := ⟨a, cap, rfl, hm⟩
  have hI : ∀ q ∈ ms, I64 q.r ∧ I64 q.c := fun q hq => by
    obtain ⟨x, _, h⟩ := hm (List.length_pos_of_mem hq)
    exact h.rng q hq
  obtain ⟨n, hn⟩ : ∃ n, ms.length = n := ⟨_, rfl⟩
  have HN := Lib.hid hn
  rw [hn] at hAR hm hcap hPV ⊢
  generalize aAll ms t = aq at *
  obtain ⟨am, ae, ac⟩ := aq
  dsimp only at hAP hAR
  have HM := Lib.hid hm
  have HAP := Lib.hid hAP
  have HAR := Lib.hid hAR
  have HPV := Lib.hid hPV
  have HI := Lib.hid hI
  clear hAP hAR hPV hI hn hm
  go_enter Tryz.func4, Tryz.ntmps4
  go_wp2_with fail
  refine (uNew_is _).mono ?_
  rintro e w1 ⟨rfl, hU, hB⟩
  go_wp2_with fail
  refine (uNewR_is _).mono ?_
  rintro e w2 ⟨rfl, hR, hK⟩
  have hl1 := hU.lt
  replace hB := more hB hK
  replace hU := hU.keep hK
  obtain ⟨b1, hb1⟩ : ∃ b1, W.heap.size = b1 := ⟨_, rfl⟩
  obtain ⟨b2, hb2⟩ : ∃ b2, w1.heap.size = b2 := ⟨_, rfl⟩
  rw [hb1] at hU hl1 ⊢
  rw [hb2] at hR hl1 ⊢
  have l1 : W.heap.size ≤ b1 := by omega
  clear hK hb2
  have HB1 := Lib.hid hb1
  clear hb1
  by_cases hlen : n ≤ 30
  · have hlen' : ¬ ((30 : Int) < (n : Int)) := by omega
    have hR2 := hR.lt
    go_wp2_with fail
    go_loopw [7, 8] (fun v i wr => ∃ j : Nat, j ≤ n ∧ i = .int .i64 j ∧ OMs (b2 + 1) wr v (ms.take j) ∧ UP wr b1 false ∧ UR wr b2 false ∧ Below W.heap.size W wr) (fun _ i _ => n - (intOf i).toNat)
    case atStart => exact ⟨0, Nat.zero_le _, rfl, by simpa using OMs.nil _ _, hU, hR, hB⟩
    case round =>
      clear hU hR hB hR2
      obtain ⟨j, hj, rfl, hX, hU, hR, hB⟩ := hrel
      by_cases hjl : j < n
      · have hjl' : (j : Int) < (n : Int) := by omega
        have hj0 : (0 : Int) ≤ (j : Int) := by omega
        have hjz : j < ms.length := by rw [HN.out]; exact hjl
        obtain ⟨x, rfl, hx⟩ := HM.out (by omega)
        obtain ⟨aj, kj, ⟨c0, c1, c2⟩, hmi⟩ := (hx.keep hB).at_ j hjz
        have HTK := Lib.hid (List.take_succ_eq_append_getElem hjz)
        have hI := HI.out _ (List.getElem_mem hjz)
        obtain ⟨mj, hmj⟩ : ∃ mj, ms[j] = mj := ⟨_, rfl⟩
        rw [hmj] at c0 c1 c2 hmi HTK hI
        clear hmj hx hjz
        obtain ⟨lj, hlj⟩ : ∃ lj, mj.v.length = lj := ⟨_, rfl⟩
        rw [hlj] at c2
        by_cases hl160 : lj ≤ 160
        · have hl' : ¬ ((160 : Int) < (lj : Int)) := by omega
          have hCM := copyMat_is (m := mj) hmi (by omega)
          rw [hlj] at hCM
          have HLJ := Lib.hid hlj
          have hTL := Lib.hid (show (ms.take j).length = j by rw [List.length_take, HN.out]; omega)
          clear hlj hmi
          go_wp2_with fail
          refine hCM.mono ?_
          rintro e w3 ⟨g, kg, rfl, hO, hK⟩
          have hrl := hR.lt
          have hX3 := hX.keep hK
          have hU3 := hU.keep hK
          have hR3 := hR.keep hK
          have hB3 := more hB hK
          have hO3 := hO.mono (show b2 + 1 ≤ wr.heap.size from hrl)
          have hw3 := hK.size
          clear hX hU hR hB hCM hO hK c0 c1 c2
          have be := Blk.new w3 #[.int .i64 mj.r, .int .i64 mj.c, .slice (some ⟨g, 0, none⟩) lj kg] 24
          have hKe : Below w3.heap.size w3 (w3.alloc (.cells #[.int .i64 mj.r, .int .i64 mj.c, .slice (some ⟨g, 0, none⟩) lj kg] 24)) := upA (upR w3) _
          have hXe := hX3.keep hKe
          have hOe := hO3.li.keep hKe
          have hUe := hU3.keep hKe
          have hRe := hR3.keep hKe
          have hBe := more hB3 hKe
          have hwe := hKe.size
          clear hX3 hU3 hR3 hB3 hO3 hKe
          go_wp2_with (at_builtin; refine app_mat (m := mj) rfl _ _ rfl rfl hXe (by omega) _ rfl mj.r mj.c lj rfl rfl HLJ.out be hOe hI.1 hI.2 (by rw [hTL.out]; omega) ?_)
          intro v' w4 ho4 hg4 _
          rw [← HTK.out] at ho4
          have hown := fun k hk => hXe.own k hk
          have hU4 : UP w4 b1 false := by
            obtain ⟨mm, hm⟩ := hUe
            exact ⟨mm, hm.grown hg4 (fun e => by have := (hown _ e.symm).2; omega)⟩
          have hR4 : UR w4 b2 false := by
            obtain ⟨mm, hm⟩ := hRe
            exact ⟨mm, hm.grown hg4 (fun e => by have := (hown _ e.symm).2; omega)⟩
          have hB4 : Below W.heap.size W w4 := hBe.trans ⟨hg4.os, hg4.tape, hg4.output, hg4.size, fun k hk => hg4.block k (by have := hBe.size; omega) (fun e => by have := (hown k e.symm).2; omega)⟩
          clear hXe hOe hUe hRe hBe be hg4 hown
          go_wp2_with fail
          go_roundw
          case rel => exact ⟨j + 1, by omega, by go_num, ho4, hU4, hR4, hB4⟩
          case measure => simp [intOf]; omega
        · have hl' : (160 : Int) < (lj : Int) := by omega
          clear hlj hmi hX hU hR c0 c1
          go_wp2_with fail
          refine (awake09_is _).mono ?_
          rintro e w3 ⟨rfl, hK⟩
          have hB3 := more hB hK
          clear hK hB c2
          go_wp2_with fail
          go_ret
          exact ⟨rfl, hB3⟩
      · have hjn : j = n := by omega
        have HX0 := hX
        rw [hjn, ← HN.out, List.take_length] at HX0
        have hge : ¬ ((j : Int) < (n : Int)) := by omega
        clear hX hjn
        rename World => w10
        have hlB : b2 < w10.heap.size := hR.lt
        have HTY := Lib.hid (⟨hU.ty, hR.ty⟩ : ¬ Ty w10 b1 3 ∧ ¬ Ty w10 b2 3)
        have hx4 := HAP.out w10 false b1 hU _ _ HX0
        clear HAP
        go_wp2_with fail
        refine hx4.mono ?_
        rintro e w11 ⟨vp, rfl, hP, hU11, hB11⟩
        clear hx4
        have hR11 := hR.but hB11 (by omega)
        have hBl11 : Below W.heap.size W w11 := hB.trans (hB11.below l1 hB.size)
        have hE11 : Eff (fun k => k = b1 ∨ k = b2) w10 w11 := (but_eff hB11).mono (fun _ _ h => .inl h)
        have hlb := hB11.size
        clear hB11 hU hR hB
        obtain ⟨ap, kp, rfl, hPl⟩ := hP.ex
        clear hP
        obtain ⟨fl, hfl⟩ : ∃ fl, am.v.length = fl := ⟨_, rfl⟩
        rw [hfl]
        have gm := Blk.new w11 #[.int .i64 0, .int .i64 0, .slice none 0 0] 24
        have hK1 : Below w11.heap.size w11 (w11.alloc (.cells #[.int .i64 0, .int .i64 0, .slice none 0 0] 24)) := upA (upR w11) _
        go_wp2_with ((with_reducible refine at_st (p := 9) (q := 55) rfl ?_); refine ev_store rfl 24 _ _ rfl rfl gm 0 rfl rfl [.int .i64 am.r, .int .i64 am.c, .slice ap fl kp] rfl (by kernel_rfl) rfl rfl #[.int .i64 am.r, .int .i64 am.c, .slice ap fl kp] rfl ?_; intro w12 g12 ef hz12)
        have hK12 : Below w11.heap.size w11 w12 := ef.below hK1 (fun k hk => by omega)
        clear gm hK1 ef hz12
        have hR12 := hR11.keep hK12
        have hU12 := hU11.keep hK12
        have hBl12 := more hBl11 hK12
        have hE12 := hE11.trans (Eff.of (P := fun k => k = b1 ∨ k = b2) hK12) (fun _ _ h => h)
        have hPl12 := hPl.keep hK12
        obtain ⟨pb, hpb⟩ : ∃ pb, w11.heap.size = pb := ⟨_, rfl⟩
        have hlp : b2 < pb := by omega
        have hlw : w10.heap.size ≤ pb := by omega
        have hpw : w10.heap.size ≤ w12.heap.size := by have := hK12.size; omega
        rw [hpb] at g12 ⊢
        clear hR11 hU11 hBl11 hE11 hPl hK12 hpb
        refine (HAR.out w12 hBl12 b2 (by omega) _ hR12).mono ?_
        clear HAR
        rintro e w13 ⟨vq, rfl, hQ, hR13, hB13⟩
        have hPl13 := hPl12.eff (but_eff hB13) (fun k hk ht => by subst hk; exact hR12.ty ht)
        have g13 := hB13.blk g12 (by omega)
        have hU13 := hU12.but hB13 (by omega)
        have hBl13 : Below W.heap.size W w13 := hBl12.trans (hB13.below (by omega) hBl12.size)
        have hE13 : Eff (fun k => k = b1 ∨ k = b2) w10 w13 := hE12.trans (but_eff hB13) (fun _ _ h => .inr h)
        have hpw13 := hB13.size
        clear hPl12 g12 hR12 hU12 hBl12 hE12 hB13
        obtain ⟨aq, kq, rfl, hQl⟩ := hQ.ex
        clear hQ
        rw [hfl]
        have gm := Blk.new w13 #[.int .i64 0, .int .i64 0, .slice none 0 0] 24
        have hK1 : Below w13.heap.size w13 (w13.alloc (.cells #[.int .i64 0, .int .i64 0, .slice none 0 0] 24)) := upA (upR w13) _
        go_wp2_with ((with_reducible refine at_st (p := 11) (q := 62) rfl ?_); refine ev_store rfl 24 _ _ rfl rfl gm 0 rfl rfl [.int .i64 am.r, .int .i64 am.c, .slice aq fl kq] rfl (by kernel_rfl) rfl rfl #[.int .i64 am.r, .int .i64 am.c, .slice aq fl kq] rfl ?_; intro w14 g14 ef hz14; have hK14 : Below w13.heap.size w13 w14 := ef.below hK1 (fun k hk => by omega); have d9 := (g13.keep hK14).cell; have d11 := g14.cell)
        clear gm hK1 ef hz14
        have g9 := g13.keep hK14
        have hPl14 := hPl13.keep hK14
        have hQl14 := hQl.keep hK14
        have hU14 := hU13.keep hK14
        have hR14 := hR13.keep hK14
        have hBl14 := more hBl13 hK14
        have hE14 := hE13.trans (Eff.of (P := fun k => k = b1 ∨ k = b2) hK14) (fun _ _ h => h)
        have hpw14 := hK14.size
        clear hPl13 hQl hU13 hR13 hBl13 hE13 g13 g14 hK14
        have hSM := same_mm (m := am) (hPl14.mi.mono (Nat.zero_le _)) (hQl14.mi.mono (Nat.zero_le _))
        rw [hfl] at hSM
        refine hSM.mono ?_
        rintro e w15 ⟨rfl, hK⟩
        have g15 := g9.keep hK
        have hPl15 := hPl14.keep hK
        have hU15 := hU14.keep hK
        have hR15 := hR14.keep hK
        have hBl15 := more hBl14 hK
        have hE15 := hE14.trans (Eff.of (P := fun k => k = b1 ∨ k = b2) hK) (fun _ _ h => h)
        clear hSM d9 d11 hPl14 hQl14 hU14 hR14 hBl14 hE14 g9 hK
        generalize (false || ac) = cc at *
        go_wp2_with fail
        refine (uCut_is hU15).mono ?_
        rintro e w16 ⟨rfl, rfl⟩
        go_wp2_with fail
        refine (uCutR_is hR15).mono ?_
        rintro e w17 ⟨rfl, rfl⟩
        have d9 := g15.cell
        have hOV := over_is (c := kp) hPl15.wj
        rw [hfl] at hOV
        clear hU15 hR15
        go_wp2_with fail
        refine hOV.mono ?_
        rintro e w18 ⟨rfl, hW⟩
        have hBl18 : Below W.heap.size W w18 := hBl15.trans (hW.mono (B' := W.heap.size) (by omega)).below
        have hE18 : Eff (fun k => k = b1 ∨ k = b2) w10 w18 := ⟨hW.os.trans hE15.os, hW.tape.trans hE15.tape, hW.output.trans hE15.output, by rw [hW.size]; exact hE15.size, fun k hk hn => (hW.old k hk).trans (hE15.block k hk hn)⟩
        have hX18 := HX0.eff hE18 (fun k hk => by rcases hk with rfl | rfl; exact HTY.out.1; exact HTY.out.2) (fun k hk hp => by have := (HX0.own k hk).2; omega)
        have hS := same09_is hX18.msv (HPV.out.keep hBl18) (by rw [HN.out]; omega)
        clear hE18 hE15 hBl15 g15 hPl15 d9 hOV hW HX0 hX18
        go_wp2_with fail
        refine hS.mono ?_
        rintro e w19 ⟨rfl, hK⟩
        have hBl19 := more hBl18 hK
        clear hS hK hBl18
        go_wp2_with fail
        refine (awake09_is _).mono ?_
        rintro e w20 ⟨rfl, hK⟩
        have hBl20 := more hBl19 hK
        clear hK hBl19
        go_wp2_with fail
        go_ret
        exact ⟨rfl, hBl20⟩
  · have hlen' : (30 : Int) < (n : Int) := by omega
    go_wp2_with fail
    refine (awake09_is _).mono ?_
    rintro e w3 ⟨rfl, hK⟩
    have hB3 := more hB hK
    clear hK hU hR hB
    go_wp2_with fail
    go_ret
    exact ⟨rfl, hB3⟩
