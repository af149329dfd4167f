/- SnapOrder: the walk. No conditions. -/
import Derived.Test.YtagakcnhhhlolaaSnR
import Derived.Test.YtagakcnhhhlolaaSnN
namespace Go.Proofs.Ytagakcnhhhlolaa.Base
open Go.RowKit
set_option linter.unusedVariables false
set_option linter.unusedSimpArgs false

/-- An act's cells, one by one. -/
structure AcC (W : World) (y : Addr) (q : Ac) (aX : Option Addr) (cX : Nat) (aP : Option Addr) (cP : Nat) (aH : Option Addr) (cH : Nat) (aR : Option Addr) (cR : Nat) : Prop where
  c0 : W.cell? y = some (Value.int .i64 q.kind)
  c1 : W.cell? ⟨y.block, y.off + 1, none⟩ = some (Value.int .i64 q.n)
  c2 : W.cell? ⟨y.block, y.off + 2, none⟩ = some (Value.int .i64 q.m.b.t)
  c3 : W.cell? ⟨y.block, y.off + 3, none⟩ = some (Value.slice aX q.m.b.X.length cX)
  c4 : W.cell? ⟨y.block, y.off + 4, none⟩ = some (Value.slice aP q.m.b.P.length cP)
  c5 : W.cell? ⟨y.block, y.off + 5, none⟩ = some (Value.bool q.m.b.flag)
  c6 : W.cell? ⟨y.block, y.off + 6, none⟩ = some (Value.int .i64 q.m.b.pass)
  c7 : W.cell? ⟨y.block, y.off + 7, none⟩ = some (Value.int .i64 q.m.b.fail)
  c8 : W.cell? ⟨y.block, y.off + 8, none⟩ = some (Value.bool q.m.t.is)
  c9 : W.cell? ⟨y.block, y.off + 9, none⟩ = some (Value.slice aH q.m.t.H.length cH)
  c10 : W.cell? ⟨y.block, y.off + 10, none⟩ = some (Value.slice aR q.m.t.R.length cR)
  c11 : W.cell? ⟨y.block, y.off + 11, none⟩ = some (Value.int .i64 q.m.t.s)
  c12 : W.cell? ⟨y.block, y.off + 12, none⟩ = some (Value.int .i64 q.m.t.nu)
  ko : KO W [Value.int .i64 q.m.b.t, Value.slice aX q.m.b.X.length cX, Value.slice aP q.m.b.P.length cP, Value.bool q.m.b.flag, Value.int .i64 q.m.b.pass, Value.int .i64 q.m.b.fail, Value.bool q.m.t.is, Value.slice aH q.m.t.H.length cH, Value.slice aR q.m.t.R.length cR, Value.int .i64 q.m.t.s, Value.int .i64 q.m.t.nu] q.m
theorem AcAt.acc {W : World} {y : Addr} {q : Ac} (h : AcAt W y q) : ∃ aX cX aP cP aH cH aR cR, AcC W y q aX cX aP cP aH cH aR cR := by
  obtain ⟨cs, hc, h2⟩ := h.ex
  obtain ⟨aX, cX, aP, cP, aH, cH, aR, cR, rfl, q1, q2, q3, q4⟩ := hc.km
  have ad : ∀ n, 0 < n → y.add n = ⟨y.block, y.off + n, none⟩ := fun n hn => by unfold Addr.add; rw [if_neg (by omega)]
  have h3 : ∀ n, 0 < n → ∀ u, _ → W.cell? ⟨y.block, y.off + n, none⟩ = some u := fun n hn u hu => (ad n hn) ▸ h2 n u hu
  exact ⟨aX, cX, aP, cP, aH, cH, aR, cR, h2 0 _ rfl, h3 1 (by omega) _ rfl, h3 2 (by omega) _ rfl, h3 3 (by omega) _ rfl, h3 4 (by omega) _ rfl, h3 5 (by omega) _ rfl, h3 6 (by omega) _ rfl, h3 7 (by omega) _ rfl, h3 8 (by omega) _ rfl, h3 9 (by omega) _ rfl, h3 10 (by omega) _ rfl, h3 11 (by omega) _ rfl, h3 12 (by omega) _ rfl, hc⟩
theorem Short.mk_ok {qs : List Ac} (h : Short qs) {w : World} (k : Nat) (hk : k < qs.length) {cs : List Value} (hc : KO w cs qs[k].m) : MkOk qs[k].m := by
  obtain ⟨h1, h2, h3, h4⟩ := h.2 _ (List.getElem_mem hk)
  exact ⟨hc.t, hc.pass, hc.fail, hc.s, hc.nu, by omega, by omega, by omega, by omega⟩
set_option maxHeartbeats 16000000 in
set_option maxRecDepth 100000 in
theorem order_walk (v0 : Value) (M : Mdl) (v1 : Value) (b : Blf) (a : Option Addr) (nq c : Nat) (qs : List Ac) (at_ : Int) (w : World) (hM : MM 0 w v0 M) (hb : MB 0 w v1 b) (hq : MAc w a c qs) (hn : qs.length = nq) (ht : (Lit.int .i64 at_).wf = true) :
    Calls Try.prog 9 #[v0, v1, .slice a nq c, .int .i64 at_] w fun e w' => e = .returned (.bool true) ∧ Below w.heap.size w w' := by
  obtain ⟨aA, cA, aQ, cQ, aR, cR, rfl, hA, hQ, hR⟩ := hM.ex
  obtain ⟨aX, cX, aP, cP, rfl, hX, hP⟩ := hb.ex
  have hS := SFt.start w 0 M b aA cA aQ cQ aR cR aX cX aP cP hX hP
  have HM := Lib.hid hM
  have HB := Lib.hid hb
  have HQ := Lib.hid hq
  have HN := Lib.hid hn
  clear hM hb hq hn hA hQ hR hX hP
  go_enter Try.func9, Try.ntmps9
  go_wp2_with fail
  generalize (w.alloc (.cells #[Value.int .i64 M.n, .slice aA M.A.length cA, .slice aQ M.Q.length cQ, .int .i64 M.tick, .int .i64 M.gate, .int .i64 M.rmin, .slice aR M.rows.length cR] 25)).alloc (.cells #[Value.int .i64 b.t, .slice aX b.X.length cX, .slice aP b.P.length cP, .bool b.flag, .int .i64 b.pass, .int .i64 b.fail] 27) = W1 at *
  have HS := Lib.hid hS
  have hT := Below.refl W1.heap.size W1
  refine (known22_walk _).mono ?_
  rintro e w2 ⟨rfl, hK⟩
  replace hS := hS.keep hK
  replace hT := more hT hK
  clear hK
  have x0 := hS.x.cell 0
  have x1 := hS.x.cell 1
  have x2 := hS.x.cell 2
  have x3 := hS.x.cell 3
  have x4 := hS.x.cell 4
  have x5 := hS.x.cell 5
  have x6 := hS.x.cell 6
  simp at x0 x1 x2 x3 x4 x5 x6
  go_wp2_with fail
  refine (longModel_is (HM.out.keep hS.bel)).mono ?_
  rintro e w3 ⟨hq, hK⟩
  replace hS := hS.keep hK
  replace hT := more hT hK
  clear hK x0 x1 x2 x3 x4 x5 x6
  rcases hq with ⟨hno, rfl⟩ | ⟨hmod, rfl⟩
  · clear hno
    go_wp2_with fail
    go_ret
    exact ⟨rfl, hS.bel⟩
  have hmod' := Lib.hid (Classical.not_not.1 hmod)
  clear hmod
  have y0 := hS.y.cell 0
  have y1 := hS.y.cell 1
  have y2 := hS.y.cell 2
  have y3 := hS.y.cell 3
  have y4 := hS.y.cell 4
  have y5 := hS.y.cell 5
  simp at y0 y1 y2 y3 y4 y5
  go_wp2_with fail
  refine (longBelief_is (HB.out.keep hS.bel)).mono ?_
  rintro e w4 ⟨rfl, hK⟩
  replace hS := hS.keep hK
  replace hT := more hT hK
  clear hK y0 y1 y2 y3 y4 y5
  by_cases hl : 12 < b.X.length ∨ 40 < b.P.length
  · have hl' : (decide (12 < b.X.length) || decide (40 < b.P.length)) = true := by simpa using hl
    rw [hl']
    clear hl'
    go_wp2_with fail
    go_ret
    exact ⟨rfl, hS.bel⟩
  have hl' : (decide (12 < b.X.length) || decide (40 < b.P.length)) = false := by simp; omega
  rw [hl']
  clear hl'
  have HL := Lib.hid hl
  clear hl
  go_wp2_with fail
  have hlq := long_is (HQ.out.keep hS.bel)
  rw [HN.out] at hlq
  refine hlq.mono ?_
  clear hlq
  rintro e w5 ⟨hq, hK⟩
  replace hS := hS.keep hK
  replace hT := more hT hK
  clear hK
  rcases hq with rfl | ⟨rfl, hsh⟩
  · go_wp2_with fail
    go_ret
    exact ⟨rfl, hS.bel⟩
  have HSH := Lib.hid hsh
  clear hsh
  have x0 := hS.x.cell 0
  have x1 := hS.x.cell 1
  have x2 := hS.x.cell 2
  have x3 := hS.x.cell 3
  have x4 := hS.x.cell 4
  have x5 := hS.x.cell 5
  have x6 := hS.x.cell 6
  simp at x0 x1 x2 x3 x4 x5 x6
  have y0 := hS.y.cell 0
  have y1 := hS.y.cell 1
  have y2 := hS.y.cell 2
  have y3 := hS.y.cell 3
  have y4 := hS.y.cell 4
  have y5 := hS.y.cell 5
  simp at y0 y1 y2 y3 y4 y5
  go_wp2_with fail
  have hmo := hmod'.out
  refine (new_is (HM.out.keep hS.bel) (HB.out.keep hS.bel) (by have := hmo.a; omega) (by have := hmo.q; omega) (by have := hmo.r; omega) (fun q hq => by have := hmo.h q hq; omega) ⟨HB.out.t, HB.out.pass, HB.out.fail, i64_lit rfl, i64_lit rfl, by have := HL.out; show b.X.length ≤ 1000; omega, by have := HL.out; show b.P.length ≤ 1000; omega, (by show (0 : Nat) ≤ 1000; omega), (by show (0 : Nat) ≤ 1000; omega)⟩).mono ?_
  rintro e w6 ⟨hno, hyes⟩
  clear x0 x1 x2 x3 x4 x5 x6 y0 y1 y2 y3 y4 y5 hmo
  by_cases hf : fitsV M b = 0
  case neg =>
    obtain ⟨rfl, hK⟩ := hno hf
    replace hS := hS.keep hK
    have hf2 : (fitsV M b != 0) = true := by simpa using hf
    have hf3 : (fitsV M b == 0) = false := by simpa using hf
    clear hK hno hyes hf
    generalize fitsV M b = fv at *
    go_wp2_with fail
    go_ret
    exact ⟨rfl, hS.bel⟩
  obtain ⟨p, v, rfl, hp, hK⟩ := hyes hf
  replace hp := hp.mono hT.size
  replace hS := hS.keep hK
  replace hT := more hT hK
  have HO := Lib.hid (Ord.one hf)
  clear hK hno hyes hf
  go_wp2_with fail
  go_loopw [12] (fun i wr => ∃ (kk : Nat), kk ≤ nq ∧ i = .int .i64 kk ∧ ∃ ms v, Hid (PM W1.heap.size wr p v M ms) ∧ Hid (Ord M ms) ∧ Below W1.heap.size W1 wr) (fun i _ => nq - (intOf i).toNat)
  case atStart => exact ⟨0, Nat.zero_le _, rfl, _, v, hp, HO, hT⟩
  case round =>
    clear hS hp hT
    obtain ⟨kk, hk, rfl, ms, v', HP, HO', hT⟩ := hrel
    have hS := HS.out.keep hT
    by_cases hkn : kk < nq
    case neg =>
      have hkl' : ¬ (kk : Int) < (nq : Int) := by omega
      go_wp2_with fail
      go_ret
      exact ⟨rfl, hS.bel⟩
    have hnq : nq ≤ 60 := by have := HSH.out.1; rw [HN.out] at this; exact this
    have hkl' : (kk : Int) < (nq : Int) := by omega
    have hk0 : (0 : Int) ≤ (kk : Int) := by omega
    have hkz : kk < qs.length := by rw [HN.out]; exact hkn
    obtain ⟨x, rfl, hat⟩ := HQ.out.at_ kk hkz
    obtain ⟨qX, dX, qP, dP, qH, dH, qR, dR, hac⟩ := (hat.keep hS.bel).acc
    have HOK := Lib.hid (HSH.out.mk_ok kk hkz hac.ko)
    obtain ⟨q, hqq⟩ : ∃ q, qs[kk] = q := ⟨_, rfl⟩
    rw [hqq] at hac HOK
    clear hqq hat
    have z0 := hac.c0
    have z1 := hac.c1
    have z2 := hac.c2
    have z3 := hac.c3
    have z4 := hac.c4
    have z5 := hac.c5
    have z6 := hac.c6
    have z7 := hac.c7
    have z8 := hac.c8
    have z9 := hac.c9
    have z10 := hac.c10
    have z11 := hac.c11
    have z12 := hac.c12
    have HKO := Lib.hid hac.ko
    clear hac
    go_wp2_with fail
    refine (act_is HP.out hT HKO.out HOK.out).mono ?_
    rintro e w7 ⟨rfl, v7, hp7, hb7⟩
    clear z0 z1 z2 z3 z4 z5 z6 z7 z8 z9 z10 z11 z12
    have HO7 := Lib.hid (HO'.out.act (q := q))
    obtain ⟨ms2, hms2⟩ : ∃ r, actL M ms q = r := ⟨_, rfl⟩
    rw [hms2] at hp7 HO7
    clear hms2 HO' HOK HKO hS HP hT
    obtain ⟨nm, hnm⟩ : ∃ r, ms2.length = r := ⟨_, rfl⟩
    have hnm1 := HO7.out.len
    have hnm0 := hp7.pos
    rw [hnm] at hnm1 hnm0
    have HNM := Lib.hid hnm
    clear hnm
    have HP7 := Lib.hid hp7
    clear hp7
    go_wp2_with fail
    go_loopw [13, 14, 15] (fun l pl i wr => ∃ (k2 : Nat), k2 ≤ nm ∧ i = .int .i64 k2 ∧ l = .int .i64 (lstV ms2 k2) ∧ pl = .int .i64 (plcV ms2 at_ k2) ∧ Hid (PM W1.heap.size wr p v7 M ms2) ∧ Below W1.heap.size W1 wr) (fun _ _ i _ => nm + 1 - (intOf i).toNat)
    case atStart => exact ⟨0, Nat.zero_le _, rfl, rfl, rfl, HP7, hb7⟩
    case round =>
      clear hb7 HP7
      obtain ⟨k2, hk2, rfl, rfl, rfl, HP, hT⟩ := hrel
      obtain ⟨lv, hlv⟩ : ∃ r, lstV ms2 k2 = r := ⟨_, rfl⟩
      obtain ⟨pl, hpl⟩ : ∃ r, plcV ms2 at_ k2 = r := ⟨_, rfl⟩
      rw [hlv, hpl]
      have hplr := plc_range ms2 at_ k2
      rw [hpl] at hplr
      have HLV := Lib.hid hlv
      have HPL := Lib.hid hpl
      clear hlv hpl
      go_wp2_with fail
      have hml := mlen_val HP.out ((nm : Int) - 1) (by rw [HNM.out])
      refine hml.mono ?_
      clear hml
      rintro e w' ⟨rfl, rfl⟩
      by_cases hkm : k2 < nm
      case neg =>
        have hkl3 : ¬ (k2 : Int) ≤ (nm : Int) - 1 := by omega
        obtain rfl : k2 = nm := by omega
        go_wp2_with fail
        by_cases hlt : laterV ms2 at_ 0 = true
        · have hplv := plc_none HO7.out hlt k2 (by rw [HNM.out]; omega)
          rw [HPL.out] at hplv
          subst hplv
          refine (find_no HP.out at_ hlt).mono ?_
          rintro e w' ⟨rfl, rfl⟩
          clear hlt
          go_wp2_with fail
          refine (mlen_val HP.out ((k2 : Int) - 1) (by rw [HNM.out])).mono ?_
          rintro e w' ⟨rfl, rfl⟩
          have hc2 : ¬ (200 : Int) < (k2 : Int) - 1 := by omega
          go_wp2_with fail
          go_roundw
          case rel => exact ⟨kk + 1, by omega, by go_num, ms2, v7, HP, HO7, hT⟩
          case measure => simp [intOf]; omega
        · refine (find_ok HP.out at_ (by simpa using hlt)).mono ?_
          rintro e w8 ⟨⟨r, rfl, hs⟩, hB8⟩
          have hplv := plc_some HO7.out hs k2 (by have := hs.1; rw [HNM.out] at this; omega) (by rw [HNM.out]; omega)
          rw [HPL.out] at hplv
          subst hplv
          clear hs hlt
          have HP8 := Lib.hid (HP.out.keep hB8)
          replace hT := more hT hB8
          clear HP hB8
          go_wp2_with fail
          refine (mlen_val HP8.out ((k2 : Int) - 1) (by rw [HNM.out])).mono ?_
          rintro e w' ⟨rfl, rfl⟩
          have hc2 : ¬ (200 : Int) < (k2 : Int) - 1 := by omega
          have hc3 : (0 : Int) ≤ (r : Int) := by omega
          go_wp2_with fail
          go_roundw
          case rel => exact ⟨kk + 1, by omega, by go_num, ms2, v7, HP8, HO7, hT⟩
          case measure => simp [intOf]; omega
      have hkl3 : (k2 : Int) ≤ (nm : Int) - 1 := by omega
      go_wp2_with fail
      have hk2m : k2 < ms2.length := by rw [HNM.out]; exact hkm
      have hatc := at_ok HP.out k2 hk2m
      have hlst := HO7.out.lst hk2m
      have hfit := HO7.out.fit _ (List.getElem_mem hk2m)
      have htat := tAt_get hk2m
      rw [HLV.out] at hlst
      obtain ⟨m, hm⟩ : ∃ r, ms2[k2] = r := ⟨_, rfl⟩
      rw [hm] at hatc hfit htat
      rw [htat] at hlst
      have HFIT := Lib.hid hfit
      have HTAT := Lib.hid htat
      clear hm hfit htat
      refine hatc.mono ?_
      clear hatc
      rintro e w8 ⟨⟨v1, v2, rfl, hv1, hv2⟩, hB8⟩
      obtain ⟨eX, fX, eP, fP, rfl, q1, q2⟩ := hv1.ex
      obtain ⟨eH, fH, eR, fR, rfl, q3, q4⟩ := hv2
      have hmb := hv1.mb.zero
      clear hv1 q1 q2 q3 q4
      go_wp2_with (first | ((with_reducible refine at_dst (N := 16) rfl ?_); refine ev_new rfl (cs := #[Value.int .i64 0, Value.slice none 0 0, Value.slice none 0 0, Value.bool false, Value.int .i64 0, Value.int .i64 0]) (t := 27) (by go_simp) ?_; intro wa b1 hBa hz1) | ((with_reducible refine at_dst (N := 17) rfl ?_); refine ev_new rfl (cs := #[Value.bool false, Value.slice none 0 0, Value.slice none 0 0, Value.int .i64 0, Value.int .i64 0]) (t := 52) (by go_simp) ?_; intro wb b2 hBb hz2; replace b1 := b1.keep hBb) | ((with_reducible refine at_st (p := 16) (q := 75) rfl ?_); refine ev_store rfl 27 _ _ rfl rfl b1 0 rfl rfl [Value.int .i64 m.b.t, Value.slice eX m.b.X.length fX, Value.slice eP m.b.P.length fP, Value.bool m.b.flag, Value.int .i64 m.b.pass, Value.int .i64 m.b.fail] rfl (by kernel_rfl) rfl rfl #[Value.int .i64 m.b.t, Value.slice eX m.b.X.length fX, Value.slice eP m.b.P.length fP, Value.bool m.b.flag, Value.int .i64 m.b.pass, Value.int .i64 m.b.fail] rfl ?_; intro wc b1 ef1 hz3) | ((with_reducible refine at_st (p := 17) (q := 76) rfl ?_); refine ev_store rfl 52 _ _ rfl rfl (ef1.blk b2 (by omega)) 0 rfl rfl [Value.bool m.t.is, Value.slice eH m.t.H.length fH, Value.slice eR m.t.R.length fR, Value.int .i64 m.t.s, Value.int .i64 m.t.nu] rfl (by kernel_rfl) rfl rfl #[Value.bool m.t.is, Value.slice eH m.t.H.length fH, Value.slice eR m.t.R.length fR, Value.int .i64 m.t.s, Value.int .i64 m.t.nu] rfl ?_; intro wd b3 ef2 hz4; replace b1 := ef2.blk b1 (by omega); have hB9 : Below w8.heap.size w8 wd := ef2.below (ef1.below (more hBa hBb) (by rintro _ rfl; omega)) (by rintro _ rfl; omega); have hB10 := more hB8 hB9; have HP9 := Lib.hid (HP.out.keep hB10); replace hT := more hT hB10; have hmb9 := Lib.hid (hmb.keep hB9); clear HP hB8 hB10 hB9 ef1 ef2 hBa hBb hz1 hz2 hz3 hz4 b2 b3 hmb; have d0 := b1.cell 0; have d1 := b1.cell 1; have d2 := b1.cell 2; have d3 := b1.cell 3; have d4 := b1.cell 4; have d5 := b1.cell 5; simp at d0 d1 d2 d3 d4 d5; have hS9 := HS.out.keep hT; have x0 := hS9.x.cell 0; have x1 := hS9.x.cell 1; have x2 := hS9.x.cell 2; have x3 := hS9.x.cell 3; have x4 := hS9.x.cell 4; have x5 := hS9.x.cell 5; have x6 := hS9.x.cell 6; simp at x0 x1 x2 x3 x4 x5 x6))
      have hmo := hmod'.out
      refine (fits_is (HM.out.keep hS9.bel) hmb9.out (by have := hmo.r; omega)).mono ?_
      rintro e w9 ⟨rfl, hK⟩
      clear hmo hS9 x0 x1 x2 x3 x4 x5 x6 d0 d1 d2 d3 d4 d5
      rw [HFIT.out]
      have HPA := Lib.hid (HP9.out.keep hK)
      replace b1 := b1.keep hK
      replace hT := more hT hK
      clear HP9 hmb9 hK
      have d0 := b1.cell 0
      simp at d0
      by_cases g : m.b.t ≤ at_
      all_goals
        go_wp2_with fail
        go_roundw
        case measure => simp [intOf]; omega
      · refine ⟨k2 + 1, by omega, by go_num, ?_, ?_, HPA, hT⟩
        · show _ = Value.int .i64 (tAt ms2 k2)
          rw [HTAT.out]
        · show _ = Value.int .i64 (if tAt ms2 k2 ≤ at_ then (k2 : Int) else plcV ms2 at_ k2)
          rw [if_pos (by rw [HTAT.out]; exact g)]
      · refine ⟨k2 + 1, by omega, by go_num, ?_, ?_, HPA, hT⟩
        · show _ = Value.int .i64 (tAt ms2 k2)
          rw [HTAT.out]
        · show _ = Value.int .i64 (if tAt ms2 k2 ≤ at_ then (k2 : Int) else plcV ms2 at_ k2)
          rw [if_neg (by rw [HTAT.out]; omega), HPL.out]

end Go.Proofs.Ytagakcnhhhlolaa.Base
