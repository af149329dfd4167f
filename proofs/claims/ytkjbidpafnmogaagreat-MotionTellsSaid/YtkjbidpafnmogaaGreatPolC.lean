/- poly.terms: the iterator. -/
import Derived.Test.YtkjbidpafnmogaaGreatPolB
namespace Go.Proofs.YtkjbidpafnmogaaGreat.Base
open Go.RowKit Go.Shelf Go.ChangeShapes Go.WideShapes Go.Deep
set_option linter.unusedVariables false
set_option linter.unusedSimpArgs false
attribute [local go_sem] Oper.semAt_some

theorem q64 {q N : Nat} (h : q < N) (hN : N ≤ 1000) : I64 ((q : Int) + 1) := by unfold I64; omega
theorem blk_int {W : World} {p : Nat} {cs : Array Value} {t : TypeId} {y : Nat} (h : Blk W p cs t) (hi : IntsB W y) (ht : t ≠ 3) : ¬ (p = y) := by
  rintro rfl
  obtain ⟨cs', q, hc⟩ := hi
  have := (show W.heap[p]? = _ from h).symm.trans hc
  simp at this
  exact ht this.2.1
theorem LI.lo0 {B : Nat} {W : World} {x : Addr} {c : Nat} {zs : List Int} (h : LI B W (some x) c zs) (h0 : 0 < zs.length) : B ≤ x.block := h.mi.lo x rfl h0
/-- Within the inner loop. -/
structure DvI (W3 : World) (b nb ub : Nat) (c1 : Bool) (r : Int) (x : Addr) (kv : Nat) (wp : Int × Bool) (vs : List Int) (j : Nat) (W : World) : Prop where
  nb : Blk W nb #[.int .i64 r, .int .i64 r, .slice (some x) vs.length kv] 24
  ub : Blk W ub #[.pointer (some ⟨b, 0, none⟩)] 25
  li : LI W3.heap.size W (some x) kv ((vs.take j).map (dvw wp.1) ++ vs.drop j)
  up : UP W b (c1 || (vs.take j).any (flw wp))
  eff : Eff (fun k => k = b) W3 W
/-- Within the iterator, ahead of a yield. -/
structure TmI (J : TS → World → Prop) (m : Mt) (b : Nat) (c0 : Bool) (n₀ ub ab : Nat) (a : Option Addr) (k : Nat) (s : TS) (W : World) : Prop where
  j : J s W
  box : ∃ a' k', Blk W s.tb #[.int .i64 m.r, .int .i64 m.r, .slice a' (termM m s.m).1.v.length k'] 24 ∧ LI n₀ W a' k' (termM m s.m).1.v
  up : UP W b (c0 || (termM m s.m).2)
  ub : Blk W ub #[.pointer (some ⟨b, 0, none⟩)] 25
  ab : Blk W ab #[.int .i64 m.r, .int .i64 m.r, .slice a m.v.length k] 24
  ml : ML b W a k m.v
  lo : n₀ ≤ s.tb
  size : n₀ ≤ W.heap.size

set_option maxHeartbeats 4000000 in
set_option maxRecDepth 100000 in
theorem terms1_in (ex : Nat → Prop) {W0 : World} (n₀ : Nat) (hn0 : n₀ ≤ W0.heap.size) {b : Nat} {c0 : Bool} (hU : UP W0 b c0) {ub ab : Nat} {m : Mt} {a : Option Addr} {k : Nat}
    (hub : Blk W0 ub #[.pointer (some ⟨b, 0, none⟩)] 25) (hab : Blk W0 ab #[.int .i64 m.r, .int .i64 m.c, .slice a m.v.length k] 24) (hl : ML b W0 a k m.v) (ok : okMt m) (sq : m.r = m.c)
    (hb : b < n₀ ∧ ¬ ex b) (hu2 : ub < n₀ ∧ ¬ ex ub) (ha2 : ab < n₀ ∧ ¬ ex ab) (hx2 : ∀ x, a = some x → x.block < n₀ ∧ ¬ ex x.block) (N : Nat) (hN : N ≤ 1000) :
    SeqX Fence.wide 2 Tryz.prog 93 #[.pointer (some ⟨ab, 0, none⟩), .pointer (some ⟨ub, 0, none⟩)] (fun v : Value => #[v]) (StepT b) (fun s => KpT n₀ ex s.tb) (fun s v W => TellT m b c0 n₀ s v W) (fun s _ => ⟨s.tb, s.m + 1⟩) StT (fun s => s.m < N) W0 := by
  intro l J Jx W hW hJ hJx hJl hY h0
  obtain ⟨r, c, hr, hc, hr1, hr2, hc1, hc2, hlen⟩ := ok.nat
  have hWU := hU.keep hW
  replace hub := hub.keep hW
  replace hab := hab.keep hW
  rw [← sq] at hab
  replace hl := hl.keep hW
  have hnW := Nat.le_trans hn0 hW.size
  have HTO := Lib.hid (term_ok ok sq)
  have HT0 := Lib.hid (show termM m 0 = (eyeM r, false) by simp [termM, hr])
  clear hU hW hn0
  have a0 := hab.cell
  rw [hr] at a0
  refine callsIn_of_wp Tryz.func93 rfl trivial ?_ rfl
  simp only [Tryz.ntmps93, List.size_toArray, List.length_cons, List.length_nil, Nat.reduceAdd, Nat.reduceSub, Array.replicate_succ, Array.replicate_zero, List.push_toArray, List.append_toArray, List.nil_append, List.cons_append]
  gi_wp2_with fail
  refine ⟨trivial, ?_⟩
  refine (callsIn_wide.2 (eye_is r hr1 hr2 _)).mono ?_
  rintro e w1 ⟨v, rfl, hmo, hK⟩
  obtain ⟨ae, ke, rfl, hLI⟩ := hmo.ex
  dsimp only at hLI ⊢
  rw [eyeM_r, eyeM_c]
  have HEV := Lib.hid (show (termM m 0).1.v = (eyeM r).v by rw [HT0.out])
  obtain ⟨ev, hev⟩ : ∃ ev, (eyeM r).v = ev := ⟨_, rfl⟩
  rw [hev] at HEV hLI ⊢
  obtain ⟨ne, hne⟩ : ∃ ne, ev.length = ne := ⟨_, rfl⟩
  rw [hne]
  have HNE := Lib.hid hne
  clear hev hne hmo
  replace hab := hab.keep hK
  replace hub := hub.keep hK
  replace hl := hl.keep hK
  replace hWU := hWU.keep hK
  clear a0
  have HY := Lib.hid hY
  have HJ := Lib.hid hJ
  have HJX := Lib.hid hJx
  have HJL := Lib.hid hJl
  have HH0 := Lib.hid h0
  clear hY hJ hJx hJl h0
  gi_wp2_with fail
  obtain ⟨tb, htb⟩ : ∃ tb, w1.heap.size = tb := ⟨_, rfl⟩
  have hBA := upA (upR w1) (Obj.cells #[Value.int .i64 (r : Int), .int .i64 (r : Int), .slice ae ne ke] 24)
  have ht := Blk.new w1 #[Value.int .i64 (r : Int), .int .i64 (r : Int), .slice ae ne ke] 24
  have hBW := more hK hBA
  replace hLI := hLI.keep hBA
  replace hab := hab.keep hBA
  replace hub := hub.keep hBA
  replace hl := hl.keep hBA
  replace hWU := hWU.keep hBA
  have hsz := hK.size
  rw [htb] at ht hsz ⊢
  clear hK hBA
  generalize w1.alloc (Obj.cells #[Value.int .i64 (r : Int), .int .i64 (r : Int), .slice ae ne ke] 24) = w2 at *
  clear htb
  have hj2 := HH0.out ⟨tb, 0⟩ w2 ⟨rfl, hsz, ht.lt⟩ hBW
  have hT : TmI J m b c0 n₀ ub ab a k ⟨tb, 0⟩ w2 := by
    refine ⟨hj2, ⟨ae, ke, ?_, ?_⟩, ?_, hub, hab, hl, Nat.le_trans hnW hsz, Nat.le_trans hnW hBW.size⟩
    · show Blk w2 tb #[.int .i64 m.r, .int .i64 m.r, .slice ae (termM m 0).1.v.length ke] 24
      rw [HEV.out, hr, HNE.out]; exact ht
    · show LI n₀ w2 ae ke (termM m 0).1.v
      rw [HEV.out]; exact hLI.mono hnW
    · show UP w2 b (c0 || (termM m 0).2)
      rw [HT0.out, Bool.or_false]; exact hWU
  have hntb : n₀ ≤ tb := Nat.le_trans hnW hsz
  clear hj2 ht hLI hub hab hl hWU hBW HH0 hsz HEV HNE HT0
  have hcr : c = r := by omega
  subst hcr
  have SQ := Lib.hid sq
  have HC := Lib.hid hc
  clear sq hr hc hr1 hr2
  gi_wp2_with fail
  gi_loopw [6] (fun v wr => ∃ q : Nat, v = .int .i64 ((q : Int) + 1) ∧ TmI J m b c0 n₀ ub ab a k ⟨tb, q⟩ wr) (fun v wr => N + 1 - (intOf v).toNat)
  case atStart => exact ⟨0, rfl, hT⟩
  case round =>
    clear hT hnW
    obtain ⟨q, rfl, hT⟩ := hrel
    have hqN : q < N := HJL.out _ _ hT.j
    obtain ⟨a', k', ht, hLI⟩ := hT.box
    dsimp only at ht hLI
    obtain ⟨hok, htr, htc⟩ := HTO.out q
    have hmo : MO n₀ wr (.agg #[.int .i64 m.r, .int .i64 m.r, .slice a' (termM m q).1.v.length k']) (termM m q).1 := ⟨⟨a', k', by rw [htr, htc, ← SQ.out], hLI⟩, by rw [htr]; exact ⟨by have := ok.1.1; omega, by have := ok.1.2; omega⟩, by rw [htc]; exact ⟨by have := ok.2.1.1; omega, by have := ok.2.1.2; omega⟩⟩
    obtain ⟨fn, tmps, assign, body, hy, hR⟩ := HY.out ⟨tb, q⟩ _ wr hT.j ⟨hmo, hT.up⟩
    have t0 := ht.cell
    gi_wp2_with fail
    refine hR.mono ?_
    rintro e W3 (⟨rfl, hJ3, hk3⟩ | ⟨rfl, hJx3⟩)
    · have up3 := hk3.up hT.up hb.1 hb.2
      have ub3 := hk3.blk hT.ub hu2.1 hu2.2
      have ab3 := hk3.blk hT.ab ha2.1 ha2.2
      have ml3 := hk3.ml hT.ml hx2
      have t3 : Blk W3 tb #[.int .i64 m.r, .int .i64 m.r, .slice a' (termM m q).1.v.length k'] 24 := (hk3.box ht.ty).trans ht
      have hLI3 := hk3.li hLI
      have hn3 : n₀ ≤ W3.heap.size := Nat.le_trans hT.size hk3.size
      have hM := mmul_is up3 (hLI3.ml up3) ml3 hok ok (htc.trans SQ.out.symm)
      have hqr := mulM_r (termM m q).1 m hok
      have hqc := mulM_c (termM m q).1 m ok
      have hqo := ok_mul hok ok
      have HNX := Lib.hid (show termM m (q + 1) = ((divsM (mulM (termM m q).1 m).1 ((q : Int) + 1)).1, (termM m q).2 || (mulM (termM m q).1 m).2 || (divsM (mulM (termM m q).1 m).1 ((q : Int) + 1)).2) from rfl)
      rw [htr, htc, ← SQ.out] at hM
      rw [← SQ.out] at hqc
      have hvl : 0 < (mulM (termM m q).1 m).1.v.length := by
        have h1 := hqo.2.2
        have h2 := Int.mul_pos (show 0 < (mulM (termM m q).1 m).1.r by have := hqo.1.1; omega) (show 0 < (mulM (termM m q).1 m).1.c by have := hqo.2.1.1; omega)
        omega
      have hvl2 : (mulM (termM m q).1 m).1.v.length ≤ 144 := by
        have h1 := hqo.2.2
        obtain ⟨r', c', e1, e2, _, h3, _, h4, h5⟩ := hqo.nat
        have := Nat.mul_le_mul h3 h4
        omega
      clear hqo
      rw [htr] at hqr
      clear hT hR hy ht hmo t0 hLI hk3 htr htc
      obtain ⟨cq, hcq⟩ : ∃ cq, (c0 || (termM m q).2) = cq := ⟨_, rfl⟩
      have HCQ := Lib.hid hcq
      rw [hcq] at hM
      have n1 : ub ≠ b := by obtain ⟨mm, hm⟩ := up3; exact blk_ne ub3 hm (by decide)
      have tyb : Ty W3 b 44 := by obtain ⟨mm, hm⟩ := up3; exact hm.ty
      have ntb : tb ≠ b := by omega
      have nab : ab ≠ b := by obtain ⟨mm, hm⟩ := up3; exact blk_ne ab3 hm (by decide)
      clear hcq up3
      generalize (termM m q).2 = tf at *
      generalize (termM m q).1 = p1 at *
      obtain ⟨pn, hpn⟩ : ∃ pn, p1.v.length = pn := ⟨_, rfl⟩
      rw [hpn] at hM t3
      obtain ⟨am, hane⟩ : ∃ am, m.v.length = am := ⟨_, rfl⟩
      have HAM := Lib.hid hane
      rw [hane] at hM ab3
      have u0 := ub3.cell
      have a0 := ab3.cell
      have t0 := t3.cell
      have HMUL := Lib.hid hM
      clear hM hpn hane
      gi_wp2_with fail
      refine ⟨trivial, ?_⟩
      refine (callsIn_wide.2 HMUL.out).mono ?_
      rintro e w4 ⟨v, rfl, hmo4, hU4, hB4⟩
      obtain ⟨av, kv, rfl, hLI4⟩ := hmo4.ex
      have HNX2 := Lib.hid (show (termM m (q + 1)).1.v = (mulM p1 m).1.v.map (dvw (wholeF ((q : Int) + 1)).1) ∧ (c0 || (termM m (q + 1)).2) = (cq || (mulM p1 m).2 || (mulM p1 m).1.v.any (flw (wholeF ((q : Int) + 1)))) by
        rw [HNX.out]
        refine ⟨rfl, ?_⟩
        rw [← HCQ.out]
        show (c0 || (tf || (mulM p1 m).2 || (mulM p1 m).1.v.any (flw (wholeF ((q : Int) + 1))))) = _
        rw [Bool.or_assoc, Bool.or_assoc, Bool.or_assoc])
      obtain ⟨wp, hwp⟩ : ∃ wp, wholeF ((q : Int) + 1) = wp := ⟨_, rfl⟩
      rw [hwp] at HNX2
      have HWP := Lib.hid hwp
      have hw64 : I64 wp.1 := hwp ▸ (wholeF_fx _).i64
      clear hwp
      clear HNX HMUL hmo4 HCQ
      rw [hqr, hqc]
      generalize (mulM p1 m).2 = mf at *
      generalize (mulM p1 m).1.v = vs at *
      clear hqr hqc u0 a0 t0
      have hx4 : ∃ x, av = some x := by obtain ⟨x, hx, _⟩ := hLI4.mi.cell 0 hvl; exact ⟨x, hx⟩
      obtain ⟨x, rfl⟩ := hx4
      obtain ⟨R, hR⟩ : ∃ R, m.r = R := ⟨_, rfl⟩
      rw [hR] at ab3 t3 ⊢
      have HR := Lib.hid hR
      clear hR
      have n0 : w4.heap.size ≠ b := Nat.ne_of_gt hU4.lt
      have lt1 : ub < w4.heap.size := Nat.lt_of_lt_of_le ub3.lt hB4.size
      gi_wp2_with fail
      obtain ⟨nb, hnb⟩ : ∃ nb, w4.heap.size = nb := ⟨_, rfl⟩
      obtain ⟨nv, hnv⟩ : ∃ nv, vs.length = nv := ⟨_, rfl⟩
      have hD : DvI W3 b nb ub (cq || mf) R x kv wp vs 0 (w4.alloc (Obj.cells #[Value.int .i64 R, .int .i64 R, .slice (some x) vs.length kv] 24)) := by
        have hBA := upA (upR w4) (Obj.cells #[Value.int .i64 R, .int .i64 R, .slice (some x) vs.length kv] 24)
        refine ⟨by rw [← hnb]; exact Blk.new _ _ _, (hB4.blk ub3 n1).keep hBA, by simpa using hLI4.keep hBA, by simpa using hU4.keep hBA, (but_eff hB4).trans (Eff.of (P := fun k => k = b) hBA) (fun _ _ h => h)⟩
      rw [hnv] at hD ⊢
      rw [hnb]
      generalize w4.alloc (Obj.cells #[Value.int .i64 R, .int .i64 R, .slice (some x) nv kv] 24) = w5 at *
      have hn4 := hB4.size
      rw [hnb] at hn4 n0
      have HNV := Lib.hid hnv
      clear hB4 hU4 hLI4 lt1 hnb hnv
      refine wpIn_wide.2 ?_
      go_loopw [9, 31] (fun u i wr => ∃ j : Nat, j ≤ nv ∧ i = .int .i64 j ∧ DvI W3 b nb ub (cq || mf) R x kv wp vs j wr) (fun u i _ => nv - (intOf i).toNat)
      case atStart => exact ⟨0, Nat.zero_le _, rfl, hD⟩
      case round =>
        clear hD
        obtain ⟨j, hj, rfl, hD⟩ := hrel
        by_cases hlt : j < nv
        · have hlt' : (j : Int) < (nv : Int) := by omega
          have hj0 : (0 : Int) ≤ (j : Int) := by omega
          have hjv : j < vs.length := by rw [HNV.out]; exact hlt
          have HSET := Lib.hid (set_at (d := dvw wp.1) hjv)
          have hzj : ∃ hh : j < ((vs.take j).map (dvw wp.1) ++ vs.drop j).length, ((vs.take j).map (dvw wp.1) ++ vs.drop j)[j] = vs[j] := ⟨by simp; omega, at_at hjv _⟩
          have HANY := Lib.hid (show ((cq || mf) || (vs.take (j + 1)).any (flw wp)) = ((cq || mf) || (vs.take j).any (flw wp) || wp.2 || (divF vs[j] wp.1).2) by
            rw [List.take_succ_eq_append_getElem hjv, List.any_append]
            simp only [List.any_cons, List.any_nil, Bool.or_false]
            rw [show flw wp vs[j] = (wp.2 || (divF vs[j] wp.1).2) from rfl]
            simp only [Bool.or_assoc])
          obtain ⟨s0, s1, s2, s3, s4⟩ := hD
          rw [HNV.out] at s0
          have hz64 : I64 vs[j] := by
            have := s2.mi.rng (vs[j]) (by rw [← hzj.2]; exact List.getElem_mem _)
            exact this
          generalize vs[j] = z at *
          generalize hzs : (vs.take j).map (dvw wp.1) ++ vs.drop j = zs at HSET s2 hzj
          obtain ⟨c2, hc2'⟩ : ∃ c2, ((cq || mf) || (vs.take j).any (flw wp)) = c2 := ⟨_, rfl⟩
          rw [hc2'] at HANY s3
          clear hzs hc2'
          obtain ⟨hjz, hzj⟩ := hzj
          have hzl : 0 < zs.length := Nat.lt_of_le_of_lt (Nat.zero_le _) hjz
          have hZ : ∀ W, LI W3.heap.size W (some x) kv zs → W.cell? (x.add j) = some (.int .i64 z) := fun W h => by
            obtain ⟨y, hy, hcy⟩ := h.mi.cell j hjz
            cases hy
            rw [hcy, hzj]
          have hZf : ∀ W, LI W3.heap.size W (some x) kv zs → W.frozen? (x.add j) = false := fun W h => by
            obtain ⟨y, hy, _, hf, _⟩ := h.wj.wi.at_ j hjz
            cases hy
            exact hf
          have hWH : ∀ W c, UP W b c → Calls Tryz.prog 95 #[.pointer (some ⟨b, 0, none⟩), .int .i64 ((q : Int) + 1)] W fun e w' => e = .returned (.int .i64 wp.1) ∧ UP w' b (c || wp.2) ∧ But b W w' := fun W c h => by
            have := uWhole_is h _ (q64 hqN hN)
            rw [HWP.out] at this
            exact this
          have hDV : ∀ W c, UP W b c → Calls Tryz.prog 94 #[.pointer (some ⟨b, 0, none⟩), .int .i64 z, .int .i64 wp.1] W fun e w' => e = .returned (.int .i64 (dvw wp.1 z)) ∧ UP w' b (c || (divF z wp.1).2) ∧ But b W w' := fun W c h => uDiv_is h z wp.1 hz64 hw64
          have hq64 : I64 ((q : Int) + 1) := q64 hqN hN
          have hd64 : I64 (dvw wp.1 z) := dvw_64 _ _
          clear hzj
          go_wp2_with fail
          have HS0 : Blk wr.drew nb #[.int .i64 R, .int .i64 R, .slice (some x) nv kv] 24 ∧ Blk wr.drew ub #[.pointer (some ⟨b, 0, none⟩)] 25 ∧ ((fun _ : Nat => false) 14 = false → LI W3.heap.size wr.drew (some x) kv zs) ∧ ((fun _ : Nat => false) 14 = true → LI W3.heap.size wr.drew (some x) kv (zs.set j (dvw wp.1 z))) ∧ ((fun _ : Nat => false) 11 = false → UP wr.drew b c2) ∧ ((fun _ : Nat => false) 11 = true → (fun _ : Nat => false) 12 = false → UP wr.drew b (c2 || wp.2)) ∧ ((fun _ : Nat => false) 12 = true → UP wr.drew b (c2 || wp.2 || (divF z wp.1).2)) ∧ Eff (fun k => k = b) W3 wr.drew :=
            ⟨s0.drew, s1.drew, fun _ => s2.keep (upD (upR _)), fun h => (by cases h), fun _ => s3.drew, fun h => (by cases h), fun h => (by cases h), s4.trans (Eff.of (P := fun k => k = b) (upD (upR _))) (fun _ _ h => h)⟩
          clear s0 s1 s2 s3 s4
          refine region_fp [some 34, some 35, some 36, some 37, some 38, some 39, some 40, some 41, some 42, some 43, some 44, some 45, some 46, some 47, none] [11, 12, 14] [some (Value.pointer (some ⟨nb, 2, none⟩)), some (Value.slice (some x) nv kv), some (Value.int .i64 (j : Int)), some (Value.pointer (some ⟨b, 0, none⟩)), some (Value.pointer (some ⟨nb, 2, none⟩)), some (Value.slice (some x) nv kv), some (Value.int .i64 (j : Int)), some (Value.pointer (some (x.add j))), some (Value.int .i64 z), some (Value.pointer (some ⟨b, 0, none⟩)), some (Value.int .i64 ((q : Int) + 1)), some (Value.int .i64 wp.1), some (Value.int .i64 (dvw wp.1 z)), some (Value.pointer (some (x.add j))), none]
            (fun _ _ _ => True) (fun _ _ => True) (fun L f W => Blk W nb #[.int .i64 R, .int .i64 R, .slice (some x) nv kv] 24 ∧ Blk W ub #[.pointer (some ⟨b, 0, none⟩)] 25 ∧ (L 14 = false → LI W3.heap.size W (some x) kv zs) ∧ (L 14 = true → LI W3.heap.size W (some x) kv (zs.set j (dvw wp.1 z))) ∧ (L 11 = false → UP W b c2) ∧ (L 11 = true → L 12 = false → UP W b (c2 || wp.2)) ∧ (L 12 = true → UP W b (c2 || wp.2 || (divF z wp.1).2)) ∧ Eff (fun k => k = b) W3 W)
            (by kernel_rfl) (by kernel_rfl) (by kernel_rfl) (by kernel_rfl) (by kernel_rfl) (fun _ => trivial) (fun _ _ _ _ _ _ => trivial) (fun L L' f f' W h hs => by have q11 := (h 11 (by decide)).1; have q12 := (h 12 (by decide)).1; have q14 := (h 14 (by decide)).1; (try dsimp only at hs ⊢); rw [← q11, ← q12, ← q14]; exact hs) HS0 ?_ ?_
          · intro i hi b' L f W hSW hL hdep hsh he hsv hsl hFF K hK1 hK2
            replace hi : i < 15 := hi
            have hcs : i = 0 ∨ i = 1 ∨ i = 2 ∨ i = 3 ∨ i = 4 ∨ i = 5 ∨ i = 6 ∨ i = 7 ∨ i = 8 ∨ i = 9 ∨ i = 10 ∨ i = 11 ∨ i = 12 ∨ i = 13 ∨ i = 14 := by omega
            clear hi
            rcases hcs with rfl | rfl | rfl | rfl | rfl | rfl | rfl | rfl | rfl | rfl | rfl | rfl | rfl | rfl | rfl
            · refine wpOpS_go rfl rfl ?_
              have t7 : b'.tmps[7]?.getD undef = Value.pointer (some ⟨nb, 0, none⟩) := he 7 (by kernel_rfl)
              have HK := Lib.hid hK1
              clear hK1 hK2 hdep hsh he hsv hsl hFF hL hSW
              go_simp
              exact HK.out rfl _ (fp_mk rfl rfl trivial)
            · refine wpOpS_go rfl rfl ?_
              have t34 : b'.tmps[34]?.getD undef = Value.pointer (some ⟨nb, 2, none⟩) := hsv 0 34 _ (by kernel_rfl) (by kernel_rfl) rfl
              obtain ⟨s0, s1, s2, s3, s4, s5, s6, s7⟩ := hSW
              have c0 := s0.cell
              have HK := Lib.hid hK1
              clear hK1 hK2 hdep hsh he hsv hsl hFF hL
              clear s0 s1 s2 s3 s4 s5 s6 s7
              go_simp
              exact HK.out rfl _ (fp_mk rfl rfl trivial)
            · refine wpOpS_go rfl rfl ?_
              have t9 : b'.tmps[9]?.getD undef = Value.int .i64 (j : Int) := he 9 (by kernel_rfl)
              have HK := Lib.hid hK1
              clear hK1 hK2 hdep hsh he hsv hsl hFF hL hSW
              go_simp
              exact HK.out rfl _ (fp_mk rfl rfl trivial)
            · refine wpOpS_go rfl rfl ?_
              have t2 : b'.tmps[2]?.getD undef = Value.pointer (some ⟨ub, 0, none⟩) := he 2 (by kernel_rfl)
              obtain ⟨s0, s1, s2, s3, s4, s5, s6, s7⟩ := hSW
              have c0 := s1.cell
              have HK := Lib.hid hK1
              clear hK1 hK2 hdep hsh he hsv hsl hFF hL
              clear s0 s1 s2 s3 s4 s5 s6 s7
              go_simp
              exact HK.out rfl _ (fp_mk rfl rfl trivial)
            · refine wpOpS_go rfl rfl ?_
              have t7 : b'.tmps[7]?.getD undef = Value.pointer (some ⟨nb, 0, none⟩) := he 7 (by kernel_rfl)
              have HK := Lib.hid hK1
              clear hK1 hK2 hdep hsh he hsv hsl hFF hL hSW
              go_simp
              exact HK.out rfl _ (fp_mk rfl rfl trivial)
            · refine wpOpS_go rfl rfl ?_
              have t38 : b'.tmps[38]?.getD undef = Value.pointer (some ⟨nb, 2, none⟩) := hsv 4 38 _ (by kernel_rfl) (by kernel_rfl) rfl
              obtain ⟨s0, s1, s2, s3, s4, s5, s6, s7⟩ := hSW
              have c0 := s0.cell
              have HK := Lib.hid hK1
              clear hK1 hK2 hdep hsh he hsv hsl hFF hL
              clear s0 s1 s2 s3 s4 s5 s6 s7
              go_simp
              exact HK.out rfl _ (fp_mk rfl rfl trivial)
            · refine wpOpS_go rfl rfl ?_
              have t9 : b'.tmps[9]?.getD undef = Value.int .i64 (j : Int) := he 9 (by kernel_rfl)
              have HK := Lib.hid hK1
              clear hK1 hK2 hdep hsh he hsv hsl hFF hL hSW
              go_simp
              exact HK.out rfl _ (fp_mk rfl rfl trivial)
            · refine wpOpS_go rfl rfl ?_
              have t39 : b'.tmps[39]?.getD undef = Value.slice (some x) nv kv := hsv 5 39 _ (by kernel_rfl) (by kernel_rfl) rfl
              have t40 : b'.tmps[40]?.getD undef = Value.int .i64 (j : Int) := hsv 6 40 _ (by kernel_rfl) (by kernel_rfl) rfl
              have HK := Lib.hid hK1
              clear hK1 hK2 hdep hsh he hsv hsl hFF hL hSW
              go_simp
              exact HK.out rfl _ (fp_mk rfl rfl trivial)
            · refine wpOpS_go rfl rfl ?_
              have t41 : b'.tmps[41]?.getD undef = Value.pointer (some (x.add j)) := hsv 7 41 _ (by kernel_rfl) (by kernel_rfl) rfl
              obtain ⟨s0, s1, s2, s3, s4, s5, s6, s7⟩ := hSW
              have hz1 := hZ W (s2 (hsh 14 (by kernel_rfl)))
              have HK := Lib.hid hK1
              clear hK1 hK2 hdep hsh he hsv hsl hFF hL
              clear s0 s1 s2 s3 s4 s5 s6 s7
              go_simp
              exact HK.out rfl _ (fp_mk rfl rfl trivial)
            · refine wpOpS_go rfl rfl ?_
              have t2 : b'.tmps[2]?.getD undef = Value.pointer (some ⟨ub, 0, none⟩) := he 2 (by kernel_rfl)
              obtain ⟨s0, s1, s2, s3, s4, s5, s6, s7⟩ := hSW
              have c0 := s1.cell
              have HK := Lib.hid hK1
              clear hK1 hK2 hdep hsh he hsv hsl hFF hL
              clear s0 s1 s2 s3 s4 s5 s6 s7
              go_simp
              exact HK.out rfl _ (fp_mk rfl rfl trivial)
            · refine wpOpS_go rfl rfl ?_
              have t6 : b'.tmps[6]?.getD undef = Value.int .i64 ((q : Int) + 1) := he 6 (by kernel_rfl)
              have HK := Lib.hid hK1
              clear hK1 hK2 hdep hsh he hsv hsl hFF hL hSW
              go_simp
              exact HK.out rfl _ (fp_mk rfl rfl trivial)
            · refine wpOpS_go rfl rfl ?_
              have t43 : b'.tmps[43]?.getD undef = Value.pointer (some ⟨b, 0, none⟩) := hsv 9 43 _ (by kernel_rfl) (by kernel_rfl) rfl
              have t44 : b'.tmps[44]?.getD undef = Value.int .i64 ((q : Int) + 1) := hsv 10 44 _ (by kernel_rfl) (by kernel_rfl) rfl
              obtain ⟨s0, s1, s2, s3, s4, s5, s6, s7⟩ := hSW
              have hu := s4 hL
              have h12 := hsh 12 (by kernel_rfl)
              have HK := Lib.hid hK2
              clear hK1 hK2 hdep hsh he hsv hsl hFF hL
              go_simp
              refine (hWH _ _ hu).mono ?_
              rintro e w6 ⟨rfl, hU6, hB6⟩
              exact HK.out _ _ (fp_mk rfl rfl trivial) trivial ⟨hB6.blk s0 n0, hB6.blk s1 n1, fun h => (s2 h).but hu hB6, fun h => (s3 h).but hu hB6, fun h => absurd h (by rw [updF_same]; decide), fun _ _ => hU6, fun h => absurd h (by show ¬ L 12 = true; rw [h12]; decide), s7.trans (but_eff hB6) (fun _ _ h => h)⟩
            · refine wpOpS_go rfl rfl ?_
              have t37 : b'.tmps[37]?.getD undef = Value.pointer (some ⟨b, 0, none⟩) := hsv 3 37 _ (by kernel_rfl) (by kernel_rfl) rfl
              have t42 : b'.tmps[42]?.getD undef = Value.int .i64 z := hsv 8 42 _ (by kernel_rfl) (by kernel_rfl) rfl
              have t45 : b'.tmps[45]?.getD undef = Value.int .i64 wp.1 := hsv 11 45 _ (by kernel_rfl) (by kernel_rfl) rfl
              obtain ⟨s0, s1, s2, s3, s4, s5, s6, s7⟩ := hSW
              have hu := s5 (hdep 11 (by kernel_rfl)) hL
              have h11 := hdep 11 (by kernel_rfl)
              have HK := Lib.hid hK2
              clear hK1 hK2 hdep hsh he hsv hsl hFF hL
              go_simp
              refine (hDV _ _ hu).mono ?_
              rintro e w6 ⟨rfl, hU6, hB6⟩
              exact HK.out _ _ (fp_mk rfl rfl trivial) trivial ⟨hB6.blk s0 n0, hB6.blk s1 n1, fun h => (s2 h).but hu hB6, fun h => (s3 h).but hu hB6, fun h => absurd (show L 11 = false from h) (by rw [h11]; decide), fun _ h => absurd h (by rw [updF_same]; decide), fun _ => hU6, s7.trans (but_eff hB6) (fun _ _ h => h)⟩
            · refine wpOpS_go rfl rfl ?_
              have t35 : b'.tmps[35]?.getD undef = Value.slice (some x) nv kv := hsv 1 35 _ (by kernel_rfl) (by kernel_rfl) rfl
              have t36 : b'.tmps[36]?.getD undef = Value.int .i64 (j : Int) := hsv 2 36 _ (by kernel_rfl) (by kernel_rfl) rfl
              have HK := Lib.hid hK1
              clear hK1 hK2 hdep hsh he hsv hsl hFF hL hSW
              go_simp
              exact HK.out rfl _ (fp_mk rfl rfl trivial)
            · refine wpOpS_go rfl rfl ?_
              have t46 : b'.tmps[46]?.getD undef = Value.int .i64 (dvw wp.1 z) := hsv 12 46 _ (by kernel_rfl) (by kernel_rfl) rfl
              have t47 : b'.tmps[47]?.getD undef = Value.pointer (some (x.add j)) := hsv 13 47 _ (by kernel_rfl) (by kernel_rfl) rfl
              obtain ⟨s0, s1, s2, s3, s4, s5, s6, s7⟩ := hSW
              have hli := s2 hL
              have hz1 := hZ W hli
              have hfz := hZf W hli
              have HK := Lib.hid hK2
              clear hK1 hK2 hdep hsh he hsv hsl hFF hL
              go_simp
              have hw := hli.wj.ty x rfl hzl
              have hwb := LI.put hli j hjz (dvw wp.1 z) hd64
              have hbl := LI.lo0 hli hzl
              have hE : Eff (fun k => k = x.block) W (W.setCell (x.add j) (.int .i64 (dvw wp.1 z))) := Eff.set _ _ (by rw [add_block])
              have hux : ∀ c, UP W b c → UP (W.setCell (x.add j) (.int .i64 (dvw wp.1 z))) b c := fun c ⟨mm, h⟩ => ⟨mm, hE.blk h (blk_int h hw (by decide))⟩
              exact HK.out undef _ (fp_x (v := undef) rfl trivial) trivial ⟨hE.blk s0 (blk_int s0 hw (by decide)), hE.blk s1 (blk_int s1 hw (by decide)), fun h => absurd h (by rw [updF_same]; decide), fun _ => hwb, fun h => hux _ (s4 h), fun h h' => hux _ (s5 h h'), fun h => hux _ (s6 h), s7.trans hE (fun k hk h => by omega)⟩
          · intro f W hf L hL hS
            obtain ⟨s0, s1, s2, s3, s4, s5, s6, s7⟩ := (hS : _ ∧ _ ∧ _ ∧ _ ∧ _ ∧ _ ∧ _ ∧ _)
            replace s3 := s3 (hL 14 (by decide))
            replace s6 := s6 (hL 12 (by decide))
            have e0 : f 0 = Value.pointer (some ⟨nb, 2, none⟩) := (hf 0 (by decide)).1 _ rfl
            have e1 : f 1 = Value.slice (some x) nv kv := (hf 1 (by decide)).1 _ rfl
            have e2 : f 2 = Value.int .i64 (j : Int) := (hf 2 (by decide)).1 _ rfl
            have e3 : f 3 = Value.pointer (some ⟨b, 0, none⟩) := (hf 3 (by decide)).1 _ rfl
            have e4 : f 4 = Value.pointer (some ⟨nb, 2, none⟩) := (hf 4 (by decide)).1 _ rfl
            have e5 : f 5 = Value.slice (some x) nv kv := (hf 5 (by decide)).1 _ rfl
            have e6 : f 6 = Value.int .i64 (j : Int) := (hf 6 (by decide)).1 _ rfl
            have e7 : f 7 = Value.pointer (some (x.add j)) := (hf 7 (by decide)).1 _ rfl
            have e8 : f 8 = Value.int .i64 z := (hf 8 (by decide)).1 _ rfl
            have e9 : f 9 = Value.pointer (some ⟨b, 0, none⟩) := (hf 9 (by decide)).1 _ rfl
            have e10 : f 10 = Value.int .i64 ((q : Int) + 1) := (hf 10 (by decide)).1 _ rfl
            have e11 : f 11 = Value.int .i64 wp.1 := (hf 11 (by decide)).1 _ rfl
            have e12 : f 12 = Value.int .i64 (dvw wp.1 z) := (hf 12 (by decide)).1 _ rfl
            have e13 : f 13 = Value.pointer (some (x.add j)) := (hf 13 (by decide)).1 _ rfl
            clear hf hL s2 s4 s5
            simp only [puts2, Act.put, e0, e1, e2, e3, e4, e5, e6, e7, e8, e9, e10, e11, e12, e13]
            try simp only [List.setIfInBounds_toArray, List.set_cons_zero, List.set_cons_succ]
            have HS3 := Lib.hid s3
            have HS6 := Lib.hid s6
            clear s3 s6
            go_wp2_with fail
            go_roundw
            case rel => exact ⟨j + 1, by omega, by go_num, ⟨by rw [HNV.out]; exact s0, s1, by rw [← HSET.out]; exact HS3.out, by rw [HANY.out]; exact HS6.out, s7⟩⟩
            case measure => simp [intOf]; omega
        · have hge : ¬ (j : Int) < (nv : Int) := by omega
          have hjn : j = nv := by omega
          have HNV2 := Lib.hid (show j = vs.length from hjn.trans HNV.out.symm)
          obtain ⟨s0, s1, s2, s3, s4⟩ := hD
          rw [HNV2.out, List.take_length, List.drop_length, List.append_nil] at s2
          rw [HNV2.out, List.take_length] at s3
          rw [HNV.out] at s0
          have hsb := eff_but s4
          have t5 := s4.blk t3 ntb
          have ab5 := s4.blk ab3 nab
          have ml5 := ml3.but hsb
          have cel0 := s0.cell
          have nat' : ab ≠ tb := by have := ha2.1; omega
          have nut : ub ≠ tb := by have := hu2.1; omega
          clear hjn
          go_wp2_with fail
          refine wpIn_wide.2 ?_
          go_wp2_with ((with_reducible refine at_st (p := 4) (q := 49) rfl ?_); refine ev_store rfl 24 _ _ rfl rfl t5 0 rfl rfl [.int .i64 R, .int .i64 R, .slice (some x) nv kv] rfl (by kernel_rfl) rfl rfl #[.int .i64 R, .int .i64 R, .slice (some x) nv kv] rfl ?_; intro w6 g6 ef hz6)
          have hE6 : Eff (fun k => k = b ∨ k = tb) W3 w6 := (s4.mono (P' := fun k => k = b ∨ k = tb) (fun _ _ h => .inl h)).trans ef (fun k _ h => .inr h)
          have hJ6 := HJ.out ⟨tb, q + 1⟩ W3 w6 hJ3 ⟨hE6, others_of_eff hE6 (fun k hk => by rcases hk with h | h; exact ⟨_, h ▸ tyb⟩; exact ⟨_, h ▸ t3.ty⟩), tyb, t3.ty, g6.ty⟩
          have ab6 := ef.blk ab5 nat'
          have ub6 := ef.blk s1 nut
          have hLI6 := (s2.eff ef (fun k hk ht => by subst hk; exact absurd (ht.inj t5.ty) (by decide))).mono hn3
          have up6 : UP w6 b (cq || mf || vs.any (flw wp)) := by obtain ⟨mm, hm⟩ := s3; exact ⟨mm, ef.blk hm (Ne.symm ntb)⟩
          have ml6 : ML b w6 a k m.v := by
            refine ⟨⟨fun i hi => ?_, ml5.mi.rng, ml5.mi.len, fun _ _ _ => Nat.zero_le _, ml5.mi.nn, ml5.mi.cap⟩, ml5.ne⟩
            obtain ⟨y, hy, hcy⟩ := ml5.mi.cell i hi
            exact ⟨y, hy, (World.cell?_of_block (w := wr) (by rw [add_block]; exact ef.block _ (by have := World.block_lt_of_cell? wr _ hcy; rwa [add_block] at this) (fun e => by have := (hx2 y hy).1; omega))).trans hcy⟩
          have hsz6 := Nat.le_trans hn3 hE6.size
          have HT6 : TmI J m b c0 n₀ ub ab a k ⟨tb, q + 1⟩ w6 := by
            refine ⟨hJ6, ⟨some x, kv, ?_, ?_⟩, ?_, ub6, ?_, ml6, hntb, hsz6⟩
            · show Blk w6 tb #[.int .i64 m.r, .int .i64 m.r, .slice (some x) (termM m (q + 1)).1.v.length kv] 24
              rw [HR.out, HNX2.out.1, List.length_map, HNV.out]; exact g6
            · show LI n₀ w6 (some x) kv (termM m (q + 1)).1.v
              rw [HNX2.out.1]; exact hLI6
            · show UP w6 b (c0 || (termM m (q + 1)).2)
              rw [HNX2.out.2]; exact up6
            · rw [HR.out, HAM.out]; exact ab6
          have HT := Lib.hid HT6
          clear HT6 hsz6 ml6 up6 hLI6 ub6 ab6 hJ6 hE6 ml5 ab5 t5 hsb s1 s2 s3 s4 cel0 g6 ef hJ3 s0 t3 ab3 ml3 ub3
          gi_wp2_with fail
          go_roundw
          case rel => exact ⟨q + 1, by go_num, HT.out⟩
          case measure => simp [intOf]; omega
    · have HJ3 := Lib.hid hJx3
      gi_wp2_with fail
      go_end0
      exact ⟨⟨_, rfl⟩, HJ3.out⟩

end Go.Proofs.YtkjbidpafnmogaaGreat.Base
