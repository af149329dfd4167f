/- sym: Sandwich. -/
import Derived.Test.YtnofoommindocaaGreatSymD
namespace Go.Proofs.YtnofoommindocaaGreat.Base
open Go.RowKit
set_option linter.unusedVariables false
set_option linter.unusedSimpArgs false

theorem ok_madeF {r c : Nat} (h1 : 1 ≤ r) (h2 : r ≤ 12) (h3 : 1 ≤ c) (h4 : c ≤ 12) (f : Nat → Nat → Int × Bool) : okMt (madeF r c f).1 := by
  refine ⟨⟨?_, ?_⟩, ⟨?_, ?_⟩, ?_⟩ <;> simp [madeF] <;> omega
theorem ok_mulM {m1 m2 : Mt} (h1 : okMt m1) (h2 : okMt m2) : okMt (mulM m1 m2).1 := by
  obtain ⟨a1, a2⟩ := h1.1
  obtain ⟨b1, b2⟩ := h2.2.1
  exact ok_madeF (by omega) (by omega) (by omega) (by omega) _
theorem MO.effo {P : Nat → Prop} {B : Nat} {W W' : World} {x : Value} {m : Mt} (h : MO B W x m) (he : Eff P W W') (hp : ∀ k, P k → ¬ IntsB W k) : MO B W' x m := h.eff he hp
set_option maxHeartbeats 4000000 in
set_option maxRecDepth 100000 in
theorem sandwich_is {W : World} {b : Nat} {c0 : Bool} (hU : UP W b c0) {f p : Mt} {a1 a2 : Option Addr} {k1 k2 : Nat} (h1 : ML b W a1 k1 f.v) (h2 : ML b W a2 k2 p.v) (ok1 : okMt f) (ok2 : okMt p) (sq : p.r = p.c) (fc : f.c = p.r) :
    Calls Tryz.prog 81 #[.pointer (some ⟨b, 0, none⟩), .agg #[.int .i64 f.r, .int .i64 f.c, .slice a1 f.v.length k1], .agg #[.int .i64 p.r, .int .i64 p.c, .slice a2 p.v.length k2]] W
      fun e w' => ∃ v, e = .returned (.tuple #[v, .int .i64 0]) ∧ MO W.heap.size w' v (sandM f p).1 ∧ UP w' b (c0 || (sandM f p).2) ∧ But b W w' := by
  have hR := fun (W' : World) (hU' : UP W' b c0) => srefuses_is hU' p a2 k2
  rw [sq_ok ok2 sq] at hR
  have HR := Lib.hid hR
  clear hR
  have HTN := Lib.hid (fun (W' : World) (h : MI 0 W' a1 k1 f.v) => turn_is (k := k1) h ok1)
  have HM1 := Lib.hid (fun (W' : World) (hu : UP W' b c0) (x1 : ML b W' a1 k1 f.v) (x2 : ML b W' a2 k2 p.v) => mmul_is hu x1 x2 ok1 ok2 fc)
  have okl := ok_mulM ok1 ok2
  have okt := turn_ok ok1
  have hlc : (mulM f p).1.c = (turnM f).r := by
    have h3 := ok1.2.1.1
    have h4 := ok2.2.1.1
    simp [mulM, madeF, turnM, madeM]
    omega
  have okb := ok_mulM okl okt
  have hbs : (mulM (mulM f p).1 (turnM f)).1.r = (mulM (mulM f p).1 (turnM f)).1.c := by
    have h3 := ok1.1.1
    simp [mulM, madeF, turnM, madeM]
  have HS := Lib.hid (show sandM f p = ((evenM (mulM (mulM f p).1 (turnM f)).1).1, ((mulM f p).2 || (mulM (mulM f p).1 (turnM f)).2) || (evenM (mulM (mulM f p).1 (turnM f)).1).2) from rfl)
  obtain ⟨l, hl⟩ : ∃ l, mulM f p = l := ⟨_, rfl⟩
  obtain ⟨t, ht⟩ : ∃ t, turnM f = t := ⟨_, rfl⟩
  rw [hl, ht] at HS hbs okb
  rw [hl] at okl
  rw [ht] at okt HTN
  rw [hl, ht] at hlc
  rw [hl] at HM1
  obtain ⟨q, hq⟩ : ∃ q, mulM l.1 t = q := ⟨_, rfl⟩
  rw [hq] at HS hbs okb
  obtain ⟨s, hs⟩ : ∃ s, evenM q.1 = s := ⟨_, rfl⟩
  rw [hs] at HS
  have HL := Lib.hid hl
  have HTT := Lib.hid ht
  have HQ := Lib.hid hq
  have HSS := Lib.hid hs
  have HLC := Lib.hid hlc
  have HBS := Lib.hid hbs
  clear hl ht hq hs hlc hbs
  obtain ⟨fr, fcc, fv⟩ := f
  obtain ⟨pr, pc, pv⟩ := p
  dsimp only at *
  obtain ⟨nf, hnf⟩ : ∃ nf, fv.length = nf := ⟨_, rfl⟩
  obtain ⟨np, hnp⟩ : ∃ np, pv.length = np := ⟨_, rfl⟩
  rw [hnf, hnp] at HM1
  rw [hnf] at HTN
  rw [hnp] at HR
  rw [hnf, hnp]
  subst fc
  clear sq ok1 ok2 hnf hnp
  go_enter Tryz.func81, Tryz.ntmps81
  go_wp2_with fail
  have hB := below_allocs W [Obj.cells #[.int .i64 fr, .int .i64 fcc, .slice a1 nf k1] 78, Obj.cells #[.int .i64 fcc, .int .i64 pc, .slice a2 np k2] 78, Obj.cells #[Value.int .i64 0, .int .i64 0, .slice none 0 0] 78]
  have g0 := blk_at W [Obj.cells #[.int .i64 fr, .int .i64 fcc, .slice a1 nf k1] 78, Obj.cells #[.int .i64 fcc, .int .i64 pc, .slice a2 np k2] 78, Obj.cells #[Value.int .i64 0, .int .i64 0, .slice none 0 0] 78] 0 _ _ rfl
  have g1 := blk_at W [Obj.cells #[.int .i64 fr, .int .i64 fcc, .slice a1 nf k1] 78, Obj.cells #[.int .i64 fcc, .int .i64 pc, .slice a2 np k2] 78, Obj.cells #[Value.int .i64 0, .int .i64 0, .slice none 0 0] 78] 1 _ _ rfl
  have g2 := blk_at W [Obj.cells #[.int .i64 fr, .int .i64 fcc, .slice a1 nf k1] 78, Obj.cells #[.int .i64 fcc, .int .i64 pc, .slice a2 np k2] 78, Obj.cells #[Value.int .i64 0, .int .i64 0, .slice none 0 0] 78] 2 _ _ rfl
  simp only [List.foldl_cons, List.foldl_nil, Nat.add_zero, List.length_cons, List.length_nil, Nat.zero_add, Nat.reduceAdd] at hB g0 g1 g2
  obtain ⟨hB, hs1⟩ := hB
  have hU1 := hU.keep hB
  obtain ⟨w1, hw1⟩ : ∃ w1 : World, ((W.alloc (Obj.cells #[.int .i64 fr, .int .i64 fcc, .slice a1 nf k1] 78)).alloc (Obj.cells #[.int .i64 fcc, .int .i64 pc, .slice a2 np k2] 78)).alloc (Obj.cells #[Value.int .i64 0, .int .i64 0, .slice none 0 0] 78) = w1 := ⟨_, rfl⟩
  rw [hw1] at hB g0 g1 g2 hs1 hU1 ⊢
  clear hw1
  have hbW := hU.lt
  refine (HR.out _ hU1).mono ?_
  rintro e w2 ⟨rfl, hK⟩
  replace g0 := g0.keep hK
  replace g1 := g1.keep hK
  replace g2 := g2.keep hK
  replace hB := more hB hK
  replace hU1 := hU1.keep hK
  have c0' := g0.cell
  clear hK HR
  go_wp2_with fail
  refine (HTN.out _ (h1.mi.keep hB)).mono ?_
  rintro e w3 ⟨tv, rfl, hmt, hK⟩
  have hsz2 := hB.size
  replace g0 := g0.keep hK
  replace g1 := g1.keep hK
  replace g2 := g2.keep hK
  replace hB := more hB hK
  replace hU1 := hU1.keep hK
  replace hmt := hmt.mono (B' := W.heap.size) hsz2
  obtain ⟨at', kt, rfl, hlt⟩ := hmt.ex
  have HMT := Lib.hid hmt
  clear hK HTN c0' hlt hmt
  have hsz3 := hB.size
  have c1 := g0.cell
  have c2 := g1.cell
  obtain ⟨nt, hnt⟩ : ∃ nt, t.v.length = nt := ⟨_, rfl⟩
  rw [hnt] at HMT
  have HNT := Lib.hid hnt
  rw [hnt]
  clear hnt
  have hn3 : ((0 : Int) == 0) = true := rfl
  go_wp2_with first
    | ((with_reducible refine at_dst (N := 9) rfl ?_); refine ev_new rfl (cs := #[.int .i64 0, .int .i64 0, .slice none 0 0]) (t := 78) (by go_simp) ?_; intro w4 gt hB4 hz4)
    | ((with_reducible refine at_st (p := 9) (q := 25) rfl ?_); refine ev_store rfl 78 _ _ rfl rfl gt 0 rfl rfl [.int .i64 t.r, .int .i64 t.c, .slice at' nt kt] rfl (by kernel_rfl) rfl rfl #[.int .i64 t.r, .int .i64 t.c, .slice at' nt kt] rfl ?_; intro w5 gt5 ef5 hz5; have c3 := (ef5.blk (g0.keep hB4) (by have := g0.lt; omega)).cell; have c4 := (ef5.blk (g1.keep hB4) (by have := g1.lt; omega)).cell; clear c1 c2)
  have hB5 : Below w3.heap.size w3 w5 := ef5.below hB4 (fun k hk => by omega)
  have hB6 := more hB hB5
  refine (HM1.out _ (hU1.keep hB5) (h1.keep hB6) (h2.keep hB6)).mono ?_
  rintro e w6 ⟨lv, rfl, hml, hU6, hBt⟩
  have hb5 := hU1.lt
  replace g0 := hBt.blk (g0.keep hB5) (by omega)
  replace g2 := hBt.blk (g2.keep hB5) (by omega)
  replace gt := hBt.blk gt5 (by omega)
  have hT6 := (But.of (b := b) hB6).trans hBt
  have hml2 := hml.mono (B' := W.heap.size) hB6.size
  have HMT6 := Lib.hid ((HMT.out.keep hB5).but (hU1.keep hB5) hBt)
  obtain ⟨al, kl, rfl, hll⟩ := hml2.ex
  have HML := Lib.hid hml2
  have hz6 := hT6.size
  have hW3 : W.heap.size ≤ w3.heap.size := hsz3
  obtain ⟨nl, hnl⟩ : ∃ nl, l.1.v.length = nl := ⟨_, rfl⟩
  rw [hnl] at HML
  have HNL := Lib.hid hnl
  rw [hnl]
  clear hnl hll hml hml2 hBt hB6 hB5 gt5 ef5 hB4 hB c3 c4 HMT HM1 hU1 g1 hz4 hz5 hb5
  obtain ⟨tb, htb⟩ : ∃ tb, w3.heap.size = tb := ⟨_, rfl⟩
  rw [htb] at gt hW3 ⊢
  clear htb
  have hgt : tb < w6.heap.size := gt.lt
  go_wp2_with first
    | ((with_reducible refine at_dst (N := 11) rfl ?_); refine ev_new rfl (cs := #[.int .i64 0, .int .i64 0, .slice none 0 0]) (t := 78) (by go_simp) ?_; intro w7 gl hB7 hz7)
    | ((with_reducible refine at_st (p := 11) (q := 42) rfl ?_); refine ev_store rfl 78 _ _ rfl rfl gl 0 rfl rfl [.int .i64 l.1.r, .int .i64 l.1.c, .slice al nl kl] rfl (by kernel_rfl) rfl rfl #[.int .i64 l.1.r, .int .i64 l.1.c, .slice al nl kl] rfl ?_; intro w8 gl8 ef8 hz8; have c5 := gl8.cell; have c6 := (ef8.blk (gt.keep hB7) (by omega)).cell)
  have hB8 : Below w6.heap.size w6 w8 := ef8.below hB7 (fun k hk => by omega)
  have hU8 := hU6.keep hB8
  have hlb := hU6.lt
  have HM2 := Lib.hid (mmul_is hU8 (a1 := al) (k1 := kl) (m1 := l.1) (a2 := at') (k2 := kt) (m2 := t) (by
      obtain ⟨a', k', e1, e2⟩ := (HML.out.keep hB8).ex
      rw [HNL.out] at e1
      cases e1
      exact e2.ml hU8) (by
      obtain ⟨a', k', e1, e2⟩ := (HMT6.out.keep hB8).ex
      rw [HNT.out] at e1
      cases e1
      exact e2.ml hU8) okl okt HLC.out)
  rw [HQ.out, HNL.out, HNT.out] at HM2
  refine HM2.out.mono ?_
  rintro e w9 ⟨qv, rfl, hmq, hU9, hBq⟩
  replace g2 := hBq.blk (g2.keep hB8) (by omega)
  have hT9 := (hT6.trans (But.of (b := b) hB8)).trans hBq
  have hz9 := hB8.size
  have hmq2 := hmq.mono (B' := W.heap.size) (by omega)
  obtain ⟨aq, kq, rfl, hlq⟩ := hmq2.ex
  have HMQ := Lib.hid hmq2
  have hz9' := hT9.size
  obtain ⟨nq, hnq⟩ : ∃ nq, q.1.v.length = nq := ⟨_, rfl⟩
  rw [hnq] at HMQ
  have HNQ := Lib.hid hnq
  rw [hnq]
  clear hnq hlq hmq hmq2 hBq hB8 gl8 ef8 hB7 gl c5 c6 HM2 gt hz7 hz8 hgt hU8 hT6
  go_wp2_with first
    | ((with_reducible refine at_dst (N := 13) rfl ?_); refine ev_new rfl (cs := #[.int .i64 0, .int .i64 0, .slice none 0 0]) (t := 78) (by go_simp) ?_; intro w10 gq hB10 hz10)
    | ((with_reducible refine at_st (p := 13) (q := 49) rfl ?_); refine ev_store rfl 78 _ _ rfl rfl gq 0 rfl rfl [.int .i64 q.1.r, .int .i64 q.1.c, .slice aq nq kq] rfl (by kernel_rfl) rfl rfl #[.int .i64 q.1.r, .int .i64 q.1.c, .slice aq nq kq] rfl ?_; intro w11 gq11 ef11 hz11; have c7 := gq11.cell)
  have hB11 : Below w9.heap.size w9 w11 := ef11.below hB10 (fun k hk => by omega)
  have hU11 := hU9.keep hB11
  have HE2 := Lib.hid (sEven_is hU11 (a1 := aq) (k1 := kq) (m := q.1) (by
      obtain ⟨a', k', e1, e2⟩ := (HMQ.out.keep hB11).ex
      rw [HNQ.out] at e1
      cases e1
      exact e2.ml hU11) okb HBS.out)
  rw [HSS.out, HNQ.out] at HE2
  refine HE2.out.mono ?_
  rintro e w12 ⟨sv, rfl, hms, hU12, hBs⟩
  replace g2 := hBs.blk (g2.keep hB11) (by omega)
  have hT12 := (hT9.trans (But.of (b := b) hB11)).trans hBs
  have hz12 := hB11.size
  have hms2 := hms.mono (B' := W.heap.size) (by omega)
  obtain ⟨sa, ks, rfl, hls⟩ := hms2.ex
  have HMS := Lib.hid hms2
  clear hls hms hms2 hBs hB11 gq11 ef11 hB10 gq c7 HE2 hz10 hz11 hU11 hT9 HMQ
  generalize s.1.v.length = ns at *
  go_wp2_with ((with_reducible refine at_st (p := 6) (q := 54) rfl ?_); refine ev_store rfl 78 _ _ rfl rfl g2 0 rfl rfl [.int .i64 s.1.r, .int .i64 s.1.c, .slice sa ns ks] rfl (by kernel_rfl) rfl rfl #[.int .i64 s.1.r, .int .i64 s.1.c, .slice sa ns ks] rfl ?_; intro w13 g13 ef13 hz13)
  have hmo4 := HMS.out.eff ef13 (fun k hk ht => by subst hk; exact absurd (ht.inj g2.ty) (by decide))
  have hU13 := up_eff hU12 ef13 (by omega)
  have hB13 := but_eff2 hT12 ef13 (by omega)
  refine bodyPost_ret (results_ct (g := W.heap.size + 2) (cs := #[.int .i64 s.1.r, .int .i64 s.1.c, .slice sa ns ks]) rfl _ _ rfl g13 Tryz.underlying78 rfl (by kernel_rfl)) rfl ?_
  exact ⟨_, rfl, by rw [HS.out]; exact hmo4, by rw [HS.out]; simpa [Bool.or_assoc] using hU13, hB13⟩

end Go.Proofs.YtnofoommindocaaGreat.Base
