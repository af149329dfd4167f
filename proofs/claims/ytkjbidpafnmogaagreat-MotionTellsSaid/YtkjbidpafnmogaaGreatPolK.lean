/- poly.Flow. -/
import Derived.Test.YtkjbidpafnmogaaGreatPolJ
namespace Go.Proofs.YtkjbidpafnmogaaGreat.Base
open Go.RowKit Go
set_option linter.unusedVariables false
set_option linter.unusedSimpArgs false

theorem OMs.mls {B b : Nat} {W : World} {c : Bool} {v : Value} {ms : List Mt} (h : OMs B W v ms) (hU : UP W b c) (h0 : 0 < ms.length) : ∃ x k, v = .slice (some x) ms.length k ∧ ms.length ≤ k ∧ MLs b W x ms := by
  obtain ⟨vs, ho, hr⟩ := h.ex
  have hty := row_ty ho
  obtain ⟨hl2, h1 | ⟨g, cap, cur, rfl, hB, hh, hn, hm, hs, ht⟩⟩ := ho
  · exact absurd h1.2 (by omega)
  · refine ⟨⟨g, 0, none⟩, cap, rfl, hn, ⟨fun j hj => ?_, fun e => ?_⟩⟩
    · obtain ⟨a, c, e0, e1, e2, e3⟩ := (hr j hj).ex
      have hcur : ∀ j u, vs[j]? = some u → W.cell? ⟨g, j, none⟩ = some u := by
        intro j u hj
        have := (World.ownsRow.cells ⟨hl2, .inr ⟨g, cap, cur, rfl, hB, hh, hn, hm, hs, ht⟩⟩ (g := g) (by simp [Value.ownBlock])) j u hj
        rwa [Addr.add_lit, Nat.zero_add] at this
      refine ⟨a, c, ⟨?_, ?_, ?_⟩, e3.ml hU⟩
      · rw [Addr.add_lit, Nat.zero_add]; exact hcur _ _ e0
      · rw [Addr.add_lit, Nat.zero_add]; exact hcur _ _ e1
      · rw [Addr.add_lit, Nat.zero_add]; exact hcur _ _ e2
    · obtain ⟨mm, hm2⟩ := hU
      have e' : g = b := e
      subst e'
      exact absurd ((hty g (by simp [Value.ownBlock])).1.inj hm2.ty) (by decide)
theorem poly_terms {m : Mt} (h : okMt m) (hs : m.r = m.c) {n : Nat} (h1 : 1 ≤ n) (h2 : n ≤ 25) : polyM (termsL m n) := by
  refine ⟨by rw [termsL_len]; exact h1, by rw [termsL_len]; exact h2, fun p hp => ?_⟩
  obtain ⟨i, hi, rfl⟩ := List.mem_map.1 hp
  obtain ⟨o1, o2, o3⟩ := term_ok h hs i
  have hd : (termsL m n).headD default = (termM m 0).1 := by
    obtain ⟨k, rfl⟩ : ∃ k, n = k + 1 := ⟨n - 1, by omega⟩
    simp [termsL, List.range_succ_eq_map]
  obtain ⟨z1, z2, z3⟩ := term_ok h hs 0
  rw [hd]
  exact ⟨o1, o2.trans z2.symm, o3.trans z3.symm⟩
def flowM (m : Mt) (t : Int) : Mt × Bool := ((hornM t (termsL m m.r.toNat)).1, (termM m (m.r.toNat - 1)).2 || (hornM t (termsL m m.r.toNat)).2)

set_option maxHeartbeats 4000000 in
set_option maxRecDepth 100000 in
theorem Flow_is {w0 : World} {b : Nat} {c0 : Bool} (hU : UP w0 b c0) {m : Mt} {a : Option Addr} {k : Nat} (hl : ML b w0 a k m.v) (hup : upM m) (t : Int) (ht : I64 t) :
    Calls Tryz.prog 16 #[.pointer (some ⟨b, 0, none⟩), .agg #[.int .i64 m.r, .int .i64 m.c, .slice a m.v.length k], .int .i64 t] w0 fun e w' => ∃ v, e = .returned (.tuple #[v, .int .i64 0]) ∧ MO w0.heap.size w' v (flowM m t).1 ∧ UP w' b (c0 || (flowM m t).2) ∧ But b w0 w' := by
  have hSQ := fun w => square_is m a k w
  rw [decide_eq_true hup.1] at hSQ
  have hUQ := fun (W : World) (h : MI 0 W a k m.v) => upper_is h
  rw [decide_eq_true hup] at hUQ
  obtain ⟨ok, sq⟩ := hup.1
  have HT := Lib.hid (fun (W : World) (hU' : UP W b c0) (hl' : ML b W a k m.v) (n : Nat) (hn : n ≤ 24) => Terms_is hU' hl' ok sq n hn)
  have HPT := Lib.hid (fun n h1 h2 => poly_terms ok sq (n := n) h1 h2)
  obtain ⟨r, c, hr, hc, hr1, hr2, hc1, hc2, hlen⟩ := ok.nat
  rw [← sq] at hSQ hUQ HT ⊢
  obtain ⟨fl, hfl⟩ : ∃ fl, flowM m t = fl := ⟨_, rfl⟩
  have HFL := Lib.hid (show fl = ((hornM t (termsL m r)).1, (termM m (r - 1)).2 || (hornM t (termsL m r)).2) by rw [← hfl]; simp [flowM, hr])
  rw [hfl]
  rw [hr] at hSQ hUQ HT ⊢
  obtain ⟨nv, hnv⟩ : ∃ nv, m.v.length = nv := ⟨_, rfl⟩
  rw [hnv] at hSQ hUQ HT ⊢
  have hmi := hl.mi
  have HML := Lib.hid hl
  have hblt := hU.lt
  have hw : wrap64 ((r : Int) - 1) = ((r - 1 : Nat) : Int) := by unfold wrap64; omega
  have hw2 : IntKind.i64.wrap ((r : Int) - 1) = ((r - 1 : Nat) : Int) := by rw [show (r : Int) - 1 = ((r - 1 : Nat) : Int) by omega]; exact IntWalk.i64_in _ (by omega)
  clear hup ok sq hr hc hlen hnv hfl hl
  have HSQ := Lib.hid hSQ
  have HUQ := Lib.hid hUQ
  clear hSQ hUQ
  go_enter Tryz.func16, Tryz.ntmps16
  go_wp2_with fail
  have hB := below_allocs w0 [Obj.cells #[Value.int .i64 (r : Int), .int .i64 (r : Int), .slice a nv k] 24, Obj.cells #[Value.int .i64 0, .int .i64 0, .slice none 0 0] 24]
  have g0 := blk_at w0 [Obj.cells #[Value.int .i64 (r : Int), .int .i64 (r : Int), .slice a nv k] 24, Obj.cells #[Value.int .i64 0, .int .i64 0, .slice none 0 0] 24] 0 _ _ rfl
  have g1 := blk_at w0 [Obj.cells #[Value.int .i64 (r : Int), .int .i64 (r : Int), .slice a nv k] 24, Obj.cells #[Value.int .i64 0, .int .i64 0, .slice none 0 0] 24] 1 _ _ rfl
  simp only [List.foldl_cons, List.foldl_nil, Nat.add_zero] at hB g0 g1
  replace hB := hB.1
  have hU1 := hU.keep hB
  generalize (w0.alloc (Obj.cells #[Value.int .i64 (r : Int), .int .i64 (r : Int), .slice a nv k] 24)).alloc (Obj.cells #[Value.int .i64 0, .int .i64 0, .slice none 0 0] 24) = w1 at *
  refine (pnone_ok hU1).mono ?_
  rintro e w2 ⟨rfl, hw'⟩
  rw [← hw']
  clear hw'
  have d0 := g0.cell
  go_wp2_with fail
  refine (HSQ.out _).mono ?_
  rintro e w2 ⟨rfl, hK⟩
  replace hB := more hB hK
  replace g0 := g0.keep hK
  replace g1 := g1.keep hK
  replace hU1 := hU1.keep hK
  clear hK d0
  have d0 := g0.cell
  go_wp2_with fail
  refine (HUQ.out _ (hmi.keep hB)).mono ?_
  rintro e w3 ⟨rfl, hK⟩
  replace hB := more hB hK
  replace g0 := g0.keep hK
  replace g1 := g1.keep hK
  replace hU1 := hU1.keep hK
  have hml := HML.out.keep hB
  clear hK d0
  have d0 := g0.cell
  have hTT := HT.out _ hU1 hml (r - 1) (by omega)
  rw [show r - 1 + 1 = r by omega] at hTT
  have HTT := Lib.hid hTT
  clear hTT
  go_wp2_with fail
  refine HTT.out.mono ?_
  rintro e w4 ⟨v, rfl, hO, hU4, hB4⟩
  obtain ⟨x, kc, rfl, hck, hMLs⟩ := hO.mls hU4 (by rw [termsL_len]; omega)
  have ne0 : w0.heap.size ≠ b := by omega
  have ne1 : w0.heap.size + 1 ≠ b := by omega
  replace g1 := hB4.blk g1 ne1
  have hBB := (But.of (b := b) hB).trans hB4
  have hAT := At_is hU4 hMLs hck (HPT.out r (by omega) (by omega)) t ht
  have hle : w0.heap.size ≤ w4.heap.size := Nat.le_trans hB.size hB4.size
  rw [termsL_len] at hAT ⊢
  have HAT := Lib.hid hAT
  clear hAT hO hMLs hck HTT d0 hml g0 hB hB4 hU1
  go_wp2_with fail
  refine HAT.out.mono ?_
  rintro e w5 ⟨v, rfl, hmo, hU5, hB5⟩
  replace g1 := hB5.blk g1 ne1
  have hBC := hBB.trans hB5
  obtain ⟨ah, kh, hv, hLI⟩ := hmo.ex
  obtain ⟨hh, hhe⟩ : ∃ hh, hornM t (termsL m r) = hh := ⟨_, rfl⟩
  rw [hhe] at hmo hLI hU5 HFL hv
  have HFE := Lib.hid (show fl.1 = hh.1 ∧ (c0 || fl.2) = (c0 || (termM m (r - 1)).2 || hh.2) by rw [HFL.out]; exact ⟨rfl, (Bool.or_assoc _ _ _).symm⟩)
  rw [← HFE.out.2] at hU5
  have hmo' := hmo.mono hle
  rw [← HFE.out.1] at hmo'
  subst hv
  obtain ⟨h1, h2⟩ : I64 hh.1.r ∧ I64 hh.1.c := ⟨hmo.r, hmo.c⟩
  have hsz : w0.heap.size ≤ w5.heap.size := hBC.size
  generalize hh.1.r = nr at *
  generalize hh.1.c = nc at *
  generalize hh.1.v.length = nh at *
  clear hmo HAT hhe HFL hLI
  go_wp2_with ((with_reducible refine at_st (p := 6) (q := 37) rfl ?_); refine ev_store rfl 24 _ _ rfl rfl g1 0 rfl rfl [.int .i64 nr, .int .i64 nc, .slice ah nh kh] rfl (by kernel_rfl) rfl rfl #[.int .i64 nr, .int .i64 nc, .slice ah nh kh] rfl ?_; intro w6 g6 ef hz6)
  have hmo6 := hmo'.eff ef (fun k hk ht => by subst hk; exact absurd (ht.inj g1.ty) (by decide))
  have hU6 := hU5.off ef (show b ≠ w0.heap.size + 1 by omega)
  refine bodyPost_ret (results_ct (g := w0.heap.size + 1) (cs := #[.int .i64 nr, .int .i64 nc, .slice ah nh kh]) rfl _ _ rfl g6 Tryz.underlying24 rfl (by kernel_rfl)) rfl ?_
  exact ⟨_, rfl, hmo6, hU6, ⟨ef.os.trans hBC.os, ef.tape.trans hBC.tape, ef.output.trans hBC.output, Nat.le_trans hBC.size ef.size, fun k hk hn => (ef.block k (Nat.lt_of_lt_of_le hk hBC.size) (fun h => by omega)).trans (hBC.block k hk hn)⟩⟩

end Go.Proofs.YtkjbidpafnmogaaGreat.Base
