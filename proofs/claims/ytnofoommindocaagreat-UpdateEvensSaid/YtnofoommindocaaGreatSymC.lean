/- sym: Even, Sandwich. -/
import Derived.Test.YtnofoommindocaaGreatSymB
import Derived.StillTailTactics
namespace Go.Proofs.YtnofoommindocaaGreat.Base
open Go.RowKit
set_option linter.unusedVariables false
set_option linter.unusedSimpArgs false

theorem ml_atD {W : World} {b : Nat} {a : Option Addr} {k : Nat} {zs : List Int} (hz : ML b W a k zs) {i : Nat} (hi : i < zs.length) : ∃ x : Addr, a = some x ∧ W.cell? (x.add i) = some (.int .i64 (zs.getD i 0)) := by
  obtain ⟨x, rfl, hcell, _⟩ := hz.at i hi
  refine ⟨x, rfl, ?_⟩
  rw [hcell, List.getD_eq_getElem?_getD, List.getElem?_eq_getElem hi]
  rfl
set_option maxHeartbeats 2000000 in
set_option maxRecDepth 100000 in
theorem even1_is {W : World} {b : Nat} {c0 : Bool} (hU : UP W b c0) {ub mb : Nat} {a1 : Option Addr} {k1 N : Nat} {xs : List Int} {r0 r1 : Value}
    (hu : Blk W ub #[.pointer (some ⟨b, 0, none⟩)] 30) (hm : Blk W mb #[r0, r1, .slice a1 N k1] 78) (hx : ML b W a1 k1 xs) (hl : xs.length = N) (i j : Nat) (hi : i < N) (hj : j < N) :
    Calls Tryz.prog 188 #[.int .i64 i, .int .i64 j, .pointer (some ⟨ub, 0, none⟩), .pointer (some ⟨mb, 0, none⟩)] W fun e w' => e = .returned (.int .i64 (halfF (xs.getD i 0) (xs.getD j 0)).1) ∧ UP w' b (c0 || (halfF (xs.getD i 0) (xs.getD j 0)).2) ∧ But b W w' := by
  obtain ⟨x, rfl, hx1⟩ := ml_atD hx (show i < xs.length by omega)
  obtain ⟨x', hx', hy1⟩ := ml_atD hx (show j < xs.length by omega)
  cases hx'
  have d0 := hu.cell 0
  have m0 := hm.cell
  have m2 := m0 2
  have hz64 := getD_i64 hx.mi.rng i
  have hu64 := getD_i64 hx.mi.rng j
  have e5 : (0 : Int) ≤ (i : Int) := Int.natCast_nonneg i
  have e6 : (i : Int) < (N : Int) := Int.ofNat_lt.2 hi
  have e7 : (0 : Int) ≤ (j : Int) := Int.natCast_nonneg j
  have e8 : (j : Int) < (N : Int) := Int.ofNat_lt.2 hj
  generalize xs.getD i 0 = z at *
  generalize xs.getD j 0 = u at *
  simp at d0 m2
  clear hu hm hx hl m0 hi hj
  go_enter Tryz.func188, Tryz.ntmps188
  go_wp2_with fail
  go_still_tail 11, (by kernel_rfl)
  change wpList _ _ _ _ _ W.drew
  clear d0 m2 e5 e6 e7 e8 hx1 hy1
  have hU1 := hU.drew
  have hB1 := (But.refl b W).drew
  generalize W.drew = w2 at *
  go_wp2_with fail
  have hdd := uHalf_is hU1 z u hz64 hu64
  refine hdd.mono ?_
  rintro e w3 ⟨rfl, hU3, hB3⟩
  have hB4 := hB1.trans hB3
  clear hB1 hB3 hU1 hdd
  go_wp2_with fail
  go_ret
  exact ⟨rfl, hU3, hB4⟩

theorem chgM_nat {n : Nat} (d : Nat) (f : Nat → Nat → Int × Bool) (xs : List Int) : chgM d f ⟨(n : Int), (n : Int), xs⟩ = (⟨(n : Int), (n : Int), chgL n (fun i k => (f i k).1) xs (prU n d n)⟩, (prU n d n).any fun p => (f p.1 p.2).2) := by simp [chgM]
theorem any_snocP (f : Nat × Nat → Bool) (l : List (Nat × Nat)) (x : Nat × Nat) : (l ++ [x]).any f = (l.any f || f x) := by simp
theorem sq_ok {m : Mt} (h : okMt m) (hs : m.r = m.c) : sqV m = 0 := if_pos ⟨h, hs⟩
theorem but_eff2 {b : Nat} {w w4 w3 : World} {p : Nat} (hB4 : But b w w3) (ef : Eff (fun k => k = p) w3 w4) (hp : w.heap.size ≤ p) : But b w w4 :=
  ⟨ef.os.trans hB4.os, ef.tape.trans hB4.tape, ef.output.trans hB4.output, Nat.le_trans hB4.size ef.size, fun k hk hn => (ef.block k (Nat.lt_of_lt_of_le hk hB4.size) (fun h => by omega)).trans (hB4.block k hk hn)⟩
theorem up_eff {b : Nat} {c : Bool} {w3 w4 : World} {p : Nat} (h : UP w3 b c) (ef : Eff (fun k => k = p) w3 w4) (hp : b ≠ p) : UP w4 b c := by
  obtain ⟨m, hm⟩ := h
  exact ⟨m, ef.blk hm hp⟩

set_option maxHeartbeats 4000000 in
set_option maxRecDepth 100000 in
theorem sEven_is {W : World} {b : Nat} {c0 : Bool} (hU : UP W b c0) {m : Mt} {a1 : Option Addr} {k1 : Nat} (h1 : ML b W a1 k1 m.v) (ok : okMt m) (hs : m.r = m.c) :
    Calls Tryz.prog 133 #[.pointer (some ⟨b, 0, none⟩), .agg #[.int .i64 m.r, .int .i64 m.c, .slice a1 m.v.length k1]] W
      fun e w' => ∃ v, e = .returned (.tuple #[v, .int .i64 0]) ∧ MO W.heap.size w' v (evenM m).1 ∧ UP w' b (c0 || (evenM m).2) ∧ But b W w' := by
  have hR := fun (W' : World) (hU' : UP W' b c0) => srefuses_is hU' m a1 k1
  rw [sq_ok ok hs] at hR
  obtain ⟨n, n', hr, hc, hn1, hn2, _, _, hlen⟩ := ok.nat
  have hnn : n' = n := by omega
  subst hnn
  obtain ⟨mr, mc, xs⟩ := m
  dsimp only at *
  subst hr hc
  have HT := Lib.hid (show evenM ⟨(n' : Int), (n' : Int), xs⟩ = (⟨(n' : Int), (n' : Int), chgL n' (fun i k => (halfF (xs.getD (i * n' + k) 0) (xs.getD (k * n' + i) 0)).1) xs (prU n' 1 n')⟩, (prU n' 1 n').any fun p => (halfF (xs.getD (p.1 * n' + p.2) 0) (xs.getD (p.2 * n' + p.1) 0)).2) by
    unfold evenM; rw [chgM_nat]; simp [atM])
  obtain ⟨N, hN⟩ : ∃ N, n' * n' = N := ⟨_, rfl⟩
  rw [hN] at hlen
  rw [hlen] at hR ⊢
  clear hs
  go_enter Tryz.func133, Tryz.ntmps133
  go_wp2_with fail
  have hB := below_allocs W [Obj.cells #[Value.pointer (some ⟨b, 0, none⟩)] 30, Obj.cells #[Value.int .i64 (n' : Int), .int .i64 (n' : Int), .slice a1 N k1] 78, Obj.cells #[Value.int .i64 0, .int .i64 0, .slice none 0 0] 78]
  have g0 := blk_at W [Obj.cells #[Value.pointer (some ⟨b, 0, none⟩)] 30, Obj.cells #[Value.int .i64 (n' : Int), .int .i64 (n' : Int), .slice a1 N k1] 78, Obj.cells #[Value.int .i64 0, .int .i64 0, .slice none 0 0] 78] 0 _ _ rfl
  have g1 := blk_at W [Obj.cells #[Value.pointer (some ⟨b, 0, none⟩)] 30, Obj.cells #[Value.int .i64 (n' : Int), .int .i64 (n' : Int), .slice a1 N k1] 78, Obj.cells #[Value.int .i64 0, .int .i64 0, .slice none 0 0] 78] 1 _ _ rfl
  have g2 := blk_at W [Obj.cells #[Value.pointer (some ⟨b, 0, none⟩)] 30, Obj.cells #[Value.int .i64 (n' : Int), .int .i64 (n' : Int), .slice a1 N k1] 78, Obj.cells #[Value.int .i64 0, .int .i64 0, .slice none 0 0] 78] 2 _ _ rfl
  simp only [List.foldl_cons, List.foldl_nil, Nat.add_zero, List.length_cons, List.length_nil, Nat.zero_add, Nat.reduceAdd] at hB g0 g1 g2
  obtain ⟨hB, hs1⟩ := hB
  have hU1 := hU.keep hB
  generalize ((W.alloc (Obj.cells #[Value.pointer (some ⟨b, 0, none⟩)] 30)).alloc (Obj.cells #[Value.int .i64 (n' : Int), .int .i64 (n' : Int), .slice a1 N k1] 78)).alloc (Obj.cells #[Value.int .i64 0, .int .i64 0, .slice none 0 0] 78) = w1 at *
  refine (hR _ hU1).mono ?_
  rintro e w2 ⟨rfl, hK⟩
  replace g0 := g0.keep hK
  replace g1 := g1.keep hK
  replace g2 := g2.keep hK
  replace hB := more hB hK
  have hU2 := hU1.keep hK
  have hx := h1.keep hB
  have hbW := hU.lt
  have c0 := g0.cell
  have c1 := g1.cell
  clear hK hR hU1
  go_wp2_with fail
  clear c0 c1
  refine (changed_is (w0 := w2) (fun k => k = b) (fun k h => by subst h; exact hU2.lt) 188 (enters_of Tryz.func188 (by kernel_rfl) rfl) #[.pointer (some ⟨W.heap.size, 0, none⟩), .pointer (some ⟨W.heap.size + 1, 0, none⟩)] n' 1 N hN ⟨hn1, hn2⟩ (Nat.le_refl _) hx.mi hlen
    (fun i k => (halfF (xs.getD (i * n' + k) 0) (xs.getD (k * n' + i) 0)).1) (fun _ _ => (halfF_fx _ _).i64)
    (fun pre W' => But b w2 W' ∧ UP W' b (c0 || pre.any fun p => (halfF (xs.getD (p.1 * n' + p.2) 0) (xs.getD (p.2 * n' + p.1) 0)).2))
    (fun pre W1 W2 h1 h2 => ⟨but_below h1.1 h2, h1.2.below h2 hU2.lt⟩) (fun pre i k W1 hik hkn hj hsz => ?_) ⟨But.refl _ _, by simpa using hU2⟩).mono ?_
  · rw [any_snocP, ← Bool.or_assoc]
    refine (even1_is hj.2 (hj.1.blk g0 (by omega)) (hj.1.blk g1 (by omega)) (hx.but hj.1) hlen (i * n' + k) (k * n' + i) (by rw [← hN]; exact ix_lt (by omega) hkn) (by rw [← hN]; exact ix_lt hkn (by omega))).mono ?_
    rintro e w3 ⟨rfl, hU3, hB3⟩
    exact ⟨rfl, ⟨hj.1.trans hB3, hU3⟩, but_eff hB3⟩
  · rintro e w3 ⟨v, rfl, hmo, hj, hE⟩
    obtain ⟨hB3, hU3⟩ := hj
    have hB4 := (But.of (b := b) hB).trans hB3
    have g5 := hB3.blk g2 (by omega)
    have hsz := hB.size
    have hU3' : UP w3 b (c0 || (evenM ⟨(n' : Int), (n' : Int), xs⟩).2) := by rw [HT.out]; exact hU3
    have HMO := Lib.hid (show MO w2.heap.size w3 v (evenM ⟨(n' : Int), (n' : Int), xs⟩).1 by rw [HT.out]; exact hmo)
    obtain ⟨av, kv, rfl, hLI⟩ := hmo.ex
    generalize (chgL n' (fun i k => (halfF (xs.getD (i * n' + k) 0) (xs.getD (k * n' + i) 0)).1) xs (prU n' 1 n')) = vv at *
    generalize vv.length = ll at *
    clear hE g0 g1 g2 hx hU2 hB3 hU3 hmo hLI
    go_wp2_with ((with_reducible refine at_st (p := 4) (q := 16) rfl ?_); refine ev_store rfl 78 _ _ rfl rfl g5 0 rfl rfl [.int .i64 n', .int .i64 n', .slice av ll kv] rfl (by kernel_rfl) rfl rfl #[.int .i64 n', .int .i64 n', .slice av ll kv] rfl ?_; intro w4 g6 ef hz4)
    have hmo4 := (HMO.out.eff ef (fun k hk ht => by subst hk; exact absurd (ht.inj g5.ty) (by decide))).mono hsz
    have hU4 := up_eff hU3' ef (by omega)
    have hB5 := but_eff2 hB4 ef (by omega)
    refine bodyPost_ret (results_ct (g := W.heap.size + 2) (cs := #[.int .i64 n', .int .i64 n', .slice av ll kv]) rfl _ _ rfl g6 Tryz.underlying78 rfl (by kernel_rfl)) rfl ?_
    exact ⟨_, rfl, hmo4, hU4, hB5⟩

end Go.Proofs.YtnofoommindocaaGreat.Base
