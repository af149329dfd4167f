/- mat: each. -/
import Derived.Test.YtnofoommindocaaGreatMatF
import Derived.StillTailTactics
namespace Go.Proofs.YtnofoommindocaaGreat.Base
open Go.RowKit
set_option linter.unusedVariables false
set_option linter.unusedSimpArgs false

theorem but_eff {b : Nat} {w w' : World} (h : But b w w') : Eff (fun k => k = b) w w' := ⟨h.os, h.tape, h.output, h.size, fun k hk hn => h.block k hk hn⟩
theorem eff_but {b : Nat} {w w' : World} (h : Eff (fun k => k = b) w w') : But b w w' := ⟨h.os, h.tape, h.output, h.size, fun k hk hn => h.block k hk hn⟩
/-- A matrix of what each place has, and whether something was cut. -/
def madeF (r c : Nat) (f : Nat → Nat → Int × Bool) : Mt × Bool := (⟨r, c, (List.range (r * c)).map fun x => (f (x / c) (x % c)).1⟩, (List.range (r * c)).any fun x => (f (x / c) (x % c)).2)
def eachM (f : Int → Int → Int × Bool) (a b : Mt) : Mt × Bool := madeF a.r.toNat a.c.toNat fun i k => f (atM a i k) (atM b i k)
theorem but_below {b : Nat} {w0 W1 W2 : World} (h : But b w0 W1) (k : Below w0.heap.size W1 W2) : But b w0 W2 := ⟨k.os.trans h.os, k.tape.trans h.tape, k.output.trans h.output, Nat.le_trans h.size k.size, fun i hi hn => (k.block i hi).trans (h.block i hi hn)⟩
theorem UP.below {n : Nat} {W W' : World} {b : Nat} {c : Bool} (h : UP W b c) (k : Below n W W') (hb : b < n) : UP W' b c := by
  obtain ⟨m, h⟩ := h
  exact ⟨m, h.below k hb⟩
theorem UP.drew {W : World} {b : Nat} {c : Bool} (h : UP W b c) : UP W.drew b c := h.keep (upD (upR _))
theorem at_is {W : World} {b : Nat} {a : Option Addr} {k r c : Nat} {zs : List Int} (hz : ML b W a k zs) (hl : zs.length = r * c) {i j : Nat} (hi : i < r) (hj : j < c) : ∃ x : Addr, a = some x ∧ W.cell? (x.add (i * c + j)) = some (.int .i64 (zs.getD (i * c + j) 0)) := by
  have hx := ix_lt hi hj
  obtain ⟨x, rfl, hcell, _⟩ := hz.at (i * c + j) (by omega)
  refine ⟨x, rfl, ?_⟩
  rw [hcell, List.getD_eq_getElem?_getD, List.getElem?_eq_getElem (by omega)]
  rfl
theorem ix_small {p q i j c r n : Nat} (hi : i < r) (hr : r ≤ 12) (hj : j < c) (hc : c ≤ 12) (hp : i * c = p) (hq : p + j = q) (hn : n = r * c) :
    (i : Int) * (c : Int) = (p : Int) ∧ wrap64 (p : Int) = (p : Int) ∧ (p : Int) + (j : Int) = (q : Int) ∧ wrap64 (q : Int) = (q : Int) ∧ (0 : Int) ≤ (q : Int) ∧ (q : Int) < (n : Int) := by
  have hx := ix_lt hi hj
  have h1 : p ≤ 144 := by rw [← hp]; exact Nat.mul_le_mul (Nat.le_trans (Nat.le_of_lt hi) hr) hc
  obtain ⟨e2, e4⟩ := pq_small h1 hj hc hq
  exact ⟨by rw [← hp, Int.natCast_mul], e2, by rw [← hq, Int.natCast_add], e4, Int.natCast_nonneg q, Int.ofNat_lt.2 (by rw [hn, ← hq, ← hp]; exact hx)⟩

set_option maxHeartbeats 2000000 in
set_option maxRecDepth 100000 in
theorem each1_is {W : World} {b : Nat} {c0 : Bool} (hU : UP W b c0) {db ab bb : Nat} {gd : FuncId} (eg : ∀ args w, (callFunc gd args).run Tryz.prog w = .ok (.enter gd args) w) {dc : Array Value} {a1 a2 : Option Addr} {k1 k2 r c : Nat} {xs ys : List Int}
    (hd : Blk W db #[.func (.func gd) #[] dc] 66) (ha : Blk W ab #[.int .i64 r, .int .i64 c, .slice a1 xs.length k1] 78) (hb : Blk W bb #[.int .i64 r, .int .i64 c, .slice a2 ys.length k2] 78)
    (hx : ML b W a1 k1 xs) (hy : ML b W a2 k2 ys) (lx : xs.length = r * c) (ly : ys.length = r * c) (hr : r ≤ 12) (hc : c ≤ 12) (p : Int × Bool) (i j : Nat) (hi : i < r) (hj : j < c)
    (hdo : ∀ W1, But b W W1 → UP W1 b c0 → Calls Tryz.prog gd (#[.int .i64 (xs.getD (i * c + j) 0), .int .i64 (ys.getD (i * c + j) 0)] ++ dc) W1 fun e w' => e = .returned (.int .i64 p.1) ∧ UP w' b (c0 || p.2) ∧ But b W1 w') :
    Calls Tryz.prog 190 #[.int .i64 i, .int .i64 j, .pointer (some ⟨db, 0, none⟩), .pointer (some ⟨ab, 0, none⟩), .pointer (some ⟨bb, 0, none⟩)] W fun e w' => e = .returned (.int .i64 p.1) ∧ UP w' b (c0 || p.2) ∧ But b W w' := by
  obtain ⟨x, rfl, hx1⟩ := at_is hx lx hi hj
  obtain ⟨y, rfl, hy1⟩ := at_is hy ly hi hj
  have d0 := hd.cell 0
  have m0 := ha.cell
  have n0 := hb.cell
  obtain ⟨pp, hp⟩ : ∃ pp, i * c = pp := ⟨_, rfl⟩
  obtain ⟨q, hq⟩ : ∃ q, pp + j = q := ⟨_, rfl⟩
  obtain ⟨nx, hnx⟩ : ∃ nx, xs.length = nx := ⟨_, rfl⟩
  obtain ⟨e1, e2, e3, e4, e5, e6⟩ := ix_small (n := r * c) hi hr hj hc hp hq rfl
  rw [lx] at m0
  rw [ly] at n0
  rw [hp, hq] at hx1 hy1 hdo
  generalize xs.getD q 0 = z at *
  generalize ys.getD q 0 = u at *
  generalize r * c = n at *
  have m1 := m0 1
  have m2 := m0 2
  have n1 := n0 1
  have n2 := n0 2
  simp at d0 m1 m2 n1 n2
  clear hd ha hb hx hy lx ly hp hq hnx m0 n0 hi hj
  go_enter Tryz.func190, Tryz.ntmps190
  go_wp2_with fail
  have e7 : IntKind.i64.wrap (pp : Int) = (pp : Int) := (IntWalk.i64_left _).trans e2
  have e8 : IntKind.i64.wrap (q : Int) = (q : Int) := (IntWalk.i64_left _).trans e4
  go_still_tail 21, (by kernel_rfl)
  change wpList _ _ _ _ _ W.drew
  clear d0 m1 m2 n1 n2 e1 e2 e3 e4 e5 e6 e7 e8 hx1 hy1
  have hU1 := hU.drew
  have hB1 := (But.refl b W).drew
  generalize W.drew = w2 at *
  go_wp2_with fail
  have hdd := hdo w2 hB1 hU1
  refine hdd.mono ?_
  rintro e w3 ⟨rfl, hU3, hB3⟩
  have hB4 := hB1.trans hB3
  clear hB1 hB3 hU1 hdo hdd
  go_wp2_with fail
  go_ret
  exact ⟨rfl, hU3, hB4⟩

theorem any_snoc (f : Nat → Bool) (l : List Nat) (x : Nat) : (l ++ [x]).any f = (l.any f || f x) := by simp
/-- What a matrix that is none is told as. -/
def noMat : Value := .agg #[.int .i64 0, .int .i64 0, .slice none 0 0]
theorem msc2 {W : World} {lb : Nat} {m1 m2 : Mt} {a1 a2 : Option Addr} {k1 k2 : Nat} (h : Blk W lb #[.int .i64 m1.r, .int .i64 m1.c, .slice a1 m1.v.length k1, .int .i64 m2.r, .int .i64 m2.c, .slice a2 m2.v.length k2] 78) : MsC W ⟨lb, 0, none⟩ [m1, m2] := by
  refine ⟨fun j hj => ?_⟩
  have : j = 0 ∨ j = 1 := by simp at hj; omega
  rcases this with rfl | rfl
  · exact ⟨a1, k1, h.cell 0, h.cell 1, h.cell 2⟩
  · exact ⟨a2, k2, h.cell 3, h.cell 4, h.cell 5⟩
theorem ref2_false (m1 m2 : Mt) : refM [m1, m2] false = 3 := if_neg fun h => by cases h.2
theorem ref2_bad {m1 m2 : Mt} (b : Bool) (h : ¬ (okMt m1 ∧ okMt m2)) : refM [m1, m2] b = 3 := if_neg fun hh => h ⟨hh.1 _ (by simp), hh.1 _ (by simp)⟩
theorem ref2_ok {m1 m2 : Mt} (h1 : okMt m1) (h2 : okMt m2) : refM [m1, m2] true = 0 := if_pos ⟨fun m hm => by simp at hm; rcases hm with rfl | rfl; exact h1; exact h2, rfl⟩

set_option maxHeartbeats 4000000 in
set_option maxRecDepth 100000 in
theorem each_is {W : World} {b : Nat} {c0 : Bool} (hU : UP W b c0) (gd : FuncId) (eg : ∀ args w, (callFunc gd args).run Tryz.prog w = .ok (.enter gd args) w) (dc : Array Value) {m1 m2 : Mt} {a1 a2 : Option Addr} {k1 k2 : Nat}
    (h1 : ML b W a1 k1 m1.v) (h2 : ML b W a2 k2 m2.v) (ok1 : okMt m1) (ok2 : okMt m2) (er : m1.r = m2.r) (ec : m1.c = m2.c) (f : Int → Int → Int × Bool) (hf : ∀ x y, Fx (f x y).1)
    (hdo : ∀ x y c1 W1, I64 x → I64 y → But b W W1 → UP W1 b c1 → Calls Tryz.prog gd (#[.int .i64 x, .int .i64 y] ++ dc) W1 fun e w' => e = .returned (.int .i64 (f x y).1) ∧ UP w' b (c1 || (f x y).2) ∧ But b W1 w') :
    Calls Tryz.prog 134 #[.pointer (some ⟨b, 0, none⟩), .agg #[.int .i64 m1.r, .int .i64 m1.c, .slice a1 m1.v.length k1], .agg #[.int .i64 m2.r, .int .i64 m2.c, .slice a2 m2.v.length k2], .func (.func gd) #[] dc] W
      fun e w' => ∃ v, e = .returned (.tuple #[v, .int .i64 0]) ∧ MO W.heap.size w' v (eachM f m1 m2).1 ∧ UP w' b (c0 || (eachM f m1 m2).2) ∧ But b W w' := by
  have hR := ref2_ok ok1 ok2
  obtain ⟨r, c, hr, hc, hr1, hr2, hc1, hc2, hlen⟩ := ok1.nat
  obtain ⟨r', c', hr', hc', _, _, _, _, hlen'⟩ := ok2.nat
  have e1 : r' = r := by omega
  have e2 : c' = c := by omega
  subst e1 e2
  obtain ⟨mr, mc, xs⟩ := m1
  obtain ⟨nr, nc, ys⟩ := m2
  dsimp only at *
  subst hr hc hr' hc'
  clear er ec
  have HT := Lib.hid (show eachM f ⟨(r' : Int), (c' : Int), xs⟩ ⟨(r' : Int), (c' : Int), ys⟩ = madeF r' c' fun i k => f (xs.getD (i * c' + k) 0) (ys.getD (i * c' + k) 0) by simp [eachM, atM])
  have hms : ∀ {W' : World} {lb : Nat}, Blk W' lb #[.int .i64 (r' : Int), .int .i64 (c' : Int), .slice a1 xs.length k1, .int .i64 (r' : Int), .int .i64 (c' : Int), .slice a2 ys.length k2] 78 → MsC W' ⟨lb, 0, none⟩ [⟨(r' : Int), (c' : Int), xs⟩, ⟨(r' : Int), (c' : Int), ys⟩] := fun h => msc2 h
  obtain ⟨n, hn⟩ : ∃ n, xs.length = n := ⟨_, rfl⟩
  obtain ⟨n', hn'⟩ : ∃ n', ys.length = n' := ⟨_, rfl⟩
  rw [hn, hn'] at hms ⊢
  have HREF := Lib.hid (fun (W' : World) (lb : Nat) (hU' : UP W' b c0) h => refuses_is hU' (hms (W' := W') (lb := lb) h) (by simp) 2 true)
  rw [hR] at HREF
  clear hR hms
  go_enter Tryz.func134, Tryz.ntmps134
  go_wp2_with fail
  have hB := below_allocs W [Obj.cells #[Value.int .i64 (r' : Int), .int .i64 (c' : Int), .slice a1 n k1] 78, Obj.cells #[Value.int .i64 (r' : Int), .int .i64 (c' : Int), .slice a2 n' k2] 78, Obj.cells #[Value.func (.func gd) #[] dc] 66, Obj.cells #[Value.int .i64 0, .int .i64 0, .slice none 0 0] 78, Obj.cells #[Value.int .i64 (r' : Int), .int .i64 (c' : Int), .slice a1 n k1, .int .i64 (r' : Int), .int .i64 (c' : Int), .slice a2 n' k2] 78]
  have g0 := blk_at W [Obj.cells #[Value.int .i64 (r' : Int), .int .i64 (c' : Int), .slice a1 n k1] 78, Obj.cells #[Value.int .i64 (r' : Int), .int .i64 (c' : Int), .slice a2 n' k2] 78, Obj.cells #[Value.func (.func gd) #[] dc] 66, Obj.cells #[Value.int .i64 0, .int .i64 0, .slice none 0 0] 78, Obj.cells #[Value.int .i64 (r' : Int), .int .i64 (c' : Int), .slice a1 n k1, .int .i64 (r' : Int), .int .i64 (c' : Int), .slice a2 n' k2] 78] 0 _ _ rfl
  have g1 := blk_at W [Obj.cells #[Value.int .i64 (r' : Int), .int .i64 (c' : Int), .slice a1 n k1] 78, Obj.cells #[Value.int .i64 (r' : Int), .int .i64 (c' : Int), .slice a2 n' k2] 78, Obj.cells #[Value.func (.func gd) #[] dc] 66, Obj.cells #[Value.int .i64 0, .int .i64 0, .slice none 0 0] 78, Obj.cells #[Value.int .i64 (r' : Int), .int .i64 (c' : Int), .slice a1 n k1, .int .i64 (r' : Int), .int .i64 (c' : Int), .slice a2 n' k2] 78] 1 _ _ rfl
  have g2 := blk_at W [Obj.cells #[Value.int .i64 (r' : Int), .int .i64 (c' : Int), .slice a1 n k1] 78, Obj.cells #[Value.int .i64 (r' : Int), .int .i64 (c' : Int), .slice a2 n' k2] 78, Obj.cells #[Value.func (.func gd) #[] dc] 66, Obj.cells #[Value.int .i64 0, .int .i64 0, .slice none 0 0] 78, Obj.cells #[Value.int .i64 (r' : Int), .int .i64 (c' : Int), .slice a1 n k1, .int .i64 (r' : Int), .int .i64 (c' : Int), .slice a2 n' k2] 78] 2 _ _ rfl
  have g3 := blk_at W [Obj.cells #[Value.int .i64 (r' : Int), .int .i64 (c' : Int), .slice a1 n k1] 78, Obj.cells #[Value.int .i64 (r' : Int), .int .i64 (c' : Int), .slice a2 n' k2] 78, Obj.cells #[Value.func (.func gd) #[] dc] 66, Obj.cells #[Value.int .i64 0, .int .i64 0, .slice none 0 0] 78, Obj.cells #[Value.int .i64 (r' : Int), .int .i64 (c' : Int), .slice a1 n k1, .int .i64 (r' : Int), .int .i64 (c' : Int), .slice a2 n' k2] 78] 3 _ _ rfl
  have g4 := blk_at W [Obj.cells #[Value.int .i64 (r' : Int), .int .i64 (c' : Int), .slice a1 n k1] 78, Obj.cells #[Value.int .i64 (r' : Int), .int .i64 (c' : Int), .slice a2 n' k2] 78, Obj.cells #[Value.func (.func gd) #[] dc] 66, Obj.cells #[Value.int .i64 0, .int .i64 0, .slice none 0 0] 78, Obj.cells #[Value.int .i64 (r' : Int), .int .i64 (c' : Int), .slice a1 n k1, .int .i64 (r' : Int), .int .i64 (c' : Int), .slice a2 n' k2] 78] 4 _ _ rfl
  simp only [List.foldl_cons, List.foldl_nil, Nat.add_zero] at hB g0 g1 g2 g3 g4
  replace hB := hB.1
  refine (HREF.out _ _ (hU.keep hB) g4).mono ?_
  rintro e w2 ⟨rfl, hK⟩
  replace g0 := g0.keep hK
  replace g1 := g1.keep hK
  replace g2 := g2.keep hK
  replace g3 := g3.keep hK
  replace hB := more hB hK
  have c0' := g0.cell
  have c3 := g3.cell
  clear g4 hK HREF
  go_wp2_with fail
  clear c0' c3
  have hx := h1.keep hB
  have hy := h2.keep hB
  have hU2 := hU.keep hB
  have hbW := hU.lt
  have HDO := Lib.hid hdo
  clear hdo
  refine (made_is (w0 := w2) (fun k => k = b) (fun k h => by subst h; exact hU2.lt) 190 (enters_of Tryz.func190 (by kernel_rfl) rfl) #[.pointer (some ⟨W.heap.size + 2, 0, none⟩), .pointer (some ⟨W.heap.size, 0, none⟩), .pointer (some ⟨W.heap.size + 1, 0, none⟩)] r' c' (r' * c') rfl ⟨hr1, hr2⟩ ⟨hc1, hc2⟩ (fun x => (f (xs.getD (x / c' * c' + x % c') 0) (ys.getD (x / c' * c' + x % c') 0)).1)
    (fun pre W' => But b w2 W' ∧ UP W' b (c0 || pre.any fun x => (f (xs.getD (x / c' * c' + x % c') 0) (ys.getD (x / c' * c' + x % c') 0)).2))
    (fun pre W1 W2 h1 h2 => ⟨but_below h1.1 h2, h1.2.below h2 hU2.lt⟩) (fun pre x W1 hx' hj hs => ?_) ⟨But.refl _ _, by simpa using hU2⟩).mono ?_
  · rw [any_snoc, ← Bool.or_assoc]
    refine (each1_is hj.2 eg (hj.1.blk g2 (by omega)) (by rw [hn]; exact hj.1.blk g0 (by omega)) (by rw [hn']; exact hj.1.blk g1 (by omega)) (hx.but hj.1) (hy.but hj.1) hlen hlen' hr2 hc2 (f (xs.getD (x / c' * c' + x % c') 0) (ys.getD (x / c' * c' + x % c') 0)) (x / c') (x % c') (div_lt' hx') (mod_lt' hx') (fun W2 hB2 hU2 => ?_)).mono ?_
    · exact HDO.out _ _ _ W2 (getD_i64 h1.mi.rng _) (getD_i64 h2.mi.rng _) (((But.of (b := b) hB).trans hj.1).trans hB2) hU2
    · rintro e w3 ⟨rfl, hU3, hB3⟩
      exact ⟨rfl, ⟨hj.1.trans hB3, hU3⟩, but_eff hB3⟩
  · rintro e w3 ⟨v, rfl, hrow, hj, hE⟩
    have hpos := Nat.mul_pos hr1 hc1
    obtain ⟨gv, cv, rfl⟩ := Joins.ownsRow_form hrow (by simpa using hpos)
    have hmo := mo_of_row (r := r') (c := c') hrow hpos (Nat.le_trans (Nat.mul_le_mul hr2 hc2) (by decide)) (fun x _ => (hf _ _).i64) (Nat.le_trans hr2 (by decide)) (Nat.le_trans hc2 (by decide))
    obtain ⟨hB3, hU3⟩ := hj
    have hB4 := (But.of (b := b) hB).trans hB3
    have g5 := hB3.blk g3 (by omega)
    have hsz := hB.size
    have hU3' : UP w3 b (c0 || (eachM f ⟨(r' : Int), (c' : Int), xs⟩ ⟨(r' : Int), (c' : Int), ys⟩).2) := by rw [HT.out]; exact hU3
    clear hrow hE g0 g1 g2 g3 hx hy hU2 hB3 hU3
    go_wp2_with ((with_reducible refine at_st (p := 8) (q := 37) rfl ?_); refine ev_store rfl 78 _ _ rfl rfl g5 0 rfl rfl [.int .i64 r', .int .i64 c', .slice (some ⟨gv, 0, none⟩) (r' * c') cv] rfl (by kernel_rfl) rfl rfl #[.int .i64 r', .int .i64 c', .slice (some ⟨gv, 0, none⟩) (r' * c') cv] rfl ?_; intro w4 g6 ef hz4)
    have hmo4 := (hmo.eff ef (fun k hk ht => by subst hk; exact absurd (ht.inj g5.ty) (by decide))).mono hsz
    have hU4 : UP w4 b (c0 || (eachM f ⟨(r' : Int), (c' : Int), xs⟩ ⟨(r' : Int), (c' : Int), ys⟩).2) := by obtain ⟨m, hm⟩ := hU3'; exact ⟨m, ef.blk hm (by omega)⟩
    have hB5 : But b W w4 := ⟨ef.os.trans hB4.os, ef.tape.trans hB4.tape, ef.output.trans hB4.output, Nat.le_trans hB4.size ef.size, fun k hk hn => (ef.block k (Nat.lt_of_lt_of_le hk hB4.size) (fun h => by omega)).trans (hB4.block k hk hn)⟩
    refine bodyPost_ret (results_ct (g := W.heap.size + 3) (cs := #[.int .i64 r', .int .i64 c', .slice (some ⟨gv, 0, none⟩) (r' * c') cv]) rfl _ _ rfl g6 Tryz.underlying78 rfl (by kernel_rfl)) rfl ?_
    exact ⟨_, rfl, by rw [HT.out]; exact hmo4, hU4, hB5⟩

end Go.Proofs.YtnofoommindocaaGreat.Base
