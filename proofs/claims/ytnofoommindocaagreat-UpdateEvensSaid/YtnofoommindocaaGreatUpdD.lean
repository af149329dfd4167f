/- update: One. -/
import Derived.Test.YtnofoommindocaaGreatUpdM
import Derived.Deep.DeepCutAuto
namespace Go.Proofs.YtnofoommindocaaGreat.Base
open Go.RowKit
set_option linter.unusedVariables false
set_option linter.unusedSimpArgs false

theorem uCut_is2 {W : World} {b : Nat} {c : Bool} (h : UP W b c) : Calls Tryz.prog 28 #[.pointer (some ⟨b, 0, none⟩)] W fun e w' => e = .returned (.bool c) ∧ W = w' := by
  obtain ⟨m, hm⟩ := h
  have c0 := hm.cell
  clear hm
  go_enter Tryz.func28, Tryz.ntmps28
  go_wp2_with fail
  go_ret
  exact ⟨rfl, rfl⟩
theorem more_is (n : Int) (h : 0 ≤ n ∧ n ≤ 1099511627776) (W : World) : Calls Tryz.prog 56 #[.int .i64 n] W fun e w' => e = .returned (.int .i64 (moreI n)) ∧ W = w' := by
  have hw : wrap64 (n + 1) = n + 1 := by unfold wrap64; omega
  by_cases h1 : n + 1 ≤ 1099511627776
  · have HM := Lib.hid (show moreI n = n + 1 from if_pos h1)
    have h2 : ¬ (1099511627776 < n + 1) := by omega
    go_enter Tryz.func56, Tryz.ntmps56
    go_wp2_with fail
    go_ret
    refine ⟨?_, rfl⟩
    rw [HM.out]
    first | rfl | (congr 2; omega) | (simp; omega)
  · have HM := Lib.hid (show moreI n = 1099511627776 from if_neg h1)
    have h2 : (1099511627776 < n + 1) := by omega
    go_enter Tryz.func56, Tryz.ntmps56
    go_wp2_with fail
    go_ret
    refine ⟨?_, rfl⟩
    rw [HM.out]
    first | rfl | (congr 2; omega) | (simp; omega)
theorem i64_cnt {n : Int} (h : 0 ≤ n ∧ n ≤ 1099511627776) : I64 n := by unfold I64; omega
theorem moreI_64 {n : Int} (h : 0 ≤ n ∧ n ≤ 1099511627776) : I64 (moreI n) := by unfold moreI I64; split <;> omega

/-- A belief of one's own, a trace of one's own. -/
structure BL (B : Nat) (W : World) (v : Value) (x : Blf) : Prop where
  ex : ∃ aX cX aP cP, v = .agg #[.int .i64 x.t, .slice aX x.X.length cX, .slice aP x.P.length cP, .bool x.flag, .int .i64 x.pass, .int .i64 x.fail] ∧ LI B W aX cX x.X ∧ LI B W aP cP x.P
  t : I64 x.t
  pass : I64 x.pass
  fail : I64 x.fail
structure TL (B : Nat) (W : World) (v : Value) (x : Tr) : Prop where
  ex : ∃ aH cH aP cP, v = .agg #[.bool x.is, .slice aH x.H.length cH, .slice aP x.P.length cP, .int .i64 x.S, .int .i64 x.Nu] ∧ LI B W aH cH x.H ∧ LI B W aP cP x.P
  s : I64 x.S
  n : I64 x.Nu
def zBv : Value := .agg #[.int .i64 0, .slice none 0 0, .slice none 0 0, .bool false, .int .i64 0, .int .i64 0]
def zTv : Value := .agg #[.bool false, .slice none 0 0, .slice none 0 0, .int .i64 0, .int .i64 0]

/-- Within One: the boxes, what has changed. -/
structure OneS (w0 : World) (b : Nat) (Mv Bv Qv : Array Value) (W : World) : Prop where
  m : Blk W w0.heap.size Mv 25
  bl : Blk W (w0.heap.size + 1) Bv 27
  q : Blk W (w0.heap.size + 2) Qv 29
  r1 : Blk W (w0.heap.size + 3) #[.int .i64 0, .slice none 0 0, .slice none 0 0, .bool false, .int .i64 0, .int .i64 0] 27
  r2 : Blk W (w0.heap.size + 4) #[.bool false, .slice none 0 0, .slice none 0 0, .int .i64 0, .int .i64 0] 46
  tot : Eff (fun k => k = b ∨ w0.heap.size ≤ k) w0 W
  sz : w0.heap.size + 5 ≤ W.heap.size
  hb : b < w0.heap.size
theorem OneS.go {w0 : World} {b : Nat} {Mv Bv Qv : Array Value} {W W' : World} (h : OneS w0 b Mv Bv Qv W) (k : Eff (fun k => k = b ∨ w0.heap.size + 5 ≤ k) W W') : OneS w0 b Mv Bv Qv W' := by
  have hb := h.hb
  exact ⟨k.blk h.m (by omega), k.blk h.bl (by omega), k.blk h.q (by omega), k.blk h.r1 (by omega), k.blk h.r2 (by omega), h.tot.trans k (fun q hq e => by rcases e with e | e; exact .inl e; exact .inr (by omega)), Nat.le_trans h.sz k.size, hb⟩
theorem OneS.but {w0 : World} {b : Nat} {Mv Bv Qv : Array Value} {W W' : World} (h : OneS w0 b Mv Bv Qv W) (k : But b W W') : OneS w0 b Mv Bv Qv W' := h.go ((but_eff k).mono fun _ _ e => .inl e)
theorem OneS.new {w0 : World} {b : Nat} {Mv Bv Qv : Array Value} {W W' : World} (h : OneS w0 b Mv Bv Qv W) (k : Below W.heap.size W W') : OneS w0 b Mv Bv Qv W' := h.go (Eff.of k)
theorem tot_but {w0 : World} {b : Nat} {W : World} (h : Eff (fun k => k = b ∨ w0.heap.size ≤ k) w0 W) : But b w0 W := ⟨h.os, h.tape, h.output, h.size, fun k hk hn => h.block k hk (fun e => by rcases e with e | e; exact hn e; omega)⟩
theorem OneS.far {w0 : World} {b : Nat} {Mv Bv Qv : Array Value} {W W' : World} (h : OneS w0 b Mv Bv Qv W) (e : Eff (fun k => k = w0.heap.size + 3 ∨ k = w0.heap.size + 4 ∨ W.heap.size ≤ k) W W') : But b w0 W' :=
  tot_but (h.tot.trans e (fun k _ hh => .inr (by have := h.sz; omega)))
theorem nofar {w0 : World} {b : Nat} {Mv Bv Qv : Array Value} {W : World} (h : OneS w0 b Mv Bv Qv W) : ¬ (b = w0.heap.size + 3 ∨ b = w0.heap.size + 4 ∨ W.heap.size ≤ b) := by
  have := h.hb; have := h.sz; omega
/-- The first m of n numbers set. -/
def parL (n : Nat) (f : Nat → Int) (z : List Int) (m : Nat) : List Int := (List.range n).map fun x => if x < m then f x else z.getD x 0
theorem parL_zero {n : Nat} {f : Nat → Int} {z : List Int} (h : z.length = n) : parL n f z 0 = z := by
  unfold parL
  refine List.ext_getElem (by simp [h]) fun x h1 h2 => ?_
  simp [h2]
theorem parL_len (n : Nat) (f : Nat → Int) (z : List Int) (m : Nat) : (parL n f z m).length = n := by simp [parL]
theorem parL_get {n : Nat} {f : Nat → Int} {z : List Int} {m : Nat} (hm : m < n) : (parL n f z m).getD m 0 = z.getD m 0 := by
  unfold parL
  rw [List.getD_eq_getElem?_getD, List.getElem?_map, List.getElem?_range hm]
  simp
theorem parL_get2 {n : Nat} {f : Nat → Int} {z : List Int} {m i : Nat} (hm : i < n) (hi : i < m) : (parL n f z m).getD i 0 = f i := by
  unfold parL
  rw [List.getD_eq_getElem?_getD, List.getElem?_map, List.getElem?_range hm]
  simp [hi]
theorem parL_set {n : Nat} {f : Nat → Int} {z : List Int} {m : Nat} : (parL n f z m).set m (f m) = parL n f z (m + 1) := by
  simp only [parL]
  refine List.ext_getElem (by simp) fun x h1 h2 => ?_
  rw [List.getElem_set]
  simp only [List.getElem_map, List.getElem_range]
  by_cases e : m = x
  · subst e; rw [if_pos rfl, if_pos (by omega)]
  · rw [if_neg e]
    by_cases hx : x < m
    · rw [if_pos hx, if_pos (by omega)]
    · rw [if_neg hx, if_neg (by omega)]
theorem parL_all {n : Nat} {f : Nat → Int} {z : List Int} : parL n f z n = (List.range n).map f := by
  unfold parL
  refine List.map_congr_left fun x hx => ?_
  rw [if_pos (List.mem_range.1 hx)]
theorem any_or (f g : Nat → Bool) : ∀ l : List Nat, (l.any fun i => f i || g i) = (l.any f || l.any g)
  | [] => rfl
  | x :: l => by
    simp only [List.any_cons, any_or f g l]
    cases f x <;> cases g x <;> cases l.any f <;> rfl
theorem UP.effP {P : Nat → Prop} {W W' : World} {b : Nat} {c : Bool} (h : UP W b c) (k : Eff P W W') (hp : ¬ P b) : UP W' b c := by
  obtain ⟨m, hm⟩ := h
  exact ⟨m, k.blk hm hp⟩
theorem li_eff2 {P : Nat → Prop} {B : Nat} {W W' : World} {a : Option Addr} {c : Nat} {zs : List Int} (h : LI B W a c zs) (he : Eff P W W') (hp : ∀ x, a = some x → 0 < zs.length → ¬ P x.block) : LI B W' a c zs :=
  h.same fun x hx hn => he.block _ (by obtain ⟨cs, q, hc⟩ := h.wj.ty x hx hn; exact (Array.getElem?_eq_some_iff.1 hc).1) (hp x hx hn)

set_option maxHeartbeats 16000000 in
set_option maxRecDepth 100000 in
theorem one_is {w0 : World} {b : Nat} {c0 : Bool} (hU : UP w0 b c0) {vM vB vq : Value} {M : Mdl} {B : Blf} {q : Rw} (hM : MW b w0 vM M) (hB : BW b w0 vB B) (hq : QW b w0 vq q) (hlen : M.rows.length ≤ 1000) (z : Int) (hz : I64 z) :
    Calls Tryz.prog 24 #[.pointer (some ⟨b, 0, none⟩), vM, vB, vq, .int .i64 z] w0 fun e w' =>
      (∃ v, v ≠ 0 ∧ e = .returned (.tuple #[zBv, zTv, .int .i64 v]) ∧ UpdV M B q v ∧ UP w' b c0 ∧ But b w0 w') ∨
      (UpdV M B q 0 ∧ ∃ v1 v2 B' T' c', e = .returned (.tuple #[v1, v2, .int .i64 0]) ∧ OneIs M B q z c0 B' T' c' ∧ BL w0.heap.size w' v1 B' ∧ TL w0.heap.size w' v2 T' ∧ UP w' b c' ∧ But b w0 w') := by
  have hMm := hM.m
  have hBm := hB.m
  obtain ⟨aA, cA, aQ, cQ, aR, cR, rfl, _, _⟩ := hM.ex
  obtain ⟨aX, cX, aP, cP, rfl, hX, hP⟩ := hB.ex
  obtain ⟨aH, cH, rfl, hH⟩ := hq.ex
  have hqr := hq.r
  have HREF := Lib.hid (fun W (hb : Below w0.heap.size w0 W) => urefuses_is (hU.keep hb) (q := q) (hMm.keep hb) (hBm.keep hb) rfl (hH.mi.keep hb) hlen)
  obtain ⟨la, hla⟩ : ∃ n, M.A.length = n := ⟨_, rfl⟩
  obtain ⟨lq, hlq⟩ : ∃ n, M.Q.length = n := ⟨_, rfl⟩
  obtain ⟨lr, hlr⟩ : ∃ n, M.rows.length = n := ⟨_, rfl⟩
  obtain ⟨lx, hlx⟩ : ∃ n, B.X.length = n := ⟨_, rfl⟩
  obtain ⟨lp, hlp⟩ : ∃ n, B.P.length = n := ⟨_, rfl⟩
  obtain ⟨lh, hlh⟩ : ∃ n, q.h.length = n := ⟨_, rfl⟩
  obtain ⟨fl, hfl⟩ : ∃ f, B.flag = f := ⟨_, rfl⟩
  rw [hla, hlq, hlr, hlx, hlp, hlh, hfl] at HREF
  rw [hla, hlq, hlr, hlx, hlp, hlh, hfl]
  have HL := Lib.hid (⟨hlx, hlp, hlh, hfl⟩ : B.X.length = lx ∧ B.P.length = lp ∧ q.h.length = lh ∧ B.flag = fl)
  have hbt := hB.t
  clear hM hB hq hMm hBm hla hlq hlr hlx hlp hlh hfl
  go_enter Tryz.func24, Tryz.ntmps24
  go_wp2_with fail
  have hBB := below_allocs w0 [Obj.cells #[.int .i64 M.n, .slice aA la cA, .slice aQ lq cQ, .int .i64 M.tick, .int .i64 M.gate, .int .i64 M.rmin, .slice aR lr cR] 25, Obj.cells #[.int .i64 B.t, .slice aX lx cX, .slice aP lp cP, .bool fl, .int .i64 B.pass, .int .i64 B.fail] 27, Obj.cells #[.int .i64 q.s, .slice aH lh cH, .int .i64 q.r] 29, Obj.cells #[.int .i64 0, .slice none 0 0, .slice none 0 0, .bool false, .int .i64 0, .int .i64 0] 27, Obj.cells #[.bool false, .slice none 0 0, .slice none 0 0, .int .i64 0, .int .i64 0] 46]
  have g0 := blk_at w0 [Obj.cells #[.int .i64 M.n, .slice aA la cA, .slice aQ lq cQ, .int .i64 M.tick, .int .i64 M.gate, .int .i64 M.rmin, .slice aR lr cR] 25, Obj.cells #[.int .i64 B.t, .slice aX lx cX, .slice aP lp cP, .bool fl, .int .i64 B.pass, .int .i64 B.fail] 27, Obj.cells #[.int .i64 q.s, .slice aH lh cH, .int .i64 q.r] 29, Obj.cells #[.int .i64 0, .slice none 0 0, .slice none 0 0, .bool false, .int .i64 0, .int .i64 0] 27, Obj.cells #[.bool false, .slice none 0 0, .slice none 0 0, .int .i64 0, .int .i64 0] 46] 0 _ _ rfl
  have g1 := blk_at w0 [Obj.cells #[.int .i64 M.n, .slice aA la cA, .slice aQ lq cQ, .int .i64 M.tick, .int .i64 M.gate, .int .i64 M.rmin, .slice aR lr cR] 25, Obj.cells #[.int .i64 B.t, .slice aX lx cX, .slice aP lp cP, .bool fl, .int .i64 B.pass, .int .i64 B.fail] 27, Obj.cells #[.int .i64 q.s, .slice aH lh cH, .int .i64 q.r] 29, Obj.cells #[.int .i64 0, .slice none 0 0, .slice none 0 0, .bool false, .int .i64 0, .int .i64 0] 27, Obj.cells #[.bool false, .slice none 0 0, .slice none 0 0, .int .i64 0, .int .i64 0] 46] 1 _ _ rfl
  have g2 := blk_at w0 [Obj.cells #[.int .i64 M.n, .slice aA la cA, .slice aQ lq cQ, .int .i64 M.tick, .int .i64 M.gate, .int .i64 M.rmin, .slice aR lr cR] 25, Obj.cells #[.int .i64 B.t, .slice aX lx cX, .slice aP lp cP, .bool fl, .int .i64 B.pass, .int .i64 B.fail] 27, Obj.cells #[.int .i64 q.s, .slice aH lh cH, .int .i64 q.r] 29, Obj.cells #[.int .i64 0, .slice none 0 0, .slice none 0 0, .bool false, .int .i64 0, .int .i64 0] 27, Obj.cells #[.bool false, .slice none 0 0, .slice none 0 0, .int .i64 0, .int .i64 0] 46] 2 _ _ rfl
  have g3 := blk_at w0 [Obj.cells #[.int .i64 M.n, .slice aA la cA, .slice aQ lq cQ, .int .i64 M.tick, .int .i64 M.gate, .int .i64 M.rmin, .slice aR lr cR] 25, Obj.cells #[.int .i64 B.t, .slice aX lx cX, .slice aP lp cP, .bool fl, .int .i64 B.pass, .int .i64 B.fail] 27, Obj.cells #[.int .i64 q.s, .slice aH lh cH, .int .i64 q.r] 29, Obj.cells #[.int .i64 0, .slice none 0 0, .slice none 0 0, .bool false, .int .i64 0, .int .i64 0] 27, Obj.cells #[.bool false, .slice none 0 0, .slice none 0 0, .int .i64 0, .int .i64 0] 46] 3 _ _ rfl
  have g4 := blk_at w0 [Obj.cells #[.int .i64 M.n, .slice aA la cA, .slice aQ lq cQ, .int .i64 M.tick, .int .i64 M.gate, .int .i64 M.rmin, .slice aR lr cR] 25, Obj.cells #[.int .i64 B.t, .slice aX lx cX, .slice aP lp cP, .bool fl, .int .i64 B.pass, .int .i64 B.fail] 27, Obj.cells #[.int .i64 q.s, .slice aH lh cH, .int .i64 q.r] 29, Obj.cells #[.int .i64 0, .slice none 0 0, .slice none 0 0, .bool false, .int .i64 0, .int .i64 0] 27, Obj.cells #[.bool false, .slice none 0 0, .slice none 0 0, .int .i64 0, .int .i64 0] 46] 4 _ _ rfl
  simp only [List.foldl_cons, List.foldl_nil, Nat.add_zero, List.length_cons, List.length_nil, Nat.zero_add, Nat.reduceAdd] at hBB g0 g1 g2 g3 g4
  obtain ⟨hBB, hs1⟩ := hBB
  obtain ⟨w1, hw1⟩ : ∃ w1 : World, (((((w0.alloc (Obj.cells #[.int .i64 M.n, .slice aA la cA, .slice aQ lq cQ, .int .i64 M.tick, .int .i64 M.gate, .int .i64 M.rmin, .slice aR lr cR] 25)).alloc (Obj.cells #[.int .i64 B.t, .slice aX lx cX, .slice aP lp cP, .bool fl, .int .i64 B.pass, .int .i64 B.fail] 27)).alloc (Obj.cells #[.int .i64 q.s, .slice aH lh cH, .int .i64 q.r] 29)).alloc (Obj.cells #[.int .i64 0, .slice none 0 0, .slice none 0 0, .bool false, .int .i64 0, .int .i64 0] 27)).alloc (Obj.cells #[.bool false, .slice none 0 0, .slice none 0 0, .int .i64 0, .int .i64 0] 46)) = w1 := ⟨_, rfl⟩
  rw [hw1] at hBB g0 g1 g2 g3 g4 hs1
  rw [hw1]
  have hg : OneS w0 b #[.int .i64 M.n, .slice aA la cA, .slice aQ lq cQ, .int .i64 M.tick, .int .i64 M.gate, .int .i64 M.rmin, .slice aR lr cR] #[.int .i64 B.t, .slice aX lx cX, .slice aP lp cP, .bool fl, .int .i64 B.pass, .int .i64 B.fail] #[.int .i64 q.s, .slice aH lh cH, .int .i64 q.r] w1 := ⟨g0, g1, g2, g3, g4, Eff.of hBB, by omega, hU.lt⟩
  clear hw1
  go_wp2_with first
    | ((with_reducible refine at_dst (N := 27) rfl ?_); refine ev_load rfl 25 _ rfl g0 0 rfl [.int .i64 M.n, .slice aA la cA, .slice aQ lq cQ, .int .i64 M.tick, .int .i64 M.gate, .int .i64 M.rmin, .slice aR lr cR] rfl Tryz.underlying25 rfl (by kernel_rfl) ?_)
    | ((with_reducible refine at_dst (N := 28) rfl ?_); refine ev_load rfl 27 _ rfl g1 0 rfl [.int .i64 B.t, .slice aX lx cX, .slice aP lp cP, .bool fl, .int .i64 B.pass, .int .i64 B.fail] rfl Tryz.underlying27 rfl (by kernel_rfl) ?_)
    | ((with_reducible refine at_dst (N := 29) rfl ?_); refine ev_load rfl 29 _ rfl g2 0 rfl [.int .i64 q.s, .slice aH lh cH, .int .i64 q.r] rfl Tryz.underlying29 rfl (by kernel_rfl) ?_)
  refine (HREF.out _ hBB).mono ?_
  rintro e w2 ⟨⟨v, rfl, hV⟩, hK⟩
  replace hg := hg.new hK
  have hU2 := (hU.keep hBB).keep hK
  clear hK g0 g1 g2 g3 g4 hs1 hBB HREF
  by_cases hv0 : v = 0
  case neg =>
    have HV := Lib.hid hV
    have HV0 := Lib.hid hv0
    have hvb : (v == 0) = false := by simp [hv0]
    have hr1 := hg.r1
    have hr2 := hg.r2
    have HZ := hg.hb
    clear hV
    go_wp2_with first
      | ((with_reducible refine at_st (p := 10) (q := 33) rfl ?_); refine ev_store rfl 27 _ _ rfl rfl hr1 0 rfl rfl [.int .i64 0, .slice none 0 0, .slice none 0 0, .bool false, .int .i64 0, .int .i64 0] rfl (by kernel_rfl) rfl rfl #[.int .i64 0, .slice none 0 0, .slice none 0 0, .bool false, .int .i64 0, .int .i64 0] rfl ?_; intro w3 g3 ef3 hz3; have hr2' := ef3.blk hr2 (by omega))
      | ((with_reducible refine at_st (p := 11) (q := 34) rfl ?_); refine ev_store rfl 46 _ _ rfl rfl hr2' 0 rfl rfl [.bool false, .slice none 0 0, .slice none 0 0, .int .i64 0, .int .i64 0] rfl (by kernel_rfl) rfl rfl #[.bool false, .slice none 0 0, .slice none 0 0, .int .i64 0, .int .i64 0] rfl ?_; intro w4 g4 ef4 hz4; have g3' := ef4.blk g3 (by omega))
    refine bodyPost_ret (results_cct (g := w0.heap.size + 3) (cs := #[.int .i64 0, .slice none 0 0, .slice none 0 0, .bool false, .int .i64 0, .int .i64 0]) (k := w0.heap.size + 4) (ds := #[.bool false, .slice none 0 0, .slice none 0 0, .int .i64 0, .int .i64 0]) rfl _ _ rfl g3' Tryz.underlying27 rfl (by kernel_rfl) rfl g4 Tryz.underlying46 rfl (by kernel_rfl)) rfl ?_
    refine .inl ⟨v, HV0.out, rfl, HV.out, up_eff (up_eff hU2 ef3 (by omega)) ef4 (by omega), ?_⟩
    exact but_eff2 (but_eff2 (tot_but hg.tot) ef3 (by omega)) ef4 (by omega)
  subst hv0
  obtain ⟨hfit, hseen⟩ := hV.zero
  have HV := Lib.hid hV
  obtain ⟨hokM, hokL, hokT, hokF⟩ := fitsV_iff.1 hfit
  obtain ⟨n, hn⟩ : ∃ n : Nat, M.n = n := ⟨M.n.toNat, by have := hokM.n; omega⟩
  have hn1 : 1 ≤ n := by have := hokM.n; omega
  have hn2 : n ≤ 6 := by have := hokM.n; omega
  have hlxn : lx = n := by have := hokL.x; rw [HL.out.1, hn] at this; omega
  have hlpn : lp = n * n := by have := hokL.p; rw [HL.out.2.1, hn] at this; exact_mod_cast this
  have hlhn : lh = n := by have := hseen.n; rw [HL.out.2.2.1, hn] at this; omega
  have hfail := hokT.f
  have hpass := hokT.p
  have HLN := Lib.hid (⟨hlxn, hlpn, hlhn⟩ : lx = n ∧ lp = n * n ∧ lh = n)
  have HN := Lib.hid hn
  have hlp36 : lp ≤ 100000 := by
    rw [hlpn]
    exact Nat.le_trans (Nat.mul_le_mul hn2 hn2) (by decide)
  have HCLH := Lib.hid (fun (W : World) (k : But b w0 W) => clone_is (hH.but k).mi (by rw [HL.out.2.2.1, hlhn]; omega))
  have HCLP := Lib.hid (fun (W : World) (k : But b w0 W) => clone_is (hP.but k).mi (by rw [HL.out.2.1]; exact hlp36))
  rw [HL.out.2.2.1] at HCLH
  rw [HL.out.2.1] at HCLP
  have hqr1 := hseen.r
  rw [hn] at hg
  clear hV hfit hokM hokL hokT hokF hseen hlxn hlpn hlhn hn hlen
  have ht2 := hg.tot.size
  go_wp2_with fail
  refine region_fp [some 36, some 37, some 38, some 15, some 14, none] [3, 5] [some (Value.pointer (some ⟨w0.heap.size, 0, none⟩)), some (Value.int .i64 n), some (Value.agg #[Value.int .i64 B.t, Value.slice aX lx cX, Value.slice aP lp cP, Value.bool fl, Value.int .i64 B.pass, Value.int .i64 B.fail]), none, some (Value.int .i64 n), none]
    (fun i v W => match i with | 3 => ∃ e, v = Value.pointer (some ⟨e, 0, none⟩) | _ => True) (fun W W' => True) (fun L f W => Eff (fun q => w2.heap.size ≤ q) w2 W ∧ (∀ e, f 3 = Value.pointer (some ⟨e, 0, none⟩) → L 3 = true → w2.heap.size ≤ e ∧ (L 5 = false → Blk W e #[Value.int .i64 0, Value.slice none 0 0, Value.slice none 0 0, Value.bool false, Value.int .i64 0, Value.int .i64 0] 27) ∧ (L 5 = true → Blk W e #[Value.int .i64 B.t, Value.slice aX lx cX, Value.slice aP lp cP, Value.bool fl, Value.int .i64 B.pass, Value.int .i64 B.fail] 27)))
    (by kernel_rfl) (by kernel_rfl) (by kernel_rfl) (by kernel_rfl) (by kernel_rfl) (fun _ => trivial) (fun i v W W' h hb => by
      match i, h with
      | 3, h => exact h
      | 0, _ | 1, _ | 2, _ | 4, _ | 5, _ => trivial
      | (m + 6), _ => trivial) (fun L L' f f' W h hs => by have q1 := (h 3 (by decide)); have q2 := (h 5 (by decide)).1; (try dsimp only at hs ⊢); rw [← q1.1, ← q1.2, ← q2]; exact hs) ⟨Eff.of (upD (upR _)), fun e _ h => (Bool.false_ne_true h).elim⟩ ?_ ?_
  · intro i hi b' L f W hSW hL hdep hsh he hsv hsl hFF K hK1 hK2
    replace hi : i < 6 := hi
    have hcs : i = 0 ∨ i = 1 ∨ i = 2 ∨ i = 3 ∨ i = 4 ∨ i = 5 := by omega
    clear hi
    rcases hcs with rfl | rfl | rfl | rfl | rfl | rfl
    · refine wpOpS_go rfl rfl ?_
      have t6 : b'.tmps[6]?.getD undef = Value.pointer (some ⟨w0.heap.size, 0, none⟩) := he 6 (by kernel_rfl)
      have HK := Lib.hid hK1
      clear hK1 hK2 hdep hsh he hsv hsl hFF hL
      clear hSW
      go_simp
      exact HK.out rfl _ (fp_mk rfl rfl trivial)
    · refine wpOpS_go rfl rfl ?_
      have t36 : b'.tmps[36]?.getD undef = Value.pointer (some ⟨w0.heap.size, 0, none⟩) := hsv 0 36 _ (by kernel_rfl) (by kernel_rfl) rfl
      obtain ⟨s0, s1⟩ := hSW
      have c0' := (s0.blk hg.m (by have := hg.sz; omega)).cell
      have HK := Lib.hid hK1
      clear hK1 hK2 hdep hsh he hsv hsl hFF hL
      clear s0 s1
      go_simp
      exact HK.out rfl _ (fp_mk rfl rfl trivial)
    · refine wpOpS_go rfl rfl ?_
      have t7 : b'.tmps[7]?.getD undef = Value.pointer (some ⟨w0.heap.size + 1, 0, none⟩) := he 7 (by kernel_rfl)
      obtain ⟨s0, s1⟩ := hSW
      have gb := s0.blk hg.bl (by have := hg.sz; omega)
      have HK := Lib.hid hK1
      clear hK1 hK2 hdep hsh he hsv hsl hFF hL
      clear s0 s1
      refine op_load 27 _ rfl gb 0 (eval_tmp t7) [Value.int .i64 B.t, Value.slice aX lx cX, Value.slice aP lp cP, Value.bool fl, Value.int .i64 B.pass, Value.int .i64 B.fail] rfl Tryz.underlying27 rfl (by kernel_rfl) ?_
      exact HK.out rfl _ (fp_mk rfl rfl trivial)
    · refine wpOpS_go rfl rfl ?_
      obtain ⟨s0, s1⟩ := hSW
      have HK := Lib.hid hK2
      have h5 := hsh 5 (by kernel_rfl)
      have hws := s0.size
      clear hK1 hK2 hdep hsh he hsv hsl hFF hL
      refine op_new (cs := #[Value.int .i64 0, Value.slice none 0 0, Value.slice none 0 0, Value.bool false, Value.int .i64 0, Value.int .i64 0]) (t := 27) (by go_simp) ?_
      intro w6 hb hB hz
      exact HK.out _ _ (fp_x rfl ⟨_, rfl⟩) trivial ⟨s0.trans (Eff.of (P := fun _ => False) hB) (fun _ _ h => h.elim), fun e h1 _ => by
        rw [updF_same] at h1
        cases h1
        exact ⟨hws, fun _ => hb, fun h => absurd h (by show ¬ L 5 = true; rw [h5]; decide)⟩⟩
    · refine wpOpS_go rfl rfl ?_
      have t37 : b'.tmps[37]?.getD undef = Value.int .i64 n := hsv 1 37 _ (by kernel_rfl) (by kernel_rfl) rfl
      have HK := Lib.hid hK1
      clear hK1 hK2 hdep hsh he hsv hsl hFF hL
      clear hSW
      go_simp
      exact HK.out rfl _ (fp_mk rfl rfl trivial)
    · refine wpOpS_go rfl rfl ?_
      have t38 : b'.tmps[38]?.getD undef = Value.agg #[Value.int .i64 B.t, Value.slice aX lx cX, Value.slice aP lp cP, Value.bool fl, Value.int .i64 B.pass, Value.int .i64 B.fail] := hsv 2 38 _ (by kernel_rfl) (by kernel_rfl) rfl
      obtain ⟨t15, hxa⟩ := hsl 3 15 (by kernel_rfl) (by kernel_rfl)
      obtain ⟨e1, e2⟩ := hxa
      rw [e2] at t15
      obtain ⟨s0, s1⟩ := hSW
      have HK := Lib.hid hK2
      have l3 := hdep 3 (by kernel_rfl)
      obtain ⟨z1, z2, z3⟩ := s1 e1 e2 l3
      have hmb := z2 hL
      clear hK1 hK2 hdep hsh he hsv hsl hFF z2 z3
      refine op_store 27 _ _ rfl rfl hmb 0 (eval_tmp t15) (eval_tmp t38) ([Value.int .i64 B.t, Value.slice aX lx cX, Value.slice aP lp cP, Value.bool fl, Value.int .i64 B.pass, Value.int .i64 B.fail] : List Value) (by rfl) (by kernel_rfl) (by rfl) (by rfl) #[Value.int .i64 B.t, Value.slice aX lx cX, Value.slice aP lp cP, Value.bool fl, Value.int .i64 B.pass, Value.int .i64 B.fail] rfl ?_
      intro w6 g6 ef hz
      exact HK.out undef _ (fp_x (v := undef) rfl trivial) trivial ⟨s0.trans ef (fun k hk e => by omega), fun e h1 _ => by
        rw [updF_ne _ _ (by decide), e2] at h1
        cases h1
        exact ⟨z1, fun h => absurd h (by rw [updF_same]; decide), fun _ => g6⟩⟩
  · intro f W hf L hL hS
    obtain ⟨s0, s1⟩ := (hS : _ ∧ _)
    obtain ⟨ob, e3⟩ := (hf 3 (by decide)).2
    obtain ⟨hob, _, z3⟩ := s1 ob e3 (hL 3 (by decide))
    replace z3 := z3 (hL 5 (by decide))
    have e0 : f 0 = Value.pointer (some ⟨w0.heap.size, 0, none⟩) := (hf 0 (by decide)).1 _ rfl
    have e1 : f 1 = Value.int .i64 n := (hf 1 (by decide)).1 _ rfl
    have e2 : f 2 = Value.agg #[Value.int .i64 B.t, Value.slice aX lx cX, Value.slice aP lp cP, Value.bool fl, Value.int .i64 B.pass, Value.int .i64 B.fail] := (hf 2 (by decide)).1 _ rfl
    have e4 : f 4 = Value.int .i64 n := (hf 4 (by decide)).1 _ rfl
    clear hf hL s1
    simp only [puts2, Act.put, e0, e1, e2, e3, e4]
    try simp only [List.setIfInBounds_toArray, List.set_cons_zero, List.set_cons_succ]
    clear e0 e1 e2 e3 e4
    have hg2s := hg.sz
    replace hg := hg.go (s0.mono (fun q _ h => by right; omega))
    have hU3 := hU2.effP s0 (by have := hg.hb; omega)
    obtain ⟨w3, rfl⟩ : ∃ w3 : World, w3 = W := ⟨_, rfl⟩
    have hob5 : w0.heap.size + 5 ≤ ob := by omega
    have hobl := z3.lt
    have HCX := Lib.hid (fun (W : World) (e : Eff (fun k => k = b ∨ w0.heap.size + 5 ≤ k) w3 W) => by
      have := clone_is (hX.but (tot_but (hg.go e).tot)).mi (by rw [HL.out.1, HLN.out.1]; omega)
      rw [HL.out.1] at this
      exact this)
    have HCP := Lib.hid (fun (W : World) (e : Eff (fun k => k = b ∨ w0.heap.size + 5 ≤ k) w3 W) => by
      have := clone_is (hP.but (tot_but (hg.go e).tot)).mi (by rw [HL.out.2.1]; exact hlp36)
      rw [HL.out.2.1] at this
      exact this)
    clear s0 hob hU2 ht2
    go_wp2_with fail
    refine region_fp [some 39, some 40, some 41, some 42, some 43, some 44, some 45, none, some 46, none] [2, 5, 7, 9] [some (Value.pointer (some ⟨w0.heap.size + 1, 1, none⟩)), some (Value.slice aX lx cX), none, some (Value.pointer (some ⟨w0.heap.size + 1, 2, none⟩)), some (Value.slice aP lp cP), none, some (Value.pointer (some ⟨ob, 1, none⟩)), none, some (Value.pointer (some ⟨ob, 2, none⟩)), none]
      (fun i v W => match i with | 2 => ∃ y c, v = Value.slice y lx c ∧ LI w0.heap.size W y c B.X | 5 => ∃ y c, v = Value.slice y lp c ∧ LI w0.heap.size W y c B.P | _ => True) (fun W W' => ∀ k, Ty W k 3 → W'.heap[k]? = W.heap[k]?) (fun L f W => Eff (fun q => q = ob ∨ w3.heap.size ≤ q) w3 W ∧ Blk W ob #[Value.int .i64 B.t, cond (L 7) (f 2) (Value.slice aX lx cX), cond (L 9) (f 5) (Value.slice aP lp cP), Value.bool fl, Value.int .i64 B.pass, Value.int .i64 B.fail] 27)
      (by kernel_rfl) (by kernel_rfl) (by kernel_rfl) (by kernel_rfl) (by kernel_rfl) (fun _ _ _ => rfl) (fun i v W W' h hb => by
        match i, h with
        | 2, ⟨y, c, h1, h2⟩ => exact ⟨y, c, h1, h2.same fun x hx hn => hb _ (h2.wj.ty x hx hn)⟩
        | 5, ⟨y, c, h1, h2⟩ => exact ⟨y, c, h1, h2.same fun x hx hn => hb _ (h2.wj.ty x hx hn)⟩
        | 0, _ | 1, _ | 3, _ | 4, _ | 6, _ | 7, _ | 8, _ | 9, _ => trivial
        | (m + 10), _ => trivial) (fun L L' f f' W h hs => by have q2 := (h 2 (by decide)).2; have q5 := (h 5 (by decide)).2; have q7 := (h 7 (by decide)).1; have q9 := (h 9 (by decide)).1; (try dsimp only at hs ⊢); rw [← q2, ← q5, ← q7, ← q9]; exact hs) ⟨Eff.of (upD (upR _)), z3.drew⟩ ?_ ?_
    · intro i hi b' L f W hSW hL hdep hsh he hsv hsl hFF K hK1 hK2
      replace hi : i < 10 := hi
      have hcs : i = 0 ∨ i = 1 ∨ i = 2 ∨ i = 3 ∨ i = 4 ∨ i = 5 ∨ i = 6 ∨ i = 7 ∨ i = 8 ∨ i = 9 := by omega
      clear hi
      rcases hcs with rfl | rfl | rfl | rfl | rfl | rfl | rfl | rfl | rfl | rfl
      · refine wpOpS_go rfl rfl ?_
        have t7 : b'.tmps[7]?.getD undef = Value.pointer (some ⟨w0.heap.size + 1, 0, none⟩) := he 7 (by kernel_rfl)
        have HK := Lib.hid hK1
        clear hK1 hK2 hdep hsh he hsv hsl hFF hL
        clear hSW
        go_simp
        exact HK.out rfl _ (fp_mk rfl rfl trivial)
      · refine wpOpS_go rfl rfl ?_
        have t39 : b'.tmps[39]?.getD undef = Value.pointer (some ⟨w0.heap.size + 1, 1, none⟩) := hsv 0 39 _ (by kernel_rfl) (by kernel_rfl) rfl
        obtain ⟨s0, s1⟩ := hSW
        have c0' := (s0.blk hg.bl (by have := hg.sz; omega)).cell
        have HK := Lib.hid hK1
        clear hK1 hK2 hdep hsh he hsv hsl hFF hL
        clear s0 s1
        go_simp
        exact HK.out rfl _ (fp_mk rfl rfl trivial)
      · refine wpOpS_go rfl rfl ?_
        have t40 : b'.tmps[40]?.getD undef = Value.slice aX lx cX := hsv 1 40 _ (by kernel_rfl) (by kernel_rfl) rfl
        obtain ⟨s0, s1⟩ := hSW
        have HK := Lib.hid hK2
        have hst := hsh 7 (by kernel_rfl)
        have hbel : Eff (fun k => k = b ∨ w0.heap.size + 5 ≤ k) w3 W := s0.mono (fun q _ h => by have := hg.sz; right; omega)
        have hA := HCX.out W hbel
        have hws := s0.size
        clear hK1 hK2 hdep hsh he hsv hsl hFF
        go_simp
        refine hA.mono ?_
        rintro e w6 ⟨y, c, rfl, hli, hB⟩
        exact HK.out _ _ (fp_x rfl ⟨y, c, rfl, hli.mono (by have := hg.sz; omega)⟩) (fun k hk => hB.block k hk.lt) ⟨s0.trans (Eff.of (P := fun _ => False) hB) (fun _ _ h => h.elim), by have := s1.keep hB; rw [show L 7 = false from hst] at this; rw [show updF L 2 true 7 = false from hst]; exact this⟩
      · refine wpOpS_go rfl rfl ?_
        have t7 : b'.tmps[7]?.getD undef = Value.pointer (some ⟨w0.heap.size + 1, 0, none⟩) := he 7 (by kernel_rfl)
        have HK := Lib.hid hK1
        clear hK1 hK2 hdep hsh he hsv hsl hFF hL
        clear hSW
        go_simp
        exact HK.out rfl _ (fp_mk rfl rfl trivial)
      · refine wpOpS_go rfl rfl ?_
        have t42 : b'.tmps[42]?.getD undef = Value.pointer (some ⟨w0.heap.size + 1, 2, none⟩) := hsv 3 42 _ (by kernel_rfl) (by kernel_rfl) rfl
        obtain ⟨s0, s1⟩ := hSW
        have c0' := (s0.blk hg.bl (by have := hg.sz; omega)).cell
        have HK := Lib.hid hK1
        clear hK1 hK2 hdep hsh he hsv hsl hFF hL
        clear s0 s1
        go_simp
        exact HK.out rfl _ (fp_mk rfl rfl trivial)
      · refine wpOpS_go rfl rfl ?_
        have t43 : b'.tmps[43]?.getD undef = Value.slice aP lp cP := hsv 4 43 _ (by kernel_rfl) (by kernel_rfl) rfl
        obtain ⟨s0, s1⟩ := hSW
        have HK := Lib.hid hK2
        have hst := hsh 9 (by kernel_rfl)
        have hbel : Eff (fun k => k = b ∨ w0.heap.size + 5 ≤ k) w3 W := s0.mono (fun q _ h => by have := hg.sz; right; omega)
        have hA := HCP.out W hbel
        have hws := s0.size
        clear hK1 hK2 hdep hsh he hsv hsl hFF
        go_simp
        refine hA.mono ?_
        rintro e w6 ⟨y, c, rfl, hli, hB⟩
        exact HK.out _ _ (fp_x rfl ⟨y, c, rfl, hli.mono (by have := hg.sz; omega)⟩) (fun k hk => hB.block k hk.lt) ⟨s0.trans (Eff.of (P := fun _ => False) hB) (fun _ _ h => h.elim), by have := s1.keep hB; rw [show L 9 = false from hst] at this; rw [show updF L 5 true 9 = false from hst]; exact this⟩
      · refine wpOpS_go rfl rfl ?_
        have t15 : b'.tmps[15]?.getD undef = Value.pointer (some ⟨ob, 0, none⟩) := he 15 (by kernel_rfl)
        have HK := Lib.hid hK1
        clear hK1 hK2 hdep hsh he hsv hsl hFF hL
        clear hSW
        go_simp
        exact HK.out rfl _ (fp_mk rfl rfl trivial)
      · refine wpOpS_go rfl rfl ?_
        have t45 : b'.tmps[45]?.getD undef = Value.pointer (some ⟨ob, 1, none⟩) := hsv 6 45 _ (by kernel_rfl) (by kernel_rfl) rfl
        obtain ⟨t41, hx⟩ := hsl 2 41 (by kernel_rfl) (by kernel_rfl)
        obtain ⟨y, c, e1, hli⟩ := hx
        rw [e1] at t41
        obtain ⟨s0, s1⟩ := hSW
        rw [hL] at s1
        have HK := Lib.hid hK2
        clear hK1 hK2 hdep hsh he hsv hsl hFF
        refine op_store 22 _ _ rfl rfl s1 1 (eval_tmp t45) (eval_tmp t41) [f 2] (by rw [e1]; rfl) (by kernel_rfl) (by rw [e1]; rfl) (by rfl) #[Value.int .i64 B.t, f 2, cond (L 9) (f 5) (Value.slice aP lp cP), Value.bool fl, Value.int .i64 B.pass, Value.int .i64 B.fail] rfl ?_
        intro w6 g6 ef hz
        exact HK.out undef _ (fp_x (v := undef) rfl trivial) (fun k hk => ef.block k hk.lt (fun e => by subst e; exact absurd (hk.inj s1.ty) (by decide))) ⟨s0.trans ef (fun _ _ h => .inl h), by rw [updF_same, updF_ne _ _ (by decide), updF_ne _ _ (by decide), updF_ne _ _ (by decide)]; exact g6⟩
      · refine wpOpS_go rfl rfl ?_
        have t15 : b'.tmps[15]?.getD undef = Value.pointer (some ⟨ob, 0, none⟩) := he 15 (by kernel_rfl)
        have HK := Lib.hid hK1
        clear hK1 hK2 hdep hsh he hsv hsl hFF hL
        clear hSW
        go_simp
        exact HK.out rfl _ (fp_mk rfl rfl trivial)
      · refine wpOpS_go rfl rfl ?_
        have t46 : b'.tmps[46]?.getD undef = Value.pointer (some ⟨ob, 2, none⟩) := hsv 8 46 _ (by kernel_rfl) (by kernel_rfl) rfl
        obtain ⟨t44, hx⟩ := hsl 5 44 (by kernel_rfl) (by kernel_rfl)
        obtain ⟨y, c, e1, hli⟩ := hx
        rw [e1] at t44
        obtain ⟨s0, s1⟩ := hSW
        rw [hL] at s1
        have HK := Lib.hid hK2
        clear hK1 hK2 hdep hsh he hsv hsl hFF
        refine op_store 22 _ _ rfl rfl s1 2 (eval_tmp t46) (eval_tmp t44) [f 5] (by rw [e1]; rfl) (by kernel_rfl) (by rw [e1]; rfl) (by rfl) #[Value.int .i64 B.t, cond (L 7) (f 2) (Value.slice aX lx cX), f 5, Value.bool fl, Value.int .i64 B.pass, Value.int .i64 B.fail] rfl ?_
        intro w6 g6 ef hz
        exact HK.out undef _ (fp_x (v := undef) rfl trivial) (fun k hk => ef.block k hk.lt (fun e => by subst e; exact absurd (hk.inj s1.ty) (by decide))) ⟨s0.trans ef (fun _ _ h => .inl h), by rw [updF_same, updF_ne _ _ (by decide), updF_ne _ _ (by decide), updF_ne _ _ (by decide)]; exact g6⟩
    · intro f W hf L hL hS
      obtain ⟨s0, s1⟩ := (hS : _ ∧ _)
      rw [hL 7 (by decide), hL 9 (by decide)] at s1
      obtain ⟨y, c, e2, hliX⟩ := (hf 2 (by decide)).2
      obtain ⟨yp, cp, e5, hliP⟩ := (hf 5 (by decide)).2
      rw [e2, e5] at s1
      have e0 : f 0 = Value.pointer (some ⟨w0.heap.size + 1, 1, none⟩) := (hf 0 (by decide)).1 _ rfl
      have e1 : f 1 = Value.slice aX lx cX := (hf 1 (by decide)).1 _ rfl
      have e3 : f 3 = Value.pointer (some ⟨w0.heap.size + 1, 2, none⟩) := (hf 3 (by decide)).1 _ rfl
      have e4 : f 4 = Value.slice aP lp cP := (hf 4 (by decide)).1 _ rfl
      have e6 : f 6 = Value.pointer (some ⟨ob, 1, none⟩) := (hf 6 (by decide)).1 _ rfl
      have e8 : f 8 = Value.pointer (some ⟨ob, 2, none⟩) := (hf 8 (by decide)).1 _ rfl
      clear hf hL
      simp only [puts2, Act.put, e0, e1, e2, e3, e4, e5, e6, e8]
      try simp only [List.setIfInBounds_toArray, List.set_cons_zero, List.set_cons_succ]
      clear e0 e1 e2 e3 e4 e5 e6 e8
      have hs3 := hg.sz
      replace hg := hg.go (s0.mono (fun q _ h => by right; omega))
      have hU5 := hU3.effP s0 (by have := hg.hb; omega)
      obtain ⟨w5, rfl⟩ : ∃ w5 : World, w5 = W := ⟨_, rfl⟩
      obtain ⟨y, rfl⟩ : ∃ y', y = some y' := by obtain ⟨x, hx, _⟩ := hliX.mi.cell 0 (by rw [HL.out.1, HLN.out.1]; omega); exact ⟨x, hx⟩
      replace s1 : Blk w5 ob #[Value.int .i64 B.t, Value.slice (some y) lx c, Value.slice yp lp cp, Value.bool fl, Value.int .i64 B.pass, Value.int .i64 B.fail] 27 := s1
      have HYL := Lib.hid (show y.block < w5.heap.size by obtain ⟨cs, q', hc⟩ := hliX.wj.ty y rfl (by rw [HL.out.1, HLN.out.1]; omega); exact (Array.getElem?_eq_some_iff.1 hc).1)
      have hbb := hg.hb
      have okP : okMt ⟨(n : Int), (n : Int), B.P⟩ := ⟨⟨by dsimp only; omega, by dsimp only; omega⟩, ⟨by dsimp only; omega, by dsimp only; omega⟩, by dsimp only; rw [HL.out.2.1, HLN.out.2.1, Int.natCast_mul]⟩
      have hAP := apply_is hU5 (m := ⟨(n : Int), (n : Int), B.P⟩) (hP.but (tot_but hg.tot)) okP (hH.but (tot_but hg.tot)) (by dsimp only; rw [HL.out.2.2.1, HLN.out.2.2])
      dsimp only at hAP
      rw [HL.out.2.1, HL.out.2.2.1, show ((n : Int)).toNat = n from Int.toNat_natCast n] at hAP
      obtain ⟨p, hp⟩ : ∃ p, applyM ⟨(n : Int), (n : Int), B.P⟩ q.h = p := ⟨_, rfl⟩
      have hpl : p.1.length = n := by rw [← hp]; simp [applyM]
      rw [hp] at hAP
      have HP := Lib.hid hp
      have HPL := Lib.hid hpl
      have HAP := Lib.hid hAP
      have cb := hg.bl.cell
      have cq := hg.q.cell
      clear hAP hp hpl s0 z3 hU3 okP HCX HCP
      go_wp2_with fail
      refine HAP.out.mono ?_
      rintro e w6 ⟨gp, kp, rfl, hlp6, hU6, hB6⟩
      have hobn : ob ≠ b := by omega
      replace z3 := hB6.blk s1 hobn
      replace hliX := hliX.but hU5 hB6
      replace hliP := hliP.but hU5 hB6
      have h56 := hg.sz
      replace hg := hg.but hB6
      have hpy : y.block < gp := by
        have h1 := hlp6.mi.lo _ rfl (by rw [HPL.out]; omega)
        have h2 : y.block < w5.heap.size := HYL.out
        exact Nat.lt_of_lt_of_le h2 h1
      replace hlp6 := hlp6.mono (B' := w0.heap.size) (by omega)
      have hDT := uDot_is hU6 (hH.but (tot_but hg.tot)) (hlp6.ml hU6) (by rw [HL.out.2.2.1, HLN.out.2.2, HPL.out])
      rw [HL.out.2.2.1, HPL.out] at hDT
      obtain ⟨v, hv⟩ : ∃ v, dotF q.h p.1 = v := ⟨_, rfl⟩
      have hv64 : I64 v.1 := by rw [← hv]; exact (dotF_fx _ _).i64
      rw [hv] at hDT
      have HVV := Lib.hid hv
      have HDT := Lib.hid hDT
      clear hDT hv cb cq HAP hB6 s1 hU5
      have cq := hg.q.cell
      go_wp2_with fail
      refine HDT.out.mono ?_
      rintro e w7 ⟨rfl, hU7, hB7⟩
      replace z3 := hB7.blk z3 hobn
      replace hliX := hliX.but hU6 hB7
      replace hliP := hliP.but hU6 hB7
      replace hlp6 := hlp6.but hU6 hB7
      replace hg := hg.but hB7
      clear HDT hB7 hU6 cq
      go_upto_if 68 with fail
      go_cut [18] (fun s18 wx => s18 = .int .i64 (v0F v.1) ∧ UP wx b (((c0 || p.2) || v.2) || decide (v.1 < 0)) ∧ But b w7 wx)
      case first =>
        by_cases hneg : v.1 < 0
        · have HV0 := Lib.hid (show v0F v.1 = 0 from if_pos hneg)
          have HD0 := Lib.hid (decide_eq_true hneg)
          go_wp2_with fail
          refine (uSet_is hU7 true).mono ?_
          rintro e w8 ⟨rfl, hU8, hB8⟩
          go_wp2_with fail
          go_meet
          case rel => exact ⟨by rw [HV0.out], by rw [HD0.out]; exact hU8, hB8⟩
        · have HV0 := Lib.hid (show v0F v.1 = v.1 from if_neg hneg)
          have HD0 := Lib.hid (decide_eq_false hneg)
          go_wp2_with fail
          go_meet
          case rel => exact ⟨by rw [HV0.out], by rw [HD0.out]; simpa using hU7, But.refl _ _⟩
      case rest =>
      obtain ⟨rfl, hU8, hB8⟩ := hcut
      replace z3 := hB8.blk z3 hobn
      replace hliX := hliX.but hU7 hB8
      replace hliP := hliP.but hU7 hB8
      replace hlp6 := hlp6.but hU7 hB8
      replace hg := hg.but hB8
      clear hB8 hU7
      obtain ⟨w8, rfl⟩ : ∃ w8 : World, w8 = wc := ⟨_, rfl⟩
      have hbb8 := hg.hb
      have hs8 := hg.sz
      -- s
      have hA1 := upA (upR w8) (Obj.cells #[Value.int .i64 (v0F v.1), .int .i64 q.r] 3)
      have hAD := uAdd_is (hU8.keep hA1) (ml_new (b := b) (zs := [v0F v.1, q.r]) (Blk.new w8 #[Value.int .i64 (v0F v.1), .int .i64 q.r] 3) (by omega) (two_i64 (v0F_64 hv64) hqr) (by simp))
      simp only [List.length_cons, List.length_nil, Nat.zero_add, Nat.reduceAdd] at hAD
      obtain ⟨s, hs⟩ : ∃ s, plusL [v0F v.1, q.r] = s := ⟨_, rfl⟩
      have hs64 : I64 s.1 := by rw [← hs]; exact (plusL_fx _).i64
      rw [hs] at hAD
      have HS := Lib.hid hs
      have HAD := Lib.hid hAD
      clear hs hAD
      have cq := hg.q.cell
      go_wp2_with fail
      refine HAD.out.mono ?_
      rintro e w9 ⟨rfl, hU9, hB9⟩
      replace hB9 := (But.of (b := b) hA1).trans hB9
      replace z3 := hB9.blk z3 hobn
      replace hliX := hliX.but hU8 hB9
      replace hliP := hliP.but hU8 hB9
      replace hlp6 := hlp6.but hU8 hB9
      replace hg := hg.but hB9
      clear hB9 hU8 hA1 HAD cq hs8
      -- e
      have hDT := uDot_is hU9 (hH.but (tot_but hg.tot)) (hX.but (tot_but hg.tot)) (by rw [HL.out.2.2.1, HLN.out.2.2, HL.out.1, HLN.out.1])
      rw [HL.out.2.2.1, HL.out.1] at hDT
      obtain ⟨ee, he⟩ : ∃ ee, dotF q.h B.X = ee := ⟨_, rfl⟩
      have he64 : I64 ee.1 := by rw [← he]; exact (dotF_fx _ _).i64
      rw [he] at hDT
      have HEE := Lib.hid he
      have HDT := Lib.hid hDT
      clear hDT he
      have cq := hg.q.cell
      have cb := hg.bl.cell
      go_wp2_with fail
      refine HDT.out.mono ?_
      rintro e w10 ⟨rfl, hU10, hB10⟩
      replace z3 := hB10.blk z3 hobn
      replace hliX := hliX.but hU9 hB10
      replace hliP := hliP.but hU9 hB10
      replace hlp6 := hlp6.but hU9 hB10
      replace hg := hg.but hB10
      clear HDT hB10 hU9 cq cb
      -- y
      have hSB := uSub_is hU10 z ee.1 hz he64
      obtain ⟨yv, hyv⟩ : ∃ yv, subF z ee.1 = yv := ⟨_, rfl⟩
      have hy64 : I64 yv.1 := by rw [← hyv]; exact (opF_fx _ _ _).i64
      rw [hyv] at hSB
      have HYV := Lib.hid hyv
      have HSB := Lib.hid hSB
      clear hyv hSB
      go_wp2_with fail
      refine HSB.out.mono ?_
      rintro e w9' ⟨rfl, hU, hB11⟩
      replace z3 := hB11.blk z3 hobn
      replace hliX := hliX.but hU10 hB11
      replace hliP := hliP.but hU10 hB11
      replace hlp6 := hlp6.but hU10 hB11
      replace hg := hg.but hB11
      clear HSB hB11 hU10
      obtain ⟨w9, rfl⟩ : ∃ w9 : World, w9 = w9' := ⟨_, rfl⟩
      obtain ⟨cf, hcf⟩ : ∃ cf, ((((((c0 || p.2) || v.2) || decide (v.1 < 0)) || s.2) || ee.2) || yv.2) = cf := ⟨_, rfl⟩
      rw [hcf] at hU
      have HCF := Lib.hid hcf
      clear hcf
      obtain ⟨yy, hyy⟩ : ∃ yy, timesL [yv.1, yv.1] = yy := ⟨_, rfl⟩
      obtain ⟨d, hd⟩ : ∃ d, divF yy.1 s.1 = d := ⟨_, rfl⟩
      have hyy64 : I64 yy.1 := by rw [← hyy]; exact (timesL_fx _).i64
      have HY := Lib.hid (fun (W : World) {c : Bool} (hu : UP W b c) {e : Nat} (hz : ML b W (some ⟨e, 0, none⟩) 2 [yv.1, yv.1]) => uMul_is hu hz)
      have HD := Lib.hid (fun (W : World) {c : Bool} (hu : UP W b c) => uDiv_is hu yy.1 s.1 hyy64 hs64)
      simp only [hyy, hd, List.length_cons, List.length_nil, Nat.zero_add, Nat.reduceAdd] at HY HD
      have HYY := Lib.hid hyy
      have HDD := Lib.hid hd
      clear hyy hd
      have hblt := hU.lt
      have dg : w9.cell? ⟨w0.heap.size, 4, none⟩ = some (.int .i64 M.gate) := hg.m.cell 4
      have ng : w0.heap.size ≠ b := by omega
      go_wp2_with fail
      refine region_fp [some 92, some 93, some 94, some 95, some 96, some 97, some 98, some 99, some 100, some 101, some 102] [4, 5, 7] [some (Value.pointer (some ⟨b, 0, none⟩)), some (Value.pointer (some ⟨b, 0, none⟩)), some (Value.int .i64 yv.1), some (Value.int .i64 yv.1), none, some (Value.int .i64 yy.1), some (Value.int .i64 s.1), some (Value.int .i64 d.1), some (Value.pointer (some ⟨w0.heap.size, 4, none⟩)), some (Value.int .i64 M.gate), some (Value.bool (decide (M.gate < d.1)))]
        (fun i v W => match i with | 4 => ∃ e, v = Value.slice (some ⟨e, 0, none⟩) 2 2 ∧ Blk W e #[.int .i64 yv.1, .int .i64 yv.1] 3 ∧ w9.heap.size ≤ e | _ => True) (fun W W' => ∀ k, w9.heap.size ≤ k → k < W.heap.size → W'.heap[k]? = W.heap[k]?) (fun L f W => (But b w9 W) ∧ (L 5 = false → UP W b cf) ∧ (L 5 = true → L 7 = false → UP W b (cf || yy.2)) ∧ (L 7 = true → UP W b ((cf || yy.2) || d.2)) ∧ (L 5 = true → L 4 = true) ∧ (L 7 = true → L 5 = true))
        (by kernel_rfl) (by kernel_rfl) (by kernel_rfl) (by kernel_rfl) (by kernel_rfl) (fun _ _ _ _ => rfl) (fun i v W W' h hb => by
          match i, h with
          | 4, ⟨e1, h1, h2, h3⟩ => exact ⟨e1, h1, (hb e1 h3 h2.lt).trans h2, h3⟩
          | 0, _ | 1, _ | 2, _ | 3, _ | 5, _ | 6, _ | 7, _ | 8, _ | 9, _ | 10, _ => trivial
          | (m + 11), _ => trivial) (fun L L' f f' W h hs => by have q4 := (h 4 (by decide)).1; have q5 := (h 5 (by decide)).1; have q7 := (h 7 (by decide)).1; (try dsimp only at hs ⊢); rw [← q4, ← q5, ← q7]; exact hs) ⟨(But.refl _ w9).drew, fun _ => hU.drew, fun h => (Bool.false_ne_true h).elim, fun h => (Bool.false_ne_true h).elim, fun h => (Bool.false_ne_true h).elim, fun h => (Bool.false_ne_true h).elim⟩ ?_ ?_
      · intro i hi b' L f W hSW hL hdep hsh he hsv hsl hFF K hK1 hK2
        replace hi : i < 11 := hi
        have hcs : i = 0 ∨ i = 1 ∨ i = 2 ∨ i = 3 ∨ i = 4 ∨ i = 5 ∨ i = 6 ∨ i = 7 ∨ i = 8 ∨ i = 9 ∨ i = 10 := by omega
        clear hi
        rcases hcs with rfl | rfl | rfl | rfl | rfl | rfl | rfl | rfl | rfl | rfl | rfl
        · refine wpOpS_go rfl rfl ?_
          have t0 : b'.tmps[0]?.getD undef = Value.pointer (some ⟨b, 0, none⟩) := he 0 (by kernel_rfl)
          have HK := Lib.hid hK1
          clear hK1 hK2 hdep hsh he hsv hsl hFF hL
          clear hSW
          go_simp
          exact HK.out rfl _ (fp_mk rfl rfl trivial)
        · refine wpOpS_go rfl rfl ?_
          have t0 : b'.tmps[0]?.getD undef = Value.pointer (some ⟨b, 0, none⟩) := he 0 (by kernel_rfl)
          have HK := Lib.hid hK1
          clear hK1 hK2 hdep hsh he hsv hsl hFF hL
          clear hSW
          go_simp
          exact HK.out rfl _ (fp_mk rfl rfl trivial)
        · refine wpOpS_go rfl rfl ?_
          have t23 : b'.tmps[23]?.getD undef = Value.int .i64 yv.1 := he 23 (by kernel_rfl)
          have HK := Lib.hid hK1
          clear hK1 hK2 hdep hsh he hsv hsl hFF hL
          clear hSW
          go_simp
          exact HK.out rfl _ (fp_mk rfl rfl trivial)
        · refine wpOpS_go rfl rfl ?_
          have t23 : b'.tmps[23]?.getD undef = Value.int .i64 yv.1 := he 23 (by kernel_rfl)
          have HK := Lib.hid hK1
          clear hK1 hK2 hdep hsh he hsv hsl hFF hL
          clear hSW
          go_simp
          exact HK.out rfl _ (fp_mk rfl rfl trivial)
        · refine wpOpS_go rfl rfl ?_
          have t94 : b'.tmps[94]?.getD undef = Value.int .i64 yv.1 := hsv 2 94 _ (by kernel_rfl) (by kernel_rfl) rfl
          have t95 : b'.tmps[95]?.getD undef = Value.int .i64 yv.1 := hsv 3 95 _ (by kernel_rfl) (by kernel_rfl) rfl
          obtain ⟨sB, sU0, sU1, sU2, sC5, sC7⟩ := hSW
          have HK := Lib.hid hK2
          have hws : w9.heap.size ≤ W.heap.size := sB.size
          clear hK1 hK2 hdep hsh he hsv hsl hFF hL
          refine op_slice2 (cs := #[.int .i64 yv.1, .int .i64 yv.1]) (t := 3) (by go_simp) ?_
          intro w6 hbn hB hz
          exact HK.out _ _ (fp_x rfl ⟨_, rfl, hbn, hws⟩) (fun k _ hk => hB.block k hk) ⟨sB.trans (But.of hB), fun h0 => (sU0 h0).keep hB, fun h0 h1 => (sU1 h0 h1).keep hB, fun h0 => (sU2 h0).keep hB, fun _ => by rw [updF_same], sC7⟩
        · refine wpOpS_go rfl rfl ?_
          have t93 : b'.tmps[93]?.getD undef = Value.pointer (some ⟨b, 0, none⟩) := hsv 1 93 _ (by kernel_rfl) (by kernel_rfl) rfl
          obtain ⟨t96, hx⟩ := hsl 4 96 (by kernel_rfl) (by kernel_rfl)
          obtain ⟨e1, e2, hb1, hn1⟩ := hx
          rw [e2] at t96
          obtain ⟨sB, sU0, sU1, sU2, sC5, sC7⟩ := hSW
          have l4 : L 4 = true := hdep 4 (by kernel_rfl)
          have hc7 := hsh 7 (by kernel_rfl)
          have hu := sU0 hL
          have HK := Lib.hid hK2
          clear hK1 hK2 hdep hsh he hsv hsl hFF e2
          go_simp
          refine (HY.out _ hu (ml_new (zs := [yv.1, yv.1]) hb1 (by omega) (two_i64 hy64 hy64) (by simp))).mono ?_
          rintro e w6 ⟨rfl, hU6, hB6⟩
          exact HK.out _ _ (fp_mk rfl rfl trivial) (fun k hk hk' => hB6.block k hk' (by omega)) ⟨sB.trans hB6, fun h0 => absurd h0 (by rw [updF_same]; decide), fun _ _ => hU6, fun h0 => absurd h0 (by show ¬ L 7 = true; rw [hc7]; decide), fun _ => l4, fun _ => by rw [updF_same]⟩
        · refine wpOpS_go rfl rfl ?_
          have t20 : b'.tmps[20]?.getD undef = Value.int .i64 s.1 := he 20 (by kernel_rfl)
          have HK := Lib.hid hK1
          clear hK1 hK2 hdep hsh he hsv hsl hFF hL
          clear hSW
          go_simp
          exact HK.out rfl _ (fp_mk rfl rfl trivial)
        · refine wpOpS_go rfl rfl ?_
          have t92 : b'.tmps[92]?.getD undef = Value.pointer (some ⟨b, 0, none⟩) := hsv 0 92 _ (by kernel_rfl) (by kernel_rfl) rfl
          have t97 : b'.tmps[97]?.getD undef = Value.int .i64 yy.1 := hsv 5 97 _ (by kernel_rfl) (by kernel_rfl) rfl
          have t98 : b'.tmps[98]?.getD undef = Value.int .i64 s.1 := hsv 6 98 _ (by kernel_rfl) (by kernel_rfl) rfl
          obtain ⟨sB, sU0, sU1, sU2, sC5, sC7⟩ := hSW
          have l5 : L 5 = true := hdep 5 (by kernel_rfl)
          have l4 : L 4 = true := sC5 l5
          have hu := sU1 l5 hL
          have HK := Lib.hid hK2
          clear hK1 hK2 hdep hsh he hsv hsl hFF
          go_simp
          refine (HD.out _ hu).mono ?_
          rintro e w6 ⟨rfl, hU6, hB6⟩
          exact HK.out _ _ (fp_mk rfl rfl trivial) (fun k hk hk' => hB6.block k hk' (by omega)) ⟨sB.trans hB6, fun h0 => absurd (show L 5 = false from h0) (by rw [l5]; decide), fun h0 h1 => absurd h1 (by rw [updF_same]; decide), fun _ => hU6, sC5, fun _ => l5⟩
        · refine wpOpS_go rfl rfl ?_
          have t6 : b'.tmps[6]?.getD undef = Value.pointer (some ⟨w0.heap.size, 0, none⟩) := he 6 (by kernel_rfl)
          have HK := Lib.hid hK1
          clear hK1 hK2 hdep hsh he hsv hsl hFF hL
          clear hSW
          go_simp
          exact HK.out rfl _ (fp_mk rfl rfl trivial)
        · refine wpOpS_go rfl rfl ?_
          have t100 : b'.tmps[100]?.getD undef = Value.pointer (some ⟨w0.heap.size, 4, none⟩) := hsv 8 100 _ (by kernel_rfl) (by kernel_rfl) rfl
          obtain ⟨sB, sU0, sU1, sU2, sC5, sC7⟩ := hSW
          have bt := sB
          have c0' := cell_but0 dg ng bt
          have HK := Lib.hid hK1
          clear hK1 hK2 hdep hsh he hsv hsl hFF hL
          clear sB sU0 sU1 sU2 sC5 sC7 bt
          go_simp
          exact HK.out rfl _ (fp_mk rfl rfl trivial)
        · refine wpOpS_go rfl rfl ?_
          have t99 : b'.tmps[99]?.getD undef = Value.int .i64 d.1 := hsv 7 99 _ (by kernel_rfl) (by kernel_rfl) rfl
          have t101 : b'.tmps[101]?.getD undef = Value.int .i64 M.gate := hsv 9 101 _ (by kernel_rfl) (by kernel_rfl) rfl
          have HK := Lib.hid hK1
          clear hK1 hK2 hdep hsh he hsv hsl hFF hL
          clear hSW
          go_simp
          exact HK.out rfl _ (fp_mk rfl rfl trivial)
      · intro f W hf L hL hS
        obtain ⟨sB, sU0, sU1, sU2, sC5, sC7⟩ := (hS : _ ∧ _ ∧ _ ∧ _ ∧ _ ∧ _)
        have sU := sU2 (hL 7 (by decide))
        obtain ⟨z4, e4, _, _⟩ := (hf 4 (by decide)).2
        have e0 : f 0 = Value.pointer (some ⟨b, 0, none⟩) := (hf 0 (by decide)).1 _ rfl
        have e1 : f 1 = Value.pointer (some ⟨b, 0, none⟩) := (hf 1 (by decide)).1 _ rfl
        have e2 : f 2 = Value.int .i64 yv.1 := (hf 2 (by decide)).1 _ rfl
        have e3 : f 3 = Value.int .i64 yv.1 := (hf 3 (by decide)).1 _ rfl
        have e5 : f 5 = Value.int .i64 yy.1 := (hf 5 (by decide)).1 _ rfl
        have e6 : f 6 = Value.int .i64 s.1 := (hf 6 (by decide)).1 _ rfl
        have e7 : f 7 = Value.int .i64 d.1 := (hf 7 (by decide)).1 _ rfl
        have e8 : f 8 = Value.pointer (some ⟨w0.heap.size, 4, none⟩) := (hf 8 (by decide)).1 _ rfl
        have e9 : f 9 = Value.int .i64 M.gate := (hf 9 (by decide)).1 _ rfl
        have e10 : f 10 = Value.bool (decide (M.gate < d.1)) := (hf 10 (by decide)).1 _ rfl
        clear hf hL sU0 sU1 sU2 sC5 sC7
        simp only [puts2, Act.put, e0, e1, e2, e3, e4, e5, e6, e7, e8, e9, e10]
        try simp only [List.setIfInBounds_toArray, List.set_cons_zero, List.set_cons_succ]
        clear e0 e1 e2 e3 e4 e5 e6 e7 e8 e9 e10
        have HU0 := Lib.hid hU
        replace z3 := sB.blk z3 hobn
        replace hliX := hliX.but hU sB
        replace hliP := hliP.but hU sB
        replace hlp6 := hlp6.but hU sB
        replace hg := hg.but sB
        clear sB HY HD dg ng hU HU0 hblt
        obtain ⟨w10, rfl⟩ : ∃ w10 : World, w10 = W := ⟨_, rfl⟩
        have hINN : Inno n B.P B.X q.h q.r z p v s ee yv yy d := ⟨HP.out, HVV.out, HS.out, HEE.out, HYV.out, HYY.out, HDD.out⟩
        have HINN := Lib.hid hINN
        have HC : Hid (((cf || yy.2) || d.2) = (c0 || innoC p v s ee yv yy d)) := Lib.hid (by rw [← HCF.out]; unfold innoC; simp [Bool.or_assoc])
        rw [HC.out] at sU
        obtain ⟨cf, hcg⟩ : ∃ cg, (c0 || innoC p v s ee yv yy d) = cg := ⟨_, rfl⟩
        rw [hcg] at sU
        have HCG := Lib.hid hcg
        clear hcg hINN HC HCF HP HVV HS HEE HYV HYY HDD
        have hU10 := sU
        clear sU
        by_cases hgate : M.gate < d.1
        case pos =>
          have HGT := Lib.hid hgate
          have hUf := hU10
          cases fl
          · go_wp2_with fail
            refine region_fp [some 103, some 104, some 105, some 106, some 107, some 108, some 109, some 110, some 111, some 112, some 113, some 114, none, some 115, none] [12, 14] [some (Value.pointer (some ⟨w0.heap.size + 1, 5, none⟩)), some (Value.int .i64 B.fail), some (Value.int .i64 (moreI B.fail)), some (Value.pointer (some ⟨w0.heap.size + 1, 3, none⟩)), some (Value.bool false), some (Value.bool false), some (Value.pointer (some ⟨b, 0, none⟩)), some (Value.pointer (some ⟨b, 0, none⟩)), some (Value.pointer (some ⟨b, 0, none⟩)), some (Value.bool cf), some (Value.bool cf), some (Value.pointer (some ⟨ob, 5, none⟩)), none, some (Value.pointer (some ⟨ob, 3, none⟩)), none]
              (fun _ _ _ => True) (fun _ _ => True) (fun L f W => Eff (fun q => q = ob) w10 W ∧ Blk W ob #[Value.int .i64 B.t, Value.slice y lx c, Value.slice yp lp cp, cond (L 14) (Value.bool cf) (Value.bool false), Value.int .i64 B.pass, cond (L 12) (Value.int .i64 (moreI B.fail)) (Value.int .i64 B.fail)] 27)
              (by kernel_rfl) (by kernel_rfl) (by kernel_rfl) (by kernel_rfl) (by kernel_rfl) (fun _ => trivial) (fun _ _ _ _ _ _ => trivial) (fun L L' f f' W h hs => by have q1 := (h 12 (by decide)).1; have q2 := (h 14 (by decide)).1; (try dsimp only at hs ⊢); rw [← q1, ← q2]; exact hs) ⟨Eff.of (upD (upR _)), z3.drew⟩ ?_ ?_
            · intro i hi b' L f W hSW hL hdep hsh he hsv hsl hFF K hK1 hK2
              replace hi : i < 15 := hi
              have hcs : i = 0 ∨ i = 1 ∨ i = 2 ∨ i = 3 ∨ i = 4 ∨ i = 5 ∨ i = 6 ∨ i = 7 ∨ i = 8 ∨ i = 9 ∨ i = 10 ∨ i = 11 ∨ i = 12 ∨ i = 13 ∨ i = 14 := by omega
              clear hi
              rcases hcs with rfl | rfl | rfl | rfl | rfl | rfl | rfl | rfl | rfl | rfl | rfl | rfl | rfl | rfl | rfl
              · refine wpOpS_go rfl rfl ?_
                have t7 : b'.tmps[7]?.getD undef = Value.pointer (some ⟨w0.heap.size + 1, 0, none⟩) := he 7 (by kernel_rfl)
                have HK := Lib.hid hK1
                clear hK1 hK2 hdep hsh he hsv hsl hFF hL
                clear hSW
                go_simp
                exact HK.out rfl _ (fp_mk rfl rfl trivial)
              · refine wpOpS_go rfl rfl ?_
                have t103 : b'.tmps[103]?.getD undef = Value.pointer (some ⟨w0.heap.size + 1, 5, none⟩) := hsv 0 103 _ (by kernel_rfl) (by kernel_rfl) rfl
                obtain ⟨s0, s1⟩ := hSW
                have c0' := (s0.blk hg.bl (by have := hg.sz; omega)).cell
                have HK := Lib.hid hK1
                clear hK1 hK2 hdep hsh he hsv hsl hFF hL
                clear s0 s1
                go_simp
                exact HK.out rfl _ (fp_mk rfl rfl trivial)
              · refine wpOpS_go rfl rfl ?_
                have t104 : b'.tmps[104]?.getD undef = Value.int .i64 B.fail := hsv 1 104 _ (by kernel_rfl) (by kernel_rfl) rfl
                obtain ⟨s0, s1⟩ := hSW
                have HK := Lib.hid hK1
                clear hK1 hK2 hdep hsh he hsv hsl hFF hL
                clear s0 s1
                go_simp
                refine (more_is _ hfail _).mono ?_
                rintro e w6 ⟨rfl, rfl⟩
                exact HK.out rfl _ (fp_mk rfl rfl trivial)
              · refine wpOpS_go rfl rfl ?_
                have t7 : b'.tmps[7]?.getD undef = Value.pointer (some ⟨w0.heap.size + 1, 0, none⟩) := he 7 (by kernel_rfl)
                have HK := Lib.hid hK1
                clear hK1 hK2 hdep hsh he hsv hsl hFF hL
                clear hSW
                go_simp
                exact HK.out rfl _ (fp_mk rfl rfl trivial)
              · refine wpOpS_go rfl rfl ?_
                have t106 : b'.tmps[106]?.getD undef = Value.pointer (some ⟨w0.heap.size + 1, 3, none⟩) := hsv 3 106 _ (by kernel_rfl) (by kernel_rfl) rfl
                obtain ⟨s0, s1⟩ := hSW
                have c0' := (s0.blk hg.bl (by have := hg.sz; omega)).cell
                have HK := Lib.hid hK1
                clear hK1 hK2 hdep hsh he hsv hsl hFF hL
                clear s0 s1
                go_simp
                exact HK.out rfl _ (fp_mk rfl rfl trivial)
              · refine wpOpS_go rfl rfl ?_
                have t107 : b'.tmps[107]?.getD undef = Value.bool false := hsv 4 107 _ (by kernel_rfl) (by kernel_rfl) rfl
                have HK := Lib.hid hK1
                clear hK1 hK2 hdep hsh he hsv hsl hFF hL
                clear hSW
                go_simp
                exact HK.out rfl _ (fp_mk rfl rfl trivial)
              · refine wpOpS_guard (dg := 108) rfl rfl rfl rfl (hsv 5 108 _ (by kernel_rfl) (by kernel_rfl) rfl) ?_
                rw [if_pos rfl]
                have t0 : b'.tmps[0]?.getD undef = Value.pointer (some ⟨b, 0, none⟩) := he 0 (by kernel_rfl)
                have HK := Lib.hid hK1
                clear hK1 hK2 hdep hsh he hsv hsl hFF hL
                clear hSW
                go_simp
                exact HK.out rfl _ (fp_mk rfl rfl trivial)
              · refine wpOpS_guard (dg := 108) rfl rfl rfl rfl (hsv 5 108 _ (by kernel_rfl) (by kernel_rfl) rfl) ?_
                rw [if_pos rfl]
                have t109 : b'.tmps[109]?.getD undef = Value.pointer (some ⟨b, 0, none⟩) := hsv 6 109 _ (by kernel_rfl) (by kernel_rfl) rfl
                have HK := Lib.hid hK1
                clear hK1 hK2 hdep hsh he hsv hsl hFF hL
                clear hSW
                go_simp
                exact HK.out rfl _ (fp_mk rfl rfl trivial)
              · refine wpOpS_guard (dg := 108) rfl rfl rfl rfl (hsv 5 108 _ (by kernel_rfl) (by kernel_rfl) rfl) ?_
                rw [if_pos rfl]
                have t110 : b'.tmps[110]?.getD undef = Value.pointer (some ⟨b, 0, none⟩) := hsv 7 110 _ (by kernel_rfl) (by kernel_rfl) rfl
                have HK := Lib.hid hK1
                clear hK1 hK2 hdep hsh he hsv hsl hFF hL
                clear hSW
                go_simp
                exact HK.out rfl _ (fp_mk rfl rfl trivial)
              · refine wpOpS_guard (dg := 108) rfl rfl rfl rfl (hsv 5 108 _ (by kernel_rfl) (by kernel_rfl) rfl) ?_
                rw [if_pos rfl]
                have t111 : b'.tmps[111]?.getD undef = Value.pointer (some ⟨b, 0, none⟩) := hsv 8 111 _ (by kernel_rfl) (by kernel_rfl) rfl
                obtain ⟨s0, s1⟩ := hSW
                have hu := up_eff hUf s0 (Ne.symm hobn)
                have HK := Lib.hid hK1
                clear hK1 hK2 hdep hsh he hsv hsl hFF hL
                clear s0 s1
                go_simp
                refine (uCut_is2 hu).mono ?_
                rintro e w6 ⟨rfl, rfl⟩
                exact HK.out rfl _ (fp_mk rfl rfl trivial)
              · refine wpOpS_go rfl rfl ?_
                have t108 : b'.tmps[108]?.getD undef = Value.bool false := hsv 5 108 _ (by kernel_rfl) (by kernel_rfl) rfl
                have t112 : b'.tmps[112]?.getD undef = Value.bool cf := hsv 9 112 _ (by kernel_rfl) (by kernel_rfl) rfl
                have HK := Lib.hid hK1
                clear hK1 hK2 hdep hsh he hsv hsl hFF hL
                clear hSW
                go_simp
                exact HK.out rfl _ (fp_mk rfl rfl trivial)
              · refine wpOpS_go rfl rfl ?_
                have t15 : b'.tmps[15]?.getD undef = Value.pointer (some ⟨ob, 0, none⟩) := he 15 (by kernel_rfl)
                have HK := Lib.hid hK1
                clear hK1 hK2 hdep hsh he hsv hsl hFF hL
                clear hSW
                go_simp
                exact HK.out rfl _ (fp_mk rfl rfl trivial)
              · refine wpOpS_go rfl rfl ?_
                have t105 : b'.tmps[105]?.getD undef = Value.int .i64 (moreI B.fail) := hsv 2 105 _ (by kernel_rfl) (by kernel_rfl) rfl
                have t114 : b'.tmps[114]?.getD undef = Value.pointer (some ⟨ob, 5, none⟩) := hsv 11 114 _ (by kernel_rfl) (by kernel_rfl) rfl
                obtain ⟨s0, s1⟩ := hSW
                rw [hL] at s1
                have HK := Lib.hid hK2
                clear hK1 hK2 hdep hsh he hsv hsl hFF
                refine op_store 3 _ _ rfl rfl s1 5 (eval_tmp t114) (eval_tmp t105) [Value.int .i64 (moreI B.fail)] (by rfl) (by kernel_rfl) (by rfl) (by rfl) #[Value.int .i64 B.t, Value.slice y lx c, Value.slice yp lp cp, cond (L 14) (Value.bool cf) (Value.bool false), Value.int .i64 B.pass, (Value.int .i64 (moreI B.fail))] rfl ?_
                intro w6 g6 ef hz
                exact HK.out undef _ (fp_x (v := undef) rfl trivial) trivial ⟨s0.trans ef (fun _ _ h => h), by rw [updF_same, updF_ne _ _ (by decide)]; exact g6⟩
              · refine wpOpS_go rfl rfl ?_
                have t15 : b'.tmps[15]?.getD undef = Value.pointer (some ⟨ob, 0, none⟩) := he 15 (by kernel_rfl)
                have HK := Lib.hid hK1
                clear hK1 hK2 hdep hsh he hsv hsl hFF hL
                clear hSW
                go_simp
                exact HK.out rfl _ (fp_mk rfl rfl trivial)
              · refine wpOpS_go rfl rfl ?_
                have t113 : b'.tmps[113]?.getD undef = Value.bool cf := hsv 10 113 _ (by kernel_rfl) (by kernel_rfl) rfl
                have t115 : b'.tmps[115]?.getD undef = Value.pointer (some ⟨ob, 3, none⟩) := hsv 13 115 _ (by kernel_rfl) (by kernel_rfl) rfl
                obtain ⟨s0, s1⟩ := hSW
                rw [hL] at s1
                have HK := Lib.hid hK2
                clear hK1 hK2 hdep hsh he hsv hsl hFF
                refine op_store 4 _ _ rfl rfl s1 3 (eval_tmp t115) (eval_tmp t113) [Value.bool cf] (by rfl) (by kernel_rfl) (by rfl) (by rfl) #[Value.int .i64 B.t, Value.slice y lx c, Value.slice yp lp cp, (Value.bool cf), Value.int .i64 B.pass, cond (L 12) (Value.int .i64 (moreI B.fail)) (Value.int .i64 B.fail)] rfl ?_
                intro w6 g6 ef hz
                exact HK.out undef _ (fp_x (v := undef) rfl trivial) trivial ⟨s0.trans ef (fun _ _ h => h), by rw [updF_same, updF_ne _ _ (by decide)]; exact g6⟩
            · intro f W hf L hL hS
              obtain ⟨s0, s1⟩ := (hS : _ ∧ _)
              rw [hL 12 (by decide), hL 14 (by decide)] at s1
              have e0 : f 0 = Value.pointer (some ⟨w0.heap.size + 1, 5, none⟩) := (hf 0 (by decide)).1 _ rfl
              have e1 : f 1 = Value.int .i64 B.fail := (hf 1 (by decide)).1 _ rfl
              have e2 : f 2 = Value.int .i64 (moreI B.fail) := (hf 2 (by decide)).1 _ rfl
              have e3 : f 3 = Value.pointer (some ⟨w0.heap.size + 1, 3, none⟩) := (hf 3 (by decide)).1 _ rfl
              have e4 : f 4 = Value.bool false := (hf 4 (by decide)).1 _ rfl
              have e5 : f 5 = Value.bool false := (hf 5 (by decide)).1 _ rfl
              have e6 : f 6 = Value.pointer (some ⟨b, 0, none⟩) := (hf 6 (by decide)).1 _ rfl
              have e7 : f 7 = Value.pointer (some ⟨b, 0, none⟩) := (hf 7 (by decide)).1 _ rfl
              have e8 : f 8 = Value.pointer (some ⟨b, 0, none⟩) := (hf 8 (by decide)).1 _ rfl
              have e9 : f 9 = Value.bool cf := (hf 9 (by decide)).1 _ rfl
              have e10 : f 10 = Value.bool cf := (hf 10 (by decide)).1 _ rfl
              have e11 : f 11 = Value.pointer (some ⟨ob, 5, none⟩) := (hf 11 (by decide)).1 _ rfl
              have e13 : f 13 = Value.pointer (some ⟨ob, 3, none⟩) := (hf 13 (by decide)).1 _ rfl
              clear hf hL
              simp only [puts2, Act.put, e0, e1, e2, e3, e4, e5, e6, e7, e8, e9, e10, e11, e13]
              try simp only [List.setIfInBounds_toArray, List.set_cons_zero, List.set_cons_succ]
              clear e0 e1 e2 e3 e4 e5 e6 e7 e8 e9 e10 e11 e13
              replace s1 : Blk W ob #[Value.int .i64 B.t, Value.slice y lx c, Value.slice yp lp cp, (Value.bool cf), Value.int .i64 B.pass, (Value.int .i64 (moreI B.fail))] 27 := s1
              replace hg := hg.go (s0.mono fun _ _ e => .inr (by omega))
              have hUg := hUf.effP s0 (Ne.symm hobn)
              have hX2 := hliX.eff s0 (fun k hk ht => by subst hk; exact absurd (ht.inj z3.ty) (by decide))
              have hP2 := hliP.eff s0 (fun k hk ht => by subst hk; exact absurd (ht.inj z3.ty) (by decide))
              have hr1 := hg.r1
              have hr2 := hg.r2
              obtain ⟨F, hFe, z4⟩ : ∃ F : Bool, F = (B.flag || cf) ∧ Blk W ob #[Value.int .i64 B.t, Value.slice (some y) lx c, Value.slice yp lp cp, Value.bool F, Value.int .i64 B.pass, Value.int .i64 (moreI B.fail)] 27 := by
                first
                  | exact ⟨cf, by rw [HL.out.2.2.2]; rfl, s1⟩
                  | exact ⟨true, by rw [HL.out.2.2.2]; rfl, s1⟩
              have HFE := Lib.hid hFe
              clear s0 s1 hliX hliP hUf hFe z3
              go_wp2_with first
                | ((with_reducible refine at_dst (N := 116) rfl ?_); refine ev_load rfl 27 _ rfl z4 0 rfl [Value.int .i64 B.t, Value.slice (some y) lx c, Value.slice yp lp cp, Value.bool F, Value.int .i64 B.pass, Value.int .i64 (moreI B.fail)] rfl Tryz.underlying27 rfl (by kernel_rfl) ?_)
                | ((with_reducible refine at_st (p := 10) (q := 116) rfl ?_); refine ev_store rfl 27 _ _ rfl rfl hr1 0 rfl rfl [Value.int .i64 B.t, Value.slice (some y) lx c, Value.slice yp lp cp, Value.bool F, Value.int .i64 B.pass, Value.int .i64 (moreI B.fail)] rfl (by kernel_rfl) rfl rfl #[Value.int .i64 B.t, Value.slice (some y) lx c, Value.slice yp lp cp, Value.bool F, Value.int .i64 B.pass, Value.int .i64 (moreI B.fail)] rfl ?_; intro w13 g13 ef13 hz13; have hr2' := ef13.blk hr2 (by omega))
                | ((with_reducible refine at_st (p := 11) (q := 117) rfl ?_); refine ev_store rfl 46 _ _ rfl rfl hr2' 0 rfl rfl [.bool false, .slice none 0 0, .slice none 0 0, .int .i64 0, .int .i64 0] rfl (by kernel_rfl) rfl rfl #[.bool false, .slice none 0 0, .slice none 0 0, .int .i64 0, .int .i64 0] rfl ?_; intro w14 g14 ef14 hz14; have g13' := ef14.blk g13 (by omega))
              have e13 := fun (k : Nat) (hk : k = w0.heap.size + 3) (ht : Ty W k 3) => (by subst hk; exact absurd (ht.inj hr1.ty) (by decide) : False)
              have e14 := fun (k : Nat) (hk : k = w0.heap.size + 4) (ht : Ty w13 k 3) => (by subst hk; exact absurd (ht.inj hr2'.ty) (by decide) : False)
              refine bodyPost_ret (results_cct (g := w0.heap.size + 3) (cs := #[Value.int .i64 B.t, Value.slice (some y) lx c, Value.slice yp lp cp, Value.bool F, Value.int .i64 B.pass, Value.int .i64 (moreI B.fail)]) (k := w0.heap.size + 4) (ds := #[.bool false, .slice none 0 0, .slice none 0 0, .int .i64 0, .int .i64 0]) rfl _ _ rfl g13' Tryz.underlying27 rfl (by kernel_rfl) rfl g14 Tryz.underlying46 rfl (by kernel_rfl)) rfl ?_
              refine .inr ⟨HV.out, _, _, { B with fail := moreI B.fail, flag := B.flag || cf }, zeroT, cf, rfl, ?_, ⟨⟨some y, c, yp, cp, ?_, (hX2.eff ef13 e13).eff ef14 e14, (hP2.eff ef13 e13).eff ef14 e14⟩, hbt, i64_cnt hpass, moreI_64 hfail⟩, ⟨⟨none, 0, none, 0, rfl, LI.nil _ _, LI.nil _ _⟩, ⟨by decide, by decide⟩, ⟨by decide, by decide⟩⟩, up_eff (up_eff hUg ef13 (Nat.ne_of_lt (Nat.lt_add_right 3 hg.hb))) ef14 (Nat.ne_of_lt (Nat.lt_add_right 4 hg.hb)), ?_⟩
              · rw [← HCG.out]
                exact .off n p v s ee yv yy d HN.out HINN.out HGT.out
              · dsimp only
                rw [HL.out.1, HL.out.2.1, ← HFE.out]
              · exact but_eff2 (but_eff2 (tot_but hg.tot) ef13 (Nat.le_add_right _ _)) ef14 (Nat.le_add_right _ _)
          · go_wp2_with fail
            refine region_fp [some 103, some 104, some 105, some 106, some 107, some 108, some 109, some 110, some 111, some 112, some 113, some 114, none, some 115, none] [12, 14] [some (Value.pointer (some ⟨w0.heap.size + 1, 5, none⟩)), some (Value.int .i64 B.fail), some (Value.int .i64 (moreI B.fail)), some (Value.pointer (some ⟨w0.heap.size + 1, 3, none⟩)), some (Value.bool true), some (Value.bool true), some (undef), some (undef), some (undef), some (undef), some (Value.bool true), some (Value.pointer (some ⟨ob, 5, none⟩)), none, some (Value.pointer (some ⟨ob, 3, none⟩)), none]
              (fun _ _ _ => True) (fun _ _ => True) (fun L f W => Eff (fun q => q = ob) w10 W ∧ Blk W ob #[Value.int .i64 B.t, Value.slice y lx c, Value.slice yp lp cp, cond (L 14) (Value.bool true) (Value.bool true), Value.int .i64 B.pass, cond (L 12) (Value.int .i64 (moreI B.fail)) (Value.int .i64 B.fail)] 27)
              (by kernel_rfl) (by kernel_rfl) (by kernel_rfl) (by kernel_rfl) (by kernel_rfl) (fun _ => trivial) (fun _ _ _ _ _ _ => trivial) (fun L L' f f' W h hs => by have q1 := (h 12 (by decide)).1; have q2 := (h 14 (by decide)).1; (try dsimp only at hs ⊢); rw [← q1, ← q2]; exact hs) ⟨Eff.of (upD (upR _)), z3.drew⟩ ?_ ?_
            · intro i hi b' L f W hSW hL hdep hsh he hsv hsl hFF K hK1 hK2
              replace hi : i < 15 := hi
              have hcs : i = 0 ∨ i = 1 ∨ i = 2 ∨ i = 3 ∨ i = 4 ∨ i = 5 ∨ i = 6 ∨ i = 7 ∨ i = 8 ∨ i = 9 ∨ i = 10 ∨ i = 11 ∨ i = 12 ∨ i = 13 ∨ i = 14 := by omega
              clear hi
              rcases hcs with rfl | rfl | rfl | rfl | rfl | rfl | rfl | rfl | rfl | rfl | rfl | rfl | rfl | rfl | rfl
              · refine wpOpS_go rfl rfl ?_
                have t7 : b'.tmps[7]?.getD undef = Value.pointer (some ⟨w0.heap.size + 1, 0, none⟩) := he 7 (by kernel_rfl)
                have HK := Lib.hid hK1
                clear hK1 hK2 hdep hsh he hsv hsl hFF hL
                clear hSW
                go_simp
                exact HK.out rfl _ (fp_mk rfl rfl trivial)
              · refine wpOpS_go rfl rfl ?_
                have t103 : b'.tmps[103]?.getD undef = Value.pointer (some ⟨w0.heap.size + 1, 5, none⟩) := hsv 0 103 _ (by kernel_rfl) (by kernel_rfl) rfl
                obtain ⟨s0, s1⟩ := hSW
                have c0' := (s0.blk hg.bl (by have := hg.sz; omega)).cell
                have HK := Lib.hid hK1
                clear hK1 hK2 hdep hsh he hsv hsl hFF hL
                clear s0 s1
                go_simp
                exact HK.out rfl _ (fp_mk rfl rfl trivial)
              · refine wpOpS_go rfl rfl ?_
                have t104 : b'.tmps[104]?.getD undef = Value.int .i64 B.fail := hsv 1 104 _ (by kernel_rfl) (by kernel_rfl) rfl
                obtain ⟨s0, s1⟩ := hSW
                have HK := Lib.hid hK1
                clear hK1 hK2 hdep hsh he hsv hsl hFF hL
                clear s0 s1
                go_simp
                refine (more_is _ hfail _).mono ?_
                rintro e w6 ⟨rfl, rfl⟩
                exact HK.out rfl _ (fp_mk rfl rfl trivial)
              · refine wpOpS_go rfl rfl ?_
                have t7 : b'.tmps[7]?.getD undef = Value.pointer (some ⟨w0.heap.size + 1, 0, none⟩) := he 7 (by kernel_rfl)
                have HK := Lib.hid hK1
                clear hK1 hK2 hdep hsh he hsv hsl hFF hL
                clear hSW
                go_simp
                exact HK.out rfl _ (fp_mk rfl rfl trivial)
              · refine wpOpS_go rfl rfl ?_
                have t106 : b'.tmps[106]?.getD undef = Value.pointer (some ⟨w0.heap.size + 1, 3, none⟩) := hsv 3 106 _ (by kernel_rfl) (by kernel_rfl) rfl
                obtain ⟨s0, s1⟩ := hSW
                have c0' := (s0.blk hg.bl (by have := hg.sz; omega)).cell
                have HK := Lib.hid hK1
                clear hK1 hK2 hdep hsh he hsv hsl hFF hL
                clear s0 s1
                go_simp
                exact HK.out rfl _ (fp_mk rfl rfl trivial)
              · refine wpOpS_go rfl rfl ?_
                have t107 : b'.tmps[107]?.getD undef = Value.bool true := hsv 4 107 _ (by kernel_rfl) (by kernel_rfl) rfl
                have HK := Lib.hid hK1
                clear hK1 hK2 hdep hsh he hsv hsl hFF hL
                clear hSW
                go_simp
                exact HK.out rfl _ (fp_mk rfl rfl trivial)
              · refine wpOpS_guard (dg := 108) rfl rfl rfl rfl (hsv 5 108 _ (by kernel_rfl) (by kernel_rfl) rfl) ?_
                rw [if_neg (by decide)]
                exact hK1 rfl _ (fp_mk rfl rfl trivial)
              · refine wpOpS_guard (dg := 108) rfl rfl rfl rfl (hsv 5 108 _ (by kernel_rfl) (by kernel_rfl) rfl) ?_
                rw [if_neg (by decide)]
                exact hK1 rfl _ (fp_mk rfl rfl trivial)
              · refine wpOpS_guard (dg := 108) rfl rfl rfl rfl (hsv 5 108 _ (by kernel_rfl) (by kernel_rfl) rfl) ?_
                rw [if_neg (by decide)]
                exact hK1 rfl _ (fp_mk rfl rfl trivial)
              · refine wpOpS_guard (dg := 108) rfl rfl rfl rfl (hsv 5 108 _ (by kernel_rfl) (by kernel_rfl) rfl) ?_
                rw [if_neg (by decide)]
                exact hK1 rfl _ (fp_mk rfl rfl trivial)
              · refine wpOpS_go rfl rfl ?_
                have t108 : b'.tmps[108]?.getD undef = Value.bool true := hsv 5 108 _ (by kernel_rfl) (by kernel_rfl) rfl
                have t112 : b'.tmps[112]?.getD undef = undef := hsv 9 112 _ (by kernel_rfl) (by kernel_rfl) rfl
                have HK := Lib.hid hK1
                clear hK1 hK2 hdep hsh he hsv hsl hFF hL
                clear hSW
                go_simp
                exact HK.out rfl _ (fp_mk rfl rfl trivial)
              · refine wpOpS_go rfl rfl ?_
                have t15 : b'.tmps[15]?.getD undef = Value.pointer (some ⟨ob, 0, none⟩) := he 15 (by kernel_rfl)
                have HK := Lib.hid hK1
                clear hK1 hK2 hdep hsh he hsv hsl hFF hL
                clear hSW
                go_simp
                exact HK.out rfl _ (fp_mk rfl rfl trivial)
              · refine wpOpS_go rfl rfl ?_
                have t105 : b'.tmps[105]?.getD undef = Value.int .i64 (moreI B.fail) := hsv 2 105 _ (by kernel_rfl) (by kernel_rfl) rfl
                have t114 : b'.tmps[114]?.getD undef = Value.pointer (some ⟨ob, 5, none⟩) := hsv 11 114 _ (by kernel_rfl) (by kernel_rfl) rfl
                obtain ⟨s0, s1⟩ := hSW
                rw [hL] at s1
                have HK := Lib.hid hK2
                clear hK1 hK2 hdep hsh he hsv hsl hFF
                refine op_store 3 _ _ rfl rfl s1 5 (eval_tmp t114) (eval_tmp t105) [Value.int .i64 (moreI B.fail)] (by rfl) (by kernel_rfl) (by rfl) (by rfl) #[Value.int .i64 B.t, Value.slice y lx c, Value.slice yp lp cp, cond (L 14) (Value.bool true) (Value.bool true), Value.int .i64 B.pass, (Value.int .i64 (moreI B.fail))] rfl ?_
                intro w6 g6 ef hz
                exact HK.out undef _ (fp_x (v := undef) rfl trivial) trivial ⟨s0.trans ef (fun _ _ h => h), by rw [updF_same, updF_ne _ _ (by decide)]; exact g6⟩
              · refine wpOpS_go rfl rfl ?_
                have t15 : b'.tmps[15]?.getD undef = Value.pointer (some ⟨ob, 0, none⟩) := he 15 (by kernel_rfl)
                have HK := Lib.hid hK1
                clear hK1 hK2 hdep hsh he hsv hsl hFF hL
                clear hSW
                go_simp
                exact HK.out rfl _ (fp_mk rfl rfl trivial)
              · refine wpOpS_go rfl rfl ?_
                have t113 : b'.tmps[113]?.getD undef = Value.bool true := hsv 10 113 _ (by kernel_rfl) (by kernel_rfl) rfl
                have t115 : b'.tmps[115]?.getD undef = Value.pointer (some ⟨ob, 3, none⟩) := hsv 13 115 _ (by kernel_rfl) (by kernel_rfl) rfl
                obtain ⟨s0, s1⟩ := hSW
                rw [hL] at s1
                have HK := Lib.hid hK2
                clear hK1 hK2 hdep hsh he hsv hsl hFF
                refine op_store 4 _ _ rfl rfl s1 3 (eval_tmp t115) (eval_tmp t113) [Value.bool true] (by rfl) (by kernel_rfl) (by rfl) (by rfl) #[Value.int .i64 B.t, Value.slice y lx c, Value.slice yp lp cp, (Value.bool true), Value.int .i64 B.pass, cond (L 12) (Value.int .i64 (moreI B.fail)) (Value.int .i64 B.fail)] rfl ?_
                intro w6 g6 ef hz
                exact HK.out undef _ (fp_x (v := undef) rfl trivial) trivial ⟨s0.trans ef (fun _ _ h => h), by rw [updF_same, updF_ne _ _ (by decide)]; exact g6⟩
            · intro f W hf L hL hS
              obtain ⟨s0, s1⟩ := (hS : _ ∧ _)
              rw [hL 12 (by decide), hL 14 (by decide)] at s1
              have e0 : f 0 = Value.pointer (some ⟨w0.heap.size + 1, 5, none⟩) := (hf 0 (by decide)).1 _ rfl
              have e1 : f 1 = Value.int .i64 B.fail := (hf 1 (by decide)).1 _ rfl
              have e2 : f 2 = Value.int .i64 (moreI B.fail) := (hf 2 (by decide)).1 _ rfl
              have e3 : f 3 = Value.pointer (some ⟨w0.heap.size + 1, 3, none⟩) := (hf 3 (by decide)).1 _ rfl
              have e4 : f 4 = Value.bool true := (hf 4 (by decide)).1 _ rfl
              have e5 : f 5 = Value.bool true := (hf 5 (by decide)).1 _ rfl
              have e6 : f 6 = undef := (hf 6 (by decide)).1 _ rfl
              have e7 : f 7 = undef := (hf 7 (by decide)).1 _ rfl
              have e8 : f 8 = undef := (hf 8 (by decide)).1 _ rfl
              have e9 : f 9 = undef := (hf 9 (by decide)).1 _ rfl
              have e10 : f 10 = Value.bool true := (hf 10 (by decide)).1 _ rfl
              have e11 : f 11 = Value.pointer (some ⟨ob, 5, none⟩) := (hf 11 (by decide)).1 _ rfl
              have e13 : f 13 = Value.pointer (some ⟨ob, 3, none⟩) := (hf 13 (by decide)).1 _ rfl
              clear hf hL
              simp only [puts2, Act.put, e0, e1, e2, e3, e4, e5, e6, e7, e8, e9, e10, e11, e13]
              try simp only [List.setIfInBounds_toArray, List.set_cons_zero, List.set_cons_succ]
              clear e0 e1 e2 e3 e4 e5 e6 e7 e8 e9 e10 e11 e13
              replace s1 : Blk W ob #[Value.int .i64 B.t, Value.slice y lx c, Value.slice yp lp cp, (Value.bool true), Value.int .i64 B.pass, (Value.int .i64 (moreI B.fail))] 27 := s1
              replace hg := hg.go (s0.mono fun _ _ e => .inr (by omega))
              have hUg := hUf.effP s0 (Ne.symm hobn)
              have hX2 := hliX.eff s0 (fun k hk ht => by subst hk; exact absurd (ht.inj z3.ty) (by decide))
              have hP2 := hliP.eff s0 (fun k hk ht => by subst hk; exact absurd (ht.inj z3.ty) (by decide))
              have hr1 := hg.r1
              have hr2 := hg.r2
              obtain ⟨F, hFe, z4⟩ : ∃ F : Bool, F = (B.flag || cf) ∧ Blk W ob #[Value.int .i64 B.t, Value.slice (some y) lx c, Value.slice yp lp cp, Value.bool F, Value.int .i64 B.pass, Value.int .i64 (moreI B.fail)] 27 := by
                first
                  | exact ⟨cf, by rw [HL.out.2.2.2]; rfl, s1⟩
                  | exact ⟨true, by rw [HL.out.2.2.2]; rfl, s1⟩
              have HFE := Lib.hid hFe
              clear s0 s1 hliX hliP hUf hFe z3
              go_wp2_with first
                | ((with_reducible refine at_dst (N := 116) rfl ?_); refine ev_load rfl 27 _ rfl z4 0 rfl [Value.int .i64 B.t, Value.slice (some y) lx c, Value.slice yp lp cp, Value.bool F, Value.int .i64 B.pass, Value.int .i64 (moreI B.fail)] rfl Tryz.underlying27 rfl (by kernel_rfl) ?_)
                | ((with_reducible refine at_st (p := 10) (q := 116) rfl ?_); refine ev_store rfl 27 _ _ rfl rfl hr1 0 rfl rfl [Value.int .i64 B.t, Value.slice (some y) lx c, Value.slice yp lp cp, Value.bool F, Value.int .i64 B.pass, Value.int .i64 (moreI B.fail)] rfl (by kernel_rfl) rfl rfl #[Value.int .i64 B.t, Value.slice (some y) lx c, Value.slice yp lp cp, Value.bool F, Value.int .i64 B.pass, Value.int .i64 (moreI B.fail)] rfl ?_; intro w13 g13 ef13 hz13; have hr2' := ef13.blk hr2 (by omega))
                | ((with_reducible refine at_st (p := 11) (q := 117) rfl ?_); refine ev_store rfl 46 _ _ rfl rfl hr2' 0 rfl rfl [.bool false, .slice none 0 0, .slice none 0 0, .int .i64 0, .int .i64 0] rfl (by kernel_rfl) rfl rfl #[.bool false, .slice none 0 0, .slice none 0 0, .int .i64 0, .int .i64 0] rfl ?_; intro w14 g14 ef14 hz14; have g13' := ef14.blk g13 (by omega))
              have e13 := fun (k : Nat) (hk : k = w0.heap.size + 3) (ht : Ty W k 3) => (by subst hk; exact absurd (ht.inj hr1.ty) (by decide) : False)
              have e14 := fun (k : Nat) (hk : k = w0.heap.size + 4) (ht : Ty w13 k 3) => (by subst hk; exact absurd (ht.inj hr2'.ty) (by decide) : False)
              refine bodyPost_ret (results_cct (g := w0.heap.size + 3) (cs := #[Value.int .i64 B.t, Value.slice (some y) lx c, Value.slice yp lp cp, Value.bool F, Value.int .i64 B.pass, Value.int .i64 (moreI B.fail)]) (k := w0.heap.size + 4) (ds := #[.bool false, .slice none 0 0, .slice none 0 0, .int .i64 0, .int .i64 0]) rfl _ _ rfl g13' Tryz.underlying27 rfl (by kernel_rfl) rfl g14 Tryz.underlying46 rfl (by kernel_rfl)) rfl ?_
              refine .inr ⟨HV.out, _, _, { B with fail := moreI B.fail, flag := B.flag || cf }, zeroT, cf, rfl, ?_, ⟨⟨some y, c, yp, cp, ?_, (hX2.eff ef13 e13).eff ef14 e14, (hP2.eff ef13 e13).eff ef14 e14⟩, hbt, i64_cnt hpass, moreI_64 hfail⟩, ⟨⟨none, 0, none, 0, rfl, LI.nil _ _, LI.nil _ _⟩, ⟨by decide, by decide⟩, ⟨by decide, by decide⟩⟩, up_eff (up_eff hUg ef13 (Nat.ne_of_lt (Nat.lt_add_right 3 hg.hb))) ef14 (Nat.ne_of_lt (Nat.lt_add_right 4 hg.hb)), ?_⟩
              · rw [← HCG.out]
                exact .off n p v s ee yv yy d HN.out HINN.out HGT.out
              · dsimp only
                rw [HL.out.1, HL.out.2.1, ← HFE.out]
              · exact but_eff2 (but_eff2 (tot_but hg.tot) ef13 (Nat.le_add_right _ _)) ef14 (Nat.le_add_right _ _)
        case neg =>
          have HGN := Lib.hid hgate
          obtain ⟨kb, hkb⟩ : ∃ kb, w10.heap.size = kb := ⟨_, rfl⟩
          have hykb : y.block < kb := by rw [← hkb]; obtain ⟨cs, q', hc⟩ := hliX.wj.ty y rfl (by rw [HL.out.1, HLN.out.1]; omega); exact (Array.getElem?_eq_some_iff.1 hc).1
          have hgkb : gp < kb := by rw [← hkb]; obtain ⟨cs, q', hc⟩ := hlp6.wj.ty _ rfl (by rw [HPL.out]; omega); exact (Array.getElem?_eq_some_iff.1 hc).1
          have hokb : ob < kb := by rw [← hkb]; exact z3.lt
          have hkb5 : w0.heap.size + 5 ≤ kb := by rw [← hkb]; exact hg.sz
          have hyo : w0.heap.size ≤ y.block := hliX.mi.lo y rfl (by rw [HL.out.1, HLN.out.1]; omega)
          have hyob : y.block ≠ ob := fun e => blk_ity z3 (hliX.wj.ty y rfl (by rw [HL.out.1, HLN.out.1]; omega)) (by decide) e.symm
          have HYS := Lib.hid (show ¬ Ty w10 y.block 25 from fun h => by obtain ⟨cs, q', hc⟩ := hliX.wj.ty y rfl (by rw [HL.out.1, HLN.out.1]; omega); exact absurd (h.inj ⟨cs, q', hc⟩) (by decide))
          have HY5 : w0.heap.size + 5 ≤ y.block := by
            have hty := hliX.wj.ty y rfl (by rw [HL.out.1, HLN.out.1]; omega)
            have n0 := blk_ity hg.m hty (by decide)
            have n1 := blk_ity hg.bl hty (by decide)
            have n2 := blk_ity hg.q hty (by decide)
            have n3 := blk_ity hg.r1 hty (by decide)
            have n4 := blk_ity hg.r2 hty (by decide)
            omega
          go_wp2_with (at_make; refine make_ints _ rfl _ _ rfl n rfl rfl (by omega) ?_)
          intro w11 hkz0 hK
          have hkz : Blk w11 kb (((List.replicate n (0 : Int)).map fun z => Value.int .i64 z).toArray) 3 := by
            rw [show ((List.replicate n (0 : Int)).map fun z => Value.int .i64 z).toArray = Array.replicate n (Value.int .i64 0) by simp]
            exact hkz0
          try rw [hkb]
          replace hK : Below w10.heap.size w10 w11 := by first | exact hK | (rw [hkb]; exact hK)
          have hlk := LI.of_blk (B := w0.heap.size) hkz (by omega) (fun z hz => by rw [List.eq_of_mem_replicate hz]; exact ⟨by decide, by decide⟩) (by rw [List.length_replicate]; omega)
          rw [List.length_replicate] at hlk
          replace z3 := z3.keep hK
          replace hliX := hliX.keep hK
          replace hlp6 := hlp6.keep hK
          replace hg := hg.new hK
          have hU11 := hU10.keep hK
          clear hK hkz hkz0 hliP HYS hU10 hkb
          obtain ⟨fk, hfk⟩ : ∃ fk : Nat → Int × Bool, fk = fun i => divF (p.1.getD i 0) s.1 := ⟨_, rfl⟩
          obtain ⟨fx, hfx⟩ : ∃ fx : Nat → Int × Bool, fx = fun i => xF (B.X.getD i 0) (fk i).1 yv.1 := ⟨_, rfl⟩
          have HFK := Lib.hid (show ∀ i, divF (p.1.getD i 0) s.1 = fk i from fun i => by rw [hfk])
          have HFX := Lib.hid (show ∀ i, xF (B.X.getD i 0) (fk i).1 yv.1 = fx i from fun i => by rw [hfx])
          have HFKE := Lib.hid hfk
          clear hfk hfx
          have HZL := Lib.hid (show (List.replicate n (0 : Int)).length = n from List.length_replicate)
          have hlxe := HLN.out.1
          have HLX := Lib.hid hlxe
          clear hlxe
          go_wp2_with fail
          go_loopw [122] (fun i wr => ∃ m : Nat, m ≤ n ∧ i = .int .i64 m ∧ LI w0.heap.size wr (some y) c (parL n (fun i => (fx i).1) B.X m) ∧ LI w0.heap.size wr (some ⟨kb, 0, none⟩) n (parL n (fun i => (fk i).1) (List.replicate n 0) m) ∧ LI w0.heap.size wr (some ⟨gp, 0, none⟩) kp p.1 ∧ UP wr b (cf || (List.range m).any fun i => ((fk i).2 || (fx i).2)) ∧ OneS w0 b #[.int .i64 (n : Int), .slice aA la cA, .slice aQ lq cQ, .int .i64 M.tick, .int .i64 M.gate, .int .i64 M.rmin, .slice aR lr cR] #[.int .i64 B.t, .slice aX lx cX, .slice aP lp cP, .bool fl, .int .i64 B.pass, .int .i64 B.fail] #[.int .i64 q.s, .slice aH lh cH, .int .i64 q.r] wr ∧ Blk wr ob #[Value.int .i64 B.t, Value.slice (some y) lx c, Value.slice yp lp cp, Value.bool fl, Value.int .i64 B.pass, Value.int .i64 B.fail] 27) (fun i _ => n - (intOf i).toNat)
          case atStart => exact ⟨0, Nat.zero_le _, rfl, by rw [parL_zero (by rw [HL.out.1, HLX.out])]; exact hliX, by rw [parL_zero HZL.out]; exact hlk, hlp6, by simpa using hU11, hg, z3⟩
          case round =>
            clear z3 hliX hlp6 hg hU11 hlk
            obtain ⟨i, hin, rfl, hliX, hlk, hlp6, hUi, hg, z3⟩ := hrel
            by_cases hlt : i < n
            · have hlt' : (i : Int) < (n : Int) := by omega
              have hi0 : (0 : Int) ≤ (i : Int) := by omega
              have hi1 : (i : Int) < (lx : Int) := by have := HLX.out; omega
              have HPI := Lib.hid (ml_atD (hlp6.ml hUi) (show i < p.1.length by rw [HPL.out]; exact hlt))
              obtain ⟨x', hx', dp⟩ := HPI.out
              cases hx'
              rw [Addr.add_lit, Nat.zero_add] at dp
              have hp64 := getD_i64 hlp6.mi.rng i
              have hDV := uDiv_is hUi (p.1.getD i 0) s.1 hp64 hs64
              rw [HFK.out] at hDV
              have HDV := Lib.hid hDV
              generalize p.1.getD i 0 = pi at *
              clear hDV
              go_wp2_with fail
              refine HDV.out.mono ?_
              rintro e w7' ⟨rfl, hU7, hB7⟩
              replace z3 := hB7.blk z3 hobn
              replace hliX := hliX.but hUi hB7
              replace hlk := hlk.but hUi hB7
              replace hlp6 := hlp6.but hUi hB7
              replace hg := hg.but hB7
              clear HDV hB7 hUi dp
              obtain ⟨v0, hv0, hf0⟩ := li_put hlk i (by rw [parL_len]; exact hlt)
              have hpk := LI.putS hlk i (by rw [parL_len]; exact hlt) (fk i).1 (by rw [← HFK.out]; exact (divF_fx _ _).i64)
              rw [parL_set (f := fun i => (fk i).1)] at hpk
              rw [Addr.add_lit, Nat.zero_add] at hv0 hf0 hpk
              go_wp2_with fail
              have hEk : Eff (fun k => k = kb) w7' (w7'.setCell ⟨kb, i, none⟩ (.int .i64 (fk i).1)) := Eff.set _ _ rfl
              obtain ⟨w8, hw8⟩ : ∃ w8 : World, w7'.setCell ⟨kb, i, none⟩ (.int .i64 (fk i).1) = w8 := ⟨_, rfl⟩
              rw [hw8] at hpk hEk
              rw [hw8]
              clear hw8 hv0 hf0 hlk
              have hlk := hpk
              clear hpk
              have hU := hU7.effP hEk (by have := hg.hb; omega)
              replace z3 := hEk.blk z3 (by omega)
              have hli := li_eff2 hliX hEk (fun x hx _ => by cases hx; omega)
              replace hlp6 := li_eff2 hlp6 hEk (fun x hx _ => by cases hx; show ¬ gp = kb; omega)
              replace hg := hg.go (hEk.mono fun _ _ e => .inr (by omega))
              clear hEk hU7 hliX
              have hblt := hU.lt
              have hyb : y.block ≠ b := by have := hg.hb; omega
              have hylt : y.block < w8.heap.size := by obtain ⟨cs, q', hc⟩ := hli.wj.ty y rfl (by rw [parL_len]; omega); exact (Array.getElem?_eq_some_iff.1 hc).1
              have d1 : w8.cell? ⟨ob, 1, none⟩ = some (.slice (some y) lx c) := z3.cell 1
              obtain ⟨y', hy', d2⟩ := ml_atD (hli.ml hU) (show i < (parL n (fun i => (fx i).1) B.X i).length by rw [parL_len]; exact hlt)
              cases hy'
              rw [parL_get hlt] at d2
              obtain ⟨y', hy', d3⟩ := ml_atD (hlk.ml hU) (show i < (parL n (fun i => (fk i).1) (List.replicate n 0) (i + 1)).length by rw [parL_len]; exact hlt)
              cases hy'
              rw [parL_get2 hlt (by omega), Addr.add_lit, Nat.zero_add] at d3
              have n1 := hobn
              have n2 : (y.add i).block ≠ b := by rw [add_block]; exact hyb
              have n3 : kb ≠ b := by have := hg.hb; omega
              have hxi : I64 (B.X.getD i 0) := getD_i64 hX.mi.rng i
              have hki : I64 (fk i).1 := by rw [← HFK.out]; exact (divF_fx _ _).i64
              have HSET := Lib.hid (parL_set (n := n) (f := fun i => (fx i).1) (z := B.X) (m := i))
              have HFL := Lib.hid (any_range_succ (fun i => (fk i).2 || (fx i).2) i)
              have HXI := Lib.hid (HFX.out i)
              generalize B.X.getD i 0 = xi at *
              obtain ⟨ki, hkie⟩ : ∃ ki, (fk i).1 = ki := ⟨_, rfl⟩
              rw [hkie] at d3 hki HXI
              have HKI := Lib.hid hkie
              clear hkie
              obtain ⟨p1, hp1e⟩ : ∃ p, timesL [ki, yv.1] = p := ⟨_, rfl⟩
              obtain ⟨p2, hp2e⟩ : ∃ p, plusL [xi, p1.1] = p := ⟨_, rfl⟩
              have hPE : xF xi ki yv.1 = (p2.1, p1.2 || p2.2) := by unfold xF; rw [hp1e, hp2e]
              have hp1 : I64 p1.1 := by rw [← hp1e]; exact (timesL_fx _).i64
              have hp2 : I64 p2.1 := by rw [← hp2e]; exact (plusL_fx _).i64
              have HC1 := Lib.hid (fun (W : World) {c : Bool} (hu : UP W b c) {e : Nat} (hz : ML b W (some ⟨e, 0, none⟩) 2 [ki, yv.1]) => uMul_is hu hz)
              have HC2 := Lib.hid (fun (W : World) {c : Bool} (hu : UP W b c) {e : Nat} (hz : ML b W (some ⟨e, 0, none⟩) 2 [xi, p1.1]) => uAdd_is hu hz)
              simp only [hp1e, hp2e, List.length_cons, List.length_nil, Nat.zero_add, Nat.reduceAdd] at HC1 HC2
              have HP12 := Lib.hid (HXI.out.symm.trans hPE)
              obtain ⟨cc, hcc⟩ : ∃ cc, ((cf || (List.range i).any fun i => ((fk i).2 || (fx i).2)) || (fk i).2) = cc := ⟨_, rfl⟩
              rw [hcc] at hU
              have HCC := Lib.hid hcc
              obtain ⟨zs, hzs⟩ : ∃ zs, parL n (fun i => (fx i).1) B.X i = zs := ⟨_, rfl⟩
              have hil : i < zs.length := by rw [← hzs, parL_len]; exact hlt
              rw [hzs] at hli HSET
              clear hPE hp1e hp2e hcc hzs HXI HKI
              go_wp2_with fail
              refine region_fp [some 135, some 136, some 137, some 138, some 139, some 140, some 141, some 142, some 143, some 144, some 145, some 146, some 147, some 148, some 149, some 150, some 151, some 152, some 153, some 154, none] [15, 16, 17, 18, 20] [some (Value.pointer (some ⟨ob, 1, none⟩)), some (Value.slice (some y) lx c), some (Value.int .i64 (i : Int)), some (Value.pointer (some ⟨b, 0, none⟩)), some (Value.pointer (some ⟨ob, 1, none⟩)), some (Value.slice (some y) lx c), some (Value.int .i64 (i : Int)), some (Value.pointer (some (y.add i))), some (Value.int .i64 xi), some (Value.pointer (some ⟨b, 0, none⟩)), some (Value.slice (some ⟨kb, 0, none⟩) n n), some (Value.int .i64 (i : Int)), some (Value.pointer (some ⟨kb, i, none⟩)), some (Value.int .i64 ki), some (Value.int .i64 yv.1), none, some (Value.int .i64 p1.1), none, some (Value.int .i64 p2.1), some (Value.pointer (some (y.add i))), none]
                (fun i v W => match i with | 15 => ∃ e, v = Value.slice (some ⟨e, 0, none⟩) 2 2 ∧ Blk W e #[.int .i64 ki, .int .i64 yv.1] 3 ∧ w8.heap.size ≤ e | 17 => ∃ e, v = Value.slice (some ⟨e, 0, none⟩) 2 2 ∧ Blk W e #[.int .i64 xi, .int .i64 p1.1] 3 ∧ w8.heap.size ≤ e | _ => True) (fun W W' => ∀ k, w8.heap.size ≤ k → k < W.heap.size → W'.heap[k]? = W.heap[k]?) (fun L f W => (L 20 = false → But b w8 W) ∧ (L 16 = false → UP W b cc) ∧ (L 16 = true → L 18 = false → UP W b (cc || p1.2)) ∧ (L 18 = true → L 20 = false → UP W b ((cc || p1.2) || p2.2)) ∧ (L 16 = true → L 15 = true) ∧ (L 17 = true → L 16 = true) ∧ (L 18 = true → L 17 = true) ∧ (L 20 = true → L 18 = true) ∧ (L 20 = true → LI w0.heap.size W (some y) c (List.set zs i p2.1) ∧ Eff (fun k => k = b ∨ k = y.block) w8 W ∧ UP W b ((cc || p1.2) || p2.2)))
                (by kernel_rfl) (by kernel_rfl) (by kernel_rfl) (by kernel_rfl) (by kernel_rfl) (fun _ _ _ _ => rfl) (fun i v W W' h hb => by
                  match i, h with
                  | 15, ⟨e1, h1, h2, h3⟩ => exact ⟨e1, h1, (hb e1 h3 h2.lt).trans h2, h3⟩
                  | 17, ⟨e1, h1, h2, h3⟩ => exact ⟨e1, h1, (hb e1 h3 h2.lt).trans h2, h3⟩
                  | 0, _ | 1, _ | 2, _ | 3, _ | 4, _ | 5, _ | 6, _ | 7, _ | 8, _ | 9, _ | 10, _ | 11, _ | 12, _ | 13, _ | 14, _ | 16, _ | 18, _ | 19, _ | 20, _ => trivial
                  | (m + 21), _ => trivial) (fun L L' f f' W h hs => by have q15 := (h 15 (by decide)).1; have q16 := (h 16 (by decide)).1; have q17 := (h 17 (by decide)).1; have q18 := (h 18 (by decide)).1; have q20 := (h 20 (by decide)).1; (try dsimp only at hs ⊢); rw [← q15, ← q16, ← q17, ← q18, ← q20]; exact hs) ⟨fun _ => (But.refl _ w8).drew, fun _ => hU.drew, fun h => (Bool.false_ne_true h).elim, fun h => (Bool.false_ne_true h).elim, fun h => (Bool.false_ne_true h).elim, fun h => (Bool.false_ne_true h).elim, fun h => (Bool.false_ne_true h).elim, fun h => (Bool.false_ne_true h).elim, fun h => (Bool.false_ne_true h).elim⟩ ?_ ?_
              · intro i hi b' L f W hSW hL hdep hsh he hsv hsl hFF K hK1 hK2
                replace hi : i < 21 := hi
                have hcs : i = 0 ∨ i = 1 ∨ i = 2 ∨ i = 3 ∨ i = 4 ∨ i = 5 ∨ i = 6 ∨ i = 7 ∨ i = 8 ∨ i = 9 ∨ i = 10 ∨ i = 11 ∨ i = 12 ∨ i = 13 ∨ i = 14 ∨ i = 15 ∨ i = 16 ∨ i = 17 ∨ i = 18 ∨ i = 19 ∨ i = 20 := by omega
                clear hi
                rcases hcs with rfl | rfl | rfl | rfl | rfl | rfl | rfl | rfl | rfl | rfl | rfl | rfl | rfl | rfl | rfl | rfl | rfl | rfl | rfl | rfl | rfl
                · refine wpOpS_go rfl rfl ?_
                  have t15 : b'.tmps[15]?.getD undef = Value.pointer (some ⟨ob, 0, none⟩) := he 15 (by kernel_rfl)
                  have HK := Lib.hid hK1
                  clear hK1 hK2 hdep hsh he hsv hsl hFF hL
                  clear hSW
                  go_simp
                  exact HK.out rfl _ (fp_mk rfl rfl trivial)
                · refine wpOpS_go rfl rfl ?_
                  have t135 : b'.tmps[135]?.getD undef = Value.pointer (some ⟨ob, 1, none⟩) := hsv 0 135 _ (by kernel_rfl) (by kernel_rfl) rfl
                  obtain ⟨sB, sU0, sU1, sU2, sC16, sC17, sC18, sC20, sF⟩ := hSW
                  have bt := sB (hsh 20 (by kernel_rfl))
                  have c0' := cell_but0 d1 n1 bt
                  have HK := Lib.hid hK1
                  clear hK1 hK2 hdep hsh he hsv hsl hFF hL
                  clear sB sU0 sU1 sU2 sC16 sC17 sC18 sC20 sF bt
                  go_simp
                  exact HK.out rfl _ (fp_mk rfl rfl trivial)
                · refine wpOpS_go rfl rfl ?_
                  have t25 : b'.tmps[25]?.getD undef = Value.int .i64 (i : Int) := he 25 (by kernel_rfl)
                  have HK := Lib.hid hK1
                  clear hK1 hK2 hdep hsh he hsv hsl hFF hL
                  clear hSW
                  go_simp
                  exact HK.out rfl _ (fp_mk rfl rfl trivial)
                · refine wpOpS_go rfl rfl ?_
                  have t0 : b'.tmps[0]?.getD undef = Value.pointer (some ⟨b, 0, none⟩) := he 0 (by kernel_rfl)
                  have HK := Lib.hid hK1
                  clear hK1 hK2 hdep hsh he hsv hsl hFF hL
                  clear hSW
                  go_simp
                  exact HK.out rfl _ (fp_mk rfl rfl trivial)
                · refine wpOpS_go rfl rfl ?_
                  have t15 : b'.tmps[15]?.getD undef = Value.pointer (some ⟨ob, 0, none⟩) := he 15 (by kernel_rfl)
                  have HK := Lib.hid hK1
                  clear hK1 hK2 hdep hsh he hsv hsl hFF hL
                  clear hSW
                  go_simp
                  exact HK.out rfl _ (fp_mk rfl rfl trivial)
                · refine wpOpS_go rfl rfl ?_
                  have t139 : b'.tmps[139]?.getD undef = Value.pointer (some ⟨ob, 1, none⟩) := hsv 4 139 _ (by kernel_rfl) (by kernel_rfl) rfl
                  obtain ⟨sB, sU0, sU1, sU2, sC16, sC17, sC18, sC20, sF⟩ := hSW
                  have bt := sB (hsh 20 (by kernel_rfl))
                  have c0' := cell_but0 d1 n1 bt
                  have HK := Lib.hid hK1
                  clear hK1 hK2 hdep hsh he hsv hsl hFF hL
                  clear sB sU0 sU1 sU2 sC16 sC17 sC18 sC20 sF bt
                  go_simp
                  exact HK.out rfl _ (fp_mk rfl rfl trivial)
                · refine wpOpS_go rfl rfl ?_
                  have t25 : b'.tmps[25]?.getD undef = Value.int .i64 (i : Int) := he 25 (by kernel_rfl)
                  have HK := Lib.hid hK1
                  clear hK1 hK2 hdep hsh he hsv hsl hFF hL
                  clear hSW
                  go_simp
                  exact HK.out rfl _ (fp_mk rfl rfl trivial)
                · refine wpOpS_go rfl rfl ?_
                  have t140 : b'.tmps[140]?.getD undef = Value.slice (some y) lx c := hsv 5 140 _ (by kernel_rfl) (by kernel_rfl) rfl
                  have t141 : b'.tmps[141]?.getD undef = Value.int .i64 (i : Int) := hsv 6 141 _ (by kernel_rfl) (by kernel_rfl) rfl
                  have HK := Lib.hid hK1
                  clear hK1 hK2 hdep hsh he hsv hsl hFF hL
                  clear hSW
                  go_simp
                  exact HK.out rfl _ (fp_mk rfl rfl trivial)
                · refine wpOpS_go rfl rfl ?_
                  have t142 : b'.tmps[142]?.getD undef = Value.pointer (some (y.add i)) := hsv 7 142 _ (by kernel_rfl) (by kernel_rfl) rfl
                  obtain ⟨sB, sU0, sU1, sU2, sC16, sC17, sC18, sC20, sF⟩ := hSW
                  have bt := sB (hsh 20 (by kernel_rfl))
                  have c0' := cell_but0 d2 n2 bt
                  have HK := Lib.hid hK1
                  clear hK1 hK2 hdep hsh he hsv hsl hFF hL
                  clear sB sU0 sU1 sU2 sC16 sC17 sC18 sC20 sF bt
                  go_simp
                  exact HK.out rfl _ (fp_mk rfl rfl trivial)
                · refine wpOpS_go rfl rfl ?_
                  have t0 : b'.tmps[0]?.getD undef = Value.pointer (some ⟨b, 0, none⟩) := he 0 (by kernel_rfl)
                  have HK := Lib.hid hK1
                  clear hK1 hK2 hdep hsh he hsv hsl hFF hL
                  clear hSW
                  go_simp
                  exact HK.out rfl _ (fp_mk rfl rfl trivial)
                · refine wpOpS_go rfl rfl ?_
                  have t24 : b'.tmps[24]?.getD undef = Value.slice (some ⟨kb, 0, none⟩) n n := he 24 (by kernel_rfl)
                  have HK := Lib.hid hK1
                  clear hK1 hK2 hdep hsh he hsv hsl hFF hL
                  clear hSW
                  go_simp
                  exact HK.out rfl _ (fp_mk rfl rfl trivial)
                · refine wpOpS_go rfl rfl ?_
                  have t25 : b'.tmps[25]?.getD undef = Value.int .i64 (i : Int) := he 25 (by kernel_rfl)
                  have HK := Lib.hid hK1
                  clear hK1 hK2 hdep hsh he hsv hsl hFF hL
                  clear hSW
                  go_simp
                  exact HK.out rfl _ (fp_mk rfl rfl trivial)
                · refine wpOpS_go rfl rfl ?_
                  have t145 : b'.tmps[145]?.getD undef = Value.slice (some ⟨kb, 0, none⟩) n n := hsv 10 145 _ (by kernel_rfl) (by kernel_rfl) rfl
                  have t146 : b'.tmps[146]?.getD undef = Value.int .i64 (i : Int) := hsv 11 146 _ (by kernel_rfl) (by kernel_rfl) rfl
                  have HK := Lib.hid hK1
                  clear hK1 hK2 hdep hsh he hsv hsl hFF hL
                  clear hSW
                  go_simp
                  exact HK.out rfl _ (fp_mk rfl rfl trivial)
                · refine wpOpS_go rfl rfl ?_
                  have t147 : b'.tmps[147]?.getD undef = Value.pointer (some ⟨kb, i, none⟩) := hsv 12 147 _ (by kernel_rfl) (by kernel_rfl) rfl
                  obtain ⟨sB, sU0, sU1, sU2, sC16, sC17, sC18, sC20, sF⟩ := hSW
                  have bt := sB (hsh 20 (by kernel_rfl))
                  have c0' := cell_but0 d3 n3 bt
                  have HK := Lib.hid hK1
                  clear hK1 hK2 hdep hsh he hsv hsl hFF hL
                  clear sB sU0 sU1 sU2 sC16 sC17 sC18 sC20 sF bt
                  go_simp
                  exact HK.out rfl _ (fp_mk rfl rfl trivial)
                · refine wpOpS_go rfl rfl ?_
                  have t23 : b'.tmps[23]?.getD undef = Value.int .i64 yv.1 := he 23 (by kernel_rfl)
                  have HK := Lib.hid hK1
                  clear hK1 hK2 hdep hsh he hsv hsl hFF hL
                  clear hSW
                  go_simp
                  exact HK.out rfl _ (fp_mk rfl rfl trivial)
                · refine wpOpS_go rfl rfl ?_
                  have t148 : b'.tmps[148]?.getD undef = Value.int .i64 ki := hsv 13 148 _ (by kernel_rfl) (by kernel_rfl) rfl
                  have t149 : b'.tmps[149]?.getD undef = Value.int .i64 yv.1 := hsv 14 149 _ (by kernel_rfl) (by kernel_rfl) rfl
                  obtain ⟨sB, sU0, sU1, sU2, sC16, sC17, sC18, sC20, sF⟩ := hSW
                  have hst := hsh 20 (by kernel_rfl)
                  have HK := Lib.hid hK2
                  have hws : w8.heap.size ≤ W.heap.size := (sB hst).size
                  clear hK1 hK2 hdep hsh he hsv hsl hFF hL
                  refine op_slice2 (cs := #[.int .i64 ki, .int .i64 yv.1]) (t := 3) (by go_simp) ?_
                  intro w6 hbn hB hz
                  exact HK.out _ _ (fp_x rfl ⟨_, rfl, hbn, hws⟩) (fun k _ hk => hB.block k hk) ⟨fun h => (sB h).trans (But.of hB), fun h0 => (sU0 h0).keep hB, fun h0 h1 => (sU1 h0 h1).keep hB, fun h0 h1 => (sU2 h0 h1).keep hB, fun _ => by rw [updF_same], sC17, sC18, sC20, fun h => absurd h (by show ¬ L 20 = true; rw [hst]; decide)⟩
                · refine wpOpS_go rfl rfl ?_
                  have t144 : b'.tmps[144]?.getD undef = Value.pointer (some ⟨b, 0, none⟩) := hsv 9 144 _ (by kernel_rfl) (by kernel_rfl) rfl
                  obtain ⟨t150, hx⟩ := hsl 15 150 (by kernel_rfl) (by kernel_rfl)
                  obtain ⟨e1, e2, hb1, hn1⟩ := hx
                  rw [e2] at t150
                  obtain ⟨sB, sU0, sU1, sU2, sC16, sC17, sC18, sC20, sF⟩ := hSW
                  have l15 : L 15 = true := hdep 15 (by kernel_rfl)
                  have hst := hsh 20 (by kernel_rfl)
                  have hc18 := hsh 18 (by kernel_rfl)
                  have hu := sU0 hL
                  have HK := Lib.hid hK2
                  clear hK1 hK2 hdep hsh he hsv hsl hFF e2
                  go_simp
                  refine (HC1.out _ hu (ml_new (zs := [ki, yv.1]) hb1 (by omega) (two_i64 hki hy64) (by simp))).mono ?_
                  rintro e w6 ⟨rfl, hU6, hB6⟩
                  exact HK.out _ _ (fp_mk rfl rfl trivial) (fun k hk hk' => hB6.block k hk' (by omega)) ⟨fun h => (sB h).trans hB6, fun h0 => absurd h0 (by rw [updF_same]; decide), fun _ _ => hU6, fun h0 h1 => absurd h0 (by show ¬ L 18 = true; rw [hc18]; decide), fun _ => l15, fun _ => by rw [updF_same], sC18, sC20, fun h => absurd h (by show ¬ L 20 = true; rw [hst]; decide)⟩
                · refine wpOpS_go rfl rfl ?_
                  have t143 : b'.tmps[143]?.getD undef = Value.int .i64 xi := hsv 8 143 _ (by kernel_rfl) (by kernel_rfl) rfl
                  have t151 : b'.tmps[151]?.getD undef = Value.int .i64 p1.1 := hsv 16 151 _ (by kernel_rfl) (by kernel_rfl) rfl
                  obtain ⟨sB, sU0, sU1, sU2, sC16, sC17, sC18, sC20, sF⟩ := hSW
                  have l16 : L 16 = true := hdep 16 (by kernel_rfl)
                  have l15 : L 15 = true := sC16 l16
                  have hst := hsh 20 (by kernel_rfl)
                  have HK := Lib.hid hK2
                  have hws : w8.heap.size ≤ W.heap.size := (sB hst).size
                  clear hK1 hK2 hdep hsh he hsv hsl hFF hL
                  refine op_slice2 (cs := #[.int .i64 xi, .int .i64 p1.1]) (t := 3) (by go_simp) ?_
                  intro w6 hbn hB hz
                  exact HK.out _ _ (fp_x rfl ⟨_, rfl, hbn, hws⟩) (fun k _ hk => hB.block k hk) ⟨fun h => (sB h).trans (But.of hB), fun h0 => (sU0 h0).keep hB, fun h0 h1 => (sU1 h0 h1).keep hB, fun h0 h1 => (sU2 h0 h1).keep hB, sC16, fun _ => l16, fun _ => by rw [updF_same], sC20, fun h => absurd h (by show ¬ L 20 = true; rw [hst]; decide)⟩
                · refine wpOpS_go rfl rfl ?_
                  have t138 : b'.tmps[138]?.getD undef = Value.pointer (some ⟨b, 0, none⟩) := hsv 3 138 _ (by kernel_rfl) (by kernel_rfl) rfl
                  obtain ⟨t152, hx⟩ := hsl 17 152 (by kernel_rfl) (by kernel_rfl)
                  obtain ⟨e1, e2, hb1, hn1⟩ := hx
                  rw [e2] at t152
                  obtain ⟨sB, sU0, sU1, sU2, sC16, sC17, sC18, sC20, sF⟩ := hSW
                  have l17 : L 17 = true := hdep 17 (by kernel_rfl)
                  have l16 : L 16 = true := sC17 l17
                  have l15 : L 15 = true := sC16 l16
                  have hst := hsh 20 (by kernel_rfl)
                  have hu := sU1 l16 hL
                  have HK := Lib.hid hK2
                  clear hK1 hK2 hdep hsh he hsv hsl hFF e2
                  go_simp
                  refine (HC2.out _ hu (ml_new (zs := [xi, p1.1]) hb1 (by omega) (two_i64 hxi hp1) (by simp))).mono ?_
                  rintro e w6 ⟨rfl, hU6, hB6⟩
                  exact HK.out _ _ (fp_mk rfl rfl trivial) (fun k hk hk' => hB6.block k hk' (by omega)) ⟨fun h => (sB h).trans hB6, fun h0 => absurd (show L 16 = false from h0) (by rw [l16]; decide), fun h0 h1 => absurd h1 (by rw [updF_same]; decide), fun _ _ => hU6, sC16, sC17, fun _ => l17, fun _ => by rw [updF_same], fun h => absurd h (by show ¬ L 20 = true; rw [hst]; decide)⟩
                · refine wpOpS_go rfl rfl ?_
                  have t136 : b'.tmps[136]?.getD undef = Value.slice (some y) lx c := hsv 1 136 _ (by kernel_rfl) (by kernel_rfl) rfl
                  have t137 : b'.tmps[137]?.getD undef = Value.int .i64 (i : Int) := hsv 2 137 _ (by kernel_rfl) (by kernel_rfl) rfl
                  have HK := Lib.hid hK1
                  clear hK1 hK2 hdep hsh he hsv hsl hFF hL
                  clear hSW
                  go_simp
                  exact HK.out rfl _ (fp_mk rfl rfl trivial)
                · refine wpOpS_go rfl rfl ?_
                  have t153 : b'.tmps[153]?.getD undef = Value.int .i64 p2.1 := hsv 18 153 _ (by kernel_rfl) (by kernel_rfl) rfl
                  have t154 : b'.tmps[154]?.getD undef = Value.pointer (some (y.add i)) := hsv 19 154 _ (by kernel_rfl) (by kernel_rfl) rfl
                  obtain ⟨sB, sU0, sU1, sU2, sC16, sC17, sC18, sC20, sF⟩ := hSW
                  have l18 : L 18 = true := hdep 18 (by kernel_rfl)
                  have l17 : L 17 = true := sC18 l18
                  have l16 : L 16 = true := sC17 l17
                  have l15 : L 15 = true := sC16 l16
                  have hbt := sB hL
                  have hu := sU2 l18 hL
                  have hs := hli.but hU hbt
                  obtain ⟨v0, hv0, hf0⟩ := li_put hs i hil
                  have HK := Lib.hid hK2
                  clear hK1 hK2 hdep hsh he hsv hsl hFF
                  go_simp
                  have hE : Eff (fun q => q = y.block) W (W.setCell (y.add i) (.int .i64 p2.1)) := Eff.set _ _ (by rw [add_block])
                  exact HK.out undef _ (fp_x (v := undef) rfl trivial) (fun k hk hk' => hE.block k hk' (by omega)) ⟨fun h => absurd h (by rw [updF_same]; decide), fun h0 => absurd (show L 16 = false from h0) (by rw [l16]; decide), fun h0 h1 => absurd (show L 18 = false from h1) (by rw [l18]; decide), fun h0 h1 => absurd h1 (by rw [updF_same]; decide), sC16, sC17, sC18, fun _ => l18, fun _ => ⟨LI.putS hs i hil p2.1 hp2, (Eff.trans (P := fun k => k = b ∨ k = y.block) ((but_eff hbt).mono fun _ _ h => .inl h) hE (fun _ _ h => .inr h)), up_eff hu hE (Ne.symm hyb)⟩⟩
              · intro f W hf L hL hS
                obtain ⟨sB, sU0, sU1, sU2, sC16, sC17, sC18, sC20, sF⟩ := (hS : _ ∧ _ ∧ _ ∧ _ ∧ _ ∧ _ ∧ _ ∧ _ ∧ _)
                obtain ⟨sL, sE, sU⟩ := sF (hL 20 (by decide))
                obtain ⟨z15, e15, _, _⟩ := (hf 15 (by decide)).2
                obtain ⟨z17, e17, _, _⟩ := (hf 17 (by decide)).2
                have e0 : f 0 = Value.pointer (some ⟨ob, 1, none⟩) := (hf 0 (by decide)).1 _ rfl
                have e1 : f 1 = Value.slice (some y) lx c := (hf 1 (by decide)).1 _ rfl
                have e2 : f 2 = Value.int .i64 (i : Int) := (hf 2 (by decide)).1 _ rfl
                have e3 : f 3 = Value.pointer (some ⟨b, 0, none⟩) := (hf 3 (by decide)).1 _ rfl
                have e4 : f 4 = Value.pointer (some ⟨ob, 1, none⟩) := (hf 4 (by decide)).1 _ rfl
                have e5 : f 5 = Value.slice (some y) lx c := (hf 5 (by decide)).1 _ rfl
                have e6 : f 6 = Value.int .i64 (i : Int) := (hf 6 (by decide)).1 _ rfl
                have e7 : f 7 = Value.pointer (some (y.add i)) := (hf 7 (by decide)).1 _ rfl
                have e8 : f 8 = Value.int .i64 xi := (hf 8 (by decide)).1 _ rfl
                have e9 : f 9 = Value.pointer (some ⟨b, 0, none⟩) := (hf 9 (by decide)).1 _ rfl
                have e10 : f 10 = Value.slice (some ⟨kb, 0, none⟩) n n := (hf 10 (by decide)).1 _ rfl
                have e11 : f 11 = Value.int .i64 (i : Int) := (hf 11 (by decide)).1 _ rfl
                have e12 : f 12 = Value.pointer (some ⟨kb, i, none⟩) := (hf 12 (by decide)).1 _ rfl
                have e13 : f 13 = Value.int .i64 ki := (hf 13 (by decide)).1 _ rfl
                have e14 : f 14 = Value.int .i64 yv.1 := (hf 14 (by decide)).1 _ rfl
                have e16 : f 16 = Value.int .i64 p1.1 := (hf 16 (by decide)).1 _ rfl
                have e18 : f 18 = Value.int .i64 p2.1 := (hf 18 (by decide)).1 _ rfl
                have e19 : f 19 = Value.pointer (some (y.add i)) := (hf 19 (by decide)).1 _ rfl
                clear hf hL sB sU0 sU1 sU2 sC16 sC17 sC18 sC20 sF
                simp only [puts2, Act.put, e0, e1, e2, e3, e4, e5, e6, e7, e8, e9, e10, e11, e12, e13, e14, e15, e16, e17, e18, e19]
                try simp only [List.setIfInBounds_toArray, List.set_cons_zero, List.set_cons_succ]
                clear e0 e1 e2 e3 e4 e5 e6 e7 e8 e9 e10 e11 e12 e13 e14 e15 e16 e17 e18 e19
                have HU := Lib.hid sU
                have HSL := Lib.hid sL
                have HSE := Lib.hid sE
                have hty := hli.wj.ty y rfl (by omega)
                clear sU sL sE HC1 HC2 d1 d2 d3 n1 n2 n3 hxi hki
                go_wp2_with fail
                go_roundw
                case rel =>
                  refine ⟨i + 1, hlt, by go_num, ?_, li_eff2 hlk HSE.out (fun x hx _ => by cases hx; rintro (h | h); exact absurd h (by have := hg.hb; show ¬ kb = b; omega); exact absurd h (by show ¬ kb = y.block; omega)), li_eff2 hlp6 HSE.out (fun x hx _ => by cases hx; rintro (h | h); exact (hlp6.ml hU).ne _ rfl (by rw [HPL.out]; omega) h; exact absurd h (by show ¬ gp = y.block; omega)), ?_, hg.go (HSE.out.mono fun _ _ e => by rcases e with e | e; exact .inl e; exact .inr (by omega)), HSE.out.blk z3 (fun h => by rcases h with h | h; exact hobn h; exact hyob h.symm)⟩
                  · rw [← HSET.out]
                    have h2 := HSL.out
                    rw [show p2.1 = (fx i).1 by rw [HP12.out]] at h2
                    exact h2
                  · rw [HFL.out]
                    have h2 := HU.out
                    rw [← HCC.out] at h2
                    rw [show (fx i).2 = (p1.2 || p2.2) by rw [HP12.out]]
                    simpa [Bool.or_assoc] using h2
                case measure => simp [intOf]; omega
            · have hge : ¬ (i : Int) < (n : Int) := by omega
              have HIN := Lib.hid (show i = n by omega)
              rw [HIN.out, parL_all] at hliX hlk
              rw [HIN.out, any_or] at hUi
              have HGK := Lib.hid (show gnM p.1 s.1 n = ((List.range n).map fun i => (fk i).1, (List.range n).any fun i => (fk i).2) by unfold gnM; simp only [HFK.out])
              have HGX := Lib.hid (show xsM B.X ((List.range n).map fun i => (fk i).1) yv.1 n = ((List.range n).map fun i => (fx i).1, (List.range n).any fun i => (fx i).2) by
                have hk2 : ∀ i, i < n → xF (B.X.getD i 0) (((List.range n).map fun i => (fk i).1).getD i 0) yv.1 = fx i := fun i hi => by
                  rw [show ((List.range n).map fun i => (fk i).1).getD i 0 = (fk i).1 by rw [List.getD_eq_getElem?_getD, List.getElem?_map, List.getElem?_range hi]; rfl]
                  exact HFX.out i
                unfold xsM
                congr 1
                · refine List.map_congr_left fun i hi => ?_
                  rw [hk2 i (List.mem_range.1 hi)]
                · rw [Bool.eq_iff_iff, List.any_eq_true, List.any_eq_true]
                  exact ⟨fun ⟨i, hi, h⟩ => ⟨i, hi, by rw [hk2 i (List.mem_range.1 hi)] at h; exact h⟩, fun ⟨i, hi, h⟩ => ⟨i, hi, by rw [hk2 i (List.mem_range.1 hi)]; exact h⟩⟩)
              have hkl : ((List.range n).map fun i => (fk i).1).length = n := by simp
              have hxl : ((List.range n).map fun i => (fx i).1).length = n := by simp
              have hJO := joseph_is hUi n hn1 (by omega) (hP.but (tot_but hg.tot)) (hlk.ml hUi) (by rw [HL.out.2.1, HLN.out.2.1]) hkl (s := q.s) (hH.but (tot_but hg.tot)) (by rw [HL.out.2.2.1, HLN.out.2.2]) hqr
              obtain ⟨K, hK⟩ : ∃ K, ((List.range n).map fun i => (fk i).1) = K := ⟨_, rfl⟩
              obtain ⟨kf, hkf⟩ : ∃ f : Bool, ((List.range n).any fun i => (fk i).2) = f := ⟨_, rfl⟩
              obtain ⟨XX, hXX⟩ : ∃ K, ((List.range n).map fun i => (fx i).1) = K := ⟨_, rfl⟩
              obtain ⟨xf, hxf⟩ : ∃ f : Bool, ((List.range n).any fun i => (fx i).2) = f := ⟨_, rfl⟩
              rw [hK] at hJO hlk hkl HGX HGK
              rw [hkf] at hUi hJO HGK
              rw [hXX] at hliX hxl HGX
              rw [hxf] at hUi hJO HGX
              rw [HL.out.2.1, HL.out.2.2.1, hkl] at hJO
              have HJO := Lib.hid hJO
              have HKL := Lib.hid hkl
              have HXL := Lib.hid hxl
              have hqb := hg.q
              have cb := hg.bl.cell
              clear hJO hK hkf hXX hxf hkl hxl hlp6
              go_wp2_with ((with_reducible refine at_dst (N := 161) rfl ?_); refine ev_load rfl 29 _ rfl hqb 0 rfl [.int .i64 q.s, .slice aH lh cH, .int .i64 q.r] rfl Tryz.underlying29 rfl (by kernel_rfl) ?_)
              refine HJO.out.mono ?_
              rintro e w9' ⟨yj, cj, P, jc, rfl, hjos, hlj, hUj, hBj⟩
              have HJ := Lib.hid hjos
              replace z3 := hBj.blk z3 hobn
              replace hliX := hliX.but hUi hBj
              have hlj2 := hlj.mono (B' := w0.heap.size) (by have := hg.sz; omega)
              replace hg := hg.but hBj
              obtain ⟨lj, hlj0⟩ : ∃ lj, P.length = lj := ⟨_, rfl⟩
              rw [hlj0]
              have HLJ := Lib.hid hlj0
              clear hlj hlj0 hBj hUi HJO cb hjos
              go_wp2_with ((with_reducible refine at_st (p := 163) (q := 162) rfl ?_); refine ev_store rfl 22 _ _ rfl rfl z3 2 rfl rfl [.slice yj lj cj] rfl (by kernel_rfl) rfl rfl #[Value.int .i64 B.t, Value.slice (some y) lx c, Value.slice yj lj cj, Value.bool fl, Value.int .i64 B.pass, Value.int .i64 B.fail] rfl ?_; intro w10' z4 ef10 hz10)
              replace hliX := li_eff2 hliX ef10 (fun x hx _ => by cases hx; exact hyob)
              replace hlj2 := hlj2.eff ef10 (fun k hk ht => by subst hk; exact absurd (ht.inj z3.ty) (by decide))
              have hUf := hUj.effP ef10 (Ne.symm hobn)
              replace hg := hg.go (ef10.mono fun _ _ e => .inr (by omega))
              clear z3 ef10 hz10 hUj
              have z3 := z4
              clear z4
              obtain ⟨w10, rfl⟩ : ∃ w10 : World, w10 = w10' := ⟨_, rfl⟩
              obtain ⟨ce, hce⟩ : ∃ ce, ((cf || (kf || xf)) || jc) = ce := ⟨_, rfl⟩
              rw [hce] at hUf
              have HCE := Lib.hid hce
              have HCFO := Lib.hid HCG.out
              clear hce
              obtain ⟨cold, hcold⟩ : ∃ cold : Bool, cf = cold := ⟨_, rfl⟩
              rw [hcold] at HCFO HCE
              clear HCG hcold
              obtain ⟨cf, rfl⟩ : ∃ cf : Bool, cf = ce := ⟨_, rfl⟩
              cases fl
              · go_wp2_with fail
                refine region_fp [some 164, some 165, some 166, some 167, some 168, some 169, some 170, some 171, some 172, some 173, some 174, some 175, none, some 176, none] [12, 14] [some (Value.pointer (some ⟨w0.heap.size + 1, 4, none⟩)), some (Value.int .i64 B.pass), some (Value.int .i64 (moreI B.pass)), some (Value.pointer (some ⟨w0.heap.size + 1, 3, none⟩)), some (Value.bool false), some (Value.bool false), some (Value.pointer (some ⟨b, 0, none⟩)), some (Value.pointer (some ⟨b, 0, none⟩)), some (Value.pointer (some ⟨b, 0, none⟩)), some (Value.bool cf), some (Value.bool cf), some (Value.pointer (some ⟨ob, 4, none⟩)), none, some (Value.pointer (some ⟨ob, 3, none⟩)), none]
                  (fun _ _ _ => True) (fun _ _ => True) (fun L f W => Eff (fun q => q = ob) w10 W ∧ Blk W ob #[Value.int .i64 B.t, Value.slice (some y) lx c, Value.slice yj lj cj, cond (L 14) (Value.bool cf) (Value.bool false), cond (L 12) (Value.int .i64 (moreI B.pass)) (Value.int .i64 B.pass), Value.int .i64 B.fail] 27)
                  (by kernel_rfl) (by kernel_rfl) (by kernel_rfl) (by kernel_rfl) (by kernel_rfl) (fun _ => trivial) (fun _ _ _ _ _ _ => trivial) (fun L L' f f' W h hs => by have q1 := (h 12 (by decide)).1; have q2 := (h 14 (by decide)).1; (try dsimp only at hs ⊢); rw [← q1, ← q2]; exact hs) ⟨Eff.of (upD (upR _)), z3.drew⟩ ?_ ?_
                · intro i hi b' L f W hSW hL hdep hsh he hsv hsl hFF K hK1 hK2
                  replace hi : i < 15 := hi
                  have hcs : i = 0 ∨ i = 1 ∨ i = 2 ∨ i = 3 ∨ i = 4 ∨ i = 5 ∨ i = 6 ∨ i = 7 ∨ i = 8 ∨ i = 9 ∨ i = 10 ∨ i = 11 ∨ i = 12 ∨ i = 13 ∨ i = 14 := by omega
                  clear hi
                  rcases hcs with rfl | rfl | rfl | rfl | rfl | rfl | rfl | rfl | rfl | rfl | rfl | rfl | rfl | rfl | rfl
                  · refine wpOpS_go rfl rfl ?_
                    have t7 : b'.tmps[7]?.getD undef = Value.pointer (some ⟨w0.heap.size + 1, 0, none⟩) := he 7 (by kernel_rfl)
                    have HK := Lib.hid hK1
                    clear hK1 hK2 hdep hsh he hsv hsl hFF hL
                    clear hSW
                    go_simp
                    exact HK.out rfl _ (fp_mk rfl rfl trivial)
                  · refine wpOpS_go rfl rfl ?_
                    have t164 : b'.tmps[164]?.getD undef = Value.pointer (some ⟨w0.heap.size + 1, 4, none⟩) := hsv 0 164 _ (by kernel_rfl) (by kernel_rfl) rfl
                    obtain ⟨s0, s1⟩ := hSW
                    have c0' := (s0.blk hg.bl (by have := hg.sz; omega)).cell
                    have HK := Lib.hid hK1
                    clear hK1 hK2 hdep hsh he hsv hsl hFF hL
                    clear s0 s1
                    go_simp
                    exact HK.out rfl _ (fp_mk rfl rfl trivial)
                  · refine wpOpS_go rfl rfl ?_
                    have t165 : b'.tmps[165]?.getD undef = Value.int .i64 B.pass := hsv 1 165 _ (by kernel_rfl) (by kernel_rfl) rfl
                    obtain ⟨s0, s1⟩ := hSW
                    have HK := Lib.hid hK1
                    clear hK1 hK2 hdep hsh he hsv hsl hFF hL
                    clear s0 s1
                    go_simp
                    refine (more_is _ hpass _).mono ?_
                    rintro e w6 ⟨rfl, rfl⟩
                    exact HK.out rfl _ (fp_mk rfl rfl trivial)
                  · refine wpOpS_go rfl rfl ?_
                    have t7 : b'.tmps[7]?.getD undef = Value.pointer (some ⟨w0.heap.size + 1, 0, none⟩) := he 7 (by kernel_rfl)
                    have HK := Lib.hid hK1
                    clear hK1 hK2 hdep hsh he hsv hsl hFF hL
                    clear hSW
                    go_simp
                    exact HK.out rfl _ (fp_mk rfl rfl trivial)
                  · refine wpOpS_go rfl rfl ?_
                    have t167 : b'.tmps[167]?.getD undef = Value.pointer (some ⟨w0.heap.size + 1, 3, none⟩) := hsv 3 167 _ (by kernel_rfl) (by kernel_rfl) rfl
                    obtain ⟨s0, s1⟩ := hSW
                    have c0' := (s0.blk hg.bl (by have := hg.sz; omega)).cell
                    have HK := Lib.hid hK1
                    clear hK1 hK2 hdep hsh he hsv hsl hFF hL
                    clear s0 s1
                    go_simp
                    exact HK.out rfl _ (fp_mk rfl rfl trivial)
                  · refine wpOpS_go rfl rfl ?_
                    have t168 : b'.tmps[168]?.getD undef = Value.bool false := hsv 4 168 _ (by kernel_rfl) (by kernel_rfl) rfl
                    have HK := Lib.hid hK1
                    clear hK1 hK2 hdep hsh he hsv hsl hFF hL
                    clear hSW
                    go_simp
                    exact HK.out rfl _ (fp_mk rfl rfl trivial)
                  · refine wpOpS_guard (dg := 169) rfl rfl rfl rfl (hsv 5 169 _ (by kernel_rfl) (by kernel_rfl) rfl) ?_
                    rw [if_pos rfl]
                    have t0 : b'.tmps[0]?.getD undef = Value.pointer (some ⟨b, 0, none⟩) := he 0 (by kernel_rfl)
                    have HK := Lib.hid hK1
                    clear hK1 hK2 hdep hsh he hsv hsl hFF hL
                    clear hSW
                    go_simp
                    exact HK.out rfl _ (fp_mk rfl rfl trivial)
                  · refine wpOpS_guard (dg := 169) rfl rfl rfl rfl (hsv 5 169 _ (by kernel_rfl) (by kernel_rfl) rfl) ?_
                    rw [if_pos rfl]
                    have t170 : b'.tmps[170]?.getD undef = Value.pointer (some ⟨b, 0, none⟩) := hsv 6 170 _ (by kernel_rfl) (by kernel_rfl) rfl
                    have HK := Lib.hid hK1
                    clear hK1 hK2 hdep hsh he hsv hsl hFF hL
                    clear hSW
                    go_simp
                    exact HK.out rfl _ (fp_mk rfl rfl trivial)
                  · refine wpOpS_guard (dg := 169) rfl rfl rfl rfl (hsv 5 169 _ (by kernel_rfl) (by kernel_rfl) rfl) ?_
                    rw [if_pos rfl]
                    have t171 : b'.tmps[171]?.getD undef = Value.pointer (some ⟨b, 0, none⟩) := hsv 7 171 _ (by kernel_rfl) (by kernel_rfl) rfl
                    have HK := Lib.hid hK1
                    clear hK1 hK2 hdep hsh he hsv hsl hFF hL
                    clear hSW
                    go_simp
                    exact HK.out rfl _ (fp_mk rfl rfl trivial)
                  · refine wpOpS_guard (dg := 169) rfl rfl rfl rfl (hsv 5 169 _ (by kernel_rfl) (by kernel_rfl) rfl) ?_
                    rw [if_pos rfl]
                    have t172 : b'.tmps[172]?.getD undef = Value.pointer (some ⟨b, 0, none⟩) := hsv 8 172 _ (by kernel_rfl) (by kernel_rfl) rfl
                    obtain ⟨s0, s1⟩ := hSW
                    have hu := up_eff hUf s0 (Ne.symm hobn)
                    have HK := Lib.hid hK1
                    clear hK1 hK2 hdep hsh he hsv hsl hFF hL
                    clear s0 s1
                    go_simp
                    refine (uCut_is2 hu).mono ?_
                    rintro e w6 ⟨rfl, rfl⟩
                    exact HK.out rfl _ (fp_mk rfl rfl trivial)
                  · refine wpOpS_go rfl rfl ?_
                    have t169 : b'.tmps[169]?.getD undef = Value.bool false := hsv 5 169 _ (by kernel_rfl) (by kernel_rfl) rfl
                    have t173 : b'.tmps[173]?.getD undef = Value.bool cf := hsv 9 173 _ (by kernel_rfl) (by kernel_rfl) rfl
                    have HK := Lib.hid hK1
                    clear hK1 hK2 hdep hsh he hsv hsl hFF hL
                    clear hSW
                    go_simp
                    exact HK.out rfl _ (fp_mk rfl rfl trivial)
                  · refine wpOpS_go rfl rfl ?_
                    have t15 : b'.tmps[15]?.getD undef = Value.pointer (some ⟨ob, 0, none⟩) := he 15 (by kernel_rfl)
                    have HK := Lib.hid hK1
                    clear hK1 hK2 hdep hsh he hsv hsl hFF hL
                    clear hSW
                    go_simp
                    exact HK.out rfl _ (fp_mk rfl rfl trivial)
                  · refine wpOpS_go rfl rfl ?_
                    have t166 : b'.tmps[166]?.getD undef = Value.int .i64 (moreI B.pass) := hsv 2 166 _ (by kernel_rfl) (by kernel_rfl) rfl
                    have t175 : b'.tmps[175]?.getD undef = Value.pointer (some ⟨ob, 4, none⟩) := hsv 11 175 _ (by kernel_rfl) (by kernel_rfl) rfl
                    obtain ⟨s0, s1⟩ := hSW
                    rw [hL] at s1
                    have HK := Lib.hid hK2
                    clear hK1 hK2 hdep hsh he hsv hsl hFF
                    refine op_store 3 _ _ rfl rfl s1 4 (eval_tmp t175) (eval_tmp t166) [Value.int .i64 (moreI B.pass)] (by rfl) (by kernel_rfl) (by rfl) (by rfl) #[Value.int .i64 B.t, Value.slice (some y) lx c, Value.slice yj lj cj, cond (L 14) (Value.bool cf) (Value.bool false), (Value.int .i64 (moreI B.pass)), Value.int .i64 B.fail] rfl ?_
                    intro w6 g6 ef hz
                    exact HK.out undef _ (fp_x (v := undef) rfl trivial) trivial ⟨s0.trans ef (fun _ _ h => h), by rw [updF_same, updF_ne _ _ (by decide)]; exact g6⟩
                  · refine wpOpS_go rfl rfl ?_
                    have t15 : b'.tmps[15]?.getD undef = Value.pointer (some ⟨ob, 0, none⟩) := he 15 (by kernel_rfl)
                    have HK := Lib.hid hK1
                    clear hK1 hK2 hdep hsh he hsv hsl hFF hL
                    clear hSW
                    go_simp
                    exact HK.out rfl _ (fp_mk rfl rfl trivial)
                  · refine wpOpS_go rfl rfl ?_
                    have t174 : b'.tmps[174]?.getD undef = Value.bool cf := hsv 10 174 _ (by kernel_rfl) (by kernel_rfl) rfl
                    have t176 : b'.tmps[176]?.getD undef = Value.pointer (some ⟨ob, 3, none⟩) := hsv 13 176 _ (by kernel_rfl) (by kernel_rfl) rfl
                    obtain ⟨s0, s1⟩ := hSW
                    rw [hL] at s1
                    have HK := Lib.hid hK2
                    clear hK1 hK2 hdep hsh he hsv hsl hFF
                    refine op_store 4 _ _ rfl rfl s1 3 (eval_tmp t176) (eval_tmp t174) [Value.bool cf] (by rfl) (by kernel_rfl) (by rfl) (by rfl) #[Value.int .i64 B.t, Value.slice (some y) lx c, Value.slice yj lj cj, (Value.bool cf), cond (L 12) (Value.int .i64 (moreI B.pass)) (Value.int .i64 B.pass), Value.int .i64 B.fail] rfl ?_
                    intro w6 g6 ef hz
                    exact HK.out undef _ (fp_x (v := undef) rfl trivial) trivial ⟨s0.trans ef (fun _ _ h => h), by rw [updF_same, updF_ne _ _ (by decide)]; exact g6⟩
                · intro f W hf L hL hS
                  obtain ⟨s0, s1⟩ := (hS : _ ∧ _)
                  rw [hL 12 (by decide), hL 14 (by decide)] at s1
                  have e0 : f 0 = Value.pointer (some ⟨w0.heap.size + 1, 4, none⟩) := (hf 0 (by decide)).1 _ rfl
                  have e1 : f 1 = Value.int .i64 B.pass := (hf 1 (by decide)).1 _ rfl
                  have e2 : f 2 = Value.int .i64 (moreI B.pass) := (hf 2 (by decide)).1 _ rfl
                  have e3 : f 3 = Value.pointer (some ⟨w0.heap.size + 1, 3, none⟩) := (hf 3 (by decide)).1 _ rfl
                  have e4 : f 4 = Value.bool false := (hf 4 (by decide)).1 _ rfl
                  have e5 : f 5 = Value.bool false := (hf 5 (by decide)).1 _ rfl
                  have e6 : f 6 = Value.pointer (some ⟨b, 0, none⟩) := (hf 6 (by decide)).1 _ rfl
                  have e7 : f 7 = Value.pointer (some ⟨b, 0, none⟩) := (hf 7 (by decide)).1 _ rfl
                  have e8 : f 8 = Value.pointer (some ⟨b, 0, none⟩) := (hf 8 (by decide)).1 _ rfl
                  have e9 : f 9 = Value.bool cf := (hf 9 (by decide)).1 _ rfl
                  have e10 : f 10 = Value.bool cf := (hf 10 (by decide)).1 _ rfl
                  have e11 : f 11 = Value.pointer (some ⟨ob, 4, none⟩) := (hf 11 (by decide)).1 _ rfl
                  have e13 : f 13 = Value.pointer (some ⟨ob, 3, none⟩) := (hf 13 (by decide)).1 _ rfl
                  clear hf hL
                  simp only [puts2, Act.put, e0, e1, e2, e3, e4, e5, e6, e7, e8, e9, e10, e11, e13]
                  try simp only [List.setIfInBounds_toArray, List.set_cons_zero, List.set_cons_succ]
                  clear e0 e1 e2 e3 e4 e5 e6 e7 e8 e9 e10 e11 e13
                  replace s1 : Blk W ob #[Value.int .i64 B.t, Value.slice (some y) lx c, Value.slice yj lj cj, (Value.bool cf), (Value.int .i64 (moreI B.pass)), Value.int .i64 B.fail] 27 := s1
                  replace hg := hg.go (s0.mono fun _ _ e => .inr (by omega))
                  have hUg := hUf.effP s0 (Ne.symm hobn)
                  have hX2 := li_eff2 hliX s0 (fun x hx _ => by cases hx; exact hyob)
                  have hJ2 := hlj2.eff s0 (fun k hk ht => by subst hk; exact absurd (ht.inj z3.ty) (by decide))
                  obtain ⟨w12, rfl⟩ : ∃ w12 : World, w12 = W := ⟨_, rfl⟩
                  obtain ⟨F, hFe, z4⟩ : ∃ F : Bool, F = (B.flag || cf) ∧ Blk w12 ob #[Value.int .i64 B.t, Value.slice (some y) lx c, Value.slice yj lj cj, Value.bool F, Value.int .i64 (moreI B.pass), Value.int .i64 B.fail] 27 := by
                    first
                      | exact ⟨cf, by rw [HL.out.2.2.2]; rfl, s1⟩
                      | exact ⟨true, by rw [HL.out.2.2.2]; rfl, s1⟩
                  have HFE := Lib.hid hFe
                  clear s0 s1 hliX hlj2 hUf hFe z3
                  have z3 := z4
                  clear z4
                  have hobl2 := z3.lt
                  have hobx : ¬ (ob = w0.heap.size + 3 ∨ ob = w0.heap.size + 4 ∨ w12.heap.size ≤ ob) := by omega
                  go_wp2_with fail
                  refine region_fp [some 177, some 178, some 179, some 180, some 181, some 182, some 183, some 184, some 185, some 186, none, none, some 12] [3, 6, 9, 10, 11] [some (Value.agg #[Value.int .i64 B.t, Value.slice (some y) lx c, Value.slice yj lj cj, Value.bool F, Value.int .i64 (moreI B.pass), Value.int .i64 B.fail]), some (Value.pointer (some ⟨w0.heap.size + 2, 1, none⟩)), some (Value.slice aH lh cH), none, some (Value.pointer (some ⟨w0.heap.size + 1, 2, none⟩)), some (Value.slice aP lp cP), none, some (Value.int .i64 s.1), some (Value.int .i64 yv.1), none, none, none, some (Value.int .i64 0)]
                    (fun i v W => match i with | 3 => ∃ y1 c1, v = Value.slice y1 lh c1 ∧ LI w0.heap.size W y1 c1 q.h | 6 => ∃ y2 c2, v = Value.slice y2 lp c2 ∧ LI w0.heap.size W y2 c2 B.P | 9 => ∃ y1 c1 y2 c2, v = Value.agg #[Value.bool true, Value.slice y1 lh c1, Value.slice y2 lp c2, Value.int .i64 s.1, Value.int .i64 yv.1] ∧ LI w0.heap.size W y1 c1 q.h ∧ LI w0.heap.size W y2 c2 B.P | _ => True) (fun W W' => ∀ k, Ty W k 3 → W'.heap[k]? = W.heap[k]?) (fun L f W => Eff (fun k => k = w0.heap.size + 3 ∨ k = w0.heap.size + 4 ∨ w12.heap.size ≤ k) w12 W ∧ (L 10 = false → Blk W (w0.heap.size + 3) #[Value.int .i64 0, Value.slice none 0 0, Value.slice none 0 0, Value.bool false, Value.int .i64 0, Value.int .i64 0] 27) ∧ (L 10 = true → Blk W (w0.heap.size + 3) #[Value.int .i64 B.t, Value.slice (some y) lx c, Value.slice yj lj cj, Value.bool F, Value.int .i64 (moreI B.pass), Value.int .i64 B.fail] 27) ∧ (L 11 = false → Blk W (w0.heap.size + 4) #[Value.bool false, Value.slice none 0 0, Value.slice none 0 0, Value.int .i64 0, Value.int .i64 0] 46) ∧ (L 11 = true → Blk W (w0.heap.size + 4) (f 9).cells 46))
                    (by kernel_rfl) (by kernel_rfl) (by kernel_rfl) (by kernel_rfl) (by kernel_rfl) (fun _ _ _ => rfl) (fun i v W W' h hb => by
                      match i, h with
                      | 3, ⟨y, c, h1, h2⟩ => exact ⟨y, c, h1, h2.same fun x hx hn => hb _ (h2.wj.ty x hx hn)⟩
                      | 6, ⟨y, c, h1, h2⟩ => exact ⟨y, c, h1, h2.same fun x hx hn => hb _ (h2.wj.ty x hx hn)⟩
                      | 9, ⟨y, c, y2, c2, h1, h2, h3⟩ => exact ⟨y, c, y2, c2, h1, h2.same fun x hx hn => hb _ (h2.wj.ty x hx hn), h3.same fun x hx hn => hb _ (h3.wj.ty x hx hn)⟩
                      | 0, _ | 1, _ | 2, _ | 4, _ | 5, _ | 7, _ | 8, _ | 10, _ | 11, _ | 12, _ => trivial
                      | (m + 13), _ => trivial) (fun L L' f f' W h hs => by have q9 := (h 9 (by decide)).2; have q10 := (h 10 (by decide)).1; have q11 := (h 11 (by decide)).1; (try dsimp only at hs ⊢); rw [← q9, ← q10, ← q11]; exact hs) ⟨Eff.of (upD (upR _)), fun _ => hg.r1.drew, fun h => (Bool.false_ne_true h).elim, fun _ => hg.r2.drew, fun h => (Bool.false_ne_true h).elim⟩ ?_ ?_
                  · intro i hi b' L f W hSW hL hdep hsh he hsv hsl hFF K hK1 hK2
                    replace hi : i < 13 := hi
                    have hcs : i = 0 ∨ i = 1 ∨ i = 2 ∨ i = 3 ∨ i = 4 ∨ i = 5 ∨ i = 6 ∨ i = 7 ∨ i = 8 ∨ i = 9 ∨ i = 10 ∨ i = 11 ∨ i = 12 := by omega
                    clear hi
                    rcases hcs with rfl | rfl | rfl | rfl | rfl | rfl | rfl | rfl | rfl | rfl | rfl | rfl | rfl
                    · refine wpOpS_go rfl rfl ?_
                      have t15 : b'.tmps[15]?.getD undef = Value.pointer (some ⟨ob, 0, none⟩) := he 15 (by kernel_rfl)
                      obtain ⟨s0, s1, s2, s3, s4⟩ := hSW
                      have gb := s0.blk z3 hobx
                      have HK := Lib.hid hK1
                      clear hK1 hK2 hdep hsh he hsv hsl hFF hL
                      clear s0 s1 s2 s3 s4
                      refine op_load 27 _ rfl gb 0 (eval_tmp t15) [Value.int .i64 B.t, Value.slice (some y) lx c, Value.slice yj lj cj, Value.bool F, Value.int .i64 (moreI B.pass), Value.int .i64 B.fail] rfl Tryz.underlying27 rfl (by kernel_rfl) ?_
                      exact HK.out rfl _ (fp_mk rfl rfl trivial)
                    · refine wpOpS_go rfl rfl ?_
                      have t8 : b'.tmps[8]?.getD undef = Value.pointer (some ⟨w0.heap.size + 2, 0, none⟩) := he 8 (by kernel_rfl)
                      have HK := Lib.hid hK1
                      clear hK1 hK2 hdep hsh he hsv hsl hFF hL
                      clear hSW
                      go_simp
                      exact HK.out rfl _ (fp_mk rfl rfl trivial)
                    · refine wpOpS_go rfl rfl ?_
                      have t178 : b'.tmps[178]?.getD undef = Value.pointer (some ⟨w0.heap.size + 2, 1, none⟩) := hsv 1 178 _ (by kernel_rfl) (by kernel_rfl) rfl
                      obtain ⟨s0, s1, s2, s3, s4⟩ := hSW
                      have c0' := (s0.blk hg.q (by have := hg.sz; omega)).cell
                      have HK := Lib.hid hK1
                      clear hK1 hK2 hdep hsh he hsv hsl hFF hL
                      clear s0 s1 s2 s3 s4
                      go_simp
                      exact HK.out rfl _ (fp_mk rfl rfl trivial)
                    · refine wpOpS_go rfl rfl ?_
                      have t179 : b'.tmps[179]?.getD undef = Value.slice aH lh cH := hsv 2 179 _ (by kernel_rfl) (by kernel_rfl) rfl
                      obtain ⟨s0, s1, s2, s3, s4⟩ := hSW
                      have HK := Lib.hid hK2
                      have h11 := hsh 11 (by kernel_rfl)
                      have hA := HCLH.out W (hg.far s0)
                      have hws := s0.size
                      clear hK1 hK2 hdep hsh he hsv hsl hFF
                      go_simp
                      refine hA.mono ?_
                      rintro e w6 ⟨y, c, rfl, hli, hB⟩
                      exact HK.out _ _ (fp_x rfl ⟨y, c, rfl, hli.mono (by have := hg.sz; omega)⟩) (fun k hk => hB.block k hk.lt) ⟨s0.trans (Eff.of (P := fun _ => False) hB) (fun _ _ h => h.elim), fun h => (s1 h).keep hB, fun h => (s2 h).keep hB, fun h => (s3 h).keep hB, fun h => absurd h (by show ¬ L 11 = true; rw [h11]; decide)⟩
                    · refine wpOpS_go rfl rfl ?_
                      have t7 : b'.tmps[7]?.getD undef = Value.pointer (some ⟨w0.heap.size + 1, 0, none⟩) := he 7 (by kernel_rfl)
                      have HK := Lib.hid hK1
                      clear hK1 hK2 hdep hsh he hsv hsl hFF hL
                      clear hSW
                      go_simp
                      exact HK.out rfl _ (fp_mk rfl rfl trivial)
                    · refine wpOpS_go rfl rfl ?_
                      have t181 : b'.tmps[181]?.getD undef = Value.pointer (some ⟨w0.heap.size + 1, 2, none⟩) := hsv 4 181 _ (by kernel_rfl) (by kernel_rfl) rfl
                      obtain ⟨s0, s1, s2, s3, s4⟩ := hSW
                      have c0' := (s0.blk hg.bl (by have := hg.sz; omega)).cell
                      have HK := Lib.hid hK1
                      clear hK1 hK2 hdep hsh he hsv hsl hFF hL
                      clear s0 s1 s2 s3 s4
                      go_simp
                      exact HK.out rfl _ (fp_mk rfl rfl trivial)
                    · refine wpOpS_go rfl rfl ?_
                      have t182 : b'.tmps[182]?.getD undef = Value.slice aP lp cP := hsv 5 182 _ (by kernel_rfl) (by kernel_rfl) rfl
                      obtain ⟨s0, s1, s2, s3, s4⟩ := hSW
                      have HK := Lib.hid hK2
                      have h11 := hsh 11 (by kernel_rfl)
                      have hA := HCLP.out W (hg.far s0)
                      have hws := s0.size
                      clear hK1 hK2 hdep hsh he hsv hsl hFF
                      go_simp
                      refine hA.mono ?_
                      rintro e w6 ⟨y, c, rfl, hli, hB⟩
                      exact HK.out _ _ (fp_x rfl ⟨y, c, rfl, hli.mono (by have := hg.sz; omega)⟩) (fun k hk => hB.block k hk.lt) ⟨s0.trans (Eff.of (P := fun _ => False) hB) (fun _ _ h => h.elim), fun h => (s1 h).keep hB, fun h => (s2 h).keep hB, fun h => (s3 h).keep hB, fun h => absurd h (by show ¬ L 11 = true; rw [h11]; decide)⟩
                    · refine wpOpS_go rfl rfl ?_
                      have t20 : b'.tmps[20]?.getD undef = Value.int .i64 s.1 := he 20 (by kernel_rfl)
                      have HK := Lib.hid hK1
                      clear hK1 hK2 hdep hsh he hsv hsl hFF hL
                      clear hSW
                      go_simp
                      exact HK.out rfl _ (fp_mk rfl rfl trivial)
                    · refine wpOpS_go rfl rfl ?_
                      have t23 : b'.tmps[23]?.getD undef = Value.int .i64 yv.1 := he 23 (by kernel_rfl)
                      have HK := Lib.hid hK1
                      clear hK1 hK2 hdep hsh he hsv hsl hFF hL
                      clear hSW
                      go_simp
                      exact HK.out rfl _ (fp_mk rfl rfl trivial)
                    · refine wpOpS_go rfl rfl ?_
                      have t184 : b'.tmps[184]?.getD undef = Value.int .i64 s.1 := hsv 7 184 _ (by kernel_rfl) (by kernel_rfl) rfl
                      have t185 : b'.tmps[185]?.getD undef = Value.int .i64 yv.1 := hsv 8 185 _ (by kernel_rfl) (by kernel_rfl) rfl
                      obtain ⟨t180, hx⟩ := hsl 3 180 (by kernel_rfl) (by kernel_rfl)
                      obtain ⟨y1, c1, e1, hli1⟩ := hx
                      rw [e1] at t180
                      obtain ⟨t183, hx⟩ := hsl 6 183 (by kernel_rfl) (by kernel_rfl)
                      obtain ⟨y2, c2, e2, hli2⟩ := hx
                      rw [e2] at t183
                      obtain ⟨s0, s1, s2, s3, s4⟩ := hSW
                      have HK := Lib.hid hK2
                      have h11 := hsh 11 (by kernel_rfl)
                      clear hK1 hK2 hdep hsh he hsv hsl hFF e1 e2
                      go_simp
                      exact HK.out _ _ (fp_x rfl ⟨y1, c1, y2, c2, rfl, hli1, hli2⟩) (fun _ _ => rfl) ⟨s0, s1, s2, s3, fun h => absurd h (by show ¬ L 11 = true; rw [h11]; decide)⟩
                    · refine wpOpS_go rfl rfl ?_
                      have t10 : b'.tmps[10]?.getD undef = Value.pointer (some ⟨w0.heap.size + 3, 0, none⟩) := he 10 (by kernel_rfl)
                      have t177 : b'.tmps[177]?.getD undef = Value.agg #[Value.int .i64 B.t, Value.slice (some y) lx c, Value.slice yj lj cj, Value.bool F, Value.int .i64 (moreI B.pass), Value.int .i64 B.fail] := hsv 0 177 _ (by kernel_rfl) (by kernel_rfl) rfl
                      obtain ⟨s0, s1, s2, s3, s4⟩ := hSW
                      have hmb := s1 hL
                      have HK := Lib.hid hK2
                      clear hK1 hK2 hdep hsh he hsv hsl hFF
                      refine op_store 27 _ _ rfl rfl hmb 0 (eval_tmp t10) (eval_tmp t177) ([Value.int .i64 B.t, Value.slice (some y) lx c, Value.slice yj lj cj, Value.bool F, Value.int .i64 (moreI B.pass), Value.int .i64 B.fail] : List Value) (by rfl) (by kernel_rfl) (by rfl) (by rfl) #[Value.int .i64 B.t, Value.slice (some y) lx c, Value.slice yj lj cj, Value.bool F, Value.int .i64 (moreI B.pass), Value.int .i64 B.fail] rfl ?_
                      intro w6 g6 ef hz
                      exact HK.out undef _ (fp_x (v := undef) rfl trivial) (fun k hk => ef.block k hk.lt (fun e => by subst e; exact absurd (hk.inj hmb.ty) (by decide))) ⟨s0.trans ef (fun _ _ h => .inl h), fun h => absurd h (by rw [updF_same]; decide), fun _ => g6, fun h => ef.blk (s3 h) (by omega), fun h => ef.blk (s4 h) (by omega)⟩
                    · refine wpOpS_go rfl rfl ?_
                      have t11 : b'.tmps[11]?.getD undef = Value.pointer (some ⟨w0.heap.size + 4, 0, none⟩) := he 11 (by kernel_rfl)
                      obtain ⟨t186, hx⟩ := hsl 9 186 (by kernel_rfl) (by kernel_rfl)
                      obtain ⟨y1, c1, y2, c2, e1, hli1, hli2⟩ := hx
                      rw [e1] at t186
                      obtain ⟨s0, s1, s2, s3, s4⟩ := hSW
                      have hmb := s3 hL
                      have HK := Lib.hid hK2
                      clear hK1 hK2 hdep hsh he hsv hsl hFF
                      refine op_store 46 _ _ rfl rfl hmb 0 (eval_tmp t11) (eval_tmp t186) ([Value.bool true, Value.slice y1 lh c1, Value.slice y2 lp c2, Value.int .i64 s.1, Value.int .i64 yv.1] : List Value) (by rfl) (by kernel_rfl) (by rfl) (by rfl) #[Value.bool true, Value.slice y1 lh c1, Value.slice y2 lp c2, Value.int .i64 s.1, Value.int .i64 yv.1] rfl ?_
                      intro w6 g6 ef hz
                      exact HK.out undef _ (fp_x (v := undef) rfl trivial) (fun k hk => ef.block k hk.lt (fun e => by subst e; exact absurd (hk.inj hmb.ty) (by decide))) ⟨s0.trans ef (fun _ _ h => .inr (.inl h)), fun h => ef.blk (s1 h) (by omega), fun h => ef.blk (s2 h) (by omega), fun h => absurd h (by rw [updF_same]; decide), fun _ => by rw [updF_ne _ _ (by decide), e1]; exact g6⟩
                    · refine wpOpS_go rfl rfl ?_
                      have HK := Lib.hid hK1
                      clear hK1 hK2 hdep hsh he hsv hsl hFF hL
                      clear hSW
                      go_simp
                      exact HK.out rfl _ (fp_mk rfl rfl trivial)
                  · intro f W hf L hL hS
                    obtain ⟨s0, s1, s2, s3, s4⟩ := (hS : _ ∧ _ ∧ _ ∧ _ ∧ _)
                    replace s2 := s2 (hL 10 (by decide))
                    replace s4 := s4 (hL 11 (by decide))
                    obtain ⟨_, _, e3, _⟩ := (hf 3 (by decide)).2
                    obtain ⟨_, _, e6, _⟩ := (hf 6 (by decide)).2
                    obtain ⟨y1, c1, y2, c2, e9, hl1, hl2⟩ := (hf 9 (by decide)).2
                    rw [e9] at s4
                    replace s4 : Blk W (w0.heap.size + 4) #[Value.bool true, Value.slice y1 lh c1, Value.slice y2 lp c2, Value.int .i64 s.1, Value.int .i64 yv.1] 46 := s4
                    have e0 : f 0 = Value.agg #[Value.int .i64 B.t, Value.slice (some y) lx c, Value.slice yj lj cj, Value.bool F, Value.int .i64 (moreI B.pass), Value.int .i64 B.fail] := (hf 0 (by decide)).1 _ rfl
                    have e1 : f 1 = Value.pointer (some ⟨w0.heap.size + 2, 1, none⟩) := (hf 1 (by decide)).1 _ rfl
                    have e2 : f 2 = Value.slice aH lh cH := (hf 2 (by decide)).1 _ rfl
                    have e4 : f 4 = Value.pointer (some ⟨w0.heap.size + 1, 2, none⟩) := (hf 4 (by decide)).1 _ rfl
                    have e5 : f 5 = Value.slice aP lp cP := (hf 5 (by decide)).1 _ rfl
                    have e7 : f 7 = Value.int .i64 s.1 := (hf 7 (by decide)).1 _ rfl
                    have e8 : f 8 = Value.int .i64 yv.1 := (hf 8 (by decide)).1 _ rfl
                    have e12 : f 12 = Value.int .i64 0 := (hf 12 (by decide)).1 _ rfl
                    clear hf hL s1 s3
                    simp only [puts2, Act.put, e0, e1, e2, e3, e4, e5, e6, e7, e8, e9, e12]
                    try simp only [List.setIfInBounds_toArray, List.set_cons_zero, List.set_cons_succ]
                    clear e0 e1 e2 e3 e4 e5 e6 e7 e8 e9 e12
                    have hX3 := hX2.eff s0 (fun k hk ht => by rcases hk with rfl | rfl | hk; exact absurd (ht.inj hg.r1.ty) (by decide); exact absurd (ht.inj hg.r2.ty) (by decide); exact absurd ht.lt (Nat.not_lt.2 hk))
                    have hJ3 := hJ2.eff s0 (fun k hk ht => by rcases hk with rfl | rfl | hk; exact absurd (ht.inj hg.r1.ty) (by decide); exact absurd (ht.inj hg.r2.ty) (by decide); exact absurd ht.lt (Nat.not_lt.2 hk))
                    have hU3 := hUg.effP s0 (nofar hg)
                    have hT3 : But b w0 W := hg.far s0
                    clear hX2 hJ2 hUg
                    have hret := ‹∀ (a : Act) (w : World), Code.wp Tryz.prog Code.ret _ a w → _›
                    refine hret _ _ (wp_ret ?_)
                    refine bodyPost_ret (results_cct (g := w0.heap.size + 3) (cs := #[Value.int .i64 B.t, Value.slice (some y) lx c, Value.slice yj lj cj, Value.bool F, Value.int .i64 (moreI B.pass), Value.int .i64 B.fail]) (k := w0.heap.size + 4) (ds := #[Value.bool true, Value.slice y1 lh c1, Value.slice y2 lp c2, .int .i64 s.1, .int .i64 yv.1]) rfl _ _ rfl s2 Tryz.underlying27 rfl (by kernel_rfl) rfl s4 Tryz.underlying46 rfl (by kernel_rfl)) rfl ?_
                    refine .inr ⟨HV.out, _, _, ⟨B.t, XX, P, B.flag || cf, moreI B.pass, B.fail⟩, ⟨true, q.h, B.P, s.1, yv.1⟩, cf, rfl, ?_, ⟨⟨some y, c, yj, cj, ?_, hX3, hJ3⟩, hbt, moreI_64 hpass, i64_cnt hfail⟩, ⟨⟨y1, c1, y2, c2, ?_, hl1, hl2⟩, hs64, hy64⟩, hU3, hT3⟩
                    · rw [← HCE.out, ← HCFO.out]
                      exact .on n p v s ee yv yy d (K, kf) (XX, xf) P jc HN.out HINN.out (Int.not_lt.2 HGN.out) HGK.out HGX.out HJ.out
                    · dsimp only
                      rw [HXL.out, ← HLX.out, HLJ.out, ← HFE.out]
                    · dsimp only
                      rw [HL.out.2.2.1, HL.out.2.1]
              · go_wp2_with fail
                refine region_fp [some 164, some 165, some 166, some 167, some 168, some 169, some 170, some 171, some 172, some 173, some 174, some 175, none, some 176, none] [12, 14] [some (Value.pointer (some ⟨w0.heap.size + 1, 4, none⟩)), some (Value.int .i64 B.pass), some (Value.int .i64 (moreI B.pass)), some (Value.pointer (some ⟨w0.heap.size + 1, 3, none⟩)), some (Value.bool true), some (Value.bool true), some (undef), some (undef), some (undef), some (undef), some (Value.bool true), some (Value.pointer (some ⟨ob, 4, none⟩)), none, some (Value.pointer (some ⟨ob, 3, none⟩)), none]
                  (fun _ _ _ => True) (fun _ _ => True) (fun L f W => Eff (fun q => q = ob) w10 W ∧ Blk W ob #[Value.int .i64 B.t, Value.slice (some y) lx c, Value.slice yj lj cj, cond (L 14) (Value.bool true) (Value.bool true), cond (L 12) (Value.int .i64 (moreI B.pass)) (Value.int .i64 B.pass), Value.int .i64 B.fail] 27)
                  (by kernel_rfl) (by kernel_rfl) (by kernel_rfl) (by kernel_rfl) (by kernel_rfl) (fun _ => trivial) (fun _ _ _ _ _ _ => trivial) (fun L L' f f' W h hs => by have q1 := (h 12 (by decide)).1; have q2 := (h 14 (by decide)).1; (try dsimp only at hs ⊢); rw [← q1, ← q2]; exact hs) ⟨Eff.of (upD (upR _)), z3.drew⟩ ?_ ?_
                · intro i hi b' L f W hSW hL hdep hsh he hsv hsl hFF K hK1 hK2
                  replace hi : i < 15 := hi
                  have hcs : i = 0 ∨ i = 1 ∨ i = 2 ∨ i = 3 ∨ i = 4 ∨ i = 5 ∨ i = 6 ∨ i = 7 ∨ i = 8 ∨ i = 9 ∨ i = 10 ∨ i = 11 ∨ i = 12 ∨ i = 13 ∨ i = 14 := by omega
                  clear hi
                  rcases hcs with rfl | rfl | rfl | rfl | rfl | rfl | rfl | rfl | rfl | rfl | rfl | rfl | rfl | rfl | rfl
                  · refine wpOpS_go rfl rfl ?_
                    have t7 : b'.tmps[7]?.getD undef = Value.pointer (some ⟨w0.heap.size + 1, 0, none⟩) := he 7 (by kernel_rfl)
                    have HK := Lib.hid hK1
                    clear hK1 hK2 hdep hsh he hsv hsl hFF hL
                    clear hSW
                    go_simp
                    exact HK.out rfl _ (fp_mk rfl rfl trivial)
                  · refine wpOpS_go rfl rfl ?_
                    have t164 : b'.tmps[164]?.getD undef = Value.pointer (some ⟨w0.heap.size + 1, 4, none⟩) := hsv 0 164 _ (by kernel_rfl) (by kernel_rfl) rfl
                    obtain ⟨s0, s1⟩ := hSW
                    have c0' := (s0.blk hg.bl (by have := hg.sz; omega)).cell
                    have HK := Lib.hid hK1
                    clear hK1 hK2 hdep hsh he hsv hsl hFF hL
                    clear s0 s1
                    go_simp
                    exact HK.out rfl _ (fp_mk rfl rfl trivial)
                  · refine wpOpS_go rfl rfl ?_
                    have t165 : b'.tmps[165]?.getD undef = Value.int .i64 B.pass := hsv 1 165 _ (by kernel_rfl) (by kernel_rfl) rfl
                    obtain ⟨s0, s1⟩ := hSW
                    have HK := Lib.hid hK1
                    clear hK1 hK2 hdep hsh he hsv hsl hFF hL
                    clear s0 s1
                    go_simp
                    refine (more_is _ hpass _).mono ?_
                    rintro e w6 ⟨rfl, rfl⟩
                    exact HK.out rfl _ (fp_mk rfl rfl trivial)
                  · refine wpOpS_go rfl rfl ?_
                    have t7 : b'.tmps[7]?.getD undef = Value.pointer (some ⟨w0.heap.size + 1, 0, none⟩) := he 7 (by kernel_rfl)
                    have HK := Lib.hid hK1
                    clear hK1 hK2 hdep hsh he hsv hsl hFF hL
                    clear hSW
                    go_simp
                    exact HK.out rfl _ (fp_mk rfl rfl trivial)
                  · refine wpOpS_go rfl rfl ?_
                    have t167 : b'.tmps[167]?.getD undef = Value.pointer (some ⟨w0.heap.size + 1, 3, none⟩) := hsv 3 167 _ (by kernel_rfl) (by kernel_rfl) rfl
                    obtain ⟨s0, s1⟩ := hSW
                    have c0' := (s0.blk hg.bl (by have := hg.sz; omega)).cell
                    have HK := Lib.hid hK1
                    clear hK1 hK2 hdep hsh he hsv hsl hFF hL
                    clear s0 s1
                    go_simp
                    exact HK.out rfl _ (fp_mk rfl rfl trivial)
                  · refine wpOpS_go rfl rfl ?_
                    have t168 : b'.tmps[168]?.getD undef = Value.bool true := hsv 4 168 _ (by kernel_rfl) (by kernel_rfl) rfl
                    have HK := Lib.hid hK1
                    clear hK1 hK2 hdep hsh he hsv hsl hFF hL
                    clear hSW
                    go_simp
                    exact HK.out rfl _ (fp_mk rfl rfl trivial)
                  · refine wpOpS_guard (dg := 169) rfl rfl rfl rfl (hsv 5 169 _ (by kernel_rfl) (by kernel_rfl) rfl) ?_
                    rw [if_neg (by decide)]
                    exact hK1 rfl _ (fp_mk rfl rfl trivial)
                  · refine wpOpS_guard (dg := 169) rfl rfl rfl rfl (hsv 5 169 _ (by kernel_rfl) (by kernel_rfl) rfl) ?_
                    rw [if_neg (by decide)]
                    exact hK1 rfl _ (fp_mk rfl rfl trivial)
                  · refine wpOpS_guard (dg := 169) rfl rfl rfl rfl (hsv 5 169 _ (by kernel_rfl) (by kernel_rfl) rfl) ?_
                    rw [if_neg (by decide)]
                    exact hK1 rfl _ (fp_mk rfl rfl trivial)
                  · refine wpOpS_guard (dg := 169) rfl rfl rfl rfl (hsv 5 169 _ (by kernel_rfl) (by kernel_rfl) rfl) ?_
                    rw [if_neg (by decide)]
                    exact hK1 rfl _ (fp_mk rfl rfl trivial)
                  · refine wpOpS_go rfl rfl ?_
                    have t169 : b'.tmps[169]?.getD undef = Value.bool true := hsv 5 169 _ (by kernel_rfl) (by kernel_rfl) rfl
                    have t173 : b'.tmps[173]?.getD undef = undef := hsv 9 173 _ (by kernel_rfl) (by kernel_rfl) rfl
                    have HK := Lib.hid hK1
                    clear hK1 hK2 hdep hsh he hsv hsl hFF hL
                    clear hSW
                    go_simp
                    exact HK.out rfl _ (fp_mk rfl rfl trivial)
                  · refine wpOpS_go rfl rfl ?_
                    have t15 : b'.tmps[15]?.getD undef = Value.pointer (some ⟨ob, 0, none⟩) := he 15 (by kernel_rfl)
                    have HK := Lib.hid hK1
                    clear hK1 hK2 hdep hsh he hsv hsl hFF hL
                    clear hSW
                    go_simp
                    exact HK.out rfl _ (fp_mk rfl rfl trivial)
                  · refine wpOpS_go rfl rfl ?_
                    have t166 : b'.tmps[166]?.getD undef = Value.int .i64 (moreI B.pass) := hsv 2 166 _ (by kernel_rfl) (by kernel_rfl) rfl
                    have t175 : b'.tmps[175]?.getD undef = Value.pointer (some ⟨ob, 4, none⟩) := hsv 11 175 _ (by kernel_rfl) (by kernel_rfl) rfl
                    obtain ⟨s0, s1⟩ := hSW
                    rw [hL] at s1
                    have HK := Lib.hid hK2
                    clear hK1 hK2 hdep hsh he hsv hsl hFF
                    refine op_store 3 _ _ rfl rfl s1 4 (eval_tmp t175) (eval_tmp t166) [Value.int .i64 (moreI B.pass)] (by rfl) (by kernel_rfl) (by rfl) (by rfl) #[Value.int .i64 B.t, Value.slice (some y) lx c, Value.slice yj lj cj, cond (L 14) (Value.bool true) (Value.bool true), (Value.int .i64 (moreI B.pass)), Value.int .i64 B.fail] rfl ?_
                    intro w6 g6 ef hz
                    exact HK.out undef _ (fp_x (v := undef) rfl trivial) trivial ⟨s0.trans ef (fun _ _ h => h), by rw [updF_same, updF_ne _ _ (by decide)]; exact g6⟩
                  · refine wpOpS_go rfl rfl ?_
                    have t15 : b'.tmps[15]?.getD undef = Value.pointer (some ⟨ob, 0, none⟩) := he 15 (by kernel_rfl)
                    have HK := Lib.hid hK1
                    clear hK1 hK2 hdep hsh he hsv hsl hFF hL
                    clear hSW
                    go_simp
                    exact HK.out rfl _ (fp_mk rfl rfl trivial)
                  · refine wpOpS_go rfl rfl ?_
                    have t174 : b'.tmps[174]?.getD undef = Value.bool true := hsv 10 174 _ (by kernel_rfl) (by kernel_rfl) rfl
                    have t176 : b'.tmps[176]?.getD undef = Value.pointer (some ⟨ob, 3, none⟩) := hsv 13 176 _ (by kernel_rfl) (by kernel_rfl) rfl
                    obtain ⟨s0, s1⟩ := hSW
                    rw [hL] at s1
                    have HK := Lib.hid hK2
                    clear hK1 hK2 hdep hsh he hsv hsl hFF
                    refine op_store 4 _ _ rfl rfl s1 3 (eval_tmp t176) (eval_tmp t174) [Value.bool true] (by rfl) (by kernel_rfl) (by rfl) (by rfl) #[Value.int .i64 B.t, Value.slice (some y) lx c, Value.slice yj lj cj, (Value.bool true), cond (L 12) (Value.int .i64 (moreI B.pass)) (Value.int .i64 B.pass), Value.int .i64 B.fail] rfl ?_
                    intro w6 g6 ef hz
                    exact HK.out undef _ (fp_x (v := undef) rfl trivial) trivial ⟨s0.trans ef (fun _ _ h => h), by rw [updF_same, updF_ne _ _ (by decide)]; exact g6⟩
                · intro f W hf L hL hS
                  obtain ⟨s0, s1⟩ := (hS : _ ∧ _)
                  rw [hL 12 (by decide), hL 14 (by decide)] at s1
                  have e0 : f 0 = Value.pointer (some ⟨w0.heap.size + 1, 4, none⟩) := (hf 0 (by decide)).1 _ rfl
                  have e1 : f 1 = Value.int .i64 B.pass := (hf 1 (by decide)).1 _ rfl
                  have e2 : f 2 = Value.int .i64 (moreI B.pass) := (hf 2 (by decide)).1 _ rfl
                  have e3 : f 3 = Value.pointer (some ⟨w0.heap.size + 1, 3, none⟩) := (hf 3 (by decide)).1 _ rfl
                  have e4 : f 4 = Value.bool true := (hf 4 (by decide)).1 _ rfl
                  have e5 : f 5 = Value.bool true := (hf 5 (by decide)).1 _ rfl
                  have e6 : f 6 = undef := (hf 6 (by decide)).1 _ rfl
                  have e7 : f 7 = undef := (hf 7 (by decide)).1 _ rfl
                  have e8 : f 8 = undef := (hf 8 (by decide)).1 _ rfl
                  have e9 : f 9 = undef := (hf 9 (by decide)).1 _ rfl
                  have e10 : f 10 = Value.bool true := (hf 10 (by decide)).1 _ rfl
                  have e11 : f 11 = Value.pointer (some ⟨ob, 4, none⟩) := (hf 11 (by decide)).1 _ rfl
                  have e13 : f 13 = Value.pointer (some ⟨ob, 3, none⟩) := (hf 13 (by decide)).1 _ rfl
                  clear hf hL
                  simp only [puts2, Act.put, e0, e1, e2, e3, e4, e5, e6, e7, e8, e9, e10, e11, e13]
                  try simp only [List.setIfInBounds_toArray, List.set_cons_zero, List.set_cons_succ]
                  clear e0 e1 e2 e3 e4 e5 e6 e7 e8 e9 e10 e11 e13
                  replace s1 : Blk W ob #[Value.int .i64 B.t, Value.slice (some y) lx c, Value.slice yj lj cj, (Value.bool true), (Value.int .i64 (moreI B.pass)), Value.int .i64 B.fail] 27 := s1
                  replace hg := hg.go (s0.mono fun _ _ e => .inr (by omega))
                  have hUg := hUf.effP s0 (Ne.symm hobn)
                  have hX2 := li_eff2 hliX s0 (fun x hx _ => by cases hx; exact hyob)
                  have hJ2 := hlj2.eff s0 (fun k hk ht => by subst hk; exact absurd (ht.inj z3.ty) (by decide))
                  obtain ⟨w12, rfl⟩ : ∃ w12 : World, w12 = W := ⟨_, rfl⟩
                  obtain ⟨F, hFe, z4⟩ : ∃ F : Bool, F = (B.flag || cf) ∧ Blk w12 ob #[Value.int .i64 B.t, Value.slice (some y) lx c, Value.slice yj lj cj, Value.bool F, Value.int .i64 (moreI B.pass), Value.int .i64 B.fail] 27 := by
                    first
                      | exact ⟨cf, by rw [HL.out.2.2.2]; rfl, s1⟩
                      | exact ⟨true, by rw [HL.out.2.2.2]; rfl, s1⟩
                  have HFE := Lib.hid hFe
                  clear s0 s1 hliX hlj2 hUf hFe z3
                  have z3 := z4
                  clear z4
                  have hobl2 := z3.lt
                  have hobx : ¬ (ob = w0.heap.size + 3 ∨ ob = w0.heap.size + 4 ∨ w12.heap.size ≤ ob) := by omega
                  go_wp2_with fail
                  refine region_fp [some 177, some 178, some 179, some 180, some 181, some 182, some 183, some 184, some 185, some 186, none, none, some 12] [3, 6, 9, 10, 11] [some (Value.agg #[Value.int .i64 B.t, Value.slice (some y) lx c, Value.slice yj lj cj, Value.bool F, Value.int .i64 (moreI B.pass), Value.int .i64 B.fail]), some (Value.pointer (some ⟨w0.heap.size + 2, 1, none⟩)), some (Value.slice aH lh cH), none, some (Value.pointer (some ⟨w0.heap.size + 1, 2, none⟩)), some (Value.slice aP lp cP), none, some (Value.int .i64 s.1), some (Value.int .i64 yv.1), none, none, none, some (Value.int .i64 0)]
                    (fun i v W => match i with | 3 => ∃ y1 c1, v = Value.slice y1 lh c1 ∧ LI w0.heap.size W y1 c1 q.h | 6 => ∃ y2 c2, v = Value.slice y2 lp c2 ∧ LI w0.heap.size W y2 c2 B.P | 9 => ∃ y1 c1 y2 c2, v = Value.agg #[Value.bool true, Value.slice y1 lh c1, Value.slice y2 lp c2, Value.int .i64 s.1, Value.int .i64 yv.1] ∧ LI w0.heap.size W y1 c1 q.h ∧ LI w0.heap.size W y2 c2 B.P | _ => True) (fun W W' => ∀ k, Ty W k 3 → W'.heap[k]? = W.heap[k]?) (fun L f W => Eff (fun k => k = w0.heap.size + 3 ∨ k = w0.heap.size + 4 ∨ w12.heap.size ≤ k) w12 W ∧ (L 10 = false → Blk W (w0.heap.size + 3) #[Value.int .i64 0, Value.slice none 0 0, Value.slice none 0 0, Value.bool false, Value.int .i64 0, Value.int .i64 0] 27) ∧ (L 10 = true → Blk W (w0.heap.size + 3) #[Value.int .i64 B.t, Value.slice (some y) lx c, Value.slice yj lj cj, Value.bool F, Value.int .i64 (moreI B.pass), Value.int .i64 B.fail] 27) ∧ (L 11 = false → Blk W (w0.heap.size + 4) #[Value.bool false, Value.slice none 0 0, Value.slice none 0 0, Value.int .i64 0, Value.int .i64 0] 46) ∧ (L 11 = true → Blk W (w0.heap.size + 4) (f 9).cells 46))
                    (by kernel_rfl) (by kernel_rfl) (by kernel_rfl) (by kernel_rfl) (by kernel_rfl) (fun _ _ _ => rfl) (fun i v W W' h hb => by
                      match i, h with
                      | 3, ⟨y, c, h1, h2⟩ => exact ⟨y, c, h1, h2.same fun x hx hn => hb _ (h2.wj.ty x hx hn)⟩
                      | 6, ⟨y, c, h1, h2⟩ => exact ⟨y, c, h1, h2.same fun x hx hn => hb _ (h2.wj.ty x hx hn)⟩
                      | 9, ⟨y, c, y2, c2, h1, h2, h3⟩ => exact ⟨y, c, y2, c2, h1, h2.same fun x hx hn => hb _ (h2.wj.ty x hx hn), h3.same fun x hx hn => hb _ (h3.wj.ty x hx hn)⟩
                      | 0, _ | 1, _ | 2, _ | 4, _ | 5, _ | 7, _ | 8, _ | 10, _ | 11, _ | 12, _ => trivial
                      | (m + 13), _ => trivial) (fun L L' f f' W h hs => by have q9 := (h 9 (by decide)).2; have q10 := (h 10 (by decide)).1; have q11 := (h 11 (by decide)).1; (try dsimp only at hs ⊢); rw [← q9, ← q10, ← q11]; exact hs) ⟨Eff.of (upD (upR _)), fun _ => hg.r1.drew, fun h => (Bool.false_ne_true h).elim, fun _ => hg.r2.drew, fun h => (Bool.false_ne_true h).elim⟩ ?_ ?_
                  · intro i hi b' L f W hSW hL hdep hsh he hsv hsl hFF K hK1 hK2
                    replace hi : i < 13 := hi
                    have hcs : i = 0 ∨ i = 1 ∨ i = 2 ∨ i = 3 ∨ i = 4 ∨ i = 5 ∨ i = 6 ∨ i = 7 ∨ i = 8 ∨ i = 9 ∨ i = 10 ∨ i = 11 ∨ i = 12 := by omega
                    clear hi
                    rcases hcs with rfl | rfl | rfl | rfl | rfl | rfl | rfl | rfl | rfl | rfl | rfl | rfl | rfl
                    · refine wpOpS_go rfl rfl ?_
                      have t15 : b'.tmps[15]?.getD undef = Value.pointer (some ⟨ob, 0, none⟩) := he 15 (by kernel_rfl)
                      obtain ⟨s0, s1, s2, s3, s4⟩ := hSW
                      have gb := s0.blk z3 hobx
                      have HK := Lib.hid hK1
                      clear hK1 hK2 hdep hsh he hsv hsl hFF hL
                      clear s0 s1 s2 s3 s4
                      refine op_load 27 _ rfl gb 0 (eval_tmp t15) [Value.int .i64 B.t, Value.slice (some y) lx c, Value.slice yj lj cj, Value.bool F, Value.int .i64 (moreI B.pass), Value.int .i64 B.fail] rfl Tryz.underlying27 rfl (by kernel_rfl) ?_
                      exact HK.out rfl _ (fp_mk rfl rfl trivial)
                    · refine wpOpS_go rfl rfl ?_
                      have t8 : b'.tmps[8]?.getD undef = Value.pointer (some ⟨w0.heap.size + 2, 0, none⟩) := he 8 (by kernel_rfl)
                      have HK := Lib.hid hK1
                      clear hK1 hK2 hdep hsh he hsv hsl hFF hL
                      clear hSW
                      go_simp
                      exact HK.out rfl _ (fp_mk rfl rfl trivial)
                    · refine wpOpS_go rfl rfl ?_
                      have t178 : b'.tmps[178]?.getD undef = Value.pointer (some ⟨w0.heap.size + 2, 1, none⟩) := hsv 1 178 _ (by kernel_rfl) (by kernel_rfl) rfl
                      obtain ⟨s0, s1, s2, s3, s4⟩ := hSW
                      have c0' := (s0.blk hg.q (by have := hg.sz; omega)).cell
                      have HK := Lib.hid hK1
                      clear hK1 hK2 hdep hsh he hsv hsl hFF hL
                      clear s0 s1 s2 s3 s4
                      go_simp
                      exact HK.out rfl _ (fp_mk rfl rfl trivial)
                    · refine wpOpS_go rfl rfl ?_
                      have t179 : b'.tmps[179]?.getD undef = Value.slice aH lh cH := hsv 2 179 _ (by kernel_rfl) (by kernel_rfl) rfl
                      obtain ⟨s0, s1, s2, s3, s4⟩ := hSW
                      have HK := Lib.hid hK2
                      have h11 := hsh 11 (by kernel_rfl)
                      have hA := HCLH.out W (hg.far s0)
                      have hws := s0.size
                      clear hK1 hK2 hdep hsh he hsv hsl hFF
                      go_simp
                      refine hA.mono ?_
                      rintro e w6 ⟨y, c, rfl, hli, hB⟩
                      exact HK.out _ _ (fp_x rfl ⟨y, c, rfl, hli.mono (by have := hg.sz; omega)⟩) (fun k hk => hB.block k hk.lt) ⟨s0.trans (Eff.of (P := fun _ => False) hB) (fun _ _ h => h.elim), fun h => (s1 h).keep hB, fun h => (s2 h).keep hB, fun h => (s3 h).keep hB, fun h => absurd h (by show ¬ L 11 = true; rw [h11]; decide)⟩
                    · refine wpOpS_go rfl rfl ?_
                      have t7 : b'.tmps[7]?.getD undef = Value.pointer (some ⟨w0.heap.size + 1, 0, none⟩) := he 7 (by kernel_rfl)
                      have HK := Lib.hid hK1
                      clear hK1 hK2 hdep hsh he hsv hsl hFF hL
                      clear hSW
                      go_simp
                      exact HK.out rfl _ (fp_mk rfl rfl trivial)
                    · refine wpOpS_go rfl rfl ?_
                      have t181 : b'.tmps[181]?.getD undef = Value.pointer (some ⟨w0.heap.size + 1, 2, none⟩) := hsv 4 181 _ (by kernel_rfl) (by kernel_rfl) rfl
                      obtain ⟨s0, s1, s2, s3, s4⟩ := hSW
                      have c0' := (s0.blk hg.bl (by have := hg.sz; omega)).cell
                      have HK := Lib.hid hK1
                      clear hK1 hK2 hdep hsh he hsv hsl hFF hL
                      clear s0 s1 s2 s3 s4
                      go_simp
                      exact HK.out rfl _ (fp_mk rfl rfl trivial)
                    · refine wpOpS_go rfl rfl ?_
                      have t182 : b'.tmps[182]?.getD undef = Value.slice aP lp cP := hsv 5 182 _ (by kernel_rfl) (by kernel_rfl) rfl
                      obtain ⟨s0, s1, s2, s3, s4⟩ := hSW
                      have HK := Lib.hid hK2
                      have h11 := hsh 11 (by kernel_rfl)
                      have hA := HCLP.out W (hg.far s0)
                      have hws := s0.size
                      clear hK1 hK2 hdep hsh he hsv hsl hFF
                      go_simp
                      refine hA.mono ?_
                      rintro e w6 ⟨y, c, rfl, hli, hB⟩
                      exact HK.out _ _ (fp_x rfl ⟨y, c, rfl, hli.mono (by have := hg.sz; omega)⟩) (fun k hk => hB.block k hk.lt) ⟨s0.trans (Eff.of (P := fun _ => False) hB) (fun _ _ h => h.elim), fun h => (s1 h).keep hB, fun h => (s2 h).keep hB, fun h => (s3 h).keep hB, fun h => absurd h (by show ¬ L 11 = true; rw [h11]; decide)⟩
                    · refine wpOpS_go rfl rfl ?_
                      have t20 : b'.tmps[20]?.getD undef = Value.int .i64 s.1 := he 20 (by kernel_rfl)
                      have HK := Lib.hid hK1
                      clear hK1 hK2 hdep hsh he hsv hsl hFF hL
                      clear hSW
                      go_simp
                      exact HK.out rfl _ (fp_mk rfl rfl trivial)
                    · refine wpOpS_go rfl rfl ?_
                      have t23 : b'.tmps[23]?.getD undef = Value.int .i64 yv.1 := he 23 (by kernel_rfl)
                      have HK := Lib.hid hK1
                      clear hK1 hK2 hdep hsh he hsv hsl hFF hL
                      clear hSW
                      go_simp
                      exact HK.out rfl _ (fp_mk rfl rfl trivial)
                    · refine wpOpS_go rfl rfl ?_
                      have t184 : b'.tmps[184]?.getD undef = Value.int .i64 s.1 := hsv 7 184 _ (by kernel_rfl) (by kernel_rfl) rfl
                      have t185 : b'.tmps[185]?.getD undef = Value.int .i64 yv.1 := hsv 8 185 _ (by kernel_rfl) (by kernel_rfl) rfl
                      obtain ⟨t180, hx⟩ := hsl 3 180 (by kernel_rfl) (by kernel_rfl)
                      obtain ⟨y1, c1, e1, hli1⟩ := hx
                      rw [e1] at t180
                      obtain ⟨t183, hx⟩ := hsl 6 183 (by kernel_rfl) (by kernel_rfl)
                      obtain ⟨y2, c2, e2, hli2⟩ := hx
                      rw [e2] at t183
                      obtain ⟨s0, s1, s2, s3, s4⟩ := hSW
                      have HK := Lib.hid hK2
                      have h11 := hsh 11 (by kernel_rfl)
                      clear hK1 hK2 hdep hsh he hsv hsl hFF e1 e2
                      go_simp
                      exact HK.out _ _ (fp_x rfl ⟨y1, c1, y2, c2, rfl, hli1, hli2⟩) (fun _ _ => rfl) ⟨s0, s1, s2, s3, fun h => absurd h (by show ¬ L 11 = true; rw [h11]; decide)⟩
                    · refine wpOpS_go rfl rfl ?_
                      have t10 : b'.tmps[10]?.getD undef = Value.pointer (some ⟨w0.heap.size + 3, 0, none⟩) := he 10 (by kernel_rfl)
                      have t177 : b'.tmps[177]?.getD undef = Value.agg #[Value.int .i64 B.t, Value.slice (some y) lx c, Value.slice yj lj cj, Value.bool F, Value.int .i64 (moreI B.pass), Value.int .i64 B.fail] := hsv 0 177 _ (by kernel_rfl) (by kernel_rfl) rfl
                      obtain ⟨s0, s1, s2, s3, s4⟩ := hSW
                      have hmb := s1 hL
                      have HK := Lib.hid hK2
                      clear hK1 hK2 hdep hsh he hsv hsl hFF
                      refine op_store 27 _ _ rfl rfl hmb 0 (eval_tmp t10) (eval_tmp t177) ([Value.int .i64 B.t, Value.slice (some y) lx c, Value.slice yj lj cj, Value.bool F, Value.int .i64 (moreI B.pass), Value.int .i64 B.fail] : List Value) (by rfl) (by kernel_rfl) (by rfl) (by rfl) #[Value.int .i64 B.t, Value.slice (some y) lx c, Value.slice yj lj cj, Value.bool F, Value.int .i64 (moreI B.pass), Value.int .i64 B.fail] rfl ?_
                      intro w6 g6 ef hz
                      exact HK.out undef _ (fp_x (v := undef) rfl trivial) (fun k hk => ef.block k hk.lt (fun e => by subst e; exact absurd (hk.inj hmb.ty) (by decide))) ⟨s0.trans ef (fun _ _ h => .inl h), fun h => absurd h (by rw [updF_same]; decide), fun _ => g6, fun h => ef.blk (s3 h) (by omega), fun h => ef.blk (s4 h) (by omega)⟩
                    · refine wpOpS_go rfl rfl ?_
                      have t11 : b'.tmps[11]?.getD undef = Value.pointer (some ⟨w0.heap.size + 4, 0, none⟩) := he 11 (by kernel_rfl)
                      obtain ⟨t186, hx⟩ := hsl 9 186 (by kernel_rfl) (by kernel_rfl)
                      obtain ⟨y1, c1, y2, c2, e1, hli1, hli2⟩ := hx
                      rw [e1] at t186
                      obtain ⟨s0, s1, s2, s3, s4⟩ := hSW
                      have hmb := s3 hL
                      have HK := Lib.hid hK2
                      clear hK1 hK2 hdep hsh he hsv hsl hFF
                      refine op_store 46 _ _ rfl rfl hmb 0 (eval_tmp t11) (eval_tmp t186) ([Value.bool true, Value.slice y1 lh c1, Value.slice y2 lp c2, Value.int .i64 s.1, Value.int .i64 yv.1] : List Value) (by rfl) (by kernel_rfl) (by rfl) (by rfl) #[Value.bool true, Value.slice y1 lh c1, Value.slice y2 lp c2, Value.int .i64 s.1, Value.int .i64 yv.1] rfl ?_
                      intro w6 g6 ef hz
                      exact HK.out undef _ (fp_x (v := undef) rfl trivial) (fun k hk => ef.block k hk.lt (fun e => by subst e; exact absurd (hk.inj hmb.ty) (by decide))) ⟨s0.trans ef (fun _ _ h => .inr (.inl h)), fun h => ef.blk (s1 h) (by omega), fun h => ef.blk (s2 h) (by omega), fun h => absurd h (by rw [updF_same]; decide), fun _ => by rw [updF_ne _ _ (by decide), e1]; exact g6⟩
                    · refine wpOpS_go rfl rfl ?_
                      have HK := Lib.hid hK1
                      clear hK1 hK2 hdep hsh he hsv hsl hFF hL
                      clear hSW
                      go_simp
                      exact HK.out rfl _ (fp_mk rfl rfl trivial)
                  · intro f W hf L hL hS
                    obtain ⟨s0, s1, s2, s3, s4⟩ := (hS : _ ∧ _ ∧ _ ∧ _ ∧ _)
                    replace s2 := s2 (hL 10 (by decide))
                    replace s4 := s4 (hL 11 (by decide))
                    obtain ⟨_, _, e3, _⟩ := (hf 3 (by decide)).2
                    obtain ⟨_, _, e6, _⟩ := (hf 6 (by decide)).2
                    obtain ⟨y1, c1, y2, c2, e9, hl1, hl2⟩ := (hf 9 (by decide)).2
                    rw [e9] at s4
                    replace s4 : Blk W (w0.heap.size + 4) #[Value.bool true, Value.slice y1 lh c1, Value.slice y2 lp c2, Value.int .i64 s.1, Value.int .i64 yv.1] 46 := s4
                    have e0 : f 0 = Value.agg #[Value.int .i64 B.t, Value.slice (some y) lx c, Value.slice yj lj cj, Value.bool F, Value.int .i64 (moreI B.pass), Value.int .i64 B.fail] := (hf 0 (by decide)).1 _ rfl
                    have e1 : f 1 = Value.pointer (some ⟨w0.heap.size + 2, 1, none⟩) := (hf 1 (by decide)).1 _ rfl
                    have e2 : f 2 = Value.slice aH lh cH := (hf 2 (by decide)).1 _ rfl
                    have e4 : f 4 = Value.pointer (some ⟨w0.heap.size + 1, 2, none⟩) := (hf 4 (by decide)).1 _ rfl
                    have e5 : f 5 = Value.slice aP lp cP := (hf 5 (by decide)).1 _ rfl
                    have e7 : f 7 = Value.int .i64 s.1 := (hf 7 (by decide)).1 _ rfl
                    have e8 : f 8 = Value.int .i64 yv.1 := (hf 8 (by decide)).1 _ rfl
                    have e12 : f 12 = Value.int .i64 0 := (hf 12 (by decide)).1 _ rfl
                    clear hf hL s1 s3
                    simp only [puts2, Act.put, e0, e1, e2, e3, e4, e5, e6, e7, e8, e9, e12]
                    try simp only [List.setIfInBounds_toArray, List.set_cons_zero, List.set_cons_succ]
                    clear e0 e1 e2 e3 e4 e5 e6 e7 e8 e9 e12
                    have hX3 := hX2.eff s0 (fun k hk ht => by rcases hk with rfl | rfl | hk; exact absurd (ht.inj hg.r1.ty) (by decide); exact absurd (ht.inj hg.r2.ty) (by decide); exact absurd ht.lt (Nat.not_lt.2 hk))
                    have hJ3 := hJ2.eff s0 (fun k hk ht => by rcases hk with rfl | rfl | hk; exact absurd (ht.inj hg.r1.ty) (by decide); exact absurd (ht.inj hg.r2.ty) (by decide); exact absurd ht.lt (Nat.not_lt.2 hk))
                    have hU3 := hUg.effP s0 (nofar hg)
                    have hT3 : But b w0 W := hg.far s0
                    clear hX2 hJ2 hUg
                    have hret := ‹∀ (a : Act) (w : World), Code.wp Tryz.prog Code.ret _ a w → _›
                    refine hret _ _ (wp_ret ?_)
                    refine bodyPost_ret (results_cct (g := w0.heap.size + 3) (cs := #[Value.int .i64 B.t, Value.slice (some y) lx c, Value.slice yj lj cj, Value.bool F, Value.int .i64 (moreI B.pass), Value.int .i64 B.fail]) (k := w0.heap.size + 4) (ds := #[Value.bool true, Value.slice y1 lh c1, Value.slice y2 lp c2, .int .i64 s.1, .int .i64 yv.1]) rfl _ _ rfl s2 Tryz.underlying27 rfl (by kernel_rfl) rfl s4 Tryz.underlying46 rfl (by kernel_rfl)) rfl ?_
                    refine .inr ⟨HV.out, _, _, ⟨B.t, XX, P, B.flag || cf, moreI B.pass, B.fail⟩, ⟨true, q.h, B.P, s.1, yv.1⟩, cf, rfl, ?_, ⟨⟨some y, c, yj, cj, ?_, hX3, hJ3⟩, hbt, moreI_64 hpass, i64_cnt hfail⟩, ⟨⟨y1, c1, y2, c2, ?_, hl1, hl2⟩, hs64, hy64⟩, hU3, hT3⟩
                    · rw [← HCE.out, ← HCFO.out]
                      exact .on n p v s ee yv yy d (K, kf) (XX, xf) P jc HN.out HINN.out (Int.not_lt.2 HGN.out) HGK.out HGX.out HJ.out
                    · dsimp only
                      rw [HXL.out, ← HLX.out, HLJ.out, ← HFE.out]
                    · dsimp only
                      rw [HL.out.2.2.1, HL.out.2.1]

end Go.Proofs.YtnofoommindocaaGreat.Base
