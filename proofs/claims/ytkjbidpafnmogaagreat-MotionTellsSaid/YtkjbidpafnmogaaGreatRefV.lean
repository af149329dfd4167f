/- binnacleref07: Check, Row, column; an own list of ints that grows. binnacleref07: Sum, Scale. binnacleref07: Mul. binnacleref07: Diag, Eye. binnacleref07: Sum, Scale and Mul tell the program's words. binnacleref09: square, Upper. -/
import Derived.Test.YtkjbidpafnmogaaGreatMatI
import Derived.Test.YtkjbidpafnmogaaGreatRefU
import Derived.Test.YtkjbidpafnmogaaGreatPolK
namespace Go.Proofs.YtkjbidpafnmogaaGreat.Base
open Go.RowKit Go Go.Shelf Go.Deep
set_option linter.unusedVariables false
set_option linter.unusedSimpArgs false

/-- An own list of ints, of block B on, that may be nil. -/
def IV (B : Nat) (W : World) (v : Value) (zs : List Int) : Prop := W.ownsRow B 3 1 v zs.length (zs.map fun z => .int .i64 z)
theorem IV.nil (B : Nat) (W : World) : IV B W (.slice none 0 0) [] := ⟨by simp, .inl ⟨rfl, rfl⟩⟩
theorem IV.keep {B : Nat} {W W' : World} {v : Value} {zs : List Int} (h : IV B W v zs) (k : Below W.heap.size W W') : IV B W' v zs := ownsRow_keep h k
theorem IV.eff {P : Nat → Prop} {B : Nat} {W W' : World} {v : Value} {zs : List Int} (h : IV B W v zs) (he : Eff P W W') (hp : ∀ k, v.ownBlock = some k → ¬ P k) : IV B W' v zs := ownsRow_eff h he hp
theorem IV.lt {B : Nat} {W : World} {v : Value} {zs : List Int} (h : IV B W v zs) (k : Nat) (hk : v.ownBlock = some k) : B ≤ k ∧ k < W.heap.size := World.ownsRow.lt h k hk
theorem IV.ne {B : Nat} {W : World} {v : Value} {zs : List Int} (h : IV B W v zs) {b : Nat} {cs : Array Value} {t : TypeId} (hb : Blk W b cs t) (ht : t ≠ 3) (k : Nat) (hk : v.ownBlock = some k) : k ≠ b := fun e => by
  obtain ⟨cs', q, hc⟩ := (row_ty h k hk).1
  rw [e] at hc
  have := (show W.heap[b]? = _ from hb).symm.trans hc
  simp at this
  exact ht this.2.1
theorem IV.li {B : Nat} {W : World} {v : Value} {zs : List Int} (h : IV B W v zs) (h0 : 0 < zs.length) (hr : ∀ z ∈ zs, I64 z) : ∃ g k, v = .slice (some ⟨g, 0, none⟩) zs.length k ∧ OI B W g k zs := by
  obtain ⟨g, k, rfl⟩ := Joins.ownsRow_form h h0
  obtain ⟨hO, _⟩ := OI.of_row (v := .slice none 0 0) h hr
  exact ⟨g, k, rfl, hO⟩
theorem int_info : ∃ i, Tryz.prog.info? 3 = some i ∧ i.zero = some (.int .i64 0) ∧ i.size = 1 ∧ i.bytes = 8 := info_parts (by kernel_rfl)
/-- 'append(v, z)'. -/
theorem app_iv {ops : Array Oper} {rest : List Oper} {o : Oper} {a : Act} {Q : Exit → Act → World → Prop} {w : World}
    (hg : o.guard = none) (s x : Operand) (hop : o.op = Op.call { callee := Callee.builtin Builtin.append, args := #[s, x], argTypes := #[22, 22] })
    {B : Nat} {v : Value} {zs : List Int} {z : Int} (hs : a.eval s = v) (h : IV B w v zs) (hB : B ≤ w.heap.size) (e1 : Nat) (hx : a.eval x = .slice (some ⟨e1, 0, none⟩) 1 1) (he : Blk w e1 #[.int .i64 z] 3) (hl : zs.length ≤ 100000)
    (hK : ∀ g cap w', IV B w' (.slice (some ⟨g, 0, none⟩) (zs.length + 1) cap) (zs ++ [z]) → w.grownBy w' v.ownBlock → wpList Tryz.prog ops Q rest (a.put o.dst (.slice (some ⟨g, 0, none⟩) (zs.length + 1) cap)) w') :
    wpList Tryz.prog ops Q (o :: rest) a w := by
  refine app_box (S := 22) (cs := #[.int .i64 z]) Tryz.underlying22 int_info rfl (by decide) (by decide) hg s x hop hs h hB e1 rfl hx he (by intro u hu; simp at hu; subst hu; rfl) hl (fun g cap w' ho hgr => hK g cap w' ?_ hgr)
  unfold IV
  simpa using ho

def colL (m : Mt) (j : Nat) : List Int := (List.range m.r.toNat).map fun i => atM m i j
theorem mi_row {W : World} {x : Addr} {k r c i : Nat} {zs : List Int} (h : MI 0 W (some x) k zs) (hl : zs.length = r * c) (hi : i < r) (h0 : 0 < c) : MI 0 W (some (x.add (i * c))) (k - i * c) (rowL zs c i) :=
  (ml_row (b := x.block + 1) ⟨h, fun y hy _ => by cases hy; omega⟩ hl hi h0).mi

set_option maxRecDepth 100000 in
theorem rCheck_is (m : Mt) (a : Option Addr) (k : Nat) (W : World) : Calls Tryz.prog 96 #[.agg #[.int .i64 m.r, .int .i64 m.c, .slice a m.v.length k]] W fun e w' => e = .returned (.int .i64 (chkMt m)) ∧ Below W.heap.size W w' := by
  obtain ⟨r, c, v⟩ := m
  obtain ⟨ans, hans⟩ : ∃ ans, chkMt ⟨r, c, v⟩ = ans := ⟨_, rfl⟩
  rw [hans]
  obtain ⟨n, hn⟩ : ∃ n, v.length = n := ⟨_, rfl⟩
  dsimp only
  rw [hn]
  have hA : ans = if okD r ∧ okD c ∧ (n : Int) = r * c then 0 else 3 := by rw [← hans, ← hn]; rfl
  clear hans hn
  by_cases h1 : r < 1
  · skip
    have HA := Lib.hid (show ans = 3 by rw [hA, if_neg (fun h => by have := h.1.1; omega)])
    clear hA
    go_enter Tryz.func96, Tryz.ntmps96
    go_wp2_with fail
    go_ret
    refine ⟨by rw [HA.out]; rfl, ?_⟩
    (repeat (first | refine upA ?_ _ | refine upD ?_)); exact upR _
  by_cases h2 : 12 < r
  · skip
    have HA := Lib.hid (show ans = 3 by rw [hA, if_neg (fun h => by have := h.1.2; omega)])
    clear hA
    go_enter Tryz.func96, Tryz.ntmps96
    go_wp2_with fail
    go_ret
    refine ⟨by rw [HA.out]; rfl, ?_⟩
    (repeat (first | refine upA ?_ _ | refine upD ?_)); exact upR _
  by_cases h3 : c < 1
  · skip
    have HA := Lib.hid (show ans = 3 by rw [hA, if_neg (fun h => by have := h.2.1.1; omega)])
    clear hA
    go_enter Tryz.func96, Tryz.ntmps96
    go_wp2_with fail
    go_ret
    refine ⟨by rw [HA.out]; rfl, ?_⟩
    (repeat (first | refine upA ?_ _ | refine upD ?_)); exact upR _
  by_cases h4 : 12 < c
  · skip
    have HA := Lib.hid (show ans = 3 by rw [hA, if_neg (fun h => by have := h.2.1.2; omega)])
    clear hA
    go_enter Tryz.func96, Tryz.ntmps96
    go_wp2_with fail
    go_ret
    refine ⟨by rw [HA.out]; rfl, ?_⟩
    (repeat (first | refine upA ?_ _ | refine upD ?_)); exact upR _
  have hr : okD r := ⟨by omega, by omega⟩
  have hc : okD c := ⟨by omega, by omega⟩
  have hw : wrap64 (r * c) = r * c := by
    have h3 : r * c ≤ 12 * 12 := Int.le_trans (Int.mul_le_mul_of_nonneg_right hr.2 (by have := hc.1; omega)) (Int.mul_le_mul_of_nonneg_left hc.2 (by decide))
    have h4 : 0 ≤ r * c := Int.mul_nonneg (by have := hr.1; omega) (by have := hc.1; omega)
    unfold wrap64; omega
  by_cases h5 : (n : Int) = r * c
  · have HA := Lib.hid (show ans = 0 by rw [hA, if_pos ⟨hr, hc, h5⟩])
    have h6 : ((n : Int) == r * c) = true := by simp [h5]
    clear hA hr hc h5
    go_enter Tryz.func96, Tryz.ntmps96
    go_wp2_with fail
    go_ret
    refine ⟨by rw [HA.out]; rfl, ?_⟩
    (repeat (first | refine upA ?_ _ | refine upD ?_)); exact upR _
  · have h6 : ((n : Int) == r * c) = false := by simp [h5]
    have HA := Lib.hid (show ans = 3 by rw [hA, if_neg (fun h => h5 h.2.2)])
    clear hA hr hc h5
    go_enter Tryz.func96, Tryz.ntmps96
    go_wp2_with fail
    go_ret
    refine ⟨by rw [HA.out]; rfl, ?_⟩
    (repeat (first | refine upA ?_ _ | refine upD ?_)); exact upR _

set_option maxHeartbeats 2000000 in
set_option maxRecDepth 100000 in
theorem rowR_is {W : World} {x : Addr} {k r c : Nat} {zs : List Int} (hm : MI 0 W (some x) k zs) (lx : zs.length = r * c) (hr : 1 ≤ r ∧ r ≤ 12) (hc : 1 ≤ c ∧ c ≤ 12) (i : Nat) (hi : i < r) :
    Calls Tryz.prog 98 #[.agg #[.int .i64 r, .int .i64 c, .slice (some x) zs.length k], .int .i64 i] W fun e w' => ∃ g cap, e = .returned (.tuple #[.slice (some ⟨g, 0, none⟩) c cap, .int .i64 0]) ∧ OI W.heap.size w' g cap (rowL zs c i) ∧ Below W.heap.size W w' := by
  have hrow := mi_row hm lx hi hc.1
  have hlx := rowL_len lx hi
  have hok : okMt ⟨r, c, zs⟩ := ⟨⟨by show (1 : Int) ≤ r; omega, by show (r : Int) ≤ 12; omega⟩, ⟨by show (1 : Int) ≤ c; omega, by show (c : Int) ≤ 12; omega⟩, by show (zs.length : Int) = r * c; rw [lx, Int.natCast_mul]⟩
  have hC := fun W => rCheck_is ⟨r, c, zs⟩ (some x) k W
  rw [show chkMt ⟨r, c, zs⟩ = 0 from if_pos hok] at hC
  dsimp only at hC
  clear hok
  have hcx := hm.cap
  rw [lx] at hcx hC ⊢
  generalize rowL zs c i = xr at *
  have hx9 : (i + 1) * c ≤ r * c := Nat.mul_le_mul_right c hi
  have hx8 : r * c ≤ 144 := Nat.mul_le_mul hr.2 hc.2
  rw [Nat.succ_mul] at hx9
  obtain ⟨ic, hic⟩ : ∃ ic, i * c = ic := ⟨_, rfl⟩
  rw [hic] at hx9 hrow
  obtain ⟨ie, hie⟩ : ∃ ie, ic + c = ie := ⟨_, rfl⟩
  have e1 : (i : Int) * (c : Int) = (ic : Int) := by rw [← hic, Int.natCast_mul]
  have e2 : (ic : Int) + (c : Int) = (ie : Int) := by rw [← hie, Int.natCast_add]
  rw [hie] at hx9
  have h91 : ie - ic = c := by omega
  have hi9 : ic ≤ ie := by omega
  clear hm lx hic
  generalize r * c = n at *
  have hik : ie ≤ k := by omega
  have nk1 : ¬ (k = ic) := by omega
  have f1 : IntKind.i64.wrap (ic : Int) = (ic : Int) := IntWalk.i64_in _ (by omega)
  have f2 : IntKind.i64.wrap (ie : Int) = (ie : Int) := IntWalk.i64_in _ (by omega)
  have i0 : ¬ ((i : Int) < 0) := by omega
  have i1 : ¬ ((r : Int) ≤ (i : Int)) := by omega
  have g0 := Blk.new W #[.int .i64 r, .int .i64 c, .slice (some x) n k] 24
  have hB0 : Below W.heap.size W (W.alloc (.cells #[.int .i64 r, .int .i64 c, .slice (some x) n k] 24)) := upA (upR W) _
  have HL := Lib.hid hlx
  have hcl : c ≤ 12 := hc.2
  clear hlx hie hr hc hi
  go_enter Tryz.func98, Tryz.ntmps98
  go_wp2_with fail
  refine (hC _).mono ?_
  rintro e w1 ⟨rfl, hK⟩
  replace hB0 := more hB0 hK
  replace g0 := g0.keep hK
  clear hK hC
  have d0 := g0.cell
  have be := Blk.new w1 #[] 3
  have hrow2 := hrow.keep (hB0.alloc hB0.size (.cells #[] 3))
  have hBe := hB0.alloc hB0.size (.cells #[] 3)
  have g1 := g0.alloc (.cells #[] 3)
  have d1 := g1.cell
  have hsz := hB0.size
  go_wp2_with (at_builtin; refine app_copy (B := W.heap.size) rfl _ _ rfl hsz be rfl hrow2 c HL.out rfl (by omega) ?_)
  intro g cap w2 hOI hgr
  have hB2 : Below W.heap.size W w2 := hBe.trans ⟨hgr.os, hgr.tape, hgr.output, hgr.size, fun k hk => hgr.block k (by simp; omega) (by simp; omega)⟩
  clear d0 d1 g0 g1 hBe hB0 be hgr hrow hrow2
  go_wp2_with fail
  go_ret2
  exact ⟨g, cap, rfl, hOI, hB2⟩

set_option maxHeartbeats 2000000 in
set_option maxRecDepth 100000 in
theorem colR_is {W : World} {a : Option Addr} {k r c : Nat} {zs : List Int} (hm : MI 0 W a k zs) (lx : zs.length = r * c) (hr : r ≤ 12) (hc : c ≤ 12) (j : Nat) (hj : j < c) :
    Calls Tryz.prog 100 #[.agg #[.int .i64 r, .int .i64 c, .slice a zs.length k], .int .i64 j] W fun e w' => ∃ v, e = .returned v ∧ IV W.heap.size w' v (colL ⟨r, c, zs⟩ j) ∧ Below W.heap.size W w' := by
  have hcell : ∀ i, i < r → ∃ x : Addr, a = some x ∧ W.cell? (x.add (i * c + j)) = some (.int .i64 (atM ⟨r, c, zs⟩ i j)) := fun i hi => by
    have hx := ix_lt hi hj
    obtain ⟨x, rfl, h1, _⟩ := hm.at (i * c + j) (by omega)
    refine ⟨x, rfl, h1.trans ?_⟩
    unfold atM
    simp only [Int.toNat_natCast]
    rw [List.getD_eq_getElem?_getD, List.getElem?_eq_getElem (by omega)]
    rfl
  have hcol : colL ⟨r, c, zs⟩ j = (List.range r).map fun i => atM ⟨r, c, zs⟩ i j := rfl
  rw [hcol, lx]
  clear hcol hm
  generalize atM ⟨r, c, zs⟩ = f at *
  have hB0 : Below W.heap.size W (W.alloc (.cells #[.int .i64 r, .int .i64 c, .slice a (r * c) k] 24)) := upA (upR W) _
  have g0 := Blk.new W #[.int .i64 r, .int .i64 c, .slice a (r * c) k] 24
  obtain ⟨n, hn⟩ : ∃ n, r * c = n := ⟨_, rfl⟩
  rw [hn] at hB0 g0 ⊢
  go_enter Tryz.func100, Tryz.ntmps100
  go_wp2_with fail
  generalize W.alloc (.cells #[.int .i64 r, .int .i64 c, .slice a n k] 24) = W1 at *
  go_loopw [5, 6] (fun v i wr => ∃ (q : Nat), q ≤ r ∧ i = .int .i64 q ∧ IV W.heap.size wr v ((List.range q).map fun i => f i j) ∧ Below W.heap.size W wr ∧ Blk wr W.heap.size #[.int .i64 r, .int .i64 c, .slice a n k] 24) (fun _ i _ => r - (intOf i).toNat)
  case atStart => exact ⟨0, Nat.zero_le _, rfl, IV.nil _ _, hB0, g0⟩
  case round =>
    obtain ⟨q, hq, rfl, hV, hB, hb⟩ := hrel
    have d0 := hb.cell
    by_cases hql : q < r
    · have hql' : (q : Int) < (r : Int) := by omega
      obtain ⟨x, rfl, hx⟩ := hcell q hql
      obtain ⟨p, hp⟩ : ∃ p, q * c = p := ⟨_, rfl⟩
      obtain ⟨s, hs⟩ : ∃ s, p + j = s := ⟨_, rfl⟩
      obtain ⟨e1, e2, e3, e4, e5, e6⟩ := ix_small (n := n) hql hr hj hc hp hs hn.symm
      have e7 : IntKind.i64.wrap (p : Int) = (p : Int) := (IntWalk.i64_left _).trans e2
      have e8 : IntKind.i64.wrap (s : Int) = (s : Int) := (IntWalk.i64_left _).trans e4
      rw [hp, hs] at hx
      have hx1 := (hB.cell (World.block_lt_of_cell? W _ hx)).trans hx
      have HL := Lib.hid (show ((List.range q).map fun i => f i j).length = q by simp)
      have HR := Lib.hid (show ((List.range (q + 1)).map fun i => f i j) = ((List.range q).map fun i => f i j) ++ [f q j] by rw [List.range_succ, List.map_append]; rfl)
      generalize ((List.range q).map fun i => f i j) = zl at *
      generalize f q j = z at *
      have be := Blk.new wr #[.int .i64 z] 3
      have hVe := hV.keep ((Below.refl _ wr).alloc (Nat.le_refl _) (.cells #[.int .i64 z] 3))
      have hbe := hb.alloc (.cells #[.int .i64 z] 3)
      have hBe := hB.alloc hB.size (.cells #[.int .i64 z] 3)
      have hsz := hB.size
      clear hp hs hx hcell hV
      go_wp2_with (at_builtin; refine app_iv rfl _ _ rfl rfl hVe (by simp; omega) _ rfl be (by have := HL.out; omega) ?_)
      intro g cap w2 hV2 hgr
      have hb2 := hbe.grown hgr (fun e => hVe.ne hbe (by decide) _ e.symm rfl)
      have hB2 : Below W.heap.size W w2 := hBe.trans ⟨hgr.os, hgr.tape, hgr.output, hgr.size, fun k hk => hgr.block k (by simp; omega) (fun e => by have := (hVe.lt k e.symm).1; omega)⟩
      clear hVe hBe hbe hgr be d0 hx1
      go_wp2_with fail
      go_roundw
      case rel => exact ⟨q + 1, by omega, by go_num, by rw [HR.out]; exact hV2, hB2, hb2⟩
      case measure => simp [intOf]; omega
    · have hqr : q = r := by omega
      subst hqr
      go_wp2_with fail
      go_ret
      exact ⟨_, rfl, hV, hB⟩

def alikeM (m1 m2 : Mt) : Bool := decide (okMt m1) && (decide (okMt m2) && (decide (m1.r = m2.r) && decide (m1.c = m2.c)))
set_option maxRecDepth 100000 in
theorem alikeR_is {W : World} {r c : Int} {xs ys : List Int} (h1 : okMt ⟨r, c, xs⟩) (h2 : okMt ⟨r, c, ys⟩) (a1 a2 : Option Addr) (k1 k2 : Nat) :
    Calls Tryz.prog 109 #[.agg #[.int .i64 r, .int .i64 c, .slice a1 xs.length k1], .agg #[.int .i64 r, .int .i64 c, .slice a2 ys.length k2]] W fun e w' => e = .returned (.bool true) ∧ Below W.heap.size W w' := by
  have hC := fun W => rCheck_is ⟨r, c, xs⟩ a1 k1 W
  have hD := fun W => rCheck_is ⟨r, c, ys⟩ a2 k2 W
  rw [show chkMt ⟨r, c, xs⟩ = 0 from if_pos h1] at hC
  rw [show chkMt ⟨r, c, ys⟩ = 0 from if_pos h2] at hD
  dsimp only at hC hD
  clear h1 h2
  generalize xs.length = n1 at *
  generalize ys.length = n2 at *
  have hB := below_allocs W [Obj.cells #[.int .i64 r, .int .i64 c, .slice a1 n1 k1] 24, Obj.cells #[.int .i64 r, .int .i64 c, .slice a2 n2 k2] 24]
  have g0 := blk_at W [Obj.cells #[.int .i64 r, .int .i64 c, .slice a1 n1 k1] 24, Obj.cells #[.int .i64 r, .int .i64 c, .slice a2 n2 k2] 24] 0 _ _ rfl
  have g1 := blk_at W [Obj.cells #[.int .i64 r, .int .i64 c, .slice a1 n1 k1] 24, Obj.cells #[.int .i64 r, .int .i64 c, .slice a2 n2 k2] 24] 1 _ _ rfl
  simp only [List.foldl_cons, List.foldl_nil, Nat.add_zero] at hB g0 g1
  replace hB := hB.1
  go_enter Tryz.func109, Tryz.ntmps109
  go_wp2_with fail
  refine (hC _).mono ?_
  rintro e w1 ⟨rfl, hK⟩
  replace hB := more hB hK
  replace g0 := g0.keep hK
  replace g1 := g1.keep hK
  clear hK hC
  have d1 := g1.cell
  go_wp2_with fail
  refine (hD _).mono ?_
  rintro e w2 ⟨rfl, hK⟩
  replace hB := more hB hK
  replace g0 := g0.keep hK
  replace g1 := g1.keep hK
  clear hK hD d1
  have d0 := g0.cell
  have d1 := g1.cell
  go_wp2_with fail
  go_ret
  exact ⟨rfl, hB⟩
end Go.Proofs.YtkjbidpafnmogaaGreat.Base
namespace Go.Proofs.YtkjbidpafnmogaaGreat.Base
open Go.RowKit Go Go.Shelf Go.Deep
set_option linter.unusedVariables false
set_option linter.unusedSimpArgs false

theorem UR.below {n : Nat} {W W' : World} {b : Nat} {c : Bool} (h : UR W b c) (k : Below n W W') (hb : b < n) : UR W' b c := by
  obtain ⟨m, h⟩ := h
  exact ⟨m, h.below k hb⟩
theorem below_store {n mb : Nat} {W W' : World} (lm : n ≤ mb) (hn : n ≤ W.heap.size) (k : Eff (fun k => k = mb) W W') : Below n W W' :=
  ⟨k.os, k.tape, k.output, k.size, fun i hi => k.block i (by omega) (by omega)⟩
theorem below_grown {n : Nat} {W W' : World} {v : Value} {zs : List Int} (hv : IV n W v zs) (hn : n ≤ W.heap.size) (hg : W.grownBy W' v.ownBlock) : Below n W W' :=
  ⟨hg.os, hg.tape, hg.output, hg.size, fun k hk => hg.block k (by omega) (fun e => by have := (hv.lt k e.symm).1; omega)⟩
theorem OI.eff0 {P : Nat → Prop} {B : Nat} {W W' : World} {g cap : Nat} {zs : List Int} (h : OI B W g cap zs) (he : Eff P W W') (hp : ¬ P g) : OI B W' g cap zs := by
  obtain ⟨cur, hb, hs, hc⟩ := h.ex
  exact ⟨⟨cur, he.blk hb hp, hs, hc⟩, h.rng, h.fit, h.len, h.lo⟩
theorem op_slicen {P : Program} {o : Oper} {a : Act} {Q : Exit → Act → World → Prop} {K : Act → World → Prop} {W : World} (n : Nat) {cs : Array Value} {t : TypeId} (hrun : (execOp a.eval o).run P W = .ok (.value (.slice (some ⟨W.heap.size, 0, none⟩) n n)) (W.alloc (.cells cs t)))
    (h : ∀ w', Blk w' W.heap.size cs t → Below W.heap.size W w' → w'.heap.size = W.heap.size + 1 → K (a.put o.dst (.slice (some ⟨W.heap.size, 0, none⟩) n n)) w') : o.wp P a W K Q := by
  unfold Oper.wp
  rw [hrun]
  exact h _ (Blk.new W cs t) ((Below.refl _ _).alloc (Nat.le_refl _) _) (by simp)
/-- The blocks about a matrix that grows in block mb. -/
structure Ctx (w0 : World) (P : Nat → Prop) (mb : Nat) (bs : List (Nat × Array Value × TypeId)) (W : World) : Prop where
  ef : Eff P w0 W
  bk : ∀ t ∈ bs, Blk W t.1 t.2.1 t.2.2
  lo : ∀ t ∈ bs, w0.heap.size ≤ t.1 ∧ t.1 ≠ mb ∧ t.2.2 ≠ 3
  hP : ∀ k, P k → k < w0.heap.size
  lm : w0.heap.size ≤ mb
theorem Ctx.keep {w0 W W' : World} {P : Nat → Prop} {mb : Nat} {bs : List (Nat × Array Value × TypeId)} (h : Ctx w0 P mb bs W) (k : Below W.heap.size W W') : Ctx w0 P mb bs W' :=
  ⟨h.ef.trans (Eff.of (P := P) k) (fun _ _ h => h), fun t ht => (h.bk t ht).keep k, h.lo, h.hP, h.lm⟩
theorem Ctx.call {w0 W W' : World} {P : Nat → Prop} {mb : Nat} {bs : List (Nat × Array Value × TypeId)} (h : Ctx w0 P mb bs W) (k : Eff P W W') : Ctx w0 P mb bs W' :=
  ⟨h.ef.trans k (fun _ _ h => h), fun t ht => k.blk (h.bk t ht) (fun hp => by have := h.hP _ hp; have := (h.lo t ht).1; omega), h.lo, h.hP, h.lm⟩
theorem Ctx.store {w0 W W' : World} {P : Nat → Prop} {mb : Nat} {bs : List (Nat × Array Value × TypeId)} (h : Ctx w0 P mb bs W) (k : Eff (fun k => k = mb) W W') : Ctx w0 P mb bs W' :=
  ⟨h.ef.trans k (fun i hi e => by have := h.lm; omega), fun t ht => k.blk (h.bk t ht) (h.lo t ht).2.1, h.lo, h.hP, h.lm⟩
theorem Ctx.grown {w0 W W' : World} {P : Nat → Prop} {mb : Nat} {bs : List (Nat × Array Value × TypeId)} {v : Value} {zs : List Int} (h : Ctx w0 P mb bs W) (hv : IV w0.heap.size W v zs) (hg : W.grownBy W' v.ownBlock) : Ctx w0 P mb bs W' :=
  ⟨h.ef.trans (Eff.grown (P := fun k => v.ownBlock = some k) hg (fun k hk => hk)) (fun k hk e => by have := (hv.lt k e).1; omega), fun t ht => (h.bk t ht).grown hg (fun e => hv.ne (h.bk t ht) (h.lo t ht).2.2 _ e.symm rfl), h.lo, h.hP, h.lm⟩

set_option maxHeartbeats 4000000 in
set_option maxRecDepth 100000 in
theorem rsum7_is {w0 : World} {b : Nat} {c0 : Bool} (hU : UR w0 b c0) {r c n : Nat} {xs ys : List Int} {a1 a2 : Option Addr} {k1 k2 : Nat} (h1 : ML b w0 a1 k1 xs) (h2 : ML b w0 a2 k2 ys) (lx : xs.length = n) (ly : ys.length = n)
    (hr : 1 ≤ r ∧ r ≤ 12) (hc : 1 ≤ c ∧ c ≤ 12) (hn : r * c = n) :
    Calls Tryz.prog 63 #[.pointer (some ⟨b, 0, none⟩), .agg #[.int .i64 r, .int .i64 c, .slice a1 n k1], .agg #[.int .i64 r, .int .i64 c, .slice a2 n k2]] w0 fun e w' => ∃ g k, e = .returned (.tuple #[.agg #[.int .i64 r, .int .i64 c, .slice (some ⟨g, 0, none⟩) n k], .int .i64 0]) ∧ OI w0.heap.size w' g k ((List.range n).map fun i => (plusL [xs.getD i 0, ys.getD i 0]).1) ∧ UR w' b (c0 || (List.range n).any fun i => (plusL [xs.getD i 0, ys.getD i 0]).2) ∧ But b w0 w' := by
  have hbl := hU.lt
  have hn1 : 1 ≤ n := by rw [← hn]; exact Nat.mul_pos hr.1 hc.1
  have hn2 : n ≤ 144 := by rw [← hn]; exact Nat.mul_le_mul hr.2 hc.2
  have hokd : okD (r : Int) ∧ okD (c : Int) := ⟨⟨by omega, by omega⟩, ⟨by omega, by omega⟩⟩
  have hAl := fun W => alikeR_is (W := W) (r := r) (c := c) (xs := xs) (ys := ys) ⟨hokd.1, hokd.2, by show (xs.length : Int) = r * c; rw [lx, ← hn, Int.natCast_mul]⟩ ⟨hokd.1, hokd.2, by show (ys.length : Int) = r * c; rw [ly, ← hn, Int.natCast_mul]⟩ a1 a2 k1 k2
  rw [lx, ly] at hAl
  obtain ⟨P, hPb, hbP, hPl⟩ : ∃ P : Nat → Prop, (∀ W W', Eff P W W' → But b W W') ∧ (∀ W W', But b W W' → Eff P W W') ∧ (∀ k, P k → k < w0.heap.size) := ⟨fun k => k = b, fun _ _ h => eff_but h, fun _ _ h => but_eff h, fun k h => by omega⟩
  obtain ⟨x, rfl, hq1, hq2⟩ := h1.at 0 (by omega)
  clear hq1 hq2
  have hcx : ∀ q, q < n → ∀ W, Eff P w0 W → W.cell? (x.add q) = some (.int .i64 (xs.getD q 0)) := fun q hq W hE => by
    obtain ⟨x', hx', hc', _⟩ := (h1.but (hPb _ _ hE)).at q (by omega)
    cases hx'
    rw [hc', List.getD_eq_getElem?_getD, List.getElem?_eq_getElem (by omega)]
    rfl
  have rx := getD_i64 h1.mi.rng
  obtain ⟨y, rfl, hq1, hq2⟩ := h2.at 0 (by omega)
  clear hq1 hq2
  have hcy : ∀ q, q < n → ∀ W, Eff P w0 W → W.cell? (y.add q) = some (.int .i64 (ys.getD q 0)) := fun q hq W hE => by
    obtain ⟨y', hy', hc', _⟩ := (h2.but (hPb _ _ hE)).at q (by omega)
    cases hy'
    rw [hc', List.getD_eq_getElem?_getD, List.getElem?_eq_getElem (by omega)]
    rfl
  have ry := getD_i64 h2.mi.rng
  obtain ⟨F, hF⟩ : ∃ F : Nat → Int × Bool, ∀ i, plusL [xs.getD i 0, ys.getD i 0] = F i := ⟨_, fun _ => rfl⟩
  have hFx : ∀ i, I64 (F i).1 := fun i => by rw [← hF]; exact (plusL_fx _).i64
  simp only [hF]
  have HF := Lib.hid hF
  clear hF hn hokd
  have hB := below_allocs w0 [Obj.cells #[.int .i64 r, .int .i64 c, .slice (some x) n k1] 24, Obj.cells #[.int .i64 r, .int .i64 c, .slice (some y) n k2] 24, Obj.cells #[.int .i64 0, .int .i64 0, .slice none 0 0] 24]
  have g0 := blk_at w0 [Obj.cells #[.int .i64 r, .int .i64 c, .slice (some x) n k1] 24, Obj.cells #[.int .i64 r, .int .i64 c, .slice (some y) n k2] 24, Obj.cells #[.int .i64 0, .int .i64 0, .slice none 0 0] 24] 0 _ _ rfl
  have g1 := blk_at w0 [Obj.cells #[.int .i64 r, .int .i64 c, .slice (some x) n k1] 24, Obj.cells #[.int .i64 r, .int .i64 c, .slice (some y) n k2] 24, Obj.cells #[.int .i64 0, .int .i64 0, .slice none 0 0] 24] 1 _ _ rfl
  have g2 := blk_at w0 [Obj.cells #[.int .i64 r, .int .i64 c, .slice (some x) n k1] 24, Obj.cells #[.int .i64 r, .int .i64 c, .slice (some y) n k2] 24, Obj.cells #[.int .i64 0, .int .i64 0, .slice none 0 0] 24] 2 _ _ rfl
  simp only [List.foldl_cons, List.foldl_nil, Nat.add_zero] at hB g0 g1 g2
  replace hB := hB.1
  go_enter Tryz.func63, Tryz.ntmps63
  go_wp2_with fail
  refine (hAl _).mono ?_
  rintro e w1 ⟨rfl, hK⟩
  replace hB := more hB hK
  replace g0 := g0.keep hK
  replace g1 := g1.keep hK
  replace g2 := g2.keep hK
  clear hK hAl
  have d0 := g0.cell
  have gm := Blk.new w1 #[.int .i64 0, .int .i64 0, .slice none 0 0] 24
  have hB1 := hB.alloc hB.size (.cells #[.int .i64 0, .int .i64 0, .slice none 0 0] 24)
  have hK1 : Below w1.heap.size w1 (w1.alloc (.cells #[.int .i64 0, .int .i64 0, .slice none 0 0] 24)) := upA (upR w1) _
  go_wp2_with ((with_reducible refine at_st (p := 8) (q := 19) rfl ?_); refine ev_store rfl 24 _ _ rfl rfl gm 0 rfl rfl [.int .i64 r, .int .i64 c, .slice none 0 0] rfl (by kernel_rfl) rfl rfl #[.int .i64 r, .int .i64 c, .slice none 0 0] rfl ?_; intro w2 g6 ef hz6)
  obtain ⟨mb, hmb⟩ : ∃ mb, w1.heap.size = mb := ⟨_, rfl⟩
  have hms : w0.heap.size + 3 ≤ mb := by rw [← hmb]; exact g2.lt
  have hmz : w0.heap.size ≤ mb := by omega
  rw [hmb] at g6 ef ⊢
  have hB2 : Below w0.heap.size w0 w2 := ef.below hB1 (fun k hk => by omega)
  have hX : Ctx w0 P mb [(w0.heap.size, #[.int .i64 r, .int .i64 c, .slice (some x) n k1], 24), (w0.heap.size + 1, #[.int .i64 r, .int .i64 c, .slice (some y) n k2], 24), (w0.heap.size + 2, #[.int .i64 0, .int .i64 0, .slice none 0 0], 24)] w2 := by
    refine ⟨Eff.of hB2, fun t ht => ?_, fun t ht => ?_, hPl, by omega⟩
    · simp at ht
      rcases ht with rfl | rfl | rfl
      · exact ef.blk (g0.keep hK1) (by simp; omega)
      · exact ef.blk (g1.keep hK1) (by simp; omega)
      · exact ef.blk (g2.keep hK1) (by simp; omega)
    · simp at ht
      rcases ht with rfl | rfl | rfl
      · exact ⟨by simp, by simp; omega, by dsimp only; decide⟩
      · exact ⟨by simp, by simp; omega, by dsimp only; decide⟩
      · exact ⟨by simp, by simp; omega, by dsimp only; decide⟩
  have hJ : ∀ cu, ∀ W W', UR W b cu → Below w0.heap.size W W' → UR W' b cu := fun cu W W' h k => h.below k hbl
  have hU2 := hJ _ _ _ hU hB2
  clear hB hB1 hB2 hK1 gm d0 ef hz6 g0 g1 g2 hU
  go_loopw [9] (fun i wr => ∃ q : Nat, q ≤ n ∧ i = .int .i64 q ∧ UR wr b (c0 || (List.range q).any fun i => (F i).2) ∧ Ctx w0 P mb [(w0.heap.size, #[.int .i64 r, .int .i64 c, .slice (some x) n k1], 24), (w0.heap.size + 1, #[.int .i64 r, .int .i64 c, .slice (some y) n k2], 24), (w0.heap.size + 2, #[.int .i64 0, .int .i64 0, .slice none 0 0], 24)] wr ∧ ∃ v, Blk wr mb #[.int .i64 r, .int .i64 c, v] 24 ∧ IV w0.heap.size wr v ((List.range q).map fun i => (F i).1)) (fun i _ => n - (intOf i).toNat)
  case atStart => exact ⟨0, Nat.zero_le _, rfl, by simpa using hU2, hX, _, g6, IV.nil _ _⟩
  case round =>
    obtain ⟨q, hq, rfl, hUq, hXq, ov, hov, hV⟩ := hrel
    have d0 := (hXq.bk (w0.heap.size, #[.int .i64 r, .int .i64 c, .slice (some x) n k1], 24) (by simp)).cell
    dsimp only at d0
    clear hX g6 hU2
    by_cases hql : q < n
    · have hql' : (q : Int) < (n : Int) := by omega
      have hq0 : (0 : Int) ≤ (q : Int) := by omega
      have h7x := hcx q hql
      have h7y := hcy q hql
      have hCall : ∀ W e1, UR W b (c0 || (List.range q).any fun i => (F i).2) → Blk W e1 #[.int .i64 (xs.getD q 0), .int .i64 (ys.getD q 0)] 3 → e1 ≠ b → Calls Tryz.prog 110 #[.pointer (some ⟨b, 0, none⟩), .slice (some ⟨e1, 0, none⟩) 2 2] W fun e w' => e = .returned (.int .i64 (F q).1) ∧ UR w' b ((c0 || (List.range q).any fun i => (F i).2) || (F q).2) ∧ Eff P W w' := fun W e1 hU hb hne => by
        have hA := uAddR_is hU (ml_new (b := b) (zs := [xs.getD q 0, ys.getD q 0]) hb hne (two_i64 (rx q) (ry q)) (by simp))
        rw [HF.out q] at hA
        exact hA.mono fun e w' h => ⟨h.1, h.2.1, hbP _ _ h.2.2⟩
      generalize xs.getD q 0 = z1 at *
      generalize ys.getD q 0 = z2 at *
      have HU := Lib.hid (show (c0 || (List.range (q + 1)).any fun i => (F i).2) = ((c0 || (List.range q).any fun i => (F i).2) || (F q).2) by rw [List.range_succ, any_snoc, Bool.or_assoc])
      have HZ := Lib.hid (show ((List.range (q + 1)).map fun i => (F i).1) = ((List.range q).map fun i => (F i).1) ++ [(F q).1] by rw [List.range_succ, List.map_append]; rfl)
      have HL := Lib.hid (show ((List.range q).map fun i => (F i).1).length = q by simp)
      have hlq : ((List.range q).map fun i => (F i).1).length ≤ 144 := by simp; omega
      have hpx := hFx q
      generalize F q = p at *
      generalize ((List.range q).map fun i => (F i).1) = zs at *
      generalize (c0 || (List.range q).any fun i => (F i).2) = cu at *
      have hJ0 := hJ cu
      have hJ1 := hJ (cu || p.2)
      go_wp2_with fail
      have HS0 := show (UR wr.drew b cu ∧ Ctx w0 P mb [(w0.heap.size, #[.int .i64 r, .int .i64 c, .slice (some x) n k1], 24), (w0.heap.size + 1, #[.int .i64 r, .int .i64 c, .slice (some y) n k2], 24), (w0.heap.size + 2, #[.int .i64 0, .int .i64 0, .slice none 0 0], 24)] wr.drew ∧ Blk wr.drew mb #[.int .i64 r, .int .i64 c, ov] 24 ∧ IV w0.heap.size wr.drew ov zs) from ⟨hUq.drew, hXq.keep (upD (upR _)), hov.drew, hV.keep (upD (upR _))⟩
      clear d0 hov hV hXq hUq hFx
      refine region_fp [some 27, some 28, some 29, some 30, some 31, some 32, some 33, some 34, some 35, some 36, some 37, some 38, some 39, some 40, some 41, some 42, some 43, some 44, none] [14, 16, 18] [some (Value.pointer (some ⟨mb, 2, none⟩)), some (ov), some (Value.pointer (some ⟨b, 0, none⟩)), some (Value.pointer (some ⟨w0.heap.size, 2, none⟩)), some (Value.slice (some x) n k1), some (Value.int .i64 (q : Int)), some (Value.pointer (some (x.add q))), some (Value.int .i64 z1), some (Value.pointer (some ⟨w0.heap.size + 1, 2, none⟩)), some (Value.slice (some y) n k2), some (Value.int .i64 (q : Int)), some (Value.pointer (some (y.add q))), some (Value.int .i64 z2), none, some (Value.int .i64 p.1), none, none, some (Value.pointer (some ⟨mb, 2, none⟩)), none]
        (fun i v W => match i with | 13 => ∃ e1, v = Value.slice (some ⟨e1, 0, none⟩) 2 2 ∧ Blk W e1 #[.int .i64 z1, .int .i64 z2] 3 ∧ w0.heap.size ≤ e1 ∧ e1 ≠ mb ∧ (∀ k, ov.ownBlock = some k → k ≠ e1) | 15 => ∃ e1, v = Value.slice (some ⟨e1, 0, none⟩) 1 1 ∧ Blk W e1 #[.int .i64 p.1] 3 ∧ w0.heap.size ≤ e1 ∧ e1 ≠ mb ∧ (∀ k, ov.ownBlock = some k → k ≠ e1) | 16 => ∃ g' c', v = Value.slice (some ⟨g', 0, none⟩) (zs.length + 1) c' | _ => True) (fun W W' => Eff (fun k => (P) k ∨ k = mb ∨ ov.ownBlock = some k) W W') (fun L f W => (L 14 = false → UR W b cu) ∧ (L 14 = true → UR W b (cu || p.2)) ∧ Ctx w0 (P) mb [(w0.heap.size, #[.int .i64 r, .int .i64 c, .slice (some x) n k1], 24), (w0.heap.size + 1, #[.int .i64 r, .int .i64 c, .slice (some y) n k2], 24), (w0.heap.size + 2, #[.int .i64 0, .int .i64 0, .slice none 0 0], 24)] W ∧ (L 18 = false → Blk W mb #[.int .i64 r, .int .i64 c, ov] 24) ∧ (L 18 = true → Blk W mb #[.int .i64 r, .int .i64 c, f 16] 24) ∧ (L 16 = false → IV w0.heap.size W ov zs) ∧ (L 16 = true → IV w0.heap.size W (f 16) (zs ++ [p.1])))
        (by kernel_rfl) (by kernel_rfl) (by kernel_rfl) (by kernel_rfl) (by kernel_rfl) (fun _ => Eff.refl _ _) (fun i v W W' h hb => by
          match i, h with
          | 13, ⟨e1, h1, h2, h3, h4, h5⟩ => exact ⟨e1, h1, hb.blk h2 (fun h => by rcases h with h | h | h; have := hPl _ h; omega; exact h4 h; exact h5 _ h rfl), h3, h4, h5⟩
          | 15, ⟨e1, h1, h2, h3, h4, h5⟩ => exact ⟨e1, h1, hb.blk h2 (fun h => by rcases h with h | h | h; have := hPl _ h; omega; exact h4 h; exact h5 _ h rfl), h3, h4, h5⟩
          | 16, ⟨g', c', h1⟩ => exact ⟨g', c', h1⟩
          | 0, _ | 1, _ | 2, _ | 3, _ | 4, _ | 5, _ | 6, _ | 7, _ | 8, _ | 9, _ | 10, _ | 11, _ | 12, _ | 14, _ | 17, _ | 18, _ => trivial
          | (n + 19), _ => trivial) (fun L L' f f' W h hs => by have qc := (h 14 (by decide)).1; have qa := (h 16 (by decide)); have qs := (h 18 (by decide)).1; (try dsimp only at hs ⊢); rw [← qc, ← qa.1, ← qa.2, ← qs]; exact hs) ⟨fun _ => HS0.1, fun h => (Bool.false_ne_true h).elim, HS0.2.1, fun _ => HS0.2.2.1, fun h => (Bool.false_ne_true h).elim, fun _ => HS0.2.2.2, fun h => (Bool.false_ne_true h).elim⟩ ?_ ?_
      · intro i hi b' L f W hSW hL hdep hsh he hsv hsl hFF K hK1 hK2
        replace hi : i < 19 := hi
        have hcs : i = 0 ∨ i = 1 ∨ i = 2 ∨ i = 3 ∨ i = 4 ∨ i = 5 ∨ i = 6 ∨ i = 7 ∨ i = 8 ∨ i = 9 ∨ i = 10 ∨ i = 11 ∨ i = 12 ∨ i = 13 ∨ i = 14 ∨ i = 15 ∨ i = 16 ∨ i = 17 ∨ i = 18 := by omega
        clear hi
        rcases hcs with rfl | rfl | rfl | rfl | rfl | rfl | rfl | rfl | rfl | rfl | rfl | rfl | rfl | rfl | rfl | rfl | rfl | rfl | rfl
        · refine wpOpS_go rfl rfl ?_
          have t8 : b'.tmps[8]?.getD undef = Value.pointer (some ⟨mb, 0, none⟩) := he 8 (by kernel_rfl)
          have HK := Lib.hid hK1
          clear hK1 hK2 hdep hsh he hsv hsl hFF hL
          clear hSW
          go_simp
          exact HK.out rfl _ (fp_mk rfl rfl trivial)
        · refine wpOpS_go rfl rfl ?_
          have t27 : b'.tmps[27]?.getD undef = Value.pointer (some ⟨mb, 2, none⟩) := hsv 0 27 _ (by kernel_rfl) (by kernel_rfl) rfl
          obtain ⟨s0, s1, s2, s3, s4, s5, s6⟩ := hSW
          have ns := hsh 18 (by kernel_rfl)
          have c0 := (s3 ns).cell
          have HK := Lib.hid hK1
          clear hK1 hK2 hdep hsh he hsv hsl hFF hL
          clear s0 s1 s2 s3 s4 s5 s6
          go_simp
          exact HK.out rfl _ (fp_mk rfl rfl trivial)
        · refine wpOpS_go rfl rfl ?_
          have t0 : b'.tmps[0]?.getD undef = Value.pointer (some ⟨b, 0, none⟩) := he 0 (by kernel_rfl)
          have HK := Lib.hid hK1
          clear hK1 hK2 hdep hsh he hsv hsl hFF hL
          clear hSW
          go_simp
          exact HK.out rfl _ (fp_mk rfl rfl trivial)
        · refine wpOpS_go rfl rfl ?_
          have t4 : b'.tmps[4]?.getD undef = Value.pointer (some ⟨w0.heap.size, 0, none⟩) := he 4 (by kernel_rfl)
          have HK := Lib.hid hK1
          clear hK1 hK2 hdep hsh he hsv hsl hFF hL
          clear hSW
          go_simp
          exact HK.out rfl _ (fp_mk rfl rfl trivial)
        · refine wpOpS_go rfl rfl ?_
          have t30 : b'.tmps[30]?.getD undef = Value.pointer (some ⟨w0.heap.size, 2, none⟩) := hsv 3 30 _ (by kernel_rfl) (by kernel_rfl) rfl
          obtain ⟨s0, s1, s2, s3, s4, s5, s6⟩ := hSW
          have c0 := (s2.bk (w0.heap.size, #[.int .i64 r, .int .i64 c, .slice (some x) n k1], 24) (by simp)).cell
          have HK := Lib.hid hK1
          clear hK1 hK2 hdep hsh he hsv hsl hFF hL
          clear s0 s1 s2 s3 s4 s5 s6
          try dsimp only at c0
          go_simp
          exact HK.out rfl _ (fp_mk rfl rfl trivial)
        · refine wpOpS_go rfl rfl ?_
          have t9 : b'.tmps[9]?.getD undef = Value.int .i64 (q : Int) := he 9 (by kernel_rfl)
          have HK := Lib.hid hK1
          clear hK1 hK2 hdep hsh he hsv hsl hFF hL
          clear hSW
          go_simp
          exact HK.out rfl _ (fp_mk rfl rfl trivial)
        · refine wpOpS_go rfl rfl ?_
          have t31 : b'.tmps[31]?.getD undef = Value.slice (some x) n k1 := hsv 4 31 _ (by kernel_rfl) (by kernel_rfl) rfl
          have t32 : b'.tmps[32]?.getD undef = Value.int .i64 (q : Int) := hsv 5 32 _ (by kernel_rfl) (by kernel_rfl) rfl
          have HK := Lib.hid hK1
          clear hK1 hK2 hdep hsh he hsv hsl hFF hL
          clear hSW
          go_simp
          exact HK.out rfl _ (fp_mk rfl rfl trivial)
        · refine wpOpS_go rfl rfl ?_
          have t33 : b'.tmps[33]?.getD undef = Value.pointer (some (x.add q)) := hsv 6 33 _ (by kernel_rfl) (by kernel_rfl) rfl
          obtain ⟨s0, s1, s2, s3, s4, s5, s6⟩ := hSW
          have c0 := h7x W s2.ef
          have HK := Lib.hid hK1
          clear hK1 hK2 hdep hsh he hsv hsl hFF hL
          clear s0 s1 s2 s3 s4 s5 s6
          go_simp
          exact HK.out rfl _ (fp_mk rfl rfl trivial)
        · refine wpOpS_go rfl rfl ?_
          have t5 : b'.tmps[5]?.getD undef = Value.pointer (some ⟨w0.heap.size + 1, 0, none⟩) := he 5 (by kernel_rfl)
          have HK := Lib.hid hK1
          clear hK1 hK2 hdep hsh he hsv hsl hFF hL
          clear hSW
          go_simp
          exact HK.out rfl _ (fp_mk rfl rfl trivial)
        · refine wpOpS_go rfl rfl ?_
          have t35 : b'.tmps[35]?.getD undef = Value.pointer (some ⟨w0.heap.size + 1, 2, none⟩) := hsv 8 35 _ (by kernel_rfl) (by kernel_rfl) rfl
          obtain ⟨s0, s1, s2, s3, s4, s5, s6⟩ := hSW
          have c0 := (s2.bk (w0.heap.size + 1, #[.int .i64 r, .int .i64 c, .slice (some y) n k2], 24) (by simp)).cell
          have HK := Lib.hid hK1
          clear hK1 hK2 hdep hsh he hsv hsl hFF hL
          clear s0 s1 s2 s3 s4 s5 s6
          try dsimp only at c0
          go_simp
          exact HK.out rfl _ (fp_mk rfl rfl trivial)
        · refine wpOpS_go rfl rfl ?_
          have t9 : b'.tmps[9]?.getD undef = Value.int .i64 (q : Int) := he 9 (by kernel_rfl)
          have HK := Lib.hid hK1
          clear hK1 hK2 hdep hsh he hsv hsl hFF hL
          clear hSW
          go_simp
          exact HK.out rfl _ (fp_mk rfl rfl trivial)
        · refine wpOpS_go rfl rfl ?_
          have t36 : b'.tmps[36]?.getD undef = Value.slice (some y) n k2 := hsv 9 36 _ (by kernel_rfl) (by kernel_rfl) rfl
          have t37 : b'.tmps[37]?.getD undef = Value.int .i64 (q : Int) := hsv 10 37 _ (by kernel_rfl) (by kernel_rfl) rfl
          have HK := Lib.hid hK1
          clear hK1 hK2 hdep hsh he hsv hsl hFF hL
          clear hSW
          go_simp
          exact HK.out rfl _ (fp_mk rfl rfl trivial)
        · refine wpOpS_go rfl rfl ?_
          have t38 : b'.tmps[38]?.getD undef = Value.pointer (some (y.add q)) := hsv 11 38 _ (by kernel_rfl) (by kernel_rfl) rfl
          obtain ⟨s0, s1, s2, s3, s4, s5, s6⟩ := hSW
          have c0 := h7y W s2.ef
          have HK := Lib.hid hK1
          clear hK1 hK2 hdep hsh he hsv hsl hFF hL
          clear s0 s1 s2 s3 s4 s5 s6
          go_simp
          exact HK.out rfl _ (fp_mk rfl rfl trivial)
        · refine wpOpS_go rfl rfl ?_
          have t34 : b'.tmps[34]?.getD undef = Value.int .i64 z1 := hsv 7 34 _ (by kernel_rfl) (by kernel_rfl) rfl
          have t39 : b'.tmps[39]?.getD undef = Value.int .i64 z2 := hsv 12 39 _ (by kernel_rfl) (by kernel_rfl) rfl
          obtain ⟨s0, s1, s2, s3, s4, s5, s6⟩ := hSW
          have HK := Lib.hid hK2
          have na := hsh 16 (by kernel_rfl)
          have hlt := fun k hk => ((s5 na).lt k hk).2
          have hmlt := (s3 (hsh 18 (by kernel_rfl))).lt
          have hws := s2.ef.size
          clear hK1 hK2 hdep he hsv hsl hFF hL hsh
          refine op_slicen 2 (cs := #[.int .i64 z1, .int .i64 z2]) (t := 3) (by go_simp) ?_
          intro w' hbn hb hz
          exact HK.out _ _ (fp_x rfl ⟨_, rfl, hbn, hws, by omega, fun k hk => by have := hlt k hk; omega⟩) (Eff.of hb) ⟨fun h => hJ0 _ _ (s0 h) (hb.mono hws), fun h => hJ1 _ _ (s1 h) (hb.mono hws), s2.keep hb, fun h => (s3 h).keep hb, fun h => (s4 h).keep hb, fun h => (s5 h).keep hb, fun h => (s6 h).keep hb⟩
        · refine wpOpS_go rfl rfl ?_
          have t29 : b'.tmps[29]?.getD undef = Value.pointer (some ⟨b, 0, none⟩) := hsv 2 29 _ (by kernel_rfl) (by kernel_rfl) rfl
          obtain ⟨t40, hx6⟩ := hsl 13 40 (by kernel_rfl) (by kernel_rfl)
          obtain ⟨e1, e6, b6, le6, ne6, no6⟩ := hx6
          rw [e6] at t40
          obtain ⟨s0, s1, s2, s3, s4, s5, s6⟩ := hSW
          have HK := Lib.hid hK2
          have hA := hCall W e1 (s0 hL) b6 (by omega)
          clear hK1 hK2 hdep hsh he hsv hsl hFF e6
          go_simp
          refine hA.mono ?_
          rintro e w6 ⟨rfl, hJ6, hE6⟩
          have hE' := hE6.mono (P' := fun k => (P) k ∨ k = mb ∨ ov.ownBlock = some k) (fun _ _ h => .inl h)
          have hni : ∀ {u : Value} {ys : List Int}, IV w0.heap.size W u ys → IV w0.heap.size w6 u ys := fun h => h.eff hE6 (fun k hk hp => by have := hPl _ hp; have := (h.lt k hk).1; omega)
          have hnb : ∀ {cs : Array Value}, Blk W mb cs 24 → Blk w6 mb cs 24 := fun h => hE6.blk h (fun hp => by have := hPl _ hp; have := s2.lm; omega)
          exact HK.out _ _ (fp_mk rfl rfl trivial) hE' ⟨fun h => absurd h (by rw [updF_same]; decide), fun _ => hJ6, s2.call hE6, fun h => hnb (s3 h), fun h => hnb (s4 h), fun h => hni (s5 h), fun h => hni (s6 h)⟩
        · refine wpOpS_go rfl rfl ?_
          have t41 : b'.tmps[41]?.getD undef = Value.int .i64 p.1 := hsv 14 41 _ (by kernel_rfl) (by kernel_rfl) rfl
          obtain ⟨s0, s1, s2, s3, s4, s5, s6⟩ := hSW
          have HK := Lib.hid hK2
          have na := hsh 16 (by kernel_rfl)
          have hlt := fun k hk => ((s5 na).lt k hk).2
          have hmlt := (s3 (hsh 18 (by kernel_rfl))).lt
          have hws := s2.ef.size
          clear hK1 hK2 hdep he hsv hsl hFF hL hsh
          refine op_slicen 1 (cs := #[.int .i64 p.1]) (t := 3) (by go_simp) ?_
          intro w' hbn hb hz
          exact HK.out _ _ (fp_x rfl ⟨_, rfl, hbn, hws, by omega, fun k hk => by have := hlt k hk; omega⟩) (Eff.of hb) ⟨fun h => hJ0 _ _ (s0 h) (hb.mono hws), fun h => hJ1 _ _ (s1 h) (hb.mono hws), s2.keep hb, fun h => (s3 h).keep hb, fun h => (s4 h).keep hb, fun h => (s5 h).keep hb, fun h => (s6 h).keep hb⟩
        · refine wpOpS_go rfl rfl ?_
          have t28 : b'.tmps[28]?.getD undef = ov := hsv 1 28 _ (by kernel_rfl) (by kernel_rfl) rfl
          obtain ⟨t42, hx6⟩ := hsl 15 42 (by kernel_rfl) (by kernel_rfl)
          obtain ⟨e1, e6, b6, le6, ne6, no6⟩ := hx6
          rw [e6] at t42
          obtain ⟨s0, s1, s2, s3, s4, s5, s6⟩ := hSW
          have HK := Lib.hid hK2
          have hrow := s5 hL
          have ns := hsh 18 (by kernel_rfl)
          clear hK1 hK2 hdep he hsv hsl hFF e6 hsh
          have hws := s2.ef.size
          refine op_app_box (B := w0.heap.size) (cs := #[.int .i64 p.1]) (S := 22) Tryz.underlying22 int_info rfl (by decide) (by decide) (.tmp 28) (.tmp 42) rfl (eval_tmp t28) hrow hws e1 rfl (eval_tmp t42) b6 (by intro u hu; simp at hu; subst hu; rfl) (by omega) ?_
          intro g' c' w' ho hg hgg
          have hE' : Eff (fun k => (P) k ∨ k = mb ∨ ov.ownBlock = some k) W w' := Eff.grown hg (fun k hk => .inr (.inr hk))
          have hb0 := below_grown hrow hws hg
          have hmn : ∀ {cs : Array Value}, Blk W mb cs 24 → Blk w' mb cs 24 := fun {cs} h => h.grown hg (fun e => hrow.ne h (by decide) _ e.symm rfl)
          exact HK.out _ _ (fp_x rfl ⟨g', c', rfl⟩) hE' ⟨fun h => hJ0 _ _ (s0 h) hb0, fun h => hJ1 _ _ (s1 h) hb0, s2.grown hrow hg, fun h => hmn (s3 h), fun h => absurd h (by show ¬ L 18 = true; rw [ns]; decide), fun h => absurd h (by rw [updF_same]; decide), fun _ => by rw [updF_same]; unfold IV; simpa using ho⟩
        · refine wpOpS_go rfl rfl ?_
          have t8 : b'.tmps[8]?.getD undef = Value.pointer (some ⟨mb, 0, none⟩) := he 8 (by kernel_rfl)
          have HK := Lib.hid hK1
          clear hK1 hK2 hdep hsh he hsv hsl hFF hL
          clear hSW
          go_simp
          exact HK.out rfl _ (fp_mk rfl rfl trivial)
        · refine wpOpS_go rfl rfl ?_
          have t44 : b'.tmps[44]?.getD undef = Value.pointer (some ⟨mb, 2, none⟩) := hsv 17 44 _ (by kernel_rfl) (by kernel_rfl) rfl
          obtain ⟨t43, hx7⟩ := hsl 16 43 (by kernel_rfl) (by kernel_rfl)
          obtain ⟨g', c', e7⟩ := hx7
          obtain ⟨s0, s1, s2, s3, s4, s5, s6⟩ := hSW
          have HK := Lib.hid hK2
          have la := hdep 16 (by kernel_rfl)
          have hmb := s3 hL
          have hws := s2.ef.size
          clear hK1 hK2 hdep hsh he hsv hsl hFF
          refine op_store 22 _ _ rfl rfl hmb 2 (eval_tmp t44) (eval_tmp t43) [f 16] (by rw [e7]; rfl) (by kernel_rfl) (by rw [e7]; rfl) (by rfl) #[.int .i64 r, .int .i64 c, f 16] rfl ?_
          intro w' h1 h2 h3
          have hE' := h2.mono (P' := fun k => (P) k ∨ k = mb ∨ ov.ownBlock = some k) (fun _ _ h => .inr (.inl h))
          have hb0 := below_store s2.lm hws h2
          have hnr : ∀ {u : Value} {ys : List Int}, IV w0.heap.size W u ys → IV w0.heap.size w' u ys := fun {u} {ys} h => h.eff h2 (fun k hk e => h.ne hmb (by decide) k hk e)
          exact HK.out undef _ (fp_x (v := undef) rfl trivial) hE' ⟨fun h => hJ0 _ _ (s0 h) hb0, fun h => hJ1 _ _ (s1 h) hb0, s2.store h2, fun h => absurd h (by rw [updF_same]; decide), fun _ => h1, fun h => hnr (s5 h), fun h => hnr (s6 h)⟩
      · intro f W hf L hL hS
        obtain ⟨s0, s1, s2, s3, s4, s5, s6⟩ := (hS : _ ∧ _ ∧ _ ∧ _ ∧ _ ∧ _ ∧ _)
        obtain ⟨q13, e13, _, _, _, _⟩ := (hf 13 (by decide)).2
        obtain ⟨q15, e15, _, _, _, _⟩ := (hf 15 (by decide)).2
        obtain ⟨g', c', e16⟩ := (hf 16 (by decide)).2
        replace s1 := s1 (hL 14 (by decide))
        replace s4 := s4 (hL 18 (by decide))
        replace s6 := s6 (hL 16 (by decide))
        rw [e16] at s4 s6
        have e0 : f 0 = Value.pointer (some ⟨mb, 2, none⟩) := (hf 0 (by decide)).1 _ rfl
        have e1 : f 1 = ov := (hf 1 (by decide)).1 _ rfl
        have e2 : f 2 = Value.pointer (some ⟨b, 0, none⟩) := (hf 2 (by decide)).1 _ rfl
        have e3 : f 3 = Value.pointer (some ⟨w0.heap.size, 2, none⟩) := (hf 3 (by decide)).1 _ rfl
        have e4 : f 4 = Value.slice (some x) n k1 := (hf 4 (by decide)).1 _ rfl
        have e5 : f 5 = Value.int .i64 (q : Int) := (hf 5 (by decide)).1 _ rfl
        have e6 : f 6 = Value.pointer (some (x.add q)) := (hf 6 (by decide)).1 _ rfl
        have e7 : f 7 = Value.int .i64 z1 := (hf 7 (by decide)).1 _ rfl
        have e8 : f 8 = Value.pointer (some ⟨w0.heap.size + 1, 2, none⟩) := (hf 8 (by decide)).1 _ rfl
        have e9 : f 9 = Value.slice (some y) n k2 := (hf 9 (by decide)).1 _ rfl
        have e10 : f 10 = Value.int .i64 (q : Int) := (hf 10 (by decide)).1 _ rfl
        have e11 : f 11 = Value.pointer (some (y.add q)) := (hf 11 (by decide)).1 _ rfl
        have e12 : f 12 = Value.int .i64 z2 := (hf 12 (by decide)).1 _ rfl
        have e14 : f 14 = Value.int .i64 p.1 := (hf 14 (by decide)).1 _ rfl
        have e17 : f 17 = Value.pointer (some ⟨mb, 2, none⟩) := (hf 17 (by decide)).1 _ rfl
        clear hf hL s0 s3 s5
        simp only [puts2, Act.put, e13, e15, e16, e0, e1, e2, e3, e4, e5, e6, e7, e8, e9, e10, e11, e12, e14, e17]
        try simp only [List.setIfInBounds_toArray, List.set_cons_zero, List.set_cons_succ]
        go_wp2_with fail
        go_roundw
        case rel => exact ⟨q + 1, by omega, by go_num, by rw [HU.out]; exact s1, s2, _, s4, by rw [HZ.out]; exact s6⟩
        case measure => simp [intOf]; omega
    · have hqn : q = n := by omega
      subst hqn
      obtain ⟨g, k, rfl, hOI⟩ := hV.li (by simp; omega) (fun z hz => by obtain ⟨i, _, rfl⟩ := List.mem_map.1 hz; exact hFx i)
      have m0 := hov.cell
      have HLq := Lib.hid (show ((List.range q).map fun i => (F i).1).length = q by simp)
      rw [HLq.out] at m0
      have gr := hXq.bk (w0.heap.size + 2, #[.int .i64 0, .int .i64 0, .slice none 0 0], 24) (by simp)
      dsimp only at gr
      have HE := Lib.hid hXq.ef
      clear hov hV hXq
      go_wp2_with ((with_reducible refine at_st (p := 6) (q := 45) rfl ?_); refine ev_store rfl 24 _ _ rfl rfl gr 0 rfl rfl [.int .i64 r, .int .i64 c, .slice (some ⟨g, 0, none⟩) q k] rfl (by kernel_rfl) rfl rfl #[.int .i64 r, .int .i64 c, .slice (some ⟨g, 0, none⟩) q k] rfl ?_; intro w7 g7 ef7 hz7)
      refine bodyPost_ret (results_ct rfl _ _ (g := w0.heap.size + 2) rfl g7 Tryz.underlying24 rfl (by kernel_rfl)) rfl ?_
      refine ⟨g, k, rfl, hOI.eff0 ef7 (hOI.ne gr (by decide)), ?_, ?_⟩
      · obtain ⟨m, hm⟩ := hUq
        exact ⟨m, ef7.blk hm (by omega)⟩
      · exact hPb _ _ (HE.out.trans ef7 (fun k hk e => by omega))

set_option maxHeartbeats 4000000 in
set_option maxRecDepth 100000 in
theorem rscale7_is {w0 : World} {b : Nat} {c0 : Bool} (hU : UR w0 b c0) {r c n : Nat} {xs : List Int} {a1 : Option Addr} {k1 : Nat} (h1 : ML b w0 a1 k1 xs) (lx : xs.length = n) {s : Int} (hs : I64 s)
    (hr : 1 ≤ r ∧ r ≤ 12) (hc : 1 ≤ c ∧ c ≤ 12) (hn : r * c = n) :
    Calls Tryz.prog 62 #[.pointer (some ⟨b, 0, none⟩), .agg #[.int .i64 r, .int .i64 c, .slice a1 n k1], .int .i64 s] w0 fun e w' => ∃ g k, e = .returned (.tuple #[.agg #[.int .i64 r, .int .i64 c, .slice (some ⟨g, 0, none⟩) n k], .int .i64 0]) ∧ OI w0.heap.size w' g k ((List.range n).map fun i => (timesL [xs.getD i 0, s]).1) ∧ UR w' b (c0 || (List.range n).any fun i => (timesL [xs.getD i 0, s]).2) ∧ But b w0 w' := by
  have hbl := hU.lt
  have hn1 : 1 ≤ n := by rw [← hn]; exact Nat.mul_pos hr.1 hc.1
  have hn2 : n ≤ 144 := by rw [← hn]; exact Nat.mul_le_mul hr.2 hc.2
  have hokd : okD (r : Int) ∧ okD (c : Int) := ⟨⟨by omega, by omega⟩, ⟨by omega, by omega⟩⟩
  have hAl := fun W => rCheck_is ⟨r, c, xs⟩ a1 k1 W
  rw [show chkMt ⟨r, c, xs⟩ = 0 from if_pos ⟨hokd.1, hokd.2, by show (xs.length : Int) = r * c; rw [lx, ← hn, Int.natCast_mul]⟩] at hAl
  dsimp only at hAl
  rw [lx] at hAl
  obtain ⟨P, hPb, hbP, hPl⟩ : ∃ P : Nat → Prop, (∀ W W', Eff P W W' → But b W W') ∧ (∀ W W', But b W W' → Eff P W W') ∧ (∀ k, P k → k < w0.heap.size) := ⟨fun k => k = b, fun _ _ h => eff_but h, fun _ _ h => but_eff h, fun k h => by omega⟩
  obtain ⟨x, rfl, hq1, hq2⟩ := h1.at 0 (by omega)
  clear hq1 hq2
  have hcx : ∀ q, q < n → ∀ W, Eff P w0 W → W.cell? (x.add q) = some (.int .i64 (xs.getD q 0)) := fun q hq W hE => by
    obtain ⟨x', hx', hc', _⟩ := (h1.but (hPb _ _ hE)).at q (by omega)
    cases hx'
    rw [hc', List.getD_eq_getElem?_getD, List.getElem?_eq_getElem (by omega)]
    rfl
  have rx := getD_i64 h1.mi.rng
  obtain ⟨F, hF⟩ : ∃ F : Nat → Int × Bool, ∀ i, timesL [xs.getD i 0, s] = F i := ⟨_, fun _ => rfl⟩
  have hFx : ∀ i, I64 (F i).1 := fun i => by rw [← hF]; exact (timesL_fx _).i64
  simp only [hF]
  have HF := Lib.hid hF
  clear hF hn hokd
  have hB := below_allocs w0 [Obj.cells #[.int .i64 r, .int .i64 c, .slice (some x) n k1] 24, Obj.cells #[.int .i64 0, .int .i64 0, .slice none 0 0] 24]
  have g0 := blk_at w0 [Obj.cells #[.int .i64 r, .int .i64 c, .slice (some x) n k1] 24, Obj.cells #[.int .i64 0, .int .i64 0, .slice none 0 0] 24] 0 _ _ rfl
  have g1 := blk_at w0 [Obj.cells #[.int .i64 r, .int .i64 c, .slice (some x) n k1] 24, Obj.cells #[.int .i64 0, .int .i64 0, .slice none 0 0] 24] 1 _ _ rfl
  simp only [List.foldl_cons, List.foldl_nil, Nat.add_zero] at hB g0 g1
  replace hB := hB.1
  go_enter Tryz.func62, Tryz.ntmps62
  go_wp2_with fail
  refine (hAl _).mono ?_
  rintro e w1 ⟨rfl, hK⟩
  replace hB := more hB hK
  replace g0 := g0.keep hK
  replace g1 := g1.keep hK
  clear hK hAl
  have d0 := g0.cell
  have gm := Blk.new w1 #[.int .i64 0, .int .i64 0, .slice none 0 0] 24
  have hB1 := hB.alloc hB.size (.cells #[.int .i64 0, .int .i64 0, .slice none 0 0] 24)
  have hK1 : Below w1.heap.size w1 (w1.alloc (.cells #[.int .i64 0, .int .i64 0, .slice none 0 0] 24)) := upA (upR w1) _
  go_wp2_with ((with_reducible refine at_st (p := 8) (q := 18) rfl ?_); refine ev_store rfl 24 _ _ rfl rfl gm 0 rfl rfl [.int .i64 r, .int .i64 c, .slice none 0 0] rfl (by kernel_rfl) rfl rfl #[.int .i64 r, .int .i64 c, .slice none 0 0] rfl ?_; intro w2 g6 ef hz6)
  obtain ⟨mb, hmb⟩ : ∃ mb, w1.heap.size = mb := ⟨_, rfl⟩
  have hms : w0.heap.size + 2 ≤ mb := by rw [← hmb]; exact g1.lt
  have hmz : w0.heap.size ≤ mb := by omega
  rw [hmb] at g6 ef ⊢
  have hB2 : Below w0.heap.size w0 w2 := ef.below hB1 (fun k hk => by omega)
  have hX : Ctx w0 P mb [(w0.heap.size, #[.int .i64 r, .int .i64 c, .slice (some x) n k1], 24), (w0.heap.size + 1, #[.int .i64 0, .int .i64 0, .slice none 0 0], 24)] w2 := by
    refine ⟨Eff.of hB2, fun t ht => ?_, fun t ht => ?_, hPl, by omega⟩
    · simp at ht
      rcases ht with rfl | rfl
      · exact ef.blk (g0.keep hK1) (by simp; omega)
      · exact ef.blk (g1.keep hK1) (by simp; omega)
    · simp at ht
      rcases ht with rfl | rfl
      · exact ⟨by simp, by simp; omega, by dsimp only; decide⟩
      · exact ⟨by simp, by simp; omega, by dsimp only; decide⟩
  have hJ : ∀ cu, ∀ W W', UR W b cu → Below w0.heap.size W W' → UR W' b cu := fun cu W W' h k => h.below k hbl
  have hU2 := hJ _ _ _ hU hB2
  clear hB hB1 hB2 hK1 gm d0 ef hz6 g0 g1 hU
  go_loopw [9] (fun i wr => ∃ q : Nat, q ≤ n ∧ i = .int .i64 q ∧ UR wr b (c0 || (List.range q).any fun i => (F i).2) ∧ Ctx w0 P mb [(w0.heap.size, #[.int .i64 r, .int .i64 c, .slice (some x) n k1], 24), (w0.heap.size + 1, #[.int .i64 0, .int .i64 0, .slice none 0 0], 24)] wr ∧ ∃ v, Blk wr mb #[.int .i64 r, .int .i64 c, v] 24 ∧ IV w0.heap.size wr v ((List.range q).map fun i => (F i).1)) (fun i _ => n - (intOf i).toNat)
  case atStart => exact ⟨0, Nat.zero_le _, rfl, by simpa using hU2, hX, _, g6, IV.nil _ _⟩
  case round =>
    obtain ⟨q, hq, rfl, hUq, hXq, ov, hov, hV⟩ := hrel
    have d0 := (hXq.bk (w0.heap.size, #[.int .i64 r, .int .i64 c, .slice (some x) n k1], 24) (by simp)).cell
    dsimp only at d0
    clear hX g6 hU2
    by_cases hql : q < n
    · have hql' : (q : Int) < (n : Int) := by omega
      have hq0 : (0 : Int) ≤ (q : Int) := by omega
      have h7x := hcx q hql
      have hCall : ∀ W e1, UR W b (c0 || (List.range q).any fun i => (F i).2) → Blk W e1 #[.int .i64 (xs.getD q 0), .int .i64 s] 3 → e1 ≠ b → Calls Tryz.prog 90 #[.pointer (some ⟨b, 0, none⟩), .slice (some ⟨e1, 0, none⟩) 2 2] W fun e w' => e = .returned (.int .i64 (F q).1) ∧ UR w' b ((c0 || (List.range q).any fun i => (F i).2) || (F q).2) ∧ Eff P W w' := fun W e1 hU hb hne => by
        have hA := uMulR_is hU (ml_new (b := b) (zs := [xs.getD q 0, s]) hb hne (two_i64 (rx q) hs) (by simp))
        rw [HF.out q] at hA
        exact hA.mono fun e w' h => ⟨h.1, h.2.1, hbP _ _ h.2.2⟩
      generalize xs.getD q 0 = z1 at *
      have HU := Lib.hid (show (c0 || (List.range (q + 1)).any fun i => (F i).2) = ((c0 || (List.range q).any fun i => (F i).2) || (F q).2) by rw [List.range_succ, any_snoc, Bool.or_assoc])
      have HZ := Lib.hid (show ((List.range (q + 1)).map fun i => (F i).1) = ((List.range q).map fun i => (F i).1) ++ [(F q).1] by rw [List.range_succ, List.map_append]; rfl)
      have HL := Lib.hid (show ((List.range q).map fun i => (F i).1).length = q by simp)
      have hlq : ((List.range q).map fun i => (F i).1).length ≤ 144 := by simp; omega
      have hpx := hFx q
      generalize F q = p at *
      generalize ((List.range q).map fun i => (F i).1) = zs at *
      generalize (c0 || (List.range q).any fun i => (F i).2) = cu at *
      have hJ0 := hJ cu
      have hJ1 := hJ (cu || p.2)
      go_wp2_with fail
      have HS0 := show (UR wr.drew b cu ∧ Ctx w0 P mb [(w0.heap.size, #[.int .i64 r, .int .i64 c, .slice (some x) n k1], 24), (w0.heap.size + 1, #[.int .i64 0, .int .i64 0, .slice none 0 0], 24)] wr.drew ∧ Blk wr.drew mb #[.int .i64 r, .int .i64 c, ov] 24 ∧ IV w0.heap.size wr.drew ov zs) from ⟨hUq.drew, hXq.keep (upD (upR _)), hov.drew, hV.keep (upD (upR _))⟩
      clear d0 hov hV hXq hUq hFx
      refine region_fp [some 26, some 27, some 28, some 29, some 30, some 31, some 32, some 33, some 34, some 35, some 36, some 37, some 38, some 39, none] [10, 12, 14] [some (Value.pointer (some ⟨mb, 2, none⟩)), some (ov), some (Value.pointer (some ⟨b, 0, none⟩)), some (Value.pointer (some ⟨w0.heap.size, 2, none⟩)), some (Value.slice (some x) n k1), some (Value.int .i64 (q : Int)), some (Value.pointer (some (x.add q))), some (Value.int .i64 z1), some (Value.int .i64 s), none, some (Value.int .i64 p.1), none, none, some (Value.pointer (some ⟨mb, 2, none⟩)), none]
        (fun i v W => match i with | 9 => ∃ e1, v = Value.slice (some ⟨e1, 0, none⟩) 2 2 ∧ Blk W e1 #[.int .i64 z1, .int .i64 s] 3 ∧ w0.heap.size ≤ e1 ∧ e1 ≠ mb ∧ (∀ k, ov.ownBlock = some k → k ≠ e1) | 11 => ∃ e1, v = Value.slice (some ⟨e1, 0, none⟩) 1 1 ∧ Blk W e1 #[.int .i64 p.1] 3 ∧ w0.heap.size ≤ e1 ∧ e1 ≠ mb ∧ (∀ k, ov.ownBlock = some k → k ≠ e1) | 12 => ∃ g' c', v = Value.slice (some ⟨g', 0, none⟩) (zs.length + 1) c' | _ => True) (fun W W' => Eff (fun k => (P) k ∨ k = mb ∨ ov.ownBlock = some k) W W') (fun L f W => (L 10 = false → UR W b cu) ∧ (L 10 = true → UR W b (cu || p.2)) ∧ Ctx w0 (P) mb [(w0.heap.size, #[.int .i64 r, .int .i64 c, .slice (some x) n k1], 24), (w0.heap.size + 1, #[.int .i64 0, .int .i64 0, .slice none 0 0], 24)] W ∧ (L 14 = false → Blk W mb #[.int .i64 r, .int .i64 c, ov] 24) ∧ (L 14 = true → Blk W mb #[.int .i64 r, .int .i64 c, f 12] 24) ∧ (L 12 = false → IV w0.heap.size W ov zs) ∧ (L 12 = true → IV w0.heap.size W (f 12) (zs ++ [p.1])))
        (by kernel_rfl) (by kernel_rfl) (by kernel_rfl) (by kernel_rfl) (by kernel_rfl) (fun _ => Eff.refl _ _) (fun i v W W' h hb => by
          match i, h with
          | 9, ⟨e1, h1, h2, h3, h4, h5⟩ => exact ⟨e1, h1, hb.blk h2 (fun h => by rcases h with h | h | h; have := hPl _ h; omega; exact h4 h; exact h5 _ h rfl), h3, h4, h5⟩
          | 11, ⟨e1, h1, h2, h3, h4, h5⟩ => exact ⟨e1, h1, hb.blk h2 (fun h => by rcases h with h | h | h; have := hPl _ h; omega; exact h4 h; exact h5 _ h rfl), h3, h4, h5⟩
          | 12, ⟨g', c', h1⟩ => exact ⟨g', c', h1⟩
          | 0, _ | 1, _ | 2, _ | 3, _ | 4, _ | 5, _ | 6, _ | 7, _ | 8, _ | 10, _ | 13, _ | 14, _ => trivial
          | (n + 15), _ => trivial) (fun L L' f f' W h hs => by have qc := (h 10 (by decide)).1; have qa := (h 12 (by decide)); have qs := (h 14 (by decide)).1; (try dsimp only at hs ⊢); rw [← qc, ← qa.1, ← qa.2, ← qs]; exact hs) ⟨fun _ => HS0.1, fun h => (Bool.false_ne_true h).elim, HS0.2.1, fun _ => HS0.2.2.1, fun h => (Bool.false_ne_true h).elim, fun _ => HS0.2.2.2, fun h => (Bool.false_ne_true h).elim⟩ ?_ ?_
      · intro i hi b' L f W hSW hL hdep hsh he hsv hsl hFF K hK1 hK2
        replace hi : i < 15 := hi
        have hcs : i = 0 ∨ i = 1 ∨ i = 2 ∨ i = 3 ∨ i = 4 ∨ i = 5 ∨ i = 6 ∨ i = 7 ∨ i = 8 ∨ i = 9 ∨ i = 10 ∨ i = 11 ∨ i = 12 ∨ i = 13 ∨ i = 14 := by omega
        clear hi
        rcases hcs with rfl | rfl | rfl | rfl | rfl | rfl | rfl | rfl | rfl | rfl | rfl | rfl | rfl | rfl | rfl
        · refine wpOpS_go rfl rfl ?_
          have t8 : b'.tmps[8]?.getD undef = Value.pointer (some ⟨mb, 0, none⟩) := he 8 (by kernel_rfl)
          have HK := Lib.hid hK1
          clear hK1 hK2 hdep hsh he hsv hsl hFF hL
          clear hSW
          go_simp
          exact HK.out rfl _ (fp_mk rfl rfl trivial)
        · refine wpOpS_go rfl rfl ?_
          have t26 : b'.tmps[26]?.getD undef = Value.pointer (some ⟨mb, 2, none⟩) := hsv 0 26 _ (by kernel_rfl) (by kernel_rfl) rfl
          obtain ⟨s0, s1, s2, s3, s4, s5, s6⟩ := hSW
          have ns := hsh 14 (by kernel_rfl)
          have c0 := (s3 ns).cell
          have HK := Lib.hid hK1
          clear hK1 hK2 hdep hsh he hsv hsl hFF hL
          clear s0 s1 s2 s3 s4 s5 s6
          go_simp
          exact HK.out rfl _ (fp_mk rfl rfl trivial)
        · refine wpOpS_go rfl rfl ?_
          have t0 : b'.tmps[0]?.getD undef = Value.pointer (some ⟨b, 0, none⟩) := he 0 (by kernel_rfl)
          have HK := Lib.hid hK1
          clear hK1 hK2 hdep hsh he hsv hsl hFF hL
          clear hSW
          go_simp
          exact HK.out rfl _ (fp_mk rfl rfl trivial)
        · refine wpOpS_go rfl rfl ?_
          have t4 : b'.tmps[4]?.getD undef = Value.pointer (some ⟨w0.heap.size, 0, none⟩) := he 4 (by kernel_rfl)
          have HK := Lib.hid hK1
          clear hK1 hK2 hdep hsh he hsv hsl hFF hL
          clear hSW
          go_simp
          exact HK.out rfl _ (fp_mk rfl rfl trivial)
        · refine wpOpS_go rfl rfl ?_
          have t29 : b'.tmps[29]?.getD undef = Value.pointer (some ⟨w0.heap.size, 2, none⟩) := hsv 3 29 _ (by kernel_rfl) (by kernel_rfl) rfl
          obtain ⟨s0, s1, s2, s3, s4, s5, s6⟩ := hSW
          have c0 := (s2.bk (w0.heap.size, #[.int .i64 r, .int .i64 c, .slice (some x) n k1], 24) (by simp)).cell
          have HK := Lib.hid hK1
          clear hK1 hK2 hdep hsh he hsv hsl hFF hL
          clear s0 s1 s2 s3 s4 s5 s6
          try dsimp only at c0
          go_simp
          exact HK.out rfl _ (fp_mk rfl rfl trivial)
        · refine wpOpS_go rfl rfl ?_
          have t9 : b'.tmps[9]?.getD undef = Value.int .i64 (q : Int) := he 9 (by kernel_rfl)
          have HK := Lib.hid hK1
          clear hK1 hK2 hdep hsh he hsv hsl hFF hL
          clear hSW
          go_simp
          exact HK.out rfl _ (fp_mk rfl rfl trivial)
        · refine wpOpS_go rfl rfl ?_
          have t30 : b'.tmps[30]?.getD undef = Value.slice (some x) n k1 := hsv 4 30 _ (by kernel_rfl) (by kernel_rfl) rfl
          have t31 : b'.tmps[31]?.getD undef = Value.int .i64 (q : Int) := hsv 5 31 _ (by kernel_rfl) (by kernel_rfl) rfl
          have HK := Lib.hid hK1
          clear hK1 hK2 hdep hsh he hsv hsl hFF hL
          clear hSW
          go_simp
          exact HK.out rfl _ (fp_mk rfl rfl trivial)
        · refine wpOpS_go rfl rfl ?_
          have t32 : b'.tmps[32]?.getD undef = Value.pointer (some (x.add q)) := hsv 6 32 _ (by kernel_rfl) (by kernel_rfl) rfl
          obtain ⟨s0, s1, s2, s3, s4, s5, s6⟩ := hSW
          have c0 := h7x W s2.ef
          have HK := Lib.hid hK1
          clear hK1 hK2 hdep hsh he hsv hsl hFF hL
          clear s0 s1 s2 s3 s4 s5 s6
          go_simp
          exact HK.out rfl _ (fp_mk rfl rfl trivial)
        · refine wpOpS_go rfl rfl ?_
          have t2 : b'.tmps[2]?.getD undef = Value.int .i64 s := he 2 (by kernel_rfl)
          have HK := Lib.hid hK1
          clear hK1 hK2 hdep hsh he hsv hsl hFF hL
          clear hSW
          go_simp
          exact HK.out rfl _ (fp_mk rfl rfl trivial)
        · refine wpOpS_go rfl rfl ?_
          have t33 : b'.tmps[33]?.getD undef = Value.int .i64 z1 := hsv 7 33 _ (by kernel_rfl) (by kernel_rfl) rfl
          have t34 : b'.tmps[34]?.getD undef = Value.int .i64 s := hsv 8 34 _ (by kernel_rfl) (by kernel_rfl) rfl
          obtain ⟨s0, s1, s2, s3, s4, s5, s6⟩ := hSW
          have HK := Lib.hid hK2
          have na := hsh 12 (by kernel_rfl)
          have hlt := fun k hk => ((s5 na).lt k hk).2
          have hmlt := (s3 (hsh 14 (by kernel_rfl))).lt
          have hws := s2.ef.size
          clear hK1 hK2 hdep he hsv hsl hFF hL hsh
          refine op_slicen 2 (cs := #[.int .i64 z1, .int .i64 s]) (t := 3) (by go_simp) ?_
          intro w' hbn hb hz
          exact HK.out _ _ (fp_x rfl ⟨_, rfl, hbn, hws, by omega, fun k hk => by have := hlt k hk; omega⟩) (Eff.of hb) ⟨fun h => hJ0 _ _ (s0 h) (hb.mono hws), fun h => hJ1 _ _ (s1 h) (hb.mono hws), s2.keep hb, fun h => (s3 h).keep hb, fun h => (s4 h).keep hb, fun h => (s5 h).keep hb, fun h => (s6 h).keep hb⟩
        · refine wpOpS_go rfl rfl ?_
          have t28 : b'.tmps[28]?.getD undef = Value.pointer (some ⟨b, 0, none⟩) := hsv 2 28 _ (by kernel_rfl) (by kernel_rfl) rfl
          obtain ⟨t35, hx6⟩ := hsl 9 35 (by kernel_rfl) (by kernel_rfl)
          obtain ⟨e1, e6, b6, le6, ne6, no6⟩ := hx6
          rw [e6] at t35
          obtain ⟨s0, s1, s2, s3, s4, s5, s6⟩ := hSW
          have HK := Lib.hid hK2
          have hA := hCall W e1 (s0 hL) b6 (by omega)
          clear hK1 hK2 hdep hsh he hsv hsl hFF e6
          go_simp
          refine hA.mono ?_
          rintro e w6 ⟨rfl, hJ6, hE6⟩
          have hE' := hE6.mono (P' := fun k => (P) k ∨ k = mb ∨ ov.ownBlock = some k) (fun _ _ h => .inl h)
          have hni : ∀ {u : Value} {ys : List Int}, IV w0.heap.size W u ys → IV w0.heap.size w6 u ys := fun h => h.eff hE6 (fun k hk hp => by have := hPl _ hp; have := (h.lt k hk).1; omega)
          have hnb : ∀ {cs : Array Value}, Blk W mb cs 24 → Blk w6 mb cs 24 := fun h => hE6.blk h (fun hp => by have := hPl _ hp; have := s2.lm; omega)
          exact HK.out _ _ (fp_mk rfl rfl trivial) hE' ⟨fun h => absurd h (by rw [updF_same]; decide), fun _ => hJ6, s2.call hE6, fun h => hnb (s3 h), fun h => hnb (s4 h), fun h => hni (s5 h), fun h => hni (s6 h)⟩
        · refine wpOpS_go rfl rfl ?_
          have t36 : b'.tmps[36]?.getD undef = Value.int .i64 p.1 := hsv 10 36 _ (by kernel_rfl) (by kernel_rfl) rfl
          obtain ⟨s0, s1, s2, s3, s4, s5, s6⟩ := hSW
          have HK := Lib.hid hK2
          have na := hsh 12 (by kernel_rfl)
          have hlt := fun k hk => ((s5 na).lt k hk).2
          have hmlt := (s3 (hsh 14 (by kernel_rfl))).lt
          have hws := s2.ef.size
          clear hK1 hK2 hdep he hsv hsl hFF hL hsh
          refine op_slicen 1 (cs := #[.int .i64 p.1]) (t := 3) (by go_simp) ?_
          intro w' hbn hb hz
          exact HK.out _ _ (fp_x rfl ⟨_, rfl, hbn, hws, by omega, fun k hk => by have := hlt k hk; omega⟩) (Eff.of hb) ⟨fun h => hJ0 _ _ (s0 h) (hb.mono hws), fun h => hJ1 _ _ (s1 h) (hb.mono hws), s2.keep hb, fun h => (s3 h).keep hb, fun h => (s4 h).keep hb, fun h => (s5 h).keep hb, fun h => (s6 h).keep hb⟩
        · refine wpOpS_go rfl rfl ?_
          have t27 : b'.tmps[27]?.getD undef = ov := hsv 1 27 _ (by kernel_rfl) (by kernel_rfl) rfl
          obtain ⟨t37, hx6⟩ := hsl 11 37 (by kernel_rfl) (by kernel_rfl)
          obtain ⟨e1, e6, b6, le6, ne6, no6⟩ := hx6
          rw [e6] at t37
          obtain ⟨s0, s1, s2, s3, s4, s5, s6⟩ := hSW
          have HK := Lib.hid hK2
          have hrow := s5 hL
          have ns := hsh 14 (by kernel_rfl)
          clear hK1 hK2 hdep he hsv hsl hFF e6 hsh
          have hws := s2.ef.size
          refine op_app_box (B := w0.heap.size) (cs := #[.int .i64 p.1]) (S := 22) Tryz.underlying22 int_info rfl (by decide) (by decide) (.tmp 27) (.tmp 37) rfl (eval_tmp t27) hrow hws e1 rfl (eval_tmp t37) b6 (by intro u hu; simp at hu; subst hu; rfl) (by omega) ?_
          intro g' c' w' ho hg hgg
          have hE' : Eff (fun k => (P) k ∨ k = mb ∨ ov.ownBlock = some k) W w' := Eff.grown hg (fun k hk => .inr (.inr hk))
          have hb0 := below_grown hrow hws hg
          have hmn : ∀ {cs : Array Value}, Blk W mb cs 24 → Blk w' mb cs 24 := fun {cs} h => h.grown hg (fun e => hrow.ne h (by decide) _ e.symm rfl)
          exact HK.out _ _ (fp_x rfl ⟨g', c', rfl⟩) hE' ⟨fun h => hJ0 _ _ (s0 h) hb0, fun h => hJ1 _ _ (s1 h) hb0, s2.grown hrow hg, fun h => hmn (s3 h), fun h => absurd h (by show ¬ L 14 = true; rw [ns]; decide), fun h => absurd h (by rw [updF_same]; decide), fun _ => by rw [updF_same]; unfold IV; simpa using ho⟩
        · refine wpOpS_go rfl rfl ?_
          have t8 : b'.tmps[8]?.getD undef = Value.pointer (some ⟨mb, 0, none⟩) := he 8 (by kernel_rfl)
          have HK := Lib.hid hK1
          clear hK1 hK2 hdep hsh he hsv hsl hFF hL
          clear hSW
          go_simp
          exact HK.out rfl _ (fp_mk rfl rfl trivial)
        · refine wpOpS_go rfl rfl ?_
          have t39 : b'.tmps[39]?.getD undef = Value.pointer (some ⟨mb, 2, none⟩) := hsv 13 39 _ (by kernel_rfl) (by kernel_rfl) rfl
          obtain ⟨t38, hx7⟩ := hsl 12 38 (by kernel_rfl) (by kernel_rfl)
          obtain ⟨g', c', e7⟩ := hx7
          obtain ⟨s0, s1, s2, s3, s4, s5, s6⟩ := hSW
          have HK := Lib.hid hK2
          have la := hdep 12 (by kernel_rfl)
          have hmb := s3 hL
          have hws := s2.ef.size
          clear hK1 hK2 hdep hsh he hsv hsl hFF
          refine op_store 22 _ _ rfl rfl hmb 2 (eval_tmp t39) (eval_tmp t38) [f 12] (by rw [e7]; rfl) (by kernel_rfl) (by rw [e7]; rfl) (by rfl) #[.int .i64 r, .int .i64 c, f 12] rfl ?_
          intro w' h1 h2 h3
          have hE' := h2.mono (P' := fun k => (P) k ∨ k = mb ∨ ov.ownBlock = some k) (fun _ _ h => .inr (.inl h))
          have hb0 := below_store s2.lm hws h2
          have hnr : ∀ {u : Value} {ys : List Int}, IV w0.heap.size W u ys → IV w0.heap.size w' u ys := fun {u} {ys} h => h.eff h2 (fun k hk e => h.ne hmb (by decide) k hk e)
          exact HK.out undef _ (fp_x (v := undef) rfl trivial) hE' ⟨fun h => hJ0 _ _ (s0 h) hb0, fun h => hJ1 _ _ (s1 h) hb0, s2.store h2, fun h => absurd h (by rw [updF_same]; decide), fun _ => h1, fun h => hnr (s5 h), fun h => hnr (s6 h)⟩
      · intro f W hf L hL hS
        obtain ⟨s0, s1, s2, s3, s4, s5, s6⟩ := (hS : _ ∧ _ ∧ _ ∧ _ ∧ _ ∧ _ ∧ _)
        obtain ⟨q9, e9, _, _, _, _⟩ := (hf 9 (by decide)).2
        obtain ⟨q11, e11, _, _, _, _⟩ := (hf 11 (by decide)).2
        obtain ⟨g', c', e12⟩ := (hf 12 (by decide)).2
        replace s1 := s1 (hL 10 (by decide))
        replace s4 := s4 (hL 14 (by decide))
        replace s6 := s6 (hL 12 (by decide))
        rw [e12] at s4 s6
        have e0 : f 0 = Value.pointer (some ⟨mb, 2, none⟩) := (hf 0 (by decide)).1 _ rfl
        have e1 : f 1 = ov := (hf 1 (by decide)).1 _ rfl
        have e2 : f 2 = Value.pointer (some ⟨b, 0, none⟩) := (hf 2 (by decide)).1 _ rfl
        have e3 : f 3 = Value.pointer (some ⟨w0.heap.size, 2, none⟩) := (hf 3 (by decide)).1 _ rfl
        have e4 : f 4 = Value.slice (some x) n k1 := (hf 4 (by decide)).1 _ rfl
        have e5 : f 5 = Value.int .i64 (q : Int) := (hf 5 (by decide)).1 _ rfl
        have e6 : f 6 = Value.pointer (some (x.add q)) := (hf 6 (by decide)).1 _ rfl
        have e7 : f 7 = Value.int .i64 z1 := (hf 7 (by decide)).1 _ rfl
        have e8 : f 8 = Value.int .i64 s := (hf 8 (by decide)).1 _ rfl
        have e10 : f 10 = Value.int .i64 p.1 := (hf 10 (by decide)).1 _ rfl
        have e13 : f 13 = Value.pointer (some ⟨mb, 2, none⟩) := (hf 13 (by decide)).1 _ rfl
        clear hf hL s0 s3 s5
        simp only [puts2, Act.put, e9, e11, e12, e0, e1, e2, e3, e4, e5, e6, e7, e8, e10, e13]
        try simp only [List.setIfInBounds_toArray, List.set_cons_zero, List.set_cons_succ]
        go_wp2_with fail
        go_roundw
        case rel => exact ⟨q + 1, by omega, by go_num, by rw [HU.out]; exact s1, s2, _, s4, by rw [HZ.out]; exact s6⟩
        case measure => simp [intOf]; omega
    · have hqn : q = n := by omega
      subst hqn
      obtain ⟨g, k, rfl, hOI⟩ := hV.li (by simp; omega) (fun z hz => by obtain ⟨i, _, rfl⟩ := List.mem_map.1 hz; exact hFx i)
      have m0 := hov.cell
      have HLq := Lib.hid (show ((List.range q).map fun i => (F i).1).length = q by simp)
      rw [HLq.out] at m0
      have gr := hXq.bk (w0.heap.size + 1, #[.int .i64 0, .int .i64 0, .slice none 0 0], 24) (by simp)
      dsimp only at gr
      have HE := Lib.hid hXq.ef
      clear hov hV hXq
      go_wp2_with ((with_reducible refine at_st (p := 6) (q := 40) rfl ?_); refine ev_store rfl 24 _ _ rfl rfl gr 0 rfl rfl [.int .i64 r, .int .i64 c, .slice (some ⟨g, 0, none⟩) q k] rfl (by kernel_rfl) rfl rfl #[.int .i64 r, .int .i64 c, .slice (some ⟨g, 0, none⟩) q k] rfl ?_; intro w7 g7 ef7 hz7)
      refine bodyPost_ret (results_ct rfl _ _ (g := w0.heap.size + 1) rfl g7 Tryz.underlying24 rfl (by kernel_rfl)) rfl ?_
      refine ⟨g, k, rfl, hOI.eff0 ef7 (hOI.ne gr (by decide)), ?_, ?_⟩
      · obtain ⟨m, hm⟩ := hUq
        exact ⟨m, ef7.blk hm (by omega)⟩
      · exact hPb _ _ (HE.out.trans ef7 (fun k hk e => by omega))
end Go.Proofs.YtkjbidpafnmogaaGreat.Base
namespace Go.Proofs.YtkjbidpafnmogaaGreat.Base
open Go.RowKit Go Go.Shelf Go.Deep
set_option linter.unusedVariables false
set_option linter.unusedSimpArgs false

/-- 'append(v, z)': where it lies. -/
theorem app_iv2 {ops : Array Oper} {rest : List Oper} {o : Oper} {a : Act} {Q : Exit → Act → World → Prop} {w : World}
    (hg : o.guard = none) (s x : Operand) (hop : o.op = Op.call { callee := Callee.builtin Builtin.append, args := #[s, x], argTypes := #[22, 22] })
    {B : Nat} {v : Value} {zs : List Int} {z : Int} (hs : a.eval s = v) (h : IV B w v zs) (hB : B ≤ w.heap.size) (e1 : Nat) (hx : a.eval x = .slice (some ⟨e1, 0, none⟩) 1 1) (he : Blk w e1 #[.int .i64 z] 3) (hl : zs.length ≤ 100000)
    (hK : ∀ g cap w', IV B w' (.slice (some ⟨g, 0, none⟩) (zs.length + 1) cap) (zs ++ [z]) → w.grownBy w' v.ownBlock → (v.ownBlock = some g ∨ g = w.heap.size) → wpList Tryz.prog ops Q rest (a.put o.dst (.slice (some ⟨g, 0, none⟩) (zs.length + 1) cap)) w') :
    wpList Tryz.prog ops Q (o :: rest) a w :=
  wpList_plain hg fun _ hK2 => op_app_box (S := 22) (cs := #[.int .i64 z]) Tryz.underlying22 int_info rfl (by decide) (by decide) s x hop hs h hB e1 rfl hx he (by intro u hu; simp at hu; subst hu; rfl) hl
    fun g cap w' ho hgr hgg => hK2 _ _ (hK g cap w' (by unfold IV; simpa using ho) hgr hgg)
theorem OI.inW {B : Nat} {W : World} {g cap : Nat} {zs : List Int} (h : OI B W g cap zs) : g < W.heap.size := by
  obtain ⟨cur, hb, _⟩ := h.ex
  exact hb.lt
theorem colL_len (m : Mt) (j : Nat) : (colL m j).length = m.r.toNat := by simp [colL]
theorem colL_i64 {m : Mt} (h : ∀ z ∈ m.v, I64 z) (j : Nat) : ∀ z ∈ colL m j, I64 z := fun z hz => by
  obtain ⟨i, _, rfl⟩ := List.mem_map.1 hz
  exact getD_i64 h _
theorem rowL_i64 {zs : List Int} (h : ∀ z ∈ zs, I64 z) (c i : Nat) : ∀ z ∈ rowL zs c i, I64 z := fun z hz => h z (List.mem_of_mem_drop (List.mem_of_mem_take hz))

set_option maxHeartbeats 8000000 in
set_option maxRecDepth 100000 in
theorem rmul7_is {w0 : World} {b : Nat} {c0 : Bool} (hU : UR w0 b c0) {r c d na nb n : Nat} {xs ys : List Int} {a1 a2 : Option Addr} {k1 k2 : Nat} (h1 : ML b w0 a1 k1 xs) (h2 : ML b w0 a2 k2 ys)
    (lx : xs.length = na) (ly : ys.length = nb) (hna : r * c = na) (hnb : c * d = nb) (hn : r * d = n) (hr : 1 ≤ r ∧ r ≤ 12) (hc : 1 ≤ c ∧ c ≤ 12) (hd : 1 ≤ d ∧ d ≤ 12) :
    Calls Tryz.prog 53 #[.pointer (some ⟨b, 0, none⟩), .agg #[.int .i64 r, .int .i64 c, .slice a1 na k1], .agg #[.int .i64 c, .int .i64 d, .slice a2 nb k2]] w0 fun e w' => ∃ g k, e = .returned (.tuple #[.agg #[.int .i64 r, .int .i64 d, .slice (some ⟨g, 0, none⟩) n k], .int .i64 0]) ∧ OI w0.heap.size w' g k ((List.range n).map fun i => (dotF (rowL xs c (i / d)) (colL ⟨c, d, ys⟩ (i % d))).1) ∧ UR w' b (c0 || (List.range n).any fun i => (dotF (rowL xs c (i / d)) (colL ⟨c, d, ys⟩ (i % d))).2) ∧ But b w0 w' := by
  have hbl := hU.lt
  have hn1 : 1 ≤ n := by rw [← hn]; exact Nat.mul_pos hr.1 hd.1
  have hn2 : n ≤ 144 := by rw [← hn]; exact Nat.mul_le_mul hr.2 hd.2
  have hna1 : 1 ≤ na := by rw [← hna]; exact Nat.mul_pos hr.1 hc.1
  obtain ⟨P, hPb, hbP, hPl, hPe⟩ : ∃ P : Nat → Prop, (∀ W W', Eff P W W' → But b W W') ∧ (∀ W W', But b W W' → Eff P W W') ∧ (∀ k, P k → k < w0.heap.size) ∧ (∀ k, P k → k = b) := ⟨fun k => k = b, fun _ _ h => eff_but h, fun _ _ h => but_eff h, fun k h => by omega, fun _ h => h⟩
  have hAl := fun W => rCheck_is ⟨r, c, xs⟩ a1 k1 W
  rw [show chkMt ⟨r, c, xs⟩ = 0 from if_pos ⟨⟨by show (1 : Int) ≤ r; omega, by show (r : Int) ≤ 12; omega⟩, ⟨by show (1 : Int) ≤ c; omega, by show (c : Int) ≤ 12; omega⟩, by show (xs.length : Int) = r * c; rw [lx, ← hna, Int.natCast_mul]⟩] at hAl
  have hAm := fun W => rCheck_is ⟨c, d, ys⟩ a2 k2 W
  rw [show chkMt ⟨c, d, ys⟩ = 0 from if_pos ⟨⟨by show (1 : Int) ≤ c; omega, by show (c : Int) ≤ 12; omega⟩, ⟨by show (1 : Int) ≤ d; omega, by show (d : Int) ≤ 12; omega⟩, by show (ys.length : Int) = c * d; rw [ly, ← hnb, Int.natCast_mul]⟩] at hAm
  dsimp only at hAl hAm
  obtain ⟨x, rfl, hq1, hq2⟩ := h1.at 0 (by omega)
  clear hq1 hq2
  have hRow : ∀ W, Eff P w0 W → ∀ i, i < r → Calls Tryz.prog 98 #[.agg #[.int .i64 r, .int .i64 c, .slice (some x) na k1], .int .i64 i] W fun e w' => ∃ g cap, e = .returned (.tuple #[.slice (some ⟨g, 0, none⟩) c cap, .int .i64 0]) ∧ OI W.heap.size w' g cap (rowL xs c i) ∧ Below W.heap.size W w' := fun W hE i hi => by
    have := rowR_is ((h1.but (hPb _ _ hE)).mi) (lx.trans hna.symm) hr hc i hi
    rw [lx] at this
    exact this
  have hCol : ∀ W, Eff P w0 W → ∀ j, j < d → Calls Tryz.prog 100 #[.agg #[.int .i64 c, .int .i64 d, .slice a2 nb k2], .int .i64 j] W fun e w' => ∃ g k, e = .returned (.slice (some ⟨g, 0, none⟩) c k) ∧ OI W.heap.size w' g k (colL ⟨c, d, ys⟩ j) ∧ Below W.heap.size W w' := fun W hE j hj => by
    have := colR_is ((h2.but (hPb _ _ hE)).mi) (ly.trans hnb.symm) hc.2 hd.2 j hj
    rw [ly] at this
    refine this.mono fun e w' h => ?_
    obtain ⟨v, he, hv, hB⟩ := h
    have hl : (colL ⟨c, d, ys⟩ j).length = c := by simp [colL]
    obtain ⟨g, k, rfl, hO⟩ := hv.li (by omega) (colL_i64 h2.mi.rng j)
    rw [hl] at he
    exact ⟨g, k, he, hO, hB⟩
  obtain ⟨RL, hRL⟩ : ∃ f : Nat → List Int, ∀ i, rowL xs c i = f i := ⟨_, fun _ => rfl⟩
  obtain ⟨CL, hCL⟩ : ∃ f : Nat → List Int, ∀ i, colL ⟨c, d, ys⟩ i = f i := ⟨_, fun _ => rfl⟩
  have hRl : ∀ i, i < r → (RL i).length = c := fun i hi => by rw [← hRL]; exact rowL_len (lx.trans hna.symm) hi
  have hCl : ∀ i, (CL i).length = c := fun i => by rw [← hCL]; simp [colL]
  simp only [hRL] at hRow
  simp only [hCL] at hCol
  obtain ⟨F, hF⟩ : ∃ F : Nat → Int × Bool, ∀ i, dotF (RL (i / d)) (CL (i % d)) = F i := ⟨_, fun _ => rfl⟩
  have hFx : ∀ i, I64 (F i).1 := fun i => by rw [← hF]; exact (dotF_fx _ _).i64
  have hFd : ∀ i j, j < d → dotF (RL i) (CL j) = F (i * d + j) := fun i j hj => by
    rw [← hF, show (i * d + j) / d = i by rw [Nat.mul_comm, Nat.mul_add_div (by omega), Nat.div_eq_of_lt hj, Nat.add_zero], show (i * d + j) % d = j by rw [Nat.mul_comm, Nat.mul_add_mod, Nat.mod_eq_of_lt hj]]
  simp only [hRL, hCL, hF]
  have HFd := Lib.hid hFd
  have HRl := Lib.hid hRl
  have HCl := Lib.hid hCl
  rw [lx] at hAl
  rw [ly] at hAm
  clear hF hRL hCL hFd h1 h2 lx ly hRl hCl
  have hB := below_allocs w0 [Obj.cells #[.int .i64 r, .int .i64 c, .slice (some x) na k1] 24, Obj.cells #[.int .i64 c, .int .i64 d, .slice a2 nb k2] 24, Obj.cells #[.int .i64 0, .int .i64 0, .slice none 0 0] 24]
  have g0 := blk_at w0 [Obj.cells #[.int .i64 r, .int .i64 c, .slice (some x) na k1] 24, Obj.cells #[.int .i64 c, .int .i64 d, .slice a2 nb k2] 24, Obj.cells #[.int .i64 0, .int .i64 0, .slice none 0 0] 24] 0 _ _ rfl
  have g1 := blk_at w0 [Obj.cells #[.int .i64 r, .int .i64 c, .slice (some x) na k1] 24, Obj.cells #[.int .i64 c, .int .i64 d, .slice a2 nb k2] 24, Obj.cells #[.int .i64 0, .int .i64 0, .slice none 0 0] 24] 1 _ _ rfl
  have g2 := blk_at w0 [Obj.cells #[.int .i64 r, .int .i64 c, .slice (some x) na k1] 24, Obj.cells #[.int .i64 c, .int .i64 d, .slice a2 nb k2] 24, Obj.cells #[.int .i64 0, .int .i64 0, .slice none 0 0] 24] 2 _ _ rfl
  simp only [List.foldl_cons, List.foldl_nil, Nat.add_zero] at hB g0 g1 g2
  replace hB := hB.1
  obtain ⟨hr1, hr2⟩ := hr
  obtain ⟨hc1, hc2⟩ := hc
  obtain ⟨hd1, hd2⟩ := hd
  have HN := Lib.hid hn
  clear hna hnb hn
  go_enter Tryz.func53, Tryz.ntmps53
  go_wp2_with fail
  refine (hAl _).mono ?_
  rintro e w1 ⟨rfl, hK⟩
  replace hB := more hB hK
  replace g0 := g0.keep hK
  replace g1 := g1.keep hK
  replace g2 := g2.keep hK
  clear hK hAl
  have d1 := g1.cell
  go_wp2_with fail
  refine (hAm _).mono ?_
  rintro e w2 ⟨rfl, hK⟩
  replace hB := more hB hK
  replace g0 := g0.keep hK
  replace g1 := g1.keep hK
  replace g2 := g2.keep hK
  clear hK hAm d1
  have d0 := g0.cell
  have d1 := g1.cell
  have gm := Blk.new w2 #[.int .i64 0, .int .i64 0, .slice none 0 0] 24
  have hB1 := hB.alloc hB.size (.cells #[.int .i64 0, .int .i64 0, .slice none 0 0] 24)
  have hK1 : Below w2.heap.size w2 (w2.alloc (.cells #[.int .i64 0, .int .i64 0, .slice none 0 0] 24)) := upA (upR w2) _
  go_wp2_with ((with_reducible refine at_st (p := 8) (q := 35) rfl ?_); refine ev_store rfl 24 _ _ rfl rfl gm 0 rfl rfl [.int .i64 r, .int .i64 d, .slice none 0 0] rfl (by kernel_rfl) rfl rfl #[.int .i64 r, .int .i64 d, .slice none 0 0] rfl ?_; intro w3 g6 ef hz6)
  obtain ⟨mb, hmb⟩ : ∃ mb, w2.heap.size = mb := ⟨_, rfl⟩
  have hms : w0.heap.size + 3 ≤ mb := by rw [← hmb]; exact g2.lt
  have hmz : w0.heap.size ≤ mb := by omega
  rw [hmb] at g6 ef ⊢
  have hB2 : Below w0.heap.size w0 w3 := ef.below hB1 (fun k hk => by omega)
  obtain ⟨bs, hbs⟩ : ∃ bs : List (Nat × Array Value × TypeId), bs = [(w0.heap.size, #[.int .i64 r, .int .i64 c, .slice (some x) na k1], 24), (w0.heap.size + 1, #[.int .i64 c, .int .i64 d, .slice a2 nb k2], 24), (w0.heap.size + 2, #[.int .i64 0, .int .i64 0, .slice none 0 0], 24)] := ⟨_, rfl⟩
  have hX : Ctx w0 P mb bs w3 := by
    rw [hbs]
    refine ⟨Eff.of hB2, fun t ht => ?_, fun t ht => ?_, hPl, by omega⟩
    · simp at ht
      rcases ht with rfl | rfl | rfl
      · exact ef.blk (g0.keep hK1) (by simp; omega)
      · exact ef.blk (g1.keep hK1) (by simp; omega)
      · exact ef.blk (g2.keep hK1) (by simp; omega)
    · simp at ht
      rcases ht with rfl | rfl | rfl
      · exact ⟨by simp, by simp; omega, by dsimp only; decide⟩
      · exact ⟨by simp, by simp; omega, by dsimp only; decide⟩
      · exact ⟨by simp, by simp; omega, by dsimp only; decide⟩
  have hX0 : ∀ W, Ctx w0 P mb bs W → Blk W w0.heap.size #[.int .i64 r, .int .i64 c, .slice (some x) na k1] 24 := fun W h => h.bk _ (by rw [hbs]; exact List.mem_cons_self ..)
  have hX1 : ∀ W, Ctx w0 P mb bs W → Blk W (w0.heap.size + 1) #[.int .i64 c, .int .i64 d, .slice a2 nb k2] 24 := fun W h => h.bk (w0.heap.size + 1, _, _) (by rw [hbs]; simp)
  have hX2 : ∀ W, Ctx w0 P mb bs W → Blk W (w0.heap.size + 2) #[.int .i64 0, .int .i64 0, .slice none 0 0] 24 := fun W h => h.bk (w0.heap.size + 2, _, _) (by rw [hbs]; simp)
  have HX0 := Lib.hid hX0
  have HX1 := Lib.hid hX1
  have HX2 := Lib.hid hX2
  have HRow := Lib.hid hRow
  have HCol := Lib.hid hCol
  have HFx := Lib.hid hFx
  have hJ : ∀ cu, ∀ W W', UR W b cu → Below w0.heap.size W W' → UR W' b cu := fun cu W W' h k => h.below k hbl
  have HJ := Lib.hid hJ
  have hU2 := hJ _ _ _ hU hB2
  clear hB hB1 hB2 hK1 gm d0 d1 ef hz6 g0 g1 g2 hU hX0 hX1 hX2 hbs hRow hCol hFx hJ
  go_loopw [9] (fun i wr => ∃ q : Nat, q ≤ r ∧ i = .int .i64 q ∧ UR wr b (c0 || (List.range (q * d)).any fun i => (F i).2) ∧ Ctx w0 P mb bs wr ∧ ∃ v, Blk wr mb #[.int .i64 r, .int .i64 d, v] 24 ∧ IV w0.heap.size wr v ((List.range (q * d)).map fun i => (F i).1)) (fun i _ => r - (intOf i).toNat)
  case atStart => exact ⟨0, Nat.zero_le _, rfl, by simpa using hU2, hX, _, g6, by simpa using IV.nil _ _⟩
  case round =>
    obtain ⟨q, hq, rfl, hUq, hXq, ov, hov, hV⟩ := hrel
    have d0 := (HX0.out _ hXq).cell
    clear hX g6 hU2
    by_cases hql : q < r
    · have hql' : (q : Int) < (r : Int) := by omega
      go_wp2_with fail
      refine (HRow.out _ hXq.ef q hql).mono ?_
      rintro e w4 ⟨g, cap, rfl, hOI, hK⟩
      replace hUq := hUq.keep hK
      have hlt := fun k hk => (hV.lt k hk).2
      have hsz := hXq.ef.size
      replace hXq := hXq.keep hK
      replace hov := hov.keep hK
      have hne : ∀ k, ov.ownBlock = some k → k ≠ g := fun k hk => by have := hlt k hk; have := hOI.lo; omega
      replace hV := hV.keep hK
      replace hOI := hOI.mono hsz
      clear hK d0 hlt hsz
      go_wp2_with fail
      have hqd0 : q * d = q * d + 0 := rfl
      rw [hqd0] at hUq hV
      clear hqd0
      go_loopw [12] (fun i wr => ∃ t : Nat, t ≤ d ∧ i = .int .i64 t ∧ UR wr b (c0 || (List.range (q * d + t)).any fun i => (F i).2) ∧ Ctx w0 P mb bs wr ∧ OI w0.heap.size wr g cap (RL q) ∧ ∃ v, Blk wr mb #[.int .i64 r, .int .i64 d, v] 24 ∧ IV w0.heap.size wr v ((List.range (q * d + t)).map fun i => (F i).1) ∧ (∀ k, v.ownBlock = some k → k ≠ g)) (fun i _ => d - (intOf i).toNat)
      case atStart => exact ⟨0, Nat.zero_le _, rfl, hUq, hXq, hOI, _, hov, hV, hne⟩
      case round =>
        clear hUq hXq hOI hov hV hne ov
        obtain ⟨t, ht, rfl, hUt, hXt, hOI, ov, hov, hV, hne⟩ := hrel
        have d1 := (HX1.out _ hXt).cell
        by_cases htl : t < d
        · have htl' : (t : Int) < (d : Int) := by omega
          go_wp2_with fail
          refine (HCol.out _ hXt.ef t htl).mono ?_
          rintro e w5 ⟨g3, c3, rfl, hO3, hK⟩
          replace hUt := hUt.keep hK
          have hsz := hXt.ef.size
          replace hXt := hXt.keep hK
          replace hov := hov.keep hK
          replace hV := hV.keep hK
          replace hOI := hOI.keep hK
          have hD := dotR_is hUt (hOI.li.mlR hUt) (hO3.li.mlR hUt) ((HRl.out q hql).trans (HCl.out t).symm)
          rw [HRl.out q hql, HCl.out t, HFd.out q t htl] at hD
          clear hK d1 hO3
          go_wp2_with fail
          refine hD.mono ?_
          rintro e w6 ⟨rfl, hU6, hBt⟩
          have hE6 := hbP _ _ hBt
          have hPw : ∀ k, w0.heap.size ≤ k → ¬ P k := fun k hk hp => by have := hPl _ hp; omega
          replace hXt := hXt.call hE6
          replace hov := hE6.blk hov (hPw _ hmz)
          replace hV := hV.eff hE6 (fun k hk => hPw _ (hV.lt k hk).1)
          replace hOI := hOI.eff0 hE6 (hPw _ hOI.lo)
          clear hD hBt hE6 hUt hPw
          have hpx := HFx.out (q * d + t)
          have HU := Lib.hid (show (c0 || (List.range (q * d + (t + 1))).any fun i => (F i).2) = ((c0 || (List.range (q * d + t)).any fun i => (F i).2) || (F (q * d + t)).2) by rw [← Nat.add_assoc, List.range_succ, any_snoc, Bool.or_assoc])
          have HZ := Lib.hid (show ((List.range (q * d + (t + 1))).map fun i => (F i).1) = ((List.range (q * d + t)).map fun i => (F i).1) ++ [(F (q * d + t)).1] by rw [← Nat.add_assoc, List.range_succ, List.map_append]; rfl)
          have hlq : ((List.range (q * d + t)).map fun i => (F i).1).length ≤ 1000 := by
            have h3 : q * d ≤ 12 * 12 := Nat.mul_le_mul (by omega) hd2
            simp; omega
          generalize F (q * d + t) = p at *
          generalize ((List.range (q * d + t)).map fun i => (F i).1) = zs at *
          generalize (c0 || (List.range (q * d + t)).any fun i => (F i).2) = cu at *
          have m0 := hov.cell
          have be := Blk.new w6 #[.int .i64 p.1] 3
          have hKe : Below w6.heap.size w6 (w6.alloc (.cells #[.int .i64 p.1] 3)) := upA (upR w6) _
          have hVe := hV.keep hKe
          have hoe := hov.keep hKe
          have hXe := hXt.keep hKe
          have hUe := hU6.keep hKe
          have hOe := hOI.keep hKe
          have hsz6 := hXe.ef.size
          have hgl := hOI.inW
          clear hKe hV hov hXt hU6 hOI hsz
          go_wp2_with (at_builtin; refine app_iv2 rfl _ _ rfl rfl hVe hsz6 _ rfl be (by omega) ?_)
          intro g7 c7 w7 hV7 hgr hg7
          have hB7 := below_grown hVe hsz6 hgr
          have hm7 := hoe.grown hgr (fun e => hVe.ne hoe (by decide) _ e.symm rfl)
          have hX7 := hXe.grown hVe hgr
          have hU7 := HJ.out _ _ _ hUe hB7
          have hO7 := hOe.eff0 (Eff.grown (P := fun k => ov.ownBlock = some k) hgr (fun k hk => hk)) (fun hk => hne _ hk rfl)
          have hn7 : ∀ k, (Value.slice (some ⟨g7, 0, none⟩) (zs.length + 1) c7).ownBlock = some k → k ≠ g := fun k hk => by
            simp [Value.ownBlock] at hk
            subst hk
            rcases hg7 with h | h
            · exact hne _ h
            · omega
          clear hVe hoe hXe hUe hOe hB7 hgr hg7 m0 be hne
          go_wp2_with ((with_reducible refine at_st (p := 68) (q := 67) rfl ?_); refine ev_store rfl 22 _ _ rfl rfl hm7 2 rfl rfl [.slice (some ⟨g7, 0, none⟩) (zs.length + 1) c7] rfl (by kernel_rfl) rfl rfl #[.int .i64 r, .int .i64 d, .slice (some ⟨g7, 0, none⟩) (zs.length + 1) c7] rfl ?_; intro w8 hm8 ef8 hz8)
          have hw7 : w0.heap.size ≤ w7.heap.size := hX7.ef.size
          have hU8 := HJ.out _ _ _ hU7 (below_store hmz hw7 ef8)
          have hX8 := hX7.store ef8
          have hV8 := hV7.eff ef8 (fun k hk e => hV7.ne hm7 (by decide) k hk e)
          have hO8 := hO7.eff0 ef8 (hO7.ne hm7 (by decide))
          clear hU7 hX7 hV7 hO7 hm7 ef8 hz8 hw7
          go_wp2_with fail
          go_roundw
          case rel => exact ⟨t + 1, by omega, by go_num, by rw [HU.out]; exact hU8, hX8, hO8, _, hm8, by rw [HZ.out]; exact hV8, hn7⟩
          case measure => simp [intOf]; omega
        · have htd : t = d := by omega
          subst htd
          clear hne hOI
          go_wp2_with fail
          go_roundw
          case rel => exact ⟨q + 1, by omega, by go_num, by rw [Nat.succ_mul]; exact hUt, hXt, _, hov, by rw [Nat.succ_mul]; exact hV⟩
          case measure => simp [intOf]; omega
    · have hqn : q = r := by omega
      subst hqn
      rw [HN.out] at hUq hV
      have HLq := Lib.hid (show ((List.range n).map fun i => (F i).1).length = n by simp)
      obtain ⟨g, k, rfl, hOI⟩ := hV.li (by rw [HLq.out]; omega) (fun z hz => by obtain ⟨i, _, rfl⟩ := List.mem_map.1 hz; exact HFx.out i)
      have m0 := hov.cell
      rw [HLq.out] at m0
      have gr := HX2.out _ hXq
      have HE := Lib.hid hXq.ef
      clear hov hV hXq
      go_wp2_with ((with_reducible refine at_st (p := 6) (q := 69) rfl ?_); refine ev_store rfl 24 _ _ rfl rfl gr 0 rfl rfl [.int .i64 q, .int .i64 d, .slice (some ⟨g, 0, none⟩) n k] rfl (by kernel_rfl) rfl rfl #[.int .i64 q, .int .i64 d, .slice (some ⟨g, 0, none⟩) n k] rfl ?_; intro w7 g7 ef7 hz7)
      refine bodyPost_ret (results_ct rfl _ _ (g := w0.heap.size + 2) rfl g7 Tryz.underlying24 rfl (by kernel_rfl)) rfl ?_
      refine ⟨g, k, rfl, hOI.eff0 ef7 (hOI.ne gr (by decide)), ?_, ?_⟩
      · obtain ⟨m, hm⟩ := hUq
        exact ⟨m, ef7.blk hm (by omega)⟩
      · exact hPb _ _ (HE.out.trans ef7 (fun k hk e => by omega))
end Go.Proofs.YtkjbidpafnmogaaGreat.Base
namespace Go.Proofs.YtkjbidpafnmogaaGreat.Base
open Go.RowKit Go Go.Shelf Go.Deep
set_option linter.unusedVariables false
set_option linter.unusedSimpArgs false

def intsA (zs : List Int) : Array Value := (zs.map fun z => Value.int .i64 z).toArray
theorem intsA_set (zs : List Int) (i : Nat) (z : Int) : (intsA zs).setIfInBounds i (.int .i64 z) = intsA (zs.set i z) := by
  simp [intsA, List.map_set]
theorem intsA_at (zs : List Int) (i : Nat) (h : i < zs.length) : (intsA zs)[i]? = some (.int .i64 (zs.getD i 0)) := by
  simp [intsA, List.getD_eq_getElem?_getD, List.getElem?_eq_getElem h]
theorem oi_of_blk {B : Nat} {W : World} {g : Nat} {zs : List Int} (h : Blk W g (intsA zs) 3) (hB : B ≤ g) (hr : ∀ z ∈ zs, I64 z) (hl : zs.length ≤ 1000) : OI B W g zs.length zs :=
  ⟨⟨_, h, by simp [intsA], fun j hj => by rw [intsA_at zs j hj, List.getD_eq_getElem?_getD, List.getElem?_eq_getElem hj]; rfl⟩, hr, Nat.le_refl _, by unfold maxLen; omega, hB⟩
theorem intsA_zero (n : Nat) : Array.replicate n (Value.int .i64 0) = intsA (List.replicate n 0) := by simp [intsA]

def dgL (zs : List Int) (n i : Nat) : List Int := (List.range (n * n)).map fun x => if x / n = x % n ∧ x / n < i then zs.getD (x / n) 0 else 0
theorem dgL_zero (zs : List Int) (n : Nat) : dgL zs n 0 = List.replicate (n * n) 0 := by
  unfold dgL
  rw [show (fun x : Nat => if x / n = x % n ∧ x / n < 0 then zs.getD (x / n) 0 else (0 : Int)) = fun _ => 0 from funext fun x => if_neg (fun h => by omega)]
  simp [List.map_const']
theorem dgL_len (zs : List Int) (n i : Nat) : (dgL zs n i).length = n * n := by simp [dgL]
theorem dg_div {n i : Nat} (hi : i < n) : (i * n + i) / n = i ∧ (i * n + i) % n = i :=
  ⟨by rw [Nat.mul_comm, Nat.mul_add_div (by omega), Nat.div_eq_of_lt hi, Nat.add_zero], by rw [Nat.mul_comm, Nat.mul_add_mod, Nat.mod_eq_of_lt hi]⟩
theorem dgL_set (zs : List Int) (n i : Nat) (hi : i < n) : (dgL zs n i).set (i * n + i) (zs.getD i 0) = dgL zs n (i + 1) := by
  obtain ⟨h1, h2⟩ := dg_div hi
  refine List.ext_getElem (by simp [dgL]) fun j hj1 hj2 => ?_
  rw [List.getElem_set]
  simp only [dgL, List.getElem_map, List.getElem_range]
  by_cases e : i * n + i = j
  · rw [if_pos e, ← e, h1, h2, if_pos ⟨rfl, by omega⟩]
  · rw [if_neg e]
    by_cases e2 : j / n = j % n ∧ j / n < i
    · rw [if_pos e2, if_pos ⟨e2.1, by omega⟩]
    · rw [if_neg e2, if_neg]
      rintro ⟨e3, e4⟩
      have e5 : j / n = i := by omega
      have := Nat.div_add_mod j n
      rw [← e3, e5, Nat.mul_comm] at this
      exact e this
theorem dgL_all (zs : List Int) (n : Nat) : dgL zs n n = (List.range (n * n)).map fun x => if x / n = x % n then zs.getD (x / n) 0 else 0 := by
  unfold dgL
  refine List.map_congr_left fun x hx => ?_
  have hx := List.mem_range.1 hx
  have hd := div_lt' hx
  by_cases e : x / n = x % n
  · rw [if_pos ⟨e, hd⟩, if_pos e]
  · rw [if_neg (fun h => e h.1), if_neg e]

set_option maxHeartbeats 4000000 in
set_option maxRecDepth 100000 in
theorem diagR_is {w0 : World} {a : Option Addr} {k n : Nat} {zs : List Int} (hm : MI 0 w0 a k zs) (hn : zs.length = n) (h1 : 1 ≤ n) (h12 : n ≤ 12) :
    Calls Tryz.prog 97 #[.slice a n k] w0 fun e w' => ∃ g k', e = .returned (.tuple #[.agg #[.int .i64 n, .int .i64 n, .slice (some ⟨g, 0, none⟩) (n * n) k'], .int .i64 0]) ∧ OI w0.heap.size w' g k' (diagM zs).v ∧ Below w0.heap.size w0 w' := by
  have hdv : (diagM zs).v = dgL zs n n := by rw [dgL_all]; unfold diagM madeM; rw [hn]
  rw [hdv]
  obtain ⟨x, rfl, hq1, hq2⟩ := hm.at 0 (by omega)
  clear hq1 hq2 hdv
  have hcell : ∀ W, Below w0.heap.size w0 W → ∀ i, i < n → W.cell? (x.add i) = some (.int .i64 (zs.getD i 0)) := fun W hB i hi => by
    obtain ⟨y, hy, hc, _⟩ := (hm.keep hB).at i (by omega)
    cases hy
    rw [hc, List.getD_eq_getElem?_getD, List.getElem?_eq_getElem (by omega)]
    rfl
  have hrz := getD_i64 hm.rng
  obtain ⟨N, hN⟩ : ∃ N, n * n = N := ⟨_, rfl⟩
  have hN2 : N ≤ 144 := by rw [← hN]; exact Nat.mul_le_mul h12 h12
  have e1 : (n : Int) * (n : Int) = (N : Int) := by rw [← hN, Int.natCast_mul]
  have e2 : IntKind.i64.wrap (N : Int) = (N : Int) := IntWalk.i64_in _ (by omega)
  have hB := upA (upR w0) (Obj.cells #[Value.int .i64 0, .int .i64 0, .slice none 0 0] 24)
  have g0 := Blk.new w0 #[Value.int .i64 0, .int .i64 0, .slice none 0 0] 24
  have hz0 := dgL_zero zs n
  have HS := Lib.hid (dgL_set zs n)
  have HL := Lib.hid (dgL_len zs n)
  rw [hN] at hz0 HL ⊢
  clear hn hm
  go_enter Tryz.func97, Tryz.ntmps97
  go_wp2_with (at_make; refine make_ints _ rfl _ _ rfl N rfl rfl (by omega) ?_)
  intro w2 hb hK
  rw [intsA_zero, ← hz0] at hb
  replace hK : Below (w0.alloc (Obj.cells #[Value.int .i64 0, .int .i64 0, .slice none 0 0] 24)).heap.size (w0.alloc (Obj.cells #[Value.int .i64 0, .int .i64 0, .slice none 0 0] 24)) w2 := by rw [World.size_alloc]; exact hK
  replace hB := more hB hK
  replace g0 := g0.keep hK
  obtain ⟨gb, hgb⟩ : ∃ gb, w0.heap.size + 1 = gb := ⟨_, rfl⟩
  have hgl : w0.heap.size < gb := by omega
  rw [hgb] at hb ⊢
  clear hK hgb hz0
  have gm := Blk.new w2 #[.int .i64 0, .int .i64 0, .slice none 0 0] 24
  have hK1 : Below w2.heap.size w2 (w2.alloc (.cells #[.int .i64 0, .int .i64 0, .slice none 0 0] 24)) := upA (upR w2) _
  go_wp2_with ((with_reducible refine at_st (p := 5) (q := 22) rfl ?_); refine ev_store rfl 24 _ _ rfl rfl gm 0 rfl rfl [.int .i64 n, .int .i64 n, .slice (some ⟨gb, 0, none⟩) N N] rfl (by kernel_rfl) rfl rfl #[.int .i64 n, .int .i64 n, .slice (some ⟨gb, 0, none⟩) N N] rfl ?_; intro w3 g6 ef hz6)
  have hb2 := hb.keep hK1
  have g02 := g0.keep hK1
  obtain ⟨mb, hmb⟩ : ∃ mb, w2.heap.size = mb := ⟨_, rfl⟩
  have hlb : gb < mb := by rw [← hmb]; exact hb.lt
  rw [hmb] at g6 ef ⊢
  have hB3 : Below w0.heap.size w0 w3 := ef.below (more hB hK1) (fun k hk => by omega)
  have hb3 := ef.blk hb2 (by omega)
  have g03 := ef.blk g02 (by omega)
  clear hB hK1 gm ef hz6 hb hb2 g0 g02 hmb
  go_loopw [6] (fun i wr => ∃ j : Nat, j ≤ n ∧ i = .int .i64 j ∧ Blk wr gb (intsA (dgL zs n j)) 3 ∧ Blk wr mb #[.int .i64 n, .int .i64 n, .slice (some ⟨gb, 0, none⟩) N N] 24 ∧ Blk wr w0.heap.size #[.int .i64 0, .int .i64 0, .slice none 0 0] 24 ∧ Below w0.heap.size w0 wr) (fun i _ => n - (intOf i).toNat)
  case atStart => exact ⟨0, Nat.zero_le _, rfl, hb3, g6, g03, hB3⟩
  case round =>
    clear hb3 g6 g03 hB3
    obtain ⟨j, hj, rfl, hb, gm, g0, hB⟩ := hrel
    have m0 := gm.cell
    by_cases hjl : j < n
    · have hjl' : (j : Int) < (n : Int) := by omega
      have hj0 : (0 : Int) ≤ (j : Int) := by omega
      obtain ⟨p, hp⟩ : ∃ p, j * n = p := ⟨_, rfl⟩
      obtain ⟨s, hs⟩ : ∃ s, p + j = s := ⟨_, rfl⟩
      obtain ⟨f1, f2, f3, f4, f5, f6⟩ := ix_small (n := N) hjl h12 hjl h12 hp hs hN.symm
      have e7 : IntKind.i64.wrap (p : Int) = (p : Int) := (IntWalk.i64_left _).trans f2
      have e8 : IntKind.i64.wrap (s : Int) = (s : Int) := (IntWalk.i64_left _).trans f4
      have hx := hcell wr hB j hjl
      have hset := HS.out j hjl
      rw [hp, hs] at hset
      have hL := HL.out j
      have hsl : s < (dgL zs n j).length := by rw [hL]; exact Int.ofNat_lt.1 f6
      have c1 : wr.drew.cell? ⟨gb, s, none⟩ = some (.int .i64 ((dgL zs n j).getD s 0)) := by rw [hb.drew.cell]; exact intsA_at _ _ hsl
      have fr := hb.drew.frozen s
      have hb' := hb.drew.set s (.int .i64 (zs.getD j 0))
      rw [intsA_set, hset] at hb'
      have hB' := hB.drew.setCell (p := ⟨gb, s, none⟩) (by show w0.heap.size ≤ gb; omega) (.int .i64 (zs.getD j 0))
      have gm' := gm.drew.other (c := gb) (by omega) s (.int .i64 (zs.getD j 0))
      have g0' := g0.drew.other (c := gb) (by omega) s (.int .i64 (zs.getD j 0))
      clear hb gm g0 hset hL hp hs hsl hcell HS HL hrz
      generalize zs.getD j 0 = z at *
      generalize (dgL zs n j).getD s 0 = z0 at *
      go_wp2_with fail
      clear hN e1 e2 h1 h12 hN2
      go_still_tail 12, (by kernel_rfl)
      change wpList _ _ _ _ _ wr.drew
      clear m0 hx hB
      generalize wr.drew = w9 at *
      go_wp2_with fail
      go_roundw
      case rel => exact ⟨j + 1, by omega, by go_num, hb', gm', g0', hB'⟩
      case measure => simp [intOf]; omega
    · have hjn : j = n := by omega
      subst hjn
      have hl := HL.out j
      have hrr : ∀ z ∈ dgL zs j j, I64 z := fun z hz => by
        obtain ⟨y, _, rfl⟩ := List.mem_map.1 hz
        split
        · exact hrz _
        · exact ⟨by decide, by decide⟩
      have hO := oi_of_blk hb (Nat.le_of_lt hgl) hrr (by omega)
      rw [hl] at hO
      clear hb hcell HS HL hrz hrr e1 hl
      go_wp2_with ((with_reducible refine at_st (p := 2) (q := 40) rfl ?_); refine ev_store rfl 24 _ _ rfl rfl g0 0 rfl rfl [.int .i64 j, .int .i64 j, .slice (some ⟨gb, 0, none⟩) N N] rfl (by kernel_rfl) rfl rfl #[.int .i64 j, .int .i64 j, .slice (some ⟨gb, 0, none⟩) N N] rfl ?_; intro w7 g7 ef7 hz7)
      refine bodyPost_ret (results_ct rfl _ _ (g := w0.heap.size) rfl g7 Tryz.underlying24 rfl (by kernel_rfl)) rfl ?_
      exact ⟨gb, N, rfl, hO.eff0 ef7 (by omega), ef7.below hB (fun k hk => by omega)⟩

theorem eyeR_diag {W : World} {b n : Nat} (hb : Blk W b (onesA n n) 3) (h1 : 1 ≤ n) (h12 : n ≤ 12) :
    Calls Tryz.prog 97 #[.slice (some ⟨b, 0, none⟩) n n] W fun e w' => ∃ g k', e = .returned (.tuple #[.agg #[.int .i64 n, .int .i64 n, .slice (some ⟨g, 0, none⟩) (n * n) k'], .int .i64 0]) ∧ OI W.heap.size w' g k' (eyeM n).v ∧ Below W.heap.size W w' := by
  have hl : (List.replicate n (4294967296 : Int)).length = n := List.length_replicate
  rw [onesA_all] at hb
  have hmi := MI.of_blk (B := 0) hb (Nat.zero_le _) (fun z hz => by rw [List.eq_of_mem_replicate hz]; exact ⟨by decide, by decide⟩) (Nat.le_trans (Nat.le_of_eq hl) (Nat.le_trans h12 (by decide)))
  have hdg := diagR_is hmi hl h1 h12
  rw [hl] at hdg
  exact hdg
set_option maxHeartbeats 1000000 in
set_option maxRecDepth 100000 in
theorem eyeR_is (n : Nat) (h1 : 1 ≤ n) (h12 : n ≤ 12) (W : World) :
    Calls Tryz.prog 52 #[.int .i64 n] W fun e w' => ∃ g k', e = .returned (.tuple #[.agg #[.int .i64 n, .int .i64 n, .slice (some ⟨g, 0, none⟩) (n * n) k'], .int .i64 0]) ∧ OI W.heap.size w' g k' (eyeM n).v ∧ Below W.heap.size W w' := by
  have hB := upA (upR W) (Obj.cells #[Value.int .i64 0, .int .i64 0, .slice none 0 0] 24)
  have g1 := Blk.new W #[Value.int .i64 0, .int .i64 0, .slice none 0 0] 24
  obtain ⟨N, hN⟩ : ∃ N, n * n = N := ⟨_, rfl⟩
  have hdg := fun (W : World) (b : Nat) (hb : Blk W b (onesA n n) 3) => eyeR_diag hb h1 h12
  rw [hN] at hdg
  rw [hN]
  clear hN
  go_enter Tryz.func52, Tryz.ntmps52
  go_wp2_with (at_make; refine make_ints _ rfl _ _ rfl n rfl rfl (by omega) ?_)
  intro w2 hb hK
  rw [← onesA_zero2] at hb
  replace hK : Below (W.alloc (Obj.cells #[Value.int .i64 0, .int .i64 0, .slice none 0 0] 24)).heap.size (W.alloc (Obj.cells #[Value.int .i64 0, .int .i64 0, .slice none 0 0] 24)) w2 := by rw [World.size_alloc]; exact hK
  have hlo := hB.size
  replace hB := more hB hK
  replace g1 := g1.keep hK
  clear hK
  obtain ⟨bl, hbl⟩ : ∃ bl, W.heap.size + 1 = bl := ⟨_, rfl⟩
  rw [hbl] at hb ⊢
  have hlo : W.heap.size ≤ bl := by omega
  have hne : bl ≠ W.heap.size := by omega
  clear hbl
  go_wp2_with fail
  go_loopw [5] (fun i wr => ∃ j : Nat, j ≤ n ∧ i = .int .i64 j ∧ Blk wr bl (onesA n j) 3 ∧ Blk wr W.heap.size #[.int .i64 0, .int .i64 0, .slice none 0 0] 24 ∧ Below W.heap.size W wr) (fun i _ => n - (intOf i).toNat)
  case atStart => exact ⟨0, Nat.zero_le _, rfl, hb, g1, hB⟩
  case round =>
    clear hb g1 hB
    obtain ⟨j, hj, rfl, hb, g1, hB⟩ := hrel
    by_cases hlt : j < n
    · have hlt' : (j : Int) < (n : Int) := by omega
      have hj0 : (0 : Int) ≤ (j : Int) := by omega
      have hb2 := hb.set j (.int .i64 4294967296)
      rw [onesA_set n j hlt] at hb2
      have g2 := g1.other (c := bl) (Ne.symm hne) j (.int .i64 4294967296)
      have hB2 := hB.setCell (p := ⟨bl, j, none⟩) hlo (.int .i64 4294967296)
      have c0 : wr.cell? ⟨bl, j, none⟩ = some (.int .i64 0) := by rw [hb.cell]; simp [onesA, hlt]
      have f0 := hb.frozen j
      clear hb g1 hB
      go_wp2_with fail
      go_roundw
      case rel => exact ⟨j + 1, by omega, by go_num, hb2, g2, hB2⟩
      case measure => simp [intOf]; omega
    · have hge : ¬ (j : Int) < (n : Int) := by omega
      have HJ := Lib.hid (show j = n by omega)
      have hb' : Blk wr bl (onesA n n) 3 := by rw [HJ.out] at hb; exact hb
      have hdg := hdg wr bl hb'
      clear hb hb'
      go_wp2_with fail
      refine hdg.mono ?_
      rintro e w3 ⟨g, k', rfl, hO, hK⟩
      have hB3 := more hB hK
      have g3 := g1.keep hK
      replace hO := hO.mono hB.size
      clear g1 hB hK hdg
      go_wp2_with ((with_reducible refine at_st (p := 2) (q := 25) rfl ?_); refine ev_store rfl 24 _ _ rfl rfl g3 0 rfl rfl [.int .i64 n, .int .i64 n, .slice (some ⟨g, 0, none⟩) N k'] rfl (by kernel_rfl) rfl rfl #[.int .i64 n, .int .i64 n, .slice (some ⟨g, 0, none⟩) N k'] rfl ?_; intro w7 g7 ef7 hz7)
      refine bodyPost_ret (results_ct rfl _ _ (g := W.heap.size) rfl g7 Tryz.underlying24 rfl (by kernel_rfl)) rfl ?_
      exact ⟨g, k', rfl, hO.eff0 ef7 (hO.ne g3 (by decide)), ef7.below hB3 (fun k hk => by omega)⟩
end Go.Proofs.YtkjbidpafnmogaaGreat.Base
namespace Go.Proofs.YtkjbidpafnmogaaGreat.Base
open Go.RowKit Go Go.Shelf Go.Deep
set_option linter.unusedVariables false
set_option linter.unusedSimpArgs false

theorem mo_of_oi {B : Nat} {W : World} {g k r c n : Nat} {zs : List Int} (h : OI B W g k zs) (hl : zs.length = n) (hr : r ≤ 1000) (hc : c ≤ 1000) :
    MO B W (.agg #[.int .i64 r, .int .i64 c, .slice (some ⟨g, 0, none⟩) n k]) ⟨r, c, zs⟩ :=
  ⟨⟨_, _, by rw [← hl], h.li⟩, by unfold I64; dsimp only; omega, by unfold I64; dsimp only; omega⟩
theorem at_flat {c : Nat} (zs : List Int) (x : Nat) : atM ⟨(c : Int), (c : Int), zs⟩ (x / c) (x % c) = zs.getD x 0 := by
  unfold atM
  simp only [Int.toNat_natCast]
  rw [show x / c * c + x % c = x from by rw [Nat.mul_comm]; exact Nat.div_add_mod x c]
theorem eachM_flat (f : Int → Int → Int × Bool) (r c : Nat) (xs ys : List Int) : eachM f ⟨r, c, xs⟩ ⟨r, c, ys⟩ = (⟨r, c, (List.range (r * c)).map fun x => (f (xs.getD x 0) (ys.getD x 0)).1⟩, (List.range (r * c)).any fun x => (f (xs.getD x 0) (ys.getD x 0)).2) := by
  have h : ∀ (zs : List Int) (x : Nat), atM ⟨(r : Int), (c : Int), zs⟩ (x / c) (x % c) = zs.getD x 0 := fun zs x => by
    unfold atM
    simp only [Int.toNat_natCast]
    rw [show x / c * c + x % c = x from by rw [Nat.mul_comm]; exact Nat.div_add_mod x c]
  unfold eachM madeF
  simp only [Int.toNat_natCast, h]
theorem rowL_turn {c d : Nat} (ys : List Int) (k : Nat) (hk : k < d) : rowL (turnM ⟨c, d, ys⟩).v c k = colL ⟨c, d, ys⟩ k := by
  have h : (turnM ⟨(c : Int), (d : Int), ys⟩).v = (List.range (d * c)).map fun x => atM ⟨c, d, ys⟩ (x % c) (x / c) := rfl
  have h2 : colL ⟨(c : Int), (d : Int), ys⟩ k = (List.range c).map fun i => atM ⟨c, d, ys⟩ i k := rfl
  rw [h, h2]
  have hl := rowL_len (zs := (List.range (d * c)).map fun x => atM ⟨(c : Int), (d : Int), ys⟩ (x % c) (x / c)) (r := d) (c := c) (by simp) hk
  refine List.ext_getElem (by rw [hl]; simp) fun j h1 h3 => ?_
  rw [hl] at h1
  have hx := ix_lt hk h1
  simp only [rowL, List.getElem_take, List.getElem_drop, List.getElem_map, List.getElem_range]
  rw [show (k * c + j) % c = j by rw [Nat.mul_comm, Nat.mul_add_mod, Nat.mod_eq_of_lt h1], show (k * c + j) / c = k by rw [Nat.mul_comm, Nat.mul_add_div (by omega), Nat.div_eq_of_lt h1, Nat.add_zero]]
theorem mulM_flat (r c d : Nat) (xs ys : List Int) (hd : 0 < d) : mulM ⟨r, c, xs⟩ ⟨c, d, ys⟩ = (⟨r, d, (List.range (r * d)).map fun i => (dotF (rowL xs c (i / d)) (colL ⟨c, d, ys⟩ (i % d))).1⟩, (List.range (r * d)).any fun i => (dotF (rowL xs c (i / d)) (colL ⟨c, d, ys⟩ (i % d))).2) := by
  unfold mulM madeF
  simp only [Int.toNat_natCast]
  have h : ∀ i, rowL (turnM ⟨(c : Int), (d : Int), ys⟩).v c (i % d) = colL ⟨c, d, ys⟩ (i % d) := fun i => rowL_turn ys _ (Nat.mod_lt _ hd)
  simp only [h]

theorem sumR_is {W : World} {b : Nat} {c0 : Bool} (hU : UR W b c0) {m1 m2 : Mt} {a1 a2 : Option Addr} {k1 k2 : Nat} (h1 : ML b W a1 k1 m1.v) (h2 : ML b W a2 k2 m2.v) (ok1 : okMt m1) (ok2 : okMt m2) (er : m1.r = m2.r) (ec : m1.c = m2.c) :
    Calls Tryz.prog 63 #[.pointer (some ⟨b, 0, none⟩), .agg #[.int .i64 m1.r, .int .i64 m1.c, .slice a1 m1.v.length k1], .agg #[.int .i64 m2.r, .int .i64 m2.c, .slice a2 m2.v.length k2]] W fun e w' => ∃ v, e = .returned (.tuple #[v, .int .i64 0]) ∧ MO W.heap.size w' v (sumM m1 m2).1 ∧ UR w' b (c0 || (sumM m1 m2).2) ∧ But b W w' := by
  obtain ⟨r, c, xs⟩ := m1
  obtain ⟨r', c', ys⟩ := m2
  dsimp only at er ec h1 h2 ⊢
  subst er ec
  obtain ⟨r, c, rfl, rfl, hr1, hr2, hc1, hc2, hl1⟩ := ok1.nat
  obtain ⟨r', c', hr', hc', _, _, _, _, hl2⟩ := ok2.nat
  have e1 : r' = r := by dsimp only at hr'; omega
  have e2 : c' = c := by dsimp only at hc'; omega
  subst e1 e2
  dsimp only at hl1 hl2
  rw [show sumM ⟨(r' : Int), (c' : Int), xs⟩ ⟨r', c', ys⟩ = _ from eachM_flat _ r' c' xs ys, hl1, hl2]
  refine (rsum7_is hU h1 h2 hl1 hl2 ⟨hr1, hr2⟩ ⟨hc1, hc2⟩ rfl).mono fun e w' h => ?_
  obtain ⟨g, k, he, hO, hu, hb⟩ := h
  exact ⟨_, he, mo_of_oi hO (by simp) (by omega) (by omega), hu, hb⟩
theorem scaleR_is {W : World} {b : Nat} {c0 : Bool} (hU : UR W b c0) {m1 : Mt} {a1 : Option Addr} {k1 : Nat} (h1 : ML b W a1 k1 m1.v) (ok1 : okMt m1) (s : Int) (hs : I64 s) :
    Calls Tryz.prog 62 #[.pointer (some ⟨b, 0, none⟩), .agg #[.int .i64 m1.r, .int .i64 m1.c, .slice a1 m1.v.length k1], .int .i64 s] W fun e w' => ∃ v, e = .returned (.tuple #[v, .int .i64 0]) ∧ MO W.heap.size w' v (scaleM m1 s).1 ∧ UR w' b (c0 || (scaleM m1 s).2) ∧ But b W w' := by
  obtain ⟨r, c, xs⟩ := m1
  obtain ⟨r, c, rfl, rfl, hr1, hr2, hc1, hc2, hl1⟩ := ok1.nat
  dsimp only at hl1 h1 ⊢
  rw [show scaleM ⟨(r : Int), (c : Int), xs⟩ s = _ from eachM_flat _ r c xs xs, hl1]
  refine (rscale7_is hU h1 hl1 hs ⟨hr1, hr2⟩ ⟨hc1, hc2⟩ rfl).mono fun e w' h => ?_
  obtain ⟨g, k, he, hO, hu, hb⟩ := h
  exact ⟨_, he, mo_of_oi hO (by simp) (by omega) (by omega), hu, hb⟩
theorem mulR_is {W : World} {b : Nat} {c0 : Bool} (hU : UR W b c0) {m1 m2 : Mt} {a1 a2 : Option Addr} {k1 k2 : Nat} (h1 : ML b W a1 k1 m1.v) (h2 : ML b W a2 k2 m2.v) (ok1 : okMt m1) (ok2 : okMt m2) (ec : m1.c = m2.r) :
    Calls Tryz.prog 53 #[.pointer (some ⟨b, 0, none⟩), .agg #[.int .i64 m1.r, .int .i64 m1.c, .slice a1 m1.v.length k1], .agg #[.int .i64 m2.r, .int .i64 m2.c, .slice a2 m2.v.length k2]] W fun e w' => ∃ v, e = .returned (.tuple #[v, .int .i64 0]) ∧ MO W.heap.size w' v (mulM m1 m2).1 ∧ UR w' b (c0 || (mulM m1 m2).2) ∧ But b W w' := by
  obtain ⟨r, c, xs⟩ := m1
  obtain ⟨c', d, ys⟩ := m2
  dsimp only at ec h1 h2 ⊢
  subst ec
  obtain ⟨r, c, rfl, rfl, hr1, hr2, hc1, hc2, hl1⟩ := ok1.nat
  obtain ⟨c', d, hc', rfl, _, _, hd1, hd2, hl2⟩ := ok2.nat
  have e1 : c' = c := by dsimp only at hc'; omega
  subst e1
  dsimp only at hl1 hl2
  rw [mulM_flat r c' d xs ys hd1, hl1, hl2]
  refine (rmul7_is hU h1 h2 hl1 hl2 rfl rfl rfl ⟨hr1, hr2⟩ ⟨hc1, hc2⟩ ⟨hd1, hd2⟩).mono fun e w' h => ?_
  obtain ⟨g, k, he, hO, hu, hb⟩ := h
  exact ⟨_, he, mo_of_oi hO (by simp) (by omega) (by omega), hu, hb⟩
theorem eyeR_mo (n : Nat) (h1 : 1 ≤ n) (h12 : n ≤ 12) (W : World) :
    Calls Tryz.prog 52 #[.int .i64 n] W fun e w' => ∃ v, e = .returned (.tuple #[v, .int .i64 0]) ∧ MO W.heap.size w' v (eyeM n) ∧ Below W.heap.size W w' := by
  refine (eyeR_is n h1 h12 W).mono fun e w' h => ?_
  obtain ⟨g, k, he, hO, hb⟩ := h
  have hl : (eyeM n).v.length = n * n := by simp [eyeM, diagM, madeM]
  have hm := mo_of_oi (r := n) (c := n) hO hl (by omega) (by omega)
  have e : (⟨(n : Int), (n : Int), (eyeM n).v⟩ : Mt) = eyeM n := by
    have h1 := eyeM_r n
    have h2 := eyeM_c n
    generalize eyeM n = q at *
    obtain ⟨r, c, v⟩ := q
    dsimp only at h1 h2 ⊢
    rw [h1, h2]
  rw [e] at hm
  exact ⟨_, he, hm, hb⟩
end Go.Proofs.YtkjbidpafnmogaaGreat.Base
namespace Go.Proofs.YtkjbidpafnmogaaGreat.Base
open Go.RowKit Go Go.Shelf Go.Deep
set_option linter.unusedVariables false
set_option linter.unusedSimpArgs false

set_option maxRecDepth 100000 in
theorem squareR_is (m : Mt) (a : Option Addr) (k : Nat) (W : World) : Calls Tryz.prog 51 #[.agg #[.int .i64 m.r, .int .i64 m.c, .slice a m.v.length k]] W fun e w' => e = .returned (.bool (decide (sqM m))) ∧ Below W.heap.size W w' := by
  obtain ⟨ans, hans⟩ : ∃ ans, decide (sqM m) = ans := ⟨_, rfl⟩
  rw [hans]
  have hCh := fun w => rCheck_is m a k w
  by_cases hok : okMt m
  · have hc0 : chkMt m = 0 := if_pos hok
    rw [hc0] at hCh
    by_cases hsq : m.r = m.c
    · have HA := Lib.hid (show ans = true from hans ▸ decide_eq_true ⟨hok, hsq⟩)
      clear hans hok hc0
      obtain ⟨r, c, v⟩ := m
      dsimp only at *
      subst hsq
      generalize v.length = n at *
      go_enter Tryz.func51, Tryz.ntmps51
      go_wp2_with fail
      have hB := upA (upR W) (Obj.cells #[Value.int .i64 r, .int .i64 r, .slice a n k] 24)
      have g0 := Blk.new W #[Value.int .i64 r, .int .i64 r, .slice a n k] 24
      refine (hCh _).mono ?_
      rintro e w1 ⟨rfl, hK⟩
      replace hB := more hB hK
      replace g0 := g0.keep hK
      have d0 := g0.cell
      clear hCh hK
      go_wp2_with fail
      go_ret
      exact ⟨by rw [HA.out]; rfl, hB⟩
    · have HA := Lib.hid (show ans = false from hans ▸ decide_eq_false (fun h => hsq h.2))
      clear hans hok hc0
      obtain ⟨r, c, v⟩ := m
      dsimp only at *
      generalize v.length = n at *
      have hb1 : (r == c) = false := by simpa using hsq
      go_enter Tryz.func51, Tryz.ntmps51
      go_wp2_with fail
      have hB := upA (upR W) (Obj.cells #[Value.int .i64 r, .int .i64 c, .slice a n k] 24)
      have g0 := Blk.new W #[Value.int .i64 r, .int .i64 c, .slice a n k] 24
      refine (hCh _).mono ?_
      rintro e w1 ⟨rfl, hK⟩
      replace hB := more hB hK
      replace g0 := g0.keep hK
      have d0 := g0.cell
      clear hCh hK
      go_wp2_with fail
      go_ret
      exact ⟨by rw [HA.out]; rfl, hB⟩
  · have hc0 : chkMt m = 3 := if_neg hok
    rw [hc0] at hCh
    have HA := Lib.hid (show ans = false from hans ▸ decide_eq_false (fun h => hok h.1))
    clear hans hok hc0
    obtain ⟨r, c, v⟩ := m
    dsimp only at *
    generalize v.length = n at *
    go_enter Tryz.func51, Tryz.ntmps51
    go_wp2_with fail
    have hB := upA (upR W) (Obj.cells #[Value.int .i64 r, .int .i64 c, .slice a n k] 24)
    have g0 := Blk.new W #[Value.int .i64 r, .int .i64 c, .slice a n k] 24
    refine (hCh _).mono ?_
    rintro e w1 ⟨rfl, hK⟩
    replace hB := more hB hK
    replace g0 := g0.keep hK
    have d0 := g0.cell
    clear hCh hK
    go_wp2_with fail
    go_ret
    exact ⟨by rw [HA.out]; rfl, hB⟩
theorem ij_div {r i j : Nat} (hj : j < r) : (i * r + j) / r = i ∧ (i * r + j) % r = j :=
  ⟨by rw [Nat.mul_comm, Nat.mul_add_div (by omega), Nat.div_eq_of_lt hj, Nat.add_zero], by rw [Nat.mul_comm, Nat.mul_add_mod, Nat.mod_eq_of_lt hj]⟩
theorem up_ij {r : Nat} {v : List Int} (hl : v.length = r * r) : (∀ i, i < v.length → upAt ⟨r, r, v⟩ i) ↔ ∀ i j, i < r → j ≤ i → v.getD (i * r + j) 0 = 0 := by
  constructor
  · intro h i j hi hj
    have hj' : j < r := by omega
    have := h (i * r + j) (by rw [hl]; exact ix_lt hi hj')
    unfold upAt at this
    simp only [Int.toNat_natCast] at this
    obtain ⟨e1, e2⟩ := ij_div (i := i) hj'
    rw [e1, e2] at this
    exact this hj
  · intro h x hx hle
    simp only [Int.toNat_natCast] at hle
    rw [hl] at hx
    have := h (x / r) (x % r) (div_lt' hx) hle
    rw [show x / r * r + x % r = x from by rw [Nat.mul_comm]; exact Nat.div_add_mod x r] at this
    exact this
set_option maxHeartbeats 4000000 in
set_option maxRecDepth 100000 in
theorem upperR_is {W : World} {m : Mt} {a : Option Addr} {k : Nat} (h : MI 0 W a k m.v) : Calls Tryz.prog 23 #[.agg #[.int .i64 m.r, .int .i64 m.c, .slice a m.v.length k]] W fun e w' => e = .returned (.bool (decide (upM m))) ∧ Below W.heap.size W w' := by
  obtain ⟨ans, hans⟩ : ∃ ans, decide (upM m) = ans := ⟨_, rfl⟩
  rw [hans]
  have hSq := fun w => squareR_is m a k w
  by_cases hsq : sqM m
  · obtain ⟨r, c, hr, hc, hr1, hr2, hc1, hc2, hlen⟩ := hsq.1.nat
    obtain ⟨mr, mc, v⟩ := m
    have hrc := hsq.2
    dsimp only at hr hc hrc hlen h
    subst hr hc
    have e : c = r := by omega
    subst e
    have HUP := Lib.hid (show ans = true ↔ (∀ i j, i < c → j ≤ i → v.getD (i * c + j) 0 = 0) by rw [← up_ij hlen, ← hans]; exact ⟨fun h => (of_decide_eq_true h).2, fun h => decide_eq_true ⟨hsq, h⟩⟩)
    rw [decide_eq_true hsq] at hSq
    dsimp only at hSq ⊢
    obtain ⟨n, hn⟩ : ∃ n, v.length = n := ⟨_, rfl⟩
    have hcell : ∀ w, Below W.heap.size W w → ∀ i j, i < c → j < c → ∃ x : Addr, a = some x ∧ w.cell? (x.add (i * c + j)) = some (.int .i64 (v.getD (i * c + j) 0)) := fun w hB i j hi hj => by
      have hx := ix_lt hi hj
      obtain ⟨x, rfl, h1, _⟩ := (h.keep hB).at (i * c + j) (by omega)
      refine ⟨x, rfl, h1.trans ?_⟩
      rw [List.getD_eq_getElem?_getD, List.getElem?_eq_getElem (by omega)]
      rfl
    have HCELL := Lib.hid hcell
    rw [hn] at hlen hSq ⊢
    have HLEN := Lib.hid hlen
    clear hans hsq hrc hcell h hn hlen
    have hB := upA (upR W) (Obj.cells #[Value.int .i64 c, .int .i64 c, .slice a n k] 24)
    have g0 := Blk.new W #[Value.int .i64 c, .int .i64 c, .slice a n k] 24
    go_enter Tryz.func23, Tryz.ntmps23
    go_wp2_with fail
    refine (hSq _).mono ?_
    rintro e w1 ⟨rfl, hK⟩
    replace hB := more hB hK
    replace g0 := g0.keep hK
    clear hK hSq
    go_wp2_with fail
    go_loopw [3] (fun i wr => ∃ q : Nat, q ≤ c ∧ i = .int .i64 q ∧ Below W.heap.size W wr ∧ Blk wr W.heap.size #[.int .i64 c, .int .i64 c, .slice a n k] 24 ∧ Hid (∀ i j, i < q → j ≤ i → v.getD (i * c + j) 0 = 0)) (fun i _ => c - (intOf i).toNat)
    case atStart => exact ⟨0, Nat.zero_le _, rfl, hB, g0, Lib.hid fun i j hi => absurd hi (Nat.not_lt_zero _)⟩
    case round =>
      clear hB g0
      obtain ⟨q, hq, rfl, hB, g0, hall⟩ := hrel
      have d0 := g0.cell
      by_cases hql : q < c
      · have hql' : (q : Int) < (c : Int) := by omega
        go_wp2_with fail
        go_loopw [4] (fun i wr => ∃ t : Nat, t ≤ q + 1 ∧ i = .int .i64 t ∧ Below W.heap.size W wr ∧ Blk wr W.heap.size #[.int .i64 c, .int .i64 c, .slice a n k] 24 ∧ Hid (∀ j, j < t → v.getD (q * c + j) 0 = 0)) (fun i _ => q + 1 - (intOf i).toNat)
        case atStart => exact ⟨0, Nat.zero_le _, rfl, hB, g0, Lib.hid fun j hj => absurd hj (Nat.not_lt_zero _)⟩
        case round =>
          clear hB g0 d0
          obtain ⟨t, ht, rfl, hB, g0, hin⟩ := hrel
          have d0 := g0.cell
          by_cases htl : t ≤ q
          · have htl' : (t : Int) ≤ (q : Int) := by omega
            have htc : t < c := by omega
            obtain ⟨p, hp⟩ : ∃ p, q * c = p := ⟨_, rfl⟩
            obtain ⟨s, hs⟩ : ∃ s, p + t = s := ⟨_, rfl⟩
            obtain ⟨f1, f2, f3, f4, f5, f6⟩ := ix_small (n := n) hql hc2 htc hc2 hp hs HLEN.out
            have e7 : IntKind.i64.wrap (p : Int) = (p : Int) := (IntWalk.i64_left _).trans f2
            have e8 : IntKind.i64.wrap (s : Int) = (s : Int) := (IntWalk.i64_left _).trans f4
            obtain ⟨x, rfl, hx⟩ := HCELL.out wr hB q t hql htc
            have HV := Lib.hid (show v.getD (q * c + t) 0 = v.getD s 0 by rw [hp, hs])
            rw [hp, hs] at hx
            generalize v.getD s 0 = z at *
            by_cases hz : z = 0
            · have hz1 : (z == 0) = true := by simp [hz]
              have HZ := Lib.hid hz
              clear hz hp hs
              go_wp2_with fail
              go_roundw
              case rel => exact ⟨t + 1, by omega, by go_num, hB, g0, Lib.hid fun j hj => by
                by_cases e : j = t
                · rw [e, HV.out, HZ.out]
                · exact hin.out j (by omega)⟩
              case measure => simp [intOf]; omega
            · have hz1 : (z == 0) = false := by simp [hz]
              have HF := Lib.hid (show ans = false by
                cases he : ans
                · rfl
                · exact absurd (HV.out.symm.trans (HUP.out.1 he q t hql htl)) hz)
              clear hz hp hs
              go_wp2_with fail
              go_ret
              exact ⟨by rw [HF.out]; rfl, hB⟩
          · have htl' : ¬ (t : Int) ≤ (q : Int) := by omega
            go_wp2_with fail
            go_roundw
            case rel => exact ⟨q + 1, by omega, by go_num, hB, g0, Lib.hid fun i j hi hj => by
              by_cases e : i = q
              · rw [e]; exact hin.out j (by omega)
              · exact hall.out i j (by omega) hj⟩
            case measure => simp [intOf]; omega
      · have hqc : q = c := by omega
        subst hqc
        have HT := Lib.hid (HUP.out.2 fun i j hi hj => hall.out i j hi hj)
        go_wp2_with fail
        go_ret
        exact ⟨by rw [HT.out]; rfl, hB⟩
  · have HF := Lib.hid (show ans = false by rw [← hans]; exact decide_eq_false fun h => hsq h.1)
    rw [decide_eq_false hsq] at hSq
    have hB := upA (upR W) (Obj.cells #[Value.int .i64 m.r, .int .i64 m.c, .slice a m.v.length k] 24)
    obtain ⟨mr, mc, v⟩ := m
    dsimp only at *
    generalize v.length = n at *
    clear hans hsq
    go_enter Tryz.func23, Tryz.ntmps23
    go_wp2_with fail
    refine (hSq _).mono ?_
    rintro e w1 ⟨rfl, hK⟩
    replace hB := more hB hK
    clear hK hSq
    go_wp2_with fail
    go_ret
    exact ⟨by rw [HF.out]; rfl, hB⟩
end Go.Proofs.YtkjbidpafnmogaaGreat.Base
