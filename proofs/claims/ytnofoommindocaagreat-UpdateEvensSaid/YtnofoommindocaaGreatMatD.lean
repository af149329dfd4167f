/- mat: Turn, Diag, Eye. -/
import Derived.Test.YtnofoommindocaaGreatMatC
namespace Go.Proofs.YtnofoommindocaaGreat.Base
open Go.RowKit
set_option linter.unusedVariables false
set_option linter.unusedSimpArgs false

def atM (m : Mt) (i k : Nat) : Int := m.v.getD (i * m.c.toNat + k) 0
def madeM (r c : Nat) (f : Nat → Nat → Int) : Mt := ⟨r, c, (List.range (r * c)).map fun x => f (x / c) (x % c)⟩
def turnM (m : Mt) : Mt := madeM m.c.toNat m.r.toNat fun i k => atM m k i
theorem okMt.nat {m : Mt} (h : okMt m) : ∃ r c : Nat, m.r = r ∧ m.c = c ∧ 1 ≤ r ∧ r ≤ 12 ∧ 1 ≤ c ∧ c ≤ 12 ∧ m.v.length = r * c := by
  obtain ⟨h1, h2, h3⟩ := h
  unfold okD at h1 h2
  obtain ⟨r, hr⟩ := Int.eq_ofNat_of_zero_le (show 0 ≤ m.r by omega)
  obtain ⟨c, hc⟩ := Int.eq_ofNat_of_zero_le (show 0 ≤ m.c by omega)
  refine ⟨r, c, hr, hc, by omega, by omega, by omega, by omega, ?_⟩
  rw [hr, hc] at h3
  exact_mod_cast h3
theorem mo_of_row {B : Nat} {W : World} {v : Value} {r c N : Nat} {val : Nat → Int} (h : W.ownsRow B 3 1 v N ((List.range N).map fun x => .int .i64 (val x))) (h0 : 0 < N) (hN : N ≤ 1000) (hv : ∀ x, x < N → I64 (val x)) (hr : r ≤ 1000) (hc : c ≤ 1000) :
    MO B W (.agg #[.int .i64 r, .int .i64 c, v]) ⟨r, c, (List.range N).map val⟩ := by
  obtain ⟨g, k, rfl⟩ := Joins.ownsRow_form h h0
  have h' : W.ownsRow B 3 1 (.slice (some ⟨g, 0, none⟩) N k) N (((List.range N).map val).map fun z => .int .i64 z) := by
    rw [List.map_map]
    exact h
  have hl : ((List.range N).map val).length = N := by simp
  have hr' : ∀ z ∈ (List.range N).map val, I64 z := fun z hz => by
    obtain ⟨x, hx, rfl⟩ := List.mem_map.1 hz
    exact hv x (List.mem_range.1 hx)
  obtain ⟨hO, _⟩ := OI.of_row (v := .slice none 0 0) h' hr'
  refine ⟨⟨some ⟨g, 0, none⟩, k, by rw [hl], hO.li⟩, ?_, ?_⟩
  · unfold I64; dsimp only; omega
  · unfold I64; dsimp only; omega
theorem getD_i64 {zs : List Int} (h : ∀ z ∈ zs, I64 z) (k : Nat) : I64 (zs.getD k 0) := by
  by_cases hk : k < zs.length
  · rw [List.getD_eq_getElem?_getD, List.getElem?_eq_getElem hk]
    exact h _ (List.getElem_mem hk)
  · rw [List.getD_eq_getElem?_getD, List.getElem?_eq_none (by omega)]
    show I64 0
    unfold I64; omega
theorem ix_lt {i k r c : Nat} (hi : i < r) (hk : k < c) : i * c + k < r * c := by
  have : (i + 1) * c ≤ r * c := Nat.mul_le_mul_right c hi
  rw [Nat.succ_mul] at this
  omega
theorem div_lt' {x r c : Nat} (h : x < r * c) : x / c < r := Nat.div_lt_of_lt_mul (by rw [Nat.mul_comm]; exact h)
theorem mod_lt' {x r c : Nat} (h : x < r * c) : x % c < c := Nat.mod_lt x (Nat.pos_of_ne_zero (by rintro rfl; simp at h))

theorem wrap_small {n : Nat} (h : n ≤ 1000000) : wrap64 (n : Int) = (n : Int) := by unfold wrap64; omega
theorem pq_small {p q i c : Nat} (h1 : p ≤ 144) (hi : i < c) (hc : c ≤ 12) (hq : p + i = q) : wrap64 (p : Int) = (p : Int) ∧ wrap64 (q : Int) = (q : Int) := ⟨wrap_small (by omega), wrap_small (by omega)⟩
set_option maxRecDepth 100000 in
theorem turn1_is {W : World} {mb : Nat} {a : Option Addr} {k r c : Nat} {zs : List Int} {B : Nat} (hm : Blk W mb #[.int .i64 r, .int .i64 c, .slice a zs.length k] 78) (hz : MI B W a k zs) (hl : zs.length = r * c) (hr : r ≤ 12) (hc : c ≤ 12) (i j : Nat) (hi : i < c) (hj : j < r) :
    Calls Tryz.prog 186 #[.int .i64 i, .int .i64 j, .pointer (some ⟨mb, 0, none⟩)] W fun e w' => e = .returned (.int .i64 (zs.getD (j * c + i) 0)) ∧ W = w' := by
  have hx := ix_lt hj hi
  obtain ⟨x, rfl, hcell, _⟩ := hz.at (j * c + i) (by omega)
  have hv : zs[j * c + i] = zs.getD (j * c + i) 0 := by rw [List.getD_eq_getElem?_getD, List.getElem?_eq_getElem (by omega)]; rfl
  rw [hv] at hcell
  clear hv
  have c0 := hm.cell
  generalize zs.getD (j * c + i) 0 = z at *
  obtain ⟨n, hn⟩ : ∃ n, zs.length = n := ⟨_, rfl⟩
  rw [hn] at c0 hl
  have h1 : j * c ≤ 144 := Nat.mul_le_mul (Nat.le_trans (Nat.le_of_lt hj) hr) hc
  obtain ⟨p, hp⟩ : ∃ p, j * c = p := ⟨_, rfl⟩
  obtain ⟨q, hq⟩ : ∃ q, p + i = q := ⟨_, rfl⟩
  rw [hp, hq] at hcell hx
  rw [hp] at h1
  have h3 : (q : Int) < (n : Int) := Int.ofNat_lt.2 (by rw [hl]; exact hx)
  have h2 : (0 : Int) ≤ (q : Int) := Int.natCast_nonneg q
  have e1 : (j : Int) * (c : Int) = (p : Int) := by rw [← hp, Int.natCast_mul]
  have e3 : (p : Int) + (i : Int) = (q : Int) := by rw [← hq, Int.natCast_add]
  obtain ⟨e2, e4⟩ := pq_small h1 hi hc hq
  clear hm hz hn hp hq hl hx h1
  go_enter Tryz.func186, Tryz.ntmps186
  go_wp2_with fail
  go_ret
  exact ⟨rfl, rfl⟩

theorem MO.eff {P : Nat → Prop} {B : Nat} {W W' : World} {x : Value} {m : Mt} (h : MO B W x m) (he : Eff P W W') (hp : ∀ k, P k → ¬ Ty W k 3) : MO B W' x m := by
  obtain ⟨a, c, h1, h2⟩ := h.ex
  exact ⟨⟨a, c, h1, h2.eff he hp⟩, h.r, h.c⟩
theorem eff_none {w w' : World} (h : Eff (fun _ => False) w w') : Below w.heap.size w w' := ⟨h.os, h.tape, h.output, h.size, fun k hk => h.block k hk (fun h => h)⟩
theorem upB {n : Nat} {w w' : World} (h : Below w.heap.size w w') (hn : n ≤ w.heap.size) : Below n w w' := h.mono hn

set_option maxHeartbeats 1000000 in
set_option maxRecDepth 100000 in
theorem turn_is {B : Nat} {W : World} {a : Option Addr} {k : Nat} {m : Mt} (hm : MI B W a k m.v) (hok : okMt m) :
    Calls Tryz.prog 131 #[.agg #[.int .i64 m.r, .int .i64 m.c, .slice a m.v.length k]] W fun e w' => ∃ v, e = .returned (.tuple #[v, .int .i64 0]) ∧ MO W.heap.size w' v (turnM m) ∧ Below W.heap.size W w' := by
  have hchk := mcheck_is m a k
  have h0 : chkMt m = 0 := if_pos hok
  rw [h0] at hchk
  obtain ⟨r, c, hr, hc, hr1, hr2, hc1, hc2, hlen⟩ := hok.nat
  obtain ⟨mr, mc, zs⟩ := m
  dsimp only at *
  subst hr hc
  have HT := Lib.hid (show turnM ⟨(r : Int), (c : Int), zs⟩ = ⟨(c : Int), (r : Int), (List.range (c * r)).map fun x => zs.getD ((x % r) * c + x / r) 0⟩ by simp [turnM, madeM, atM])
  obtain ⟨n, hn⟩ : ∃ n, zs.length = n := ⟨_, rfl⟩
  rw [hn] at hchk ⊢
  go_enter Tryz.func131, Tryz.ntmps131
  go_wp2_with fail
  have hB := below_allocs W [Obj.cells #[Value.int .i64 r, .int .i64 c, .slice a n k] 78, Obj.cells #[Value.int .i64 0, .int .i64 0, .slice none 0 0] 78]
  have g0 := blk_at W [Obj.cells #[Value.int .i64 r, .int .i64 c, .slice a n k] 78, Obj.cells #[Value.int .i64 0, .int .i64 0, .slice none 0 0] 78] 0 _ _ rfl
  have g1 := blk_at W [Obj.cells #[Value.int .i64 r, .int .i64 c, .slice a n k] 78, Obj.cells #[Value.int .i64 0, .int .i64 0, .slice none 0 0] 78] 1 _ _ rfl
  simp only [List.foldl_cons, List.foldl_nil, Nat.add_zero] at hB g0 g1
  refine (hchk _).mono ?_
  rintro e w2 ⟨rfl, hK⟩
  replace g0 := g0.keep hK
  replace g1 := g1.keep hK
  replace hB := more hB.1 hK
  have hm2 := hm.keep hB
  have c0 := g0.cell
  have c1 := g1.cell
  have f1 := g1.frozen
  clear hK hchk
  go_wp2_with fail
  clear c0
  refine (made_is (w0 := w2) (fun _ => False) (fun _ h => h.elim) 186 (enters_of Tryz.func186 (by kernel_rfl) rfl) #[.pointer (some ⟨W.heap.size, 0, none⟩)] c r (c * r) rfl ⟨hc1, hc2⟩ ⟨hr1, hr2⟩ (fun x => zs.getD ((x % r) * c + x / r) 0)
    (fun _ W' => Below w2.heap.size w2 W') (fun _ W1 W2 h1 h2 => h1.trans h2) (fun pre x W1 hx hj hs => ?_) (Below.refl _ _)).mono ?_
  · refine (turn1_is (by rw [hn]; exact g0.keep hj) (hm2.keep hj) hlen hr2 hc2 (x / r) (x % r) (div_lt' hx) (mod_lt' hx)).mono ?_
    rintro e w3 ⟨rfl, rfl⟩
    exact ⟨rfl, hj, Eff.refl _ _⟩
  · rintro e w3 ⟨v, rfl, hrow, hj, hE⟩
    obtain ⟨gv, cv, rfl⟩ := Joins.ownsRow_form hrow (by simpa using Nat.mul_pos hc1 hr1)
    have hmo := mo_of_row (r := c) (c := r) hrow (Nat.mul_pos hc1 hr1) (Nat.le_trans (Nat.mul_le_mul hc2 hr2) (by decide)) (fun x _ => getD_i64 hm.rng _) (by omega) (by omega)
    have g3 := g1.below hj g1.lt
    have hB3 := more hB hj
    have hsz := hB.size
    clear hrow hE hj g0 g1 c1 f1 hm2
    go_wp2_with ((with_reducible refine at_st (p := 2) (q := 16) rfl ?_); refine ev_store rfl 78 _ _ rfl rfl g3 0 rfl rfl [.int .i64 c, .int .i64 r, .slice (some ⟨gv, 0, none⟩) (c * r) cv] rfl (by kernel_rfl) rfl rfl #[.int .i64 c, .int .i64 r, .slice (some ⟨gv, 0, none⟩) (c * r) cv] rfl ?_; intro w4 g4 ef hz4)
    have hmo4 := (hmo.eff ef (fun k hk ht => by subst hk; exact absurd (ht.inj g3.ty) (by decide))).mono hsz
    have hB4 := ef.below hB3 (by rintro k rfl; omega)
    refine bodyPost_ret (results_ct (g := W.heap.size + 1) (cs := #[.int .i64 c, .int .i64 r, .slice (some ⟨gv, 0, none⟩) (c * r) cv]) rfl _ _ rfl g4 Tryz.underlying78 rfl (by kernel_rfl)) rfl ?_
    exact ⟨_, rfl, by rw [HT.out]; exact hmo4, hB4⟩

def diagM (l : List Int) : Mt := madeM l.length l.length fun i k => if i = k then l.getD i 0 else 0
set_option maxRecDepth 100000 in
theorem diag1_is {W : World} {mb : Nat} {a : Option Addr} {k n : Nat} {zs : List Int} {B : Nat} (hm : Blk W mb #[.slice a zs.length k] 22) (hz : MI B W a k zs) (hl : zs.length = n) (hn : n ≤ 12) (i j : Nat) (hi : i < n) (hj : j < n) :
    Calls Tryz.prog 199 #[.int .i64 i, .int .i64 j, .pointer (some ⟨mb, 0, none⟩)] W fun e w' => e = .returned (.int .i64 (if i = j then zs.getD i 0 else 0)) ∧ W = w' := by
  by_cases he : i = j
  · subst he
    obtain ⟨x, rfl, hcell, hr9⟩ := hz.at i (by omega)
    clear hr9
    have hv : zs[i] = zs.getD i 0 := by rw [List.getD_eq_getElem?_getD, List.getElem?_eq_getElem (by omega)]; rfl
    rw [hv] at hcell
    rw [if_pos rfl]
    clear hv
    have c0 := hm.cell
    generalize zs.getD i 0 = z at *
    rw [hl] at c0
    have h2 : (0 : Int) ≤ (i : Int) := Int.natCast_nonneg i
    have h3 : (i : Int) < (n : Int) := Int.ofNat_lt.2 hi
    clear hm hz hl hj
    go_enter Tryz.func199, Tryz.ntmps199
    go_wp2_with fail
    go_ret
    exact ⟨rfl, rfl⟩
  · rw [if_neg he]
    have h4 : ((i : Int) == (j : Int)) = false := by simp; omega
    have h5 : ¬ ((i : Int) = (j : Int)) := by omega
    clear hm hz hl hi hj
    go_enter Tryz.func199, Tryz.ntmps199
    go_wp2_with fail
    go_ret
    exact ⟨rfl, rfl⟩

theorem diag_val (zs : List Int) (n x : Nat) (h : ∀ z ∈ zs, I64 z) : I64 (if x / n = x % n then zs.getD (x / n) 0 else 0) := by
  split
  · exact getD_i64 h _
  · unfold I64; omega
set_option maxHeartbeats 1000000 in
set_option maxRecDepth 100000 in
theorem diag_is {B : Nat} {W : World} {a : Option Addr} {k : Nat} {zs : List Int} (hm : MI B W a k zs) (h1 : 1 ≤ zs.length) (h12 : zs.length ≤ 12) :
    Calls Tryz.prog 154 #[.slice a zs.length k] W fun e w' => ∃ v, e = .returned (.tuple #[v, .int .i64 0]) ∧ MO W.heap.size w' v (diagM zs) ∧ Below W.heap.size W w' := by
  obtain ⟨n, hn⟩ : ∃ n, zs.length = n := ⟨_, rfl⟩
  have HT := Lib.hid (show diagM zs = ⟨(n : Int), (n : Int), (List.range (n * n)).map fun x => if x / n = x % n then zs.getD (x / n) 0 else 0⟩ by unfold diagM madeM; rw [hn])
  rw [hn] at h1 h12 ⊢
  have hd := decide_eq_true (show okD (n : Int) from ⟨by omega, by omega⟩)
  go_enter Tryz.func154, Tryz.ntmps154
  go_wp2_with fail
  refine (sized_is n _).mono ?_
  rintro e w1 ⟨rfl, hw⟩
  rw [hd]
  have hB := below_allocs W [Obj.cells #[Value.slice a n k] 22, Obj.cells #[Value.int .i64 0, .int .i64 0, .slice none 0 0] 78]
  have g0 := blk_at W [Obj.cells #[Value.slice a n k] 22, Obj.cells #[Value.int .i64 0, .int .i64 0, .slice none 0 0] 78] 0 _ _ rfl
  have g1 := blk_at W [Obj.cells #[Value.slice a n k] 22, Obj.cells #[Value.int .i64 0, .int .i64 0, .slice none 0 0] 78] 1 _ _ rfl
  simp only [List.foldl_cons, List.foldl_nil, Nat.add_zero] at hB g0 g1
  rw [hw] at hB g0 g1
  replace hB := hB.1
  have hm2 := hm.keep hB
  have c0 := g0.cell
  have c1 := g1.cell
  have f1 := g1.frozen
  clear hw hd
  go_wp2_with fail
  clear c0
  refine (made_is (w0 := w1) (fun _ => False) (fun _ h => h.elim) 199 (enters_of Tryz.func199 (by kernel_rfl) rfl) #[.pointer (some ⟨W.heap.size, 0, none⟩)] n n (n * n) rfl ⟨h1, h12⟩ ⟨h1, h12⟩ (fun x => if x / n = x % n then zs.getD (x / n) 0 else 0)
    (fun _ W' => Below w1.heap.size w1 W') (fun _ W1 W2 h1 h2 => h1.trans h2) (fun pre x W1 hx hj hs => ?_) (Below.refl _ _)).mono ?_
  · refine (diag1_is (by rw [hn]; exact g0.keep hj) (hm2.keep hj) hn h12 (x / n) (x % n) (div_lt' hx) (mod_lt' hx)).mono ?_
    rintro e w3 ⟨rfl, rfl⟩
    exact ⟨rfl, hj, Eff.refl _ _⟩
  · rintro e w3 ⟨v, rfl, hrow, hj, hE⟩
    obtain ⟨gv, cv, rfl⟩ := Joins.ownsRow_form hrow (by simpa using Nat.mul_pos h1 h1)
    have hmo := mo_of_row (r := n) (c := n) hrow (Nat.mul_pos h1 h1) (Nat.le_trans (Nat.mul_le_mul h12 h12) (by decide)) (fun x _ => diag_val zs n x hm.rng) (by omega) (by omega)
    have g3 := g1.below hj g1.lt
    have hB3 := more hB hj
    have hsz := hB.size
    clear hrow hE hj g0 g1 c1 f1 hm2
    go_wp2_with ((with_reducible refine at_st (p := 2) (q := 14) rfl ?_); refine ev_store rfl 78 _ _ rfl rfl g3 0 rfl rfl [.int .i64 n, .int .i64 n, .slice (some ⟨gv, 0, none⟩) (n * n) cv] rfl (by kernel_rfl) rfl rfl #[.int .i64 n, .int .i64 n, .slice (some ⟨gv, 0, none⟩) (n * n) cv] rfl ?_; intro w4 g4 ef hz4)
    have hmo4 := (hmo.eff ef (fun k hk ht => by subst hk; exact absurd (ht.inj g3.ty) (by decide))).mono hsz
    have hB4 := ef.below hB3 (by rintro k rfl; omega)
    refine bodyPost_ret (results_ct (g := W.heap.size + 1) (cs := #[.int .i64 n, .int .i64 n, .slice (some ⟨gv, 0, none⟩) (n * n) cv]) rfl _ _ rfl g4 Tryz.underlying78 rfl (by kernel_rfl)) rfl ?_
    exact ⟨_, rfl, by rw [HT.out]; exact hmo4, hB4⟩

/-- n numbers, the first k of which are one. -/
def onesA (n k : Nat) : Array Value := ((List.range n).map fun i => Value.int .i64 (if i < k then 4294967296 else 0)).toArray
theorem onesA_set (n k : Nat) (hk : k < n) : (onesA n k).setIfInBounds k (.int .i64 4294967296) = onesA n (k + 1) := by
  unfold onesA
  rw [List.setIfInBounds_toArray]
  congr 1
  refine List.ext_getElem (by simp) fun j h1 h2 => ?_
  rw [List.getElem_set]
  simp only [List.getElem_map, List.getElem_range]
  by_cases e : k = j
  · rw [if_pos e, if_pos (by omega)]
  · rw [if_neg e]
    by_cases e2 : j < k
    · rw [if_pos e2, if_pos (by omega)]
    · rw [if_neg e2, if_neg (by omega)]
theorem onesA_zero (n : Nat) : onesA n 0 = ((List.replicate n (0 : Int)).map fun z => Value.int .i64 z).toArray := by
  simp [onesA, List.map_const']
theorem onesA_all (n : Nat) : onesA n n = ((List.replicate n (4294967296 : Int)).map fun z => Value.int .i64 z).toArray := by
  unfold onesA
  congr 1
  refine List.ext_getElem (by simp) fun j h1 h2 => ?_
  rw [List.length_map, List.length_range] at h1
  simp only [List.getElem_map, List.getElem_range, List.getElem_replicate]
  rw [if_pos h1]
/-- 'make([]int, n)' in one way. -/
theorem make_ints {ops : Array Oper} {rest : List Oper} {o : Oper} {a : Act} {Q : Exit → Act → World → Prop} (w : World) (hg : o.guard = none) (s c : Operand) (hop : o.op = Op.makeSlice 22 s c) (n : Nat)
    (hl : a.eval s = .int .i64 n) (hc : a.eval c = .int .i64 n) (hn : n ≤ 1000)
    (hK : ∀ w', Blk w' w.heap.size ((List.replicate n (0 : Int)).map fun z => Value.int .i64 z).toArray 3 → Below w.heap.size w w' → wpList Tryz.prog ops Q rest (a.put o.dst (.slice (some ⟨w.heap.size, 0, none⟩) n n)) w') :
    wpList Tryz.prog ops Q (o :: rest) a w := by
  obtain ⟨i0, hi, hz0, hz1, hz2⟩ : ∃ i, Tryz.prog.info? 3 = some i ∧ i.zero = some (.int .i64 0) ∧ i.size = 1 ∧ i.bytes = 8 := info_parts (by kernel_rfl)
  refine wpList_make_full w hg s c 22 hop w.heap.size 3 i0 (.int .i64 0) 1 Tryz.underlying22 hi hz0 hz1 .i64 .i64 n n n hl hc rfl rfl (by rw [hz2]; omega) (by unfold maxLen; omega) (Nat.le_refl _) (fun w' ho hgr => ?_)
  refine hK w' ?_ ⟨hgr.os, hgr.tape, hgr.output, hgr.size, fun k hk => hgr.block k hk (by simp)⟩
  obtain ⟨_, h1 | ⟨g, cap, cur, hv, hB, hh, _, _, hs, ht⟩⟩ := ho
  · cases h1.1
  · cases hv
    have hcur : cur = ((List.replicate n (0 : Int)).map fun z => Value.int .i64 z).toArray := by
      have e : (Value.int .i64 0).cells = #[Value.int .i64 0] := rfl
      rw [e, toList_madeCells_one] at ht
      have hl2 : cur.toList = List.replicate n (Value.int .i64 0) := by
        rw [List.take_of_length_le (by simp [hs])] at ht
        rw [ht]; simp
      refine Array.ext' ?_
      rw [hl2]
      simp
    rw [hcur] at hh
    exact hh
end Go.Proofs.YtnofoommindocaaGreat.Base
