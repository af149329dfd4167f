/- model.of: the iterator's contract. -/
import Derived.Test.YtagakcnhhhlolaaRowA
import Derived.Test.YtagakcnhhhlolaaTailIn
import Derived.RangeFuncNested
import Derived.RangeFuncBound
import Derived.RangeFuncCalls
import Derived.RangeFuncLeaves
import Derived.RangeFuncFrom
import Derived.Shelf.Abstract
import Derived.Shelf.RegionOpen
import Derived.OwnWalkIn
import Derived.TacticsInMore
import Derived.LoopNIn
import Derived.LoopIn
import Derived.RegionIn
import Derived.BigRegionIn
namespace Go.Proofs.Ytagakcnhhhlolaa.Base
open Go.RowKit Go.Shelf Go.ChangeShapes Go.WideShapes Go.Deep
set_option linter.unusedVariables false
set_option linter.unusedSimpArgs false
attribute [local go_sem] Oper.semAt_some

/-- What lies below block B is as it was, but for some blocks. -/
structure BelowX (B : Nat) (ex : Nat → Prop) (w w' : World) : Prop where
  os : w'.os = w.os
  tape : w'.tape = w.tape
  output : w'.output = w.output
  size : w.heap.size ≤ w'.heap.size
  block : ∀ k, k < B → ¬ ex k → w'.heap[k]? = w.heap[k]?
theorem below_x {B : Nat} {w w' : World} (h : Below B w w') (ex : Nat → Prop) : BelowX B ex w w' := ⟨h.os, h.tape, h.output, h.size, fun k hk _ => h.block k hk⟩
theorem BelowX.refl (B : Nat) (ex : Nat → Prop) (w : World) : BelowX B ex w w := ⟨rfl, rfl, rfl, Nat.le_refl _, fun _ _ _ => rfl⟩
theorem BelowX.trans {B : Nat} {ex : Nat → Prop} {a b c : World} (h : BelowX B ex a b) (k : BelowX B ex b c) : BelowX B ex a c :=
  ⟨k.os.trans h.os, k.tape.trans h.tape, k.output.trans h.output, Nat.le_trans h.size k.size, fun i hi he => (k.block i hi he).trans (h.block i hi he)⟩
theorem BelowX.cell {B : Nat} {ex : Nat → Prop} {w w' : World} (h : BelowX B ex w w') {p : Addr} (hp : p.block < B) (he : ¬ ex p.block) : w'.cell? p = w.cell? p := World.cell?_of_block (w := w) (h.block p.block hp he)
theorem BelowX.alloc {B : Nat} {ex : Nat → Prop} {a w : World} (h : BelowX B ex a w) (hB : B ≤ w.heap.size) (o : Obj) : BelowX B ex a (w.alloc o) := h.trans (below_x ((Below.refl B w).alloc hB o) ex)
theorem BelowX.setCell {B : Nat} {ex : Nat → Prop} {a w : World} (h : BelowX B ex a w) {p : Addr} (hp : B ≤ p.block ∨ ex p.block) (u : Value) : BelowX B ex a (w.setCell p u) :=
  h.trans ⟨rfl, rfl, rfl, by simp [World.setCell], fun k hk he => Below.heap_setCell w p u k (fun e => by
    rcases hp with hp | hp
    · omega
    · exact he (by rw [e]; exact hp))⟩
theorem belowX_t {B : Nat} {ex : Nat → Prop} {A C D : World} (h : BelowX B ex A C) (k : BelowX B ex C D) : BelowX B ex A D := h.trans k
theorem belowX_b {B : Nat} {ex : Nat → Prop} {w : World} (hn : B ≤ w.heap.size) (W : World) (l : Nat) (o o' : Obj) (hl : w.heap.size ≤ l) (h : W.heap[l]? = some o) (h1 : o.isCells = false) (h2 : o.isWalk = false) : BelowX B ex W (W.putObj l o') :=
  below_x (belowK_b hn W l o o' hl h h1 h2) ex
theorem abides_alloc {β : Type} {B : Nat} {J : β → World → Prop} (h : AbidesFrom B J) (s : β) (W : World) (o : Obj) (hs : J s W) : J s (W.alloc o) :=
  h s W (W.alloc o) none hs (World.grownBy_alloc W o none) (fun r e => by cases e)

/-- A row that is handed on: its number, the row, where its list lies. -/
structure YR where
  i : Nat
  q : Rw
  a : Option Addr
  c : Nat
deriving Inhabited
def YR.enc (y : YR) : Array Value := #[.int .i64 y.i, .agg #[.int .i64 y.q.s, .slice y.a y.q.h.length y.c, .int .i64 y.q.r]]
/-- The rows lie at x as f tells. -/
structure MF (B : Nat) (W : World) (x : Addr) (n : Nat) (f : Nat → YR) : Prop where
  at_ : ∀ k, k < n → W.cell? (x.add (k * 3)) = some (.int .i64 (f k).q.s) ∧ W.cell? ⟨(x.add (k * 3)).block, (x.add (k * 3)).off + 1, none⟩ = some (.slice (f k).a (f k).q.h.length (f k).c) ∧
    W.cell? ⟨(x.add (k * 3)).block, (x.add (k * 3)).off + 2, none⟩ = some (.int .i64 (f k).q.r) ∧ MI B W (f k).a (f k).c (f k).q.h
  i : ∀ k, k < n → (f k).i = k
theorem MF.keep {B : Nat} {W W' : World} {x : Addr} {n : Nat} {f : Nat → YR} (h : MF B W x n f) (hb : KC W W') : MF B W' x n f :=
  ⟨fun k hk => by obtain ⟨h1, h2, h3, h4⟩ := h.at_ k hk; exact ⟨hb.cell h1, hb.cell h2, hb.cell h3, h4.kc hb⟩, h.i⟩
theorem MR.mf {B : Nat} {W : World} {x : Addr} {c : Nat} {qs : List Rw} (h : MR B W (some x) c qs) : ∃ f : Nat → YR, MF B W x qs.length f ∧ ∀ k, (hk : k < qs.length) → (f k).q = qs[k] := by
  have each : ∀ k, k < qs.length → ∃ y : YR, (W.cell? (x.add (k * 3)) = some (.int .i64 y.q.s) ∧ W.cell? ⟨(x.add (k * 3)).block, (x.add (k * 3)).off + 1, none⟩ = some (.slice y.a y.q.h.length y.c) ∧
      W.cell? ⟨(x.add (k * 3)).block, (x.add (k * 3)).off + 2, none⟩ = some (.int .i64 y.q.r) ∧ MI B W y.a y.c y.q.h) ∧ y.i = k ∧ some y.q = qs[k]? := by
    intro k hk
    obtain ⟨x', hx', hr⟩ := h.at_ k hk
    cases hx'
    obtain ⟨a, c', h1, h2, h3, h4⟩ := hr.ex
    exact ⟨⟨k, qs[k], a, c'⟩, ⟨h1, h2, h3, h4⟩, rfl, by simp [hk]⟩
  obtain ⟨f, hf⟩ := choose_lt each
  refine ⟨f, ⟨fun k hk => (hf k hk).1, fun k hk => (hf k hk).2.1⟩, fun k hk => ?_⟩
  have := (hf k hk).2.2
  rw [List.getElem?_eq_getElem hk] at this
  exact Option.some.inj this
/-- What is handed on ahead of the k-th row. -/
def xsOf {α : Type} (val : α → YR) (f : Nat → α) (s : Int) (k : Nat) : List α := ((List.range k).map f).filter fun y => decide ((val y).q.s = s)
section
variable {α : Type} (val : α → YR) (f : Nat → α) (s : Int)
theorem xsOf_succ (k : Nat) : xsOf val f s (k + 1) = if (val (f k)).q.s = s then xsOf val f s k ++ [f k] else xsOf val f s k := by
  unfold xsOf
  rw [List.range_succ, List.map_append, List.filter_append]
  by_cases e : (val (f k)).q.s = s <;> simp [List.filter_cons, e]
theorem xsOf_mono {k n : Nat} (h : k ≤ n) : xsOf val f s k <+: xsOf val f s n := by
  induction n with
  | zero => have : k = 0 := by omega
            subst this; exact List.prefix_refl _
  | succ n ih =>
    by_cases e : k = n + 1
    · subst e; exact List.prefix_refl _
    · refine (ih (by omega)).trans ?_
      rw [xsOf_succ]
      split
      · exact List.prefix_append _ _
      · exact List.prefix_refl _
theorem xsOf_lt {k n : Nat} (h : k < n) (he : (val (f k)).q.s = s) : (xsOf val f s k).length < (xsOf val f s n).length := by
  have := (xsOf_mono val f s (show k + 1 ≤ n by omega)).length_le
  rw [xsOf_succ, if_pos he] at this
  simp at this
  omega
theorem xsOf_len (k : Nat) : (xsOf val f s k).length ≤ k := by
  have := List.length_filter_le (fun y => decide ((val y).q.s = s)) ((List.range k).map f)
  simpa [xsOf] using this
theorem xsOf_map {qs : List Rw} (h : ∀ k, (hk : k < qs.length) → (val (f k)).q = qs[k]) : (xsOf val f s qs.length).map (fun y => (val y).q) = rowsS s qs := by
  have hm : ((List.range qs.length).map f).map (fun y => (val y).q) = qs := by
    refine List.ext_getElem (by simp) fun k h1 h2 => ?_
    simp at h1
    simp [h k h1]
  conv => rhs; rw [← hm]
  unfold xsOf rowsS
  generalize (List.range qs.length).map f = l
  induction l with
  | nil => rfl
  | cons y l ih =>
    by_cases e : (val y).q.s = s
    · simp [List.filter_cons, e]; simpa using ih
    · simp [List.filter_cons, e]; simpa using ih
end

set_option maxHeartbeats 4000000 in
set_option maxRecDepth 100000 in
theorem of1_in {α : Type} (val : α → YR) (ex : Nat → Prop) (F : Fence) (hF : Base.Free F) (n : Nat) (hro : F.round = none) (hn : 1 ≤ n) (l b1 b2 n₀ : Nat) (aR : Option Addr) (cR N : Nat) (sn : Int) (f : Nat → α) (J Jx : List α → World → Prop)
    (hY : ∀ pre x W, J pre W → pre.length < (xsOf val f sn N).length → YieldAt F (n - 1) Try.prog l (val x).enc W fun e W' =>
      (e = .returned (.bool true) ∧ J (pre ++ [x]) W' ∧ BelowX n₀ ex W W') ∨ (e = .returned (.bool false) ∧ Jx (pre ++ [x]) W'))
    (hJa : ∀ pre W o, J pre W → J pre (W.alloc o)) (W : World) (hb1 : W.cell? ⟨b1, 6, none⟩ = some (.slice aR N cR)) (hl1 : b1 < n₀ ∧ ¬ ex b1)
    (hb2 : W.cell? ⟨b2, 0, none⟩ = some (.int .i64 sn)) (hl2 : b2 < n₀ ∧ ¬ ex b2) (hn0 : n₀ ≤ W.heap.size) (hN : N ≤ 1000)
    (hM : 0 < N → ∃ x, aR = some x ∧ x.block < n₀ ∧ ¬ ex x.block ∧ MF 0 W x N (fun k => val (f k))) (h0 : J [] W) :
    CallsIn F n Try.prog 83 #[.func (.yield l) #[] #[], .pointer (some ⟨b1, 0, none⟩), .pointer (some ⟨b2, 0, none⟩)] W fun e W' => (∃ v, e = .returned v) ∧
      ((∃ ys, ys = xsOf val f sn N ∧ J ys W') ∨ (∃ pre, pre <+: xsOf val f sn N ∧ Jx pre W')) := by
  refine callsIn_of_wp Try.func83 rfl (hF.fn 83) ?_ hro
  simp only [Try.ntmps83, List.size_toArray, List.length_cons, List.length_nil, Nat.reduceAdd, Nat.reduceSub, Array.replicate_succ, Array.replicate_zero, List.push_toArray, List.append_toArray, List.nil_append, List.cons_append]
  gi_wp2
  gi_loopw [9] (fun v wr => ∃ k : Nat, k ≤ N ∧ v = .int .i64 k ∧ J (xsOf val f sn k) wr ∧ BelowX n₀ ex W wr) (fun v wr => N - (intOf v).toNat)
  case atStart => exact ⟨0, Nat.zero_le _, rfl, h0, .refl _ _ _⟩
  case round =>
    obtain ⟨k, hk, rfl, hJ, hB⟩ := hrel
    by_cases hlt : k < N
    · have hlt' : (k : Int) < (N : Int) := by omega
      have hk0 : (0 : Int) ≤ (k : Int) := by omega
      obtain ⟨x, rfl, hxb, hxe, hm⟩ := hM (by omega)
      obtain ⟨y0, y1, y2, _⟩ := hm.at_ k hlt
      have hi : (val (f k)).i = k := hm.i k hlt
      replace y0 := (hB.cell (p := x.add (k * 3)) (by rw [add_block]; exact hxb) (by rw [add_block]; exact hxe)).trans y0
      replace y1 := (hB.cell (p := ⟨(x.add (k * 3)).block, (x.add (k * 3)).off + 1, none⟩) (by rw [add_block]; exact hxb) (by rw [add_block]; exact hxe)).trans y1
      replace y2 := (hB.cell (p := ⟨(x.add (k * 3)).block, (x.add (k * 3)).off + 2, none⟩) (by rw [add_block]; exact hxb) (by rw [add_block]; exact hxe)).trans y2
      have c2 := (hB.cell (p := ⟨b2, 0, none⟩) hl2.1 hl2.2).trans hb2
      have hsz := hB.size
      have hb2l : b2 < wr.heap.size := by omega
      have hxs := xsOf_succ val f sn k
      have hBa := Lib.hid (fun o => hB.alloc (by omega : n₀ ≤ wr.heap.size) o)
      by_cases g : (val (f k)).q.s = sn
      · rw [if_pos g] at hxs
        have HX := Lib.hid hxs
        have hle := Lib.hid (xsOf_mono val f sn (show k + 1 ≤ N by omega))
        obtain ⟨fn, tmps, assign, body, hy, hR⟩ := hY (xsOf val f sn k) (f k) (wr.alloc (.cells #[.int .i64 (val (f k)).q.s, .slice (val (f k)).a (val (f k)).q.h.length (val (f k)).c, .int .i64 (val (f k)).q.r] 41)) (hJa _ _ _ hJ) (xsOf_lt val f sn hlt g)
        unfold YR.enc at hy
        rw [hi, g] at hy
        rw [g] at y0 hR
        clear hxs hY hJ hB hM hm hi hb1 hb2
        generalize (val (f k)).q.h.length = nh at *
        generalize (val (f k)).q.r = r at *
        generalize (val (f k)).a = aH at *
        generalize (val (f k)).c = cH at *
        clear g
        gi_wp2
        refine hR.mono ?_
        rintro e W3 (⟨rfl, hJ3, hk3⟩ | ⟨rfl, hJx3⟩)
        · gi_wp2
          go_roundw
          case rel => exact ⟨k + 1, by omega, by go_num, by rw [HX.out]; exact hJ3, (hBa.out _).trans hk3⟩
          case measure => simp [intOf]; omega
        · gi_wp2
          refine bodyPost_ret (results_none rfl _ _ _) rfl ?_
          exact ⟨⟨_, rfl⟩, .inr ⟨_, by rw [← HX.out]; exact hle.out, hJx3⟩⟩
      · rw [if_neg g] at hxs
        have HX := Lib.hid hxs
        have HJ := Lib.hid (fun o => hJa _ _ o hJ)
        have ge : (((val (f k)).q.s : Int) == sn) = false := by simp; exact g
        clear hxs hY hJ hB hM hm hi hb1 hb2
        generalize (val (f k)).q.h.length = nh at *
        generalize (val (f k)).q.r = r at *
        generalize (val (f k)).q.s = s at *
        generalize (val (f k)).a = aH at *
        generalize (val (f k)).c = cH at *
        gi_wp2
        refine ⟨(fun f h => by cases h), ?_⟩
        gi_wp2
        go_roundw
        case rel => exact ⟨k + 1, by omega, by go_num, by rw [HX.out]; exact HJ.out _, hBa.out _⟩
        case measure => simp [intOf]; omega
    · have hge : ¬ (k : Int) < (N : Int) := by omega
      have hkN : k = N := by omega
      gi_wp2
      go_end0
      exact ⟨⟨_, rfl⟩, .inl (by rw [← hkN]; exact hJ)⟩

end Go.Proofs.Ytagakcnhhhlolaa.Base
