/- Lists of ints of one's own: what they keep; blocks that may change. No conditions. -/
import Derived.Test.YtnofoommindocaaGreatLst
import Derived.Test.YtnofoommindocaaGreatTailIn
import Derived.RangeFuncNested
import Derived.RangeFuncBound
import Derived.RangeFuncCalls
import Derived.RangeFuncLeaves
import Derived.RangeFuncFrom
import Derived.Shelf.Abstract
import Derived.Shelf.RegionOpen
import Derived.OwnWalkIn
import Derived.TacticsInMore
import Derived.LoopNIn
import Derived.LoopIn
import Derived.RegionIn
import Derived.BigRegionIn
namespace Go.Proofs.YtnofoommindocaaGreat.Base
open Go.RowKit Go.Shelf Go.ChangeShapes Go.WideShapes Go.Deep
set_option linter.unusedVariables false
set_option linter.unusedSimpArgs false

/-- What was a block of cells is as it was. -/
structure KC (W W' : World) : Prop where
  size : W.heap.size ≤ W'.heap.size
  cells : ∀ (k : Nat) (cs : Array Value) t q, W.heap[k]? = some (Obj.cells cs t q) → W'.heap[k]? = some (Obj.cells cs t q)
theorem KC.refl (W : World) : KC W W := ⟨Nat.le_refl _, fun _ _ _ _ h => h⟩
theorem KC.trans {W W' W2 : World} (h : KC W W') (k : KC W' W2) : KC W W2 := ⟨Nat.le_trans h.size k.size, fun a b c d e => k.cells _ _ _ _ (h.cells _ _ _ _ e)⟩
theorem kc_of {W W' : World} (h : Below W.heap.size W W') : KC W W' := ⟨h.size, fun k cs t q hk => (h.block k (Array.getElem?_eq_some_iff.1 hk).1).trans hk⟩
theorem kc_grown {W W' : World} {row : Option Nat} (hg : W.grownBy W' row) (hr : ∀ r, row = some r → ∃ o : Obj, W.heap[r]? = some o ∧ o.isCells = false) : KC W W' :=
  ⟨hg.size, fun k cs t q hk => (hg.block k (Array.getElem?_eq_some_iff.1 hk).1 (fun e => by
    obtain ⟨o, ho, hc⟩ := hr k e.symm
    rw [hk] at ho
    cases ho
    cases hc)).trans hk⟩
theorem KC.cell {W W' : World} (h : KC W W') {y : Addr} {v : Value} (hv : W.cell? y = some v) : W'.cell? y = some v := by
  unfold World.cell? at hv ⊢
  split at hv
  · rename_i cs t q hb
    rw [h.cells _ _ _ _ hb]
    exact hv
  · cases hv
theorem KC.frozen {W W' : World} (h : KC W W') {y : Addr} {v : Value} (hv : W.cell? y = some v) : W'.frozen? y = W.frozen? y := by
  unfold World.cell? at hv
  split at hv
  · rename_i cs t q hb
    unfold World.frozen?
    rw [hb, h.cells _ _ _ _ hb]
  · cases hv
theorem MI.kc {B : Nat} {W W' : World} {a : Option Addr} {c : Nat} {zs : List Int} (h : MI B W a c zs) (hb : KC W W') : MI B W' a c zs := by
  refine ⟨fun k hk => ?_, h.rng, h.len, h.lo, h.nn, h.cap⟩
  obtain ⟨x, hx, hc⟩ := h.cell k hk
  exact ⟨x, hx, hb.cell hc⟩
theorem WI.kc {B : Nat} {W W' : World} {a : Option Addr} {n : Nat} (h : WI B W a n) (hb : KC W W') : WI B W' a n := by
  refine ⟨fun k hk => ?_, h.len⟩
  obtain ⟨x, hx, ⟨u, hu⟩, hf, hB⟩ := h.at_ k hk
  exact ⟨x, hx, ⟨u, hb.cell hu⟩, (hb.frozen hu).trans hf, hB⟩
theorem IntsB.kc {W W' : World} {b : Nat} (h : IntsB W b) (hb : KC W W') : IntsB W' b := by
  obtain ⟨cs, q, h⟩ := h
  exact ⟨cs, q, hb.cells _ _ _ _ h⟩
theorem WJ.kc {B : Nat} {W W' : World} {a : Option Addr} {n : Nat} (h : WJ B W a n) (hb : KC W W') : WJ B W' a n := ⟨h.wi.kc hb, fun x hx hn => (h.ty x hx hn).kc hb⟩
theorem LI.kc {B : Nat} {W W' : World} {a : Option Addr} {c : Nat} {zs : List Int} (h : LI B W a c zs) (hb : KC W W') : LI B W' a c zs := ⟨h.mi.kc hb, h.wj.kc hb⟩
theorem Blk.kc {W W' : World} {b : Nat} {cs : Array Value} {t : TypeId} (h : Blk W b cs t) (hb : KC W W') : Blk W' b cs t := hb.cells _ _ _ _ h
theorem ownsRow_kc {W W' : World} {B : Nat} {e : TypeId} {size : Nat} {v : Value} {n : Nat} {xs : List Value} (h : W.ownsRow B e size v n xs) (hb : KC W W') : W'.ownsRow B e size v n xs := by
  refine ⟨h.1, ?_⟩
  rcases h.2 with hn | ⟨g, cap, cur, rfl, hB, hgg, rest⟩
  · exact .inl hn
  · exact .inr ⟨g, cap, cur, rfl, hB, hb.cells _ _ _ _ hgg, rest⟩

/-- 'append([]int{}, zs...)' in one way. -/
theorem app_copy {ops : Array Oper} {rest : List Oper} {o : Oper} {a : Act} {Q : Exit → Act → World → Prop} {w : World} {B B' g0 : Nat}
    (hg : o.guard = none) (s x : Operand) (hop : o.op = Op.call { callee := Callee.builtin Builtin.append, args := #[s, x], argTypes := #[22, 22] })
    (hB : B ≤ g0) (h0 : Blk w g0 #[] 3) (hs : a.eval s = .slice (some ⟨g0, 0, none⟩) 0 0) {ao : Option Addr} {c : Nat} {zs : List Int} (hm : MI B' w ao c zs) (n : Nat) (hn : zs.length = n)
    (hx : a.eval x = .slice ao n c) (hlen : n ≤ 100000)
    (hK : ∀ g cap w', OI B w' g cap zs → w.grownBy w' (some g0) → wpList Tryz.prog ops Q rest (a.put o.dst (.slice (some ⟨g, 0, none⟩) n cap)) w') :
    wpList Tryz.prog ops Q (o :: rest) a w := by
  subst hn
  obtain ⟨i0, hi, hz0, hz1, hz2⟩ : ∃ i, Tryz.prog.info? 3 = some i ∧ i.zero = some (.int .i64 0) ∧ i.size = 1 ∧ i.bytes = 8 := info_parts (by kernel_rfl)
  have hE : w.ownsRow B 3 1 (.slice (some ⟨g0, 0, none⟩) 0 0) 0 [] := ⟨by simp, .inr ⟨g0, 0, #[], rfl, hB, h0, Nat.le_refl _, by simp [maxLen], by simp, by simp⟩⟩
  have hcs : ∀ ad, ao = some ad → ∀ j u, (zs.map fun z => Value.int .i64 z)[j]? = some u → w.cell? (ad.add j) = some u := by
    intro ad ha j u hj
    have hjl : j < zs.length := by
      have := (List.getElem?_eq_some_iff.1 hj).1
      simpa using this
    obtain ⟨x, hx, hcx⟩ := hm.cell j hjl
    rw [ha] at hx
    cases hx
    rw [hcx]
    simp [List.getElem?_eq_getElem hjl] at hj
    rw [hj]
  by_cases h0z : zs = []
  · subst h0z
    refine wpList_append_fits_any w hg s x 22 hop B 3 i0 1 Tryz.underlying22 hi hz1 g0 0 0 [] hs hE ao 0 c [] hx rfl (fun e => ⟨rfl, hm.nn e⟩) (by intro ad _ j u hj; simp at hj) (by simp) (by omega) ?_
    intro w' ho hgr
    obtain ⟨hO, _⟩ := OI.of_row (v := .slice none 0 0) (zs := []) ho (by simp)
    exact hK _ _ _ hO hgr
  · have hpos : 0 < zs.length := List.length_pos_iff.2 h0z
    obtain ⟨ad, rfl, _⟩ := hm.cell 0 hpos
    refine wpList_append_own w hg s x 22 hop B 3 i0 _ 1 8 Tryz.underlying22 hi hz0 hz1 hz2 rfl (by decide) _ 0 [] hs hE ad zs.length c (zs.map fun z => Value.int .i64 z) hx (by simp) (hcs ad rfl) (ints_one zs) (by unfold maxLen; omega) (by omega) (by have := h0.lt; omega) ?_
    intro v' w' ho hgr _
    simp only [Nat.zero_add, List.nil_append] at ho
    obtain ⟨g, cap, rfl⟩ := Joins.ownsRow_form ho hpos
    obtain ⟨hO, _⟩ := OI.of_row (v := .slice none 0 0) ho hm.rng
    exact hK _ _ _ hO hgr


theorem cell_same {W W' : World} {y : Addr} (h : W'.heap[y.block]? = W.heap[y.block]?) : W'.cell? y = W.cell? y := World.cell?_of_block h
theorem LI.same {B : Nat} {W W' : World} {a : Option Addr} {c : Nat} {zs : List Int} (h : LI B W a c zs) (hb : ∀ x, a = some x → 0 < zs.length → W'.heap[x.block]? = W.heap[x.block]?) : LI B W' a c zs := by
  refine ⟨⟨fun k hk => ?_, h.mi.rng, h.mi.len, h.mi.lo, h.mi.nn, h.mi.cap⟩, ⟨fun k hk => ?_, h.wj.wi.len⟩, fun x hx hn => ?_⟩
  · obtain ⟨x, hx, hc⟩ := h.mi.cell k hk
    exact ⟨x, hx, (cell_same (by rw [add_block]; exact hb x hx (by omega))).trans hc⟩
  · obtain ⟨x, hx, ⟨u, hu⟩, hf, hB⟩ := h.wj.wi.at_ k hk
    have he : W'.heap[(x.add k).block]? = W.heap[(x.add k).block]? := by rw [add_block]; exact hb x hx (by omega)
    exact ⟨x, hx, ⟨u, (cell_same he).trans hu⟩, (World.frozen?_of_block he).trans hf, hB⟩
  · obtain ⟨cs, q, hc⟩ := h.wj.ty x hx hn
    exact ⟨cs, q, (hb x hx hn).trans hc⟩
theorem LI.grown {B : Nat} {W W' : World} {a : Option Addr} {c : Nat} {zs : List Int} (h : LI B W a c zs) {row : Option Nat} (hg : W.grownBy W' row) (hr : ∀ r, row = some r → ¬ IntsB W r) : LI B W' a c zs :=
  h.same fun x hx hn => hg.block _ (by obtain ⟨cs, q, hc⟩ := h.wj.ty x hx hn; exact (Array.getElem?_eq_some_iff.1 hc).1) (fun e => hr _ e.symm (h.wj.ty x hx hn))
theorem row_noInts {W : World} {B : Nat} {e : TypeId} {size : Nat} {v : Value} {n : Nat} {xs : List Value} (h : W.ownsRow B e size v n xs) (he : e ≠ 3) : ∀ r, v.ownBlock = some r → ¬ IntsB W r := by
  intro r hr
  rcases h.2 with ⟨rfl, _⟩ | ⟨g, cap, cur, rfl, hB, hgg, rest⟩
  · simp [Value.ownBlock] at hr
  · simp [Value.ownBlock] at hr
    subst hr
    rintro ⟨cs, q, hc⟩
    have := hgg.symm.trans hc
    simp at this
    exact he this.2.1

theorem blk_ne {W : World} {b b' : Nat} {cs cs' : Array Value} {t t' : TypeId} (h : Blk W b cs t) (h' : Blk W b' cs' t') (ht : t ≠ t') : b ≠ b' := by
  intro e
  subst e
  have := (show W.heap[b]? = _ from h).symm.trans h'
  simp at this
  exact ht this.2
theorem OI.ne {B : Nat} {W : World} {g cap : Nat} {zs : List Int} (h : OI B W g cap zs) {b : Nat} {cs : Array Value} {t : TypeId} (hb : Blk W b cs t) (ht : 3 ≠ t) : g ≠ b := by
  obtain ⟨cur, hk, _⟩ := h.ex
  exact blk_ne hk hb ht


def IsSl (v : Value) (n : Nat) : Prop := ∃ g c, v = .slice (some ⟨g, 0, none⟩) n c

/-- What lies below block B is as it was, but for some blocks. -/
structure BelowX (B : Nat) (ex : Nat → Prop) (w w' : World) : Prop where
  os : w'.os = w.os
  tape : w'.tape = w.tape
  output : w'.output = w.output
  size : w.heap.size ≤ w'.heap.size
  block : ∀ k, k < B → ¬ ex k → w'.heap[k]? = w.heap[k]?
theorem below_x {B : Nat} {w w' : World} (h : Below B w w') (ex : Nat → Prop) : BelowX B ex w w' := ⟨h.os, h.tape, h.output, h.size, fun k hk _ => h.block k hk⟩
theorem BelowX.refl (B : Nat) (ex : Nat → Prop) (w : World) : BelowX B ex w w := ⟨rfl, rfl, rfl, Nat.le_refl _, fun _ _ _ => rfl⟩
theorem BelowX.trans {B : Nat} {ex : Nat → Prop} {a b c : World} (h : BelowX B ex a b) (k : BelowX B ex b c) : BelowX B ex a c :=
  ⟨k.os.trans h.os, k.tape.trans h.tape, k.output.trans h.output, Nat.le_trans h.size k.size, fun i hi he => (k.block i hi he).trans (h.block i hi he)⟩
theorem BelowX.cell {B : Nat} {ex : Nat → Prop} {w w' : World} (h : BelowX B ex w w') {p : Addr} (hp : p.block < B) (he : ¬ ex p.block) : w'.cell? p = w.cell? p := World.cell?_of_block (w := w) (h.block p.block hp he)
theorem BelowX.alloc {B : Nat} {ex : Nat → Prop} {a w : World} (h : BelowX B ex a w) (hB : B ≤ w.heap.size) (o : Obj) : BelowX B ex a (w.alloc o) := h.trans (below_x ((Below.refl B w).alloc hB o) ex)
theorem BelowX.setCell {B : Nat} {ex : Nat → Prop} {a w : World} (h : BelowX B ex a w) {p : Addr} (hp : B ≤ p.block ∨ ex p.block) (u : Value) : BelowX B ex a (w.setCell p u) :=
  h.trans ⟨rfl, rfl, rfl, by simp [World.setCell], fun k hk he => Below.heap_setCell w p u k (fun e => by
    rcases hp with hp | hp
    · omega
    · exact he (by rw [e]; exact hp))⟩
theorem belowX_t {B : Nat} {ex : Nat → Prop} {A C D : World} (h : BelowX B ex A C) (k : BelowX B ex C D) : BelowX B ex A D := h.trans k
theorem belowX_b {B : Nat} {ex : Nat → Prop} {w : World} (hn : B ≤ w.heap.size) (W : World) (l : Nat) (o o' : Obj) (hl : w.heap.size ≤ l) (h : W.heap[l]? = some o) (h1 : o.isCells = false) (h2 : o.isWalk = false) : BelowX B ex W (W.putObj l o') :=
  below_x (belowK_b hn W l o o' hl h h1 h2) ex
theorem abides_alloc {β : Type} {B : Nat} {J : β → World → Prop} (h : AbidesFrom B J) (s : β) (W : World) (o : Obj) (hs : J s W) : J s (W.alloc o) :=
  h s W (W.alloc o) none hs (World.grownBy_alloc W o none) (fun r e => by cases e)


theorem LI.setBelow {B : Nat} {W : World} {a : Option Addr} {c : Nat} {zs : List Int} (h : LI B W a c zs) {p : Addr} (hp : p.block < B) (u : Value) : LI B (W.setCell p u) a c zs :=
  h.same fun x hx hn => Below.heap_setCell W p u _ (fun e => by have := h.mi.lo x hx hn; omega)

theorem LI.setOther {B : Nat} {W : World} {a : Option Addr} {c : Nat} {zs : List Int} (h : LI B W a c zs) {b : Nat} (hb : ¬ IntsB W b) (o : Nat) (u : Value) : LI B (W.setCell ⟨b, o, none⟩ u) a c zs :=
  h.same fun x hx hn => Below.heap_setCell W ⟨b, o, none⟩ u _ (fun e => hb (by have := h.wj.ty x hx hn; rw [e] at this; exact this))
theorem noInts_of {W : World} {b : Nat} {cs : Array Value} {t : TypeId} (h : Blk W b cs t) (ht : t ≠ 3) : ¬ IntsB W b := by
  rintro ⟨c, q, hc⟩
  have := (show W.heap[b]? = _ from h).symm.trans hc
  simp at this
  exact ht this.2.1
theorem ownsRow_other {W : World} {B : Nat} {e : TypeId} {size : Nat} {v : Value} {n : Nat} {xs : List Value} (h : W.ownsRow B e size v n xs) {b : Nat} (hne : ∀ g, v.ownBlock = some g → g ≠ b) (o : Nat) (u : Value) : (W.setCell ⟨b, o, none⟩ u).ownsRow B e size v n xs := by
  refine ⟨h.1, ?_⟩
  rcases h.2 with hn | ⟨g, cap, cur, rfl, hB, hgg, rest⟩
  · exact .inl hn
  · exact .inr ⟨g, cap, cur, rfl, hB, (Below.heap_setCell W ⟨b, o, none⟩ u g (hne g (by simp [Value.ownBlock]))).trans hgg, rest⟩

theorem own_cells {W : World} {B : Nat} {e : TypeId} {size : Nat} {v : Value} {n : Nat} {xs : List Value} (h : W.ownsRow B e size v n xs) : ∀ (j : Nat) (o : Obj), v.ownBlock = some j → W.heap[j]? = some o → o.isCells = true := by
  intro j o hj ho
  rcases h.2 with ⟨rfl, _⟩ | ⟨g, cap, cur, rfl, _, hgb, _⟩
  · simp [Value.ownBlock] at hj
  · simp [Value.ownBlock] at hj
    subst hj
    rw [hgb] at ho; cases ho; rfl

theorem MI.of_blk {B : Nat} {W : World} {b : Nat} {zs : List Int} (h : Blk W b ((zs.map fun z => Value.int .i64 z).toArray) 3) (hB : B ≤ b) (hr : ∀ z ∈ zs, I64 z) (hl : zs.length ≤ 1000) : MI B W (some ⟨b, 0, none⟩) zs.length zs := by
  refine ⟨fun k hk => ⟨_, rfl, ?_⟩, hr, by unfold maxLen; omega, fun x hx _ => by cases hx; exact hB, fun e => (by cases e), Nat.le_refl _⟩
  rw [Addr.add_lit, Nat.zero_add, h.cell]
  simp [hk]
theorem i64_lit {z : Int} (h : decide (-9223372036854775808 ≤ z ∧ z ≤ 9223372036854775807) = true) : I64 z := by unfold I64; exact of_decide_eq_true h

theorem all_i64 {zs : List Int} (h : zs.all (fun z => decide (-9223372036854775808 ≤ z ∧ z ≤ 9223372036854775807)) = true) : ∀ z ∈ zs, I64 z := fun z hz => i64_lit (List.all_eq_true.1 h z hz)
/-- What a chain of new blocks leaves. -/
theorem below_allocs (w : World) (os : List Obj) : Below w.heap.size w (os.foldl World.alloc w) ∧ (os.foldl World.alloc w).heap.size = w.heap.size + os.length := by
  induction os generalizing w with
  | nil => exact ⟨Below.refl _ _, rfl⟩
  | cons o os ih =>
    obtain ⟨h1, h2⟩ := ih (w.alloc o)
    refine ⟨((Below.refl w.heap.size w).alloc (Nat.le_refl _) o).trans (h1.mono (by simp)), ?_⟩
    show (os.foldl World.alloc (w.alloc o)).heap.size = _
    rw [h2, World.size_alloc, List.length_cons]
    omega
theorem blk_at (w : World) (os : List Obj) (k : Nat) (cs : Array Value) (t : TypeId) (h : os[k]? = some (Obj.cells cs t)) : Blk (os.foldl World.alloc w) (w.heap.size + k) cs t := by
  induction os generalizing w k with
  | nil => simp at h
  | cons o os ih =>
    cases k with
    | zero =>
      simp at h
      subst h
      exact (Blk.new w cs t).below (below_allocs (w.alloc _) os).1 (by simp)
    | succ k =>
      have := ih (w.alloc o) k (by simpa using h)
      rw [World.size_alloc] at this
      rw [show w.heap.size + (k + 1) = w.heap.size + 1 + k by omega]
      exact this

theorem LI.of_blk {B : Nat} {W : World} {b : Nat} {zs : List Int} (h : Blk W b ((zs.map fun z => Value.int .i64 z).toArray) 3) (hB : B ≤ b) (hr : ∀ z ∈ zs, I64 z) (hl : zs.length ≤ 1000) : LI B W (some ⟨b, 0, none⟩) zs.length zs := by
  have hO : OI B W b zs.length zs := ⟨⟨_, h, by simp, fun j hj => by simp [hj]⟩, hr, Nat.le_refl _, by unfold maxLen; omega, hB⟩
  exact hO.li


end Go.Proofs.YtnofoommindocaaGreat.Base
