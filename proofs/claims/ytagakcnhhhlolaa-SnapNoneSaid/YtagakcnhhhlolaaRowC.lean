/- model.RowsOf, Dim. -/
import Derived.Test.YtagakcnhhhlolaaRowB
namespace Go.Proofs.Ytagakcnhhhlolaa.Base
open Go.RowKit Go.Shelf Go.Deep
set_option linter.unusedVariables false
set_option linter.unusedSimpArgs false
attribute [local go_sem] Oper.semAt_some

theorem of_is (v : Array Value) (hv : v.size = 7) (sn : Int) (w : World) :
    Calls Try.prog 52 #[.agg v, .int .i64 sn] w fun e w' => e = .returned (.func (.func 83) #[] #[.pointer (some ⟨w.heap.size, 0, none⟩), .pointer (some ⟨w.heap.size + 1, 0, none⟩)]) ∧ (w.alloc (.cells v 25)).alloc (.cells #[.int .i64 sn] 3) = w' := by
  obtain ⟨l⟩ := v
  match l, hv with
  | [v0, v1, v2, v3, v4, v5, v6], _ =>
  go_enter Try.func52, Try.ntmps52
  go_wp2
  go_ret
  exact ⟨rfl, rfl⟩

/-- What a row that is handed on is good for. -/
structure GoodY (w0 : World) (y : YR) : Prop where
  mi : MI 0 w0 y.a y.c y.q.h
  s : I64 y.q.s
  r : I64 y.q.r
  len : y.q.h.length ≤ 100000
abbrev TY (w0 : World) := { y : YR // GoodY w0 y }
instance instTY (w0 : World) : Inhabited (TY w0) := ⟨⟨⟨0, ⟨0, [], 0⟩, none, 0⟩, ⟨MI.nil _ _, ⟨by decide, by decide⟩, ⟨by decide, by decide⟩, by simp⟩⟩⟩
theorem MR.mfT {w0 : World} {B : Nat} {x : Addr} {c : Nat} {qs : List Rw} (h : MR B w0 (some x) c qs) (hh : ∀ q ∈ qs, q.h.length ≤ 100000) : ∃ f : Nat → TY w0, MF 0 w0 x qs.length (fun k => (f k).1) ∧ ∀ k, (hk : k < qs.length) → (f k).1.q = qs[k] := by
  obtain ⟨g, hg, hq⟩ := h.mf
  have each : ∀ k, k < qs.length → ∃ y : TY w0, y.1 = g k := by
    intro k hk
    obtain ⟨_, _, _, h4⟩ := hg.at_ k hk
    have hm := List.getElem_mem hk
    obtain ⟨x', _, hr⟩ := h.at_ k hk
    refine ⟨⟨g k, h4.mono (Nat.zero_le _), ?_, ?_, ?_⟩, rfl⟩
    · rw [hq k hk]; exact hr.s
    · rw [hq k hk]; exact hr.r
    · rw [hq k hk]; exact hh _ hm
  obtain ⟨f, hf⟩ := choose_lt each
  refine ⟨f, ⟨fun k hk => ?_, fun k hk => ?_⟩, fun k hk => ?_⟩
  · obtain ⟨h1, h2, h3, h4⟩ := hg.at_ k hk
    rw [hf k hk]
    exact ⟨h1, h2, h3, h4.mono (Nat.zero_le _)⟩
  · rw [hf k hk]; exact hg.i k hk
  · rw [hf k hk]; exact hq k hk

theorem of_stops {α : Type} (val : α → YR) (ex : Nat → Prop) (F : Fence) (hF : Base.Free F) (n : Nat) (hro : F.round = none) (hn : 1 ≤ n) (b1 b2 n₀ : Nat) (aR : Option Addr) (cR N : Nat) (sn : Int) (f : Nat → α) (w : World)
    (hb1 : w.cell? ⟨b1, 6, none⟩ = some (.slice aR N cR)) (hl1 : b1 < n₀ ∧ ¬ ex b1) (hb2 : w.cell? ⟨b2, 0, none⟩ = some (.int .i64 sn)) (hl2 : b2 < n₀ ∧ ¬ ex b2) (hn0 : n₀ ≤ w.heap.size) (hN : N ≤ 1000)
    (hM : 0 < N → ∃ x, aR = some x ∧ x.block < n₀ ∧ ¬ ex x.block ∧ MF 0 w x N (fun k => val (f k))) :
    SeqStopsK F n Try.prog 83 #[.pointer (some ⟨b1, 0, none⟩), .pointer (some ⟨b2, 0, none⟩)] (fun x : α => (val x).enc) (BelowX n₀ ex) (fun ys => ys = xsOf val f sn N) (fun pre => pre <+: xsOf val f sn N) (xsOf val f sn N).length w := fun l J Jx W hW hJ _ hY h0 =>
  of1_in val ex F hF n hro hn l b1 b2 n₀ aR cR N sn f J Jx hY (fun pre W' o h => abides_alloc hJ pre W' o h) W ((hW.cell (p := ⟨b1, 6, none⟩) (Nat.lt_of_lt_of_le hl1.1 hn0)).trans hb1) hl1
    ((hW.cell (p := ⟨b2, 0, none⟩) (Nat.lt_of_lt_of_le hl2.1 hn0)).trans hb2) hl2 (Nat.le_trans hn0 hW.size) hN
    (fun h => by obtain ⟨x, h1, h2, h3, h4⟩ := hM h; exact ⟨x, h1, h2, h3, h4.keep (kc_of hW)⟩) h0

/-- Within RowsOf: what has been collected lies in the box ob. -/
structure RowI (w0 : World) (ob n1 : Nat) (qs : List Rw) (W : World) : Prop where
  out : ∃ v, Blk W ob #[v] 23 ∧ OR n1 W v qs
  bel : Below w0.heap.size w0 W
  sz : n1 ≤ W.heap.size
theorem RowI.own {β : Type} (w0 : World) (ob n1 B : Nat) (hB : w0.heap.size ≤ B) (g : β → List Rw) : OwnFrom B (fun pre W => RowI w0 ob n1 (g pre) W) := fun s X Y row hs hg hr => by
  have hk := kc_grown hg (fun r e => (hr r e).2)
  obtain ⟨v, h1, h2⟩ := hs.out
  exact ⟨⟨v, h1.kc hk, h2.kc hk⟩, ownFrom_below (Nat.le_refl _) hB s X Y row hs.bel hg hr, Nat.le_trans hs.sz hg.size⟩
theorem RowI.keep {w0 W W' : World} {ob n1 : Nat} {qs : List Rw} (h : RowI w0 ob n1 qs W) (hK : Below W.heap.size W W') : RowI w0 ob n1 qs W' := by
  obtain ⟨v, h1, h2⟩ := h.out
  exact ⟨⟨v, h1.keep hK, h2.keep hK⟩, more h.bel hK, Nat.le_trans h.sz hK.size⟩

/-- 'append(out, row)' in one way, within a fence. -/
theorem app_row_in {F : Fence} {nF : Nat} {ops : Array Oper} {rest : List Oper} {o : Oper} {a : Act} {Q : Exit → Act → World → Prop} {w : World} {B : Nat} {v : Value} {qs : List Rw} {q : Rw} {aH : Option Addr} {cH : Nat}
    (hg : o.guard = none) (s x : Operand) (hop : o.op = Op.call { callee := Callee.builtin Builtin.append, args := #[s, x], argTypes := #[23, 23] })
    (hs : a.eval s = v) (h : OR B w v qs) (hB : B ≤ w.heap.size) (e1 : Nat) (hx : a.eval x = .slice (some ⟨e1, 0, none⟩) 1 1) (nh : Nat) (hnh : q.h.length = nh)
    (he : Blk w e1 #[.int .i64 q.s, .slice aH nh cH, .int .i64 q.r] 41) (hL : LI B w aH cH q.h) (h1 : I64 q.s) (h2 : I64 q.r) (hl : qs.length ≤ 1000)
    (hK : ∀ v' w', OR B w' v' (qs ++ [q]) → w.grownBy w' v.ownBlock → IsSl v' (qs.length + 1) → wpListIn F nF Try.prog ops Q rest (a.put o.dst v') w') :
    wpListIn F nF Try.prog ops Q (o :: rest) a w := by
  subst hnh
  obtain ⟨i0, hi, hz0, hz1, hz2⟩ : ∃ i, Try.prog.info? 41 = some i ∧ i.zero = some (.agg #[.int .i64 0, .slice none 0 0, .int .i64 0]) ∧ i.size = 3 ∧ i.bytes = 40 := info_parts (by kernel_rfl)
  obtain ⟨vs, ho, hr⟩ := h.ex
  have hne : 41 ≠ 3 := by decide
  refine wpListIn_append_own w hg s x 23 hop B 41 i0 _ 3 40 Try.underlying23 hi hz0 hz1 hz2 (by decide) (by decide) v qs.length vs hs ho ⟨e1, 0, none⟩ 1 1 [.int .i64 q.s, .slice aH q.h.length cH, .int .i64 q.r] hx rfl (fun j u hj => ?_) (fun u hu => ?_) (by unfold maxLen; omega) (by omega) hB (fun v' w' ho' hgr _ => ?_)
  · rw [Addr.add_lit, Nat.zero_add, he.cell]
    simpa using hj
  · simp at hu
    rcases hu with rfl | rfl | rfl <;> rfl
  · have hno := row_noInts ho hne
    have hf := ownsRow_succ ho'
    refine hK v' w' (OR.snoc (fun k hk => ?_) ho.1 h.rng ho' (hL.grown hgr hno) h1 h2) hgr hf
    obtain ⟨a', c', e0, e1, e2, e3⟩ := (hr k hk).ex
    exact ⟨a', c', e0, e1, e2, e3.grown hgr hno⟩
theorem LI.setBelow {B : Nat} {W : World} {a : Option Addr} {c : Nat} {zs : List Int} (h : LI B W a c zs) {p : Addr} (hp : p.block < B) (u : Value) : LI B (W.setCell p u) a c zs :=
  h.same fun x hx hn => Below.heap_setCell W p u _ (fun e => by have := h.mi.lo x hx hn; omega)
theorem OR.setBelow {B : Nat} {W : World} {v : Value} {qs : List Rw} (h : OR B W v qs) {p : Addr} (hp : p.block < B) (u : Value) : OR B (W.setCell p u) v qs := by
  obtain ⟨vs, h1, h2⟩ := h.ex
  refine ⟨⟨vs, ownsRow_setCell_below h1 hp u, fun k hk => ?_⟩, h.rng⟩
  obtain ⟨a, c, e0, e1, e2, e3⟩ := (h2 k hk).ex
  exact ⟨a, c, e0, e1, e2, e3.setBelow hp u⟩
theorem LI.setOther {B : Nat} {W : World} {a : Option Addr} {c : Nat} {zs : List Int} (h : LI B W a c zs) {b : Nat} (hb : ¬ IntsB W b) (o : Nat) (u : Value) : LI B (W.setCell ⟨b, o, none⟩ u) a c zs :=
  h.same fun x hx hn => Below.heap_setCell W ⟨b, o, none⟩ u _ (fun e => hb (by have := h.wj.ty x hx hn; rw [e] at this; exact this))
theorem noInts_of {W : World} {b : Nat} {cs : Array Value} {t : TypeId} (h : Blk W b cs t) (ht : t ≠ 3) : ¬ IntsB W b := by
  rintro ⟨c, q, hc⟩
  have := (show W.heap[b]? = _ from h).symm.trans hc
  simp at this
  exact ht this.2.1
theorem ownsRow_other {W : World} {B : Nat} {e : TypeId} {size : Nat} {v : Value} {n : Nat} {xs : List Value} (h : W.ownsRow B e size v n xs) {b : Nat} (hne : ∀ g, v.ownBlock = some g → g ≠ b) (o : Nat) (u : Value) : (W.setCell ⟨b, o, none⟩ u).ownsRow B e size v n xs := by
  refine ⟨h.1, ?_⟩
  rcases h.2 with hn | ⟨g, cap, cur, rfl, hB, hgg, rest⟩
  · exact .inl hn
  · exact .inr ⟨g, cap, cur, rfl, hB, (Below.heap_setCell W ⟨b, o, none⟩ u g (hne g (by simp [Value.ownBlock]))).trans hgg, rest⟩
theorem OR.setOther {B : Nat} {W : World} {v : Value} {qs : List Rw} (h : OR B W v qs) {b : Nat} (hb : ¬ IntsB W b) (hne : ∀ g, v.ownBlock = some g → g ≠ b) (o : Nat) (u : Value) : OR B (W.setCell ⟨b, o, none⟩ u) v qs := by
  obtain ⟨vs, h1, h2⟩ := h.ex
  refine ⟨⟨vs, ownsRow_other h1 hne o u, fun k hk => ?_⟩, h.rng⟩
  obtain ⟨a, c, e0, e1, e2, e3⟩ := (h2 k hk).ex
  exact ⟨a, c, e0, e1, e2, e3.setOther hb o u⟩
theorem own_cells {W : World} {B : Nat} {e : TypeId} {size : Nat} {v : Value} {n : Nat} {xs : List Value} (h : W.ownsRow B e size v n xs) : ∀ (j : Nat) (o : Obj), v.ownBlock = some j → W.heap[j]? = some o → o.isCells = true := by
  intro j o hj ho
  rcases h.2 with ⟨rfl, _⟩ | ⟨g, cap, cur, rfl, _, hgb, _⟩
  · simp [Value.ownBlock] at hj
  · simp [Value.ownBlock] at hj
    subst hj
    rw [hgb] at ho; cases ho; rfl
theorem rowI_end {w0 W W2 w5 : World} {ob n1 Bx : Nat} {qs : List Rw} {q : Rw} {v u' z : Value} {o : Obj} (hbel : Below w0.heap.size w0 W) (hob : w0.heap.size ≤ ob) (hobn : ob < n1) (h1 : n1 ≤ W.heap.size) (hBx : n1 ≤ Bx)
    (hK : Below W.heap.size W W2) (hv : OR n1 ((W2.setCell ⟨Bx, 1, none⟩ z).alloc o) v qs) (hobv : Blk W ob #[v] 23) (hO5 : OR n1 w5 u' (qs ++ [q])) (hg : ((W2.setCell ⟨Bx, 1, none⟩ z).alloc o).grownBy w5 v.ownBlock) :
    KeepsFrom n1 W (w5.setCell ⟨ob, 0, none⟩ u') ∧ BelowX n1 (· = ob) W (w5.setCell ⟨ob, 0, none⟩ u') ∧ RowI w0 ob n1 (qs ++ [q]) (w5.setCell ⟨ob, 0, none⟩ u') ∧ Blk w5 ob #[v] 23 := by
  obtain ⟨vs, ho, _⟩ := hv.ex
  have hs2 := hK.size
  have b1 : Below n1 W ((W2.setCell ⟨Bx, 1, none⟩ z).alloc o) := ((hK.mono h1).setCell (p := ⟨Bx, 1, none⟩) hBx z).alloc (by simp [World.setCell]; omega) o
  have b2 : Below n1 W w5 := b1.grown hg (by simp [World.setCell]; omega) (fun k hk => (ho.lt k hk).1)
  have c0 : Below w0.heap.size w0 w5 := hbel.trans (b2.mono (by omega))
  have hb5 : Blk w5 ob #[v] 23 := hobv.below b2 hobn
  refine ⟨?_, ?_, ⟨⟨u', hb5.set 0 u', hO5.setBelow hobn u'⟩, c0.setCell (p := ⟨ob, 0, none⟩) hob u', ?_⟩, hb5⟩
  · exact (((((keeps_of_below hK).trans (KeepsOthers.setCell _ _ _)).trans (KeepsOthers.alloc _ _)).trans (KeepsOthers.of_grownBy hg (own_cells ho))).trans (KeepsOthers.setCell _ _ _)).from _
  · exact BelowX.setCell (ex := fun x => x = ob) (below_x b2 _) (p := ⟨ob, 0, none⟩) (.inr rfl) u'
  · have := b2.size; simp [World.setCell]; omega

set_option maxHeartbeats 8000000 in
set_option maxRecDepth 100000 in
theorem rows_is {B : Nat} {w0 : World} {v : Value} {M : Mdl} {sn : Int} (hM : MM B w0 v M) (hl : M.rows.length ≤ 1000) (hh : ∀ q ∈ M.rows, q.h.length ≤ 100000) :
    Calls Try.prog 18 #[v, .int .i64 sn] w0 fun e w' => ∃ u, e = .returned u ∧ OR w0.heap.size w' u (rowsS sn M.rows) ∧ Below w0.heap.size w0 w' := by
  obtain ⟨aA, cA, aQ, cQ, aR, cR, rfl, hA, hQ, hR⟩ := hM.ex
  obtain ⟨f, hf, hfq⟩ : ∃ f : Nat → TY w0, (0 < M.rows.length → ∃ x, aR = some x ∧ x.block < w0.heap.size ∧ MF 0 w0 x M.rows.length (fun k => (f k).1)) ∧ ∀ k, (hk : k < M.rows.length) → (f k).1.q = M.rows[k] := by
    by_cases h0 : 0 < M.rows.length
    · obtain ⟨x, rfl, hr⟩ := hR.at_ 0 h0
      obtain ⟨f, h1, h2⟩ := hR.mfT hh
      obtain ⟨_, _, y0, _⟩ := hr.ex
      have := World.block_lt_of_cell? w0 _ y0
      rw [add_block] at this
      exact ⟨f, fun _ => ⟨x, rfl, this, h1⟩, h2⟩
    · exact ⟨fun _ => default, fun h => absurd h h0, fun k hk => absurd hk (by omega)⟩
  have HMAP := Lib.hid (xsOf_map (fun y : TY w0 => y.1) f sn hfq)
  have HLEN := Lib.hid (xsOf_len (fun y : TY w0 => y.1) f sn M.rows.length)
  clear hfq hA hQ hR hM
  obtain ⟨n, hn⟩ : ∃ n, M.rows.length = n := ⟨_, rfl⟩
  rw [hn] at HMAP HLEN hf hl ⊢
  clear hn
  refine (callsIn_wide (n := 3)).1 ?_
  refine callsIn_of_wp_marks Try.func18 rfl trivial ?_ rfl
  simp only [Try.ntmps18, List.size_toArray, List.length_cons, List.length_nil, Nat.reduceAdd, Nat.reduceSub, Array.replicate_succ, Array.replicate_zero, List.push_toArray, List.append_toArray, List.nil_append, List.cons_append]
  gi_wp2_with fail
  refine ⟨trivial, ?_⟩
  refine (callsIn_wide.2 (of_is #[.int .i64 M.n, .slice aA M.A.length cA, .slice aQ M.Q.length cQ, .int .i64 M.tick, .int .i64 M.gate, .int .i64 M.rmin, .slice aR n cR] rfl sn _)).mono ?_
  rintro e W0 ⟨rfl, hW0⟩
  have hB0 : Below w0.heap.size w0 W0 := by rw [← hW0]; exact ((((Below.refl _ _).alloc (Nat.le_refl _) _).alloc (by simp) _).alloc (by simp; omega) _).alloc (by simp; omega) _
  have hsz1 : W0.heap.size ≤ w0.heap.size + 4 := by rw [← hW0]; simp
  have hsz2 : w0.heap.size + 4 ≤ W0.heap.size := by rw [← hW0]; simp
  have ho0 : Blk W0 (w0.heap.size + 1) #[.slice none 0 0] 23 := by
    rw [← hW0]
    have := ((Blk.new (w0.alloc (.cells #[Value.int .i64 M.n, .slice aA M.A.length cA, .slice aQ M.Q.length cQ, .int .i64 M.tick, .int .i64 M.gate, .int .i64 M.rmin, .slice aR n cR] 25)) #[.slice none 0 0] 23).alloc (.cells #[Value.int .i64 M.n, .slice aA M.A.length cA, .slice aQ M.Q.length cQ, .int .i64 M.tick, .int .i64 M.gate, .int .i64 M.rmin, .slice aR n cR] 25)).alloc (.cells #[.int .i64 sn] 3)
    rw [World.size_alloc] at this; exact this
  have hb1 : W0.cell? ⟨w0.heap.size + 2, 6, none⟩ = some (.slice aR n cR) := by
    rw [← hW0]
    have := (Blk.new ((w0.alloc (.cells #[Value.int .i64 M.n, .slice aA M.A.length cA, .slice aQ M.Q.length cQ, .int .i64 M.tick, .int .i64 M.gate, .int .i64 M.rmin, .slice aR n cR] 25)).alloc (.cells #[.slice none 0 0] 23)) #[Value.int .i64 M.n, .slice aA M.A.length cA, .slice aQ M.Q.length cQ, .int .i64 M.tick, .int .i64 M.gate, .int .i64 M.rmin, .slice aR n cR] 25).alloc (.cells #[.int .i64 sn] 3)
    rw [World.size_alloc, World.size_alloc] at this
    exact this.cell 6
  have hb2 : W0.cell? ⟨w0.heap.size + 3, 0, none⟩ = some (.int .i64 sn) := by
    rw [← hW0]
    have := Blk.new (((w0.alloc (.cells #[Value.int .i64 M.n, .slice aA M.A.length cA, .slice aQ M.Q.length cQ, .int .i64 M.tick, .int .i64 M.gate, .int .i64 M.rmin, .slice aR n cR] 25)).alloc (.cells #[.slice none 0 0] 23)).alloc (.cells #[Value.int .i64 M.n, .slice aA M.A.length cA, .slice aQ M.Q.length cQ, .int .i64 M.tick, .int .i64 M.gate, .int .i64 M.rmin, .slice aR n cR] 25)) #[.int .i64 sn] 3
    rw [World.size_alloc, World.size_alloc, World.size_alloc] at this
    exact this.cell 0
  have hI0 : RowI w0 (w0.heap.size + 1) W0.heap.size [] W0 := ⟨⟨_, ho0, OR.nil _ _⟩, hB0, Nat.le_refl _⟩
  clear hW0 ho0
  gi_wp2_with fail
  refine wpIn_rangeFunc_ownH rfl (by omega) (gf := 83) (lb := #[.pointer (some ⟨w0.heap.size + 1 + 1, 0, none⟩), .pointer (some ⟨w0.heap.size + 1 + 1 + 1, 0, none⟩)]) rfl trivial (enters_of Try.func83 (by kernel_rfl) rfl)
    (of_stops (fun y : TY w0 => y.1) (· = w0.heap.size + 1) Fence.wide free_wide (3 - 1) rfl (by omega) (w0.heap.size + 2) (w0.heap.size + 3) W0.heap.size aR cR n sn f W0 hb1 ⟨by omega, by omega⟩ hb2 ⟨by omega, by omega⟩ (Nat.le_refl _) hl
      (fun h => by obtain ⟨x, h1, h2, h3⟩ := hf h; exact ⟨x, h1, by omega, by omega, h3.keep (kc_of hB0)⟩)) belowX_t (belowX_b (Nat.le_refl _)) (Below.refl _ _) (fun _ => rfl)
    (fun pre W => RowI w0 (w0.heap.size + 1) W0.heap.size (pre.map fun y => y.1.q) W) (fun _ _ _ => False)
    (RowI.own w0 _ _ _ hB0.size _) (fun _ _ _ _ _ hs _ _ => hs) hI0
    (fun x a' W => ∃ Bx ov, W0.heap.size ≤ Bx ∧ Blk W Bx #[.int .i64 x.1.q.s, .slice x.1.a x.1.q.h.length x.1.c, .int .i64 x.1.q.r] 41 ∧ Blk W (w0.heap.size + 1) #[ov] 23 ∧ (∀ g, ov.ownBlock = some g → g ≠ Bx) ∧ a' = { tmps := #[.agg #[Value.int .i64 M.n, .slice aA M.A.length cA, .slice aQ M.Q.length cQ, .int .i64 M.tick, .int .i64 M.gate, .int .i64 M.rmin, .slice aR n cR], .int .i64 sn, .pointer (some ⟨w0.heap.size, 0, none⟩), undef, .slice none 0 0, .pointer (some ⟨w0.heap.size + 1, 0, none⟩), undef, .pointer (some ⟨Bx, 0, none⟩), .agg #[Value.int .i64 M.n, .slice aA M.A.length cA, .slice aQ M.Q.length cQ, .int .i64 M.tick, .int .i64 M.gate, .int .i64 M.rmin, .slice aR n cR], .int .i64 sn, .func (.func 83) #[] #[.pointer (some ⟨w0.heap.size + 1 + 1, 0, none⟩), .pointer (some ⟨w0.heap.size + 1 + 1 + 1, 0, none⟩)], .int .i64 x.1.i, .agg #[.int .i64 x.1.q.s, .slice x.1.a x.1.q.h.length x.1.c, .int .i64 x.1.q.r], undef, undef, undef, undef, undef, undef, undef, undef, undef], defers := [] })
    (fun x a' _ X Y row hs hg hr => by obtain ⟨Bx, ov, h1, h2, h3, h4, h5⟩ := hs; exact ⟨Bx, ov, h1, h2.kc (kc_grown hg (fun r e => (hr r e).2)), h3.kc (kc_grown hg (fun r e => (hr r e).2)), h4, h5⟩)
    ?assign ?body ?done ?stop
  case assign =>
    rintro l pre x W K hi hK
    obtain ⟨⟨i, ⟨s, h, r⟩, a, c⟩, hx⟩ := x
    unfold YR.enc
    dsimp only at hK ⊢
    generalize h.length = nh at *
    gi_wp2
    have hsW := hi.sz
    obtain ⟨ov, h1, h2⟩ := hi.out
    exact hK _ _ ((KeepsOthers.alloc _ _).from _) (below_x ((Below.refl _ W).alloc hsW _) _) (hi.keep ((Below.refl _ W).alloc (Nat.le_refl _) _)) ⟨W.heap.size, ov, hsW, Blk.new W _ _, h1.alloc _, fun g hg => by obtain ⟨vs, ho, _⟩ := h2.ex; have := (ho.lt g hg).2; omega, rfl⟩
  case body =>
    rintro l pre x a' W hl2 ⟨r0, hr0⟩ hi ⟨Bx, ov, hBx, bX, hov, hgne, rfl⟩ hlt
    obtain ⟨⟨i, ⟨s, h, r⟩, a, c⟩, hx⟩ := x
    obtain ⟨ov', hov', hOR⟩ := hi.out
    have hoe : ov = ov' := by have := (show W.heap[_]? = _ from hov').symm.trans hov; simp at this; exact this.symm
    subst hoe
    clear hov'
    have hm := hx.mi
    have hs64 := Lib.hid hx.s
    have hr64 := Lib.hid hx.r
    have hhl := hx.len
    dsimp only at hm hs64 hr64 hhl bX ⊢
    have hbel := hi.bel
    have hsW := hi.sz
    have hmW := hm.keep hbel
    have hcl := clone_is hmW hhl
    obtain ⟨nh, hnh⟩ : ∃ nh, h.length = nh := ⟨_, rfl⟩
    rw [hnh] at bX hhl hcl ⊢
    have HNH := Lib.hid hnh
    have hlen : (pre.map fun y : TY w0 => y.1.q).length ≤ 1000 := by have := Nat.lt_of_lt_of_le hlt HLEN.out; simp; omega
    obtain ⟨qs, hqs⟩ : ∃ qs, (pre.map fun y : TY w0 => y.1.q) = qs := ⟨_, rfl⟩
    have HQS := Lib.hid hqs
    rw [hqs] at hlen hOR
    clear hqs
    have HEND := Lib.hid (fun W2 w5 z o u' (hK : Below W.heap.size W W2) (hv : OR W0.heap.size ((W2.setCell ⟨Bx, 1, none⟩ z).alloc o) ov qs) (hO5 : OR W0.heap.size w5 u' (qs ++ [⟨s, h, r⟩])) (hg : ((W2.setCell ⟨Bx, 1, none⟩ z).alloc o).grownBy w5 ov.ownBlock) =>
      rowI_end hbel (by omega) (by omega) hsW hBx hK hv hov hO5 hg)
    have c0 := bX.cell 0
    have c1 := bX.cell 1
    have c2 := bX.cell 2
    have o0 := hov.cell 0
    have o1 := hov.frozen 0
    simp at c0 c1 c2 o0
    clear hnh hm hmW hi hr0 hf hb1 hb2 hI0 hB0 HMAP HLEN
    gi_wp2_with fail
    refine ⟨trivial, ?_⟩
    refine (CallsIn.inRound l (callsIn_wide.2 hcl)).mono ?_
    rintro e W2 ⟨b, k, rfl, hLI, hK⟩
    have bX2 := bX.keep hK
    have hov2 := hov.keep hK
    have hOR2 := (hOR.keep hK).setOther (noInts_of bX2 (by decide)) hgne 1 (.slice b nh k)
    have hLI2 := ((hLI.setBelow (p := ⟨Bx, 1, none⟩) bX.lt (.slice b nh k)).mono hsW).keep ((Below.refl _ _).alloc (Nat.le_refl _) (.cells #[.int .i64 s, .slice b nh k, .int .i64 r] 41))
    have hO4 := hOR2.keep ((Below.refl _ _).alloc (Nat.le_refl _) (.cells #[.int .i64 s, .slice b nh k, .int .i64 r] 41))
    have hb4 := Blk.new (W2.setCell ⟨Bx, 1, none⟩ (.slice b nh k)) #[.int .i64 s, .slice b nh k, .int .i64 r] 41
    rw [World.size_setCell] at hb4
    have hWsz : W0.heap.size ≤ W2.heap.size + 1 := by have := hK.size; omega
    have HE2 := Lib.hid (fun w5 u' hO5 hg => HEND.out W2 w5 (.slice b nh k) (.cells #[.int .i64 s, .slice b nh k, .int .i64 r] 41) u' hK hO4 hO5 hg)
    clear c0 c1 c2 o0 o1 hcl HEND hOR hOR2 hLI hK
    have d0 := bX2.cell 0
    have d1 := bX2.cell 1
    have d2 := bX2.cell 2
    have e1 := bX2.frozen 1
    have p0 := hov2.cell 0
    have hBne : ¬ Bx = w0.heap.size + 1 := by omega
    simp at d0 d1 d2 p0
    clear bX bX2 hov hov2 hbel
    gi_wp2_with (gi_at_builtin; refine app_row_in (B := W0.heap.size) (v := ov) (q := ⟨s, h, r⟩) (aH := b) (cH := k) rfl _ _ rfl rfl hO4 (by simp; exact hWsz) W2.heap.size rfl nh HNH.out hb4 hLI2 hs64.out hr64.out hlen ?_)
    intro u' w5 hO5 hg5 hu5
    obtain ⟨g5, c5, rfl⟩ := hu5
    obtain ⟨f1, f2, f3, f4⟩ := HE2.out w5 _ hO5 hg5
    have q0 := f4.cell 0
    have q1 := f4.frozen 0
    simp at q0
    have F1 := Lib.hid f1
    have F2 := Lib.hid f2
    have F3 := Lib.hid f3
    clear f1 f2 f3 f4 hO5 hg5 HE2 hO4 hLI2 hb4 d0 d1 d2 p0
    gi_wp2_with fail
    exact ⟨F1.out, F2.out, by show RowI _ _ _ (List.map _ (_ ++ _)) _; rw [List.map_append, HQS.out]; exact F3.out⟩
  case done =>
    rintro D ys W hD rfl hi hK
    obtain ⟨ov, hov, hOR⟩ := hi.out
    have hbel := hi.bel
    rw [HMAP.out] at hOR
    have o0 := hov.cell 0
    simp at o0
    clear hi hov
    gi_wp2_with fail
    have hKC := kc_grown (grownBy_putObj' W D (.deferred none)) (fun r e => by cases e; exact ⟨_, hK, rfl⟩)
    refine ⟨by simp, .inl ⟨_, _, rfl, run_takeDeferred hK, ?_⟩⟩
    exact ⟨ov, by simp [results, Try.f18, go_sem], ov, rfl, (hOR.kc hKC).mono hB0.size, hbel.trans (belowK_b (w := w0) (Nat.le_refl _) W D _ _ (by omega) hK rfl rfl)⟩
  case stop =>
    rintro D c pre W _ _ h _
    exact h.elim

theorem dim_is {B : Nat} {w0 : World} {v : Value} {M : Mdl} {sn : Int} (hM : MM B w0 v M) (hl : M.rows.length ≤ 1000) (hh : ∀ q ∈ M.rows, q.h.length ≤ 100000) :
    Calls Try.prog 24 #[v, .int .i64 sn] w0 fun e w' => e = .returned (.int .i64 (rowsS sn M.rows).length) ∧ Below w0.heap.size w0 w' := by
  obtain ⟨aA, cA, aQ, cQ, aR, cR, rfl, hA, hQ, hR⟩ := hM.ex
  have hB : Below w0.heap.size w0 (w0.alloc (.cells #[Value.int .i64 M.n, .slice aA M.A.length cA, .slice aQ M.Q.length cQ, .int .i64 M.tick, .int .i64 M.gate, .int .i64 M.rmin, .slice aR M.rows.length cR] 25)) := (Below.refl _ _).alloc (Nat.le_refl _) _
  have hlen := rowsS_len sn M.rows
  have hc := rows_is (sn := sn) (hM.keep hB) hl hh
  obtain ⟨nl, hnl⟩ : ∃ nl, (rowsS sn M.rows).length = nl := ⟨_, rfl⟩
  rw [hnl] at hlen ⊢
  have HNL := Lib.hid hnl
  clear hnl
  go_enter Try.func24, Try.ntmps24
  go_wp2_with fail
  refine hc.mono ?_
  rintro e w2 ⟨u, rfl, hO, hK⟩
  obtain ⟨a, c, rfl, _⟩ := hO.mr (by rw [HNL.out]; omega)
  rw [HNL.out]
  go_wp2_with fail
  go_ret
  exact ⟨rfl, more hB hK⟩

end Go.Proofs.Ytagakcnhhhlolaa.Base
