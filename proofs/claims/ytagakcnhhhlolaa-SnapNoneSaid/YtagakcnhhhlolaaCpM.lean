/- binnaclekit: CopyModel. -/
import Derived.Test.YtagakcnhhhlolaaRowC
namespace Go.Proofs.Ytagakcnhhhlolaa.Base
open Go.RowKit
set_option linter.unusedVariables false
set_option linter.unusedSimpArgs false

theorem add_next (x : Addr) (m i : Nat) (hi : 0 < i) : (⟨(x.add m).block, (x.add m).off + i, none⟩ : Addr) = x.add (m + i) := by
  unfold Addr.add
  by_cases h : m = 0
  · subst h
    rw [if_pos rfl, if_neg (by omega), Nat.zero_add]
  · rw [if_neg h, if_neg (by omega)]
    simp [Nat.add_assoc]
/-- The k-th row in these cells. -/
structure RQ (B : Nat) (W : World) (g : Nat) (cur : Array Value) (k : Nat) (q : Rw) : Prop where
  ex : ∃ a c, cur[k * 3]? = some (.int .i64 q.s) ∧ cur[k * 3 + 1]? = some (.slice a q.h.length c) ∧ cur[k * 3 + 2]? = some (.int .i64 q.r) ∧ MI B W a c q.h ∧ ∀ x, a = some x → 0 < q.h.length → x.block ≠ g
/-- The k-th row in these cells, with a list of its own. -/
structure RL (B : Nat) (W : World) (cur : Array Value) (k : Nat) (q : Rw) : Prop where
  ex : ∃ a c, cur[k * 3]? = some (.int .i64 q.s) ∧ cur[k * 3 + 1]? = some (.slice a q.h.length c) ∧ cur[k * 3 + 2]? = some (.int .i64 q.r) ∧ LI B W a c q.h
theorem RL.keep {B : Nat} {W W' : World} {cur : Array Value} {k : Nat} {q : Rw} (h : RL B W cur k q) (hb : Below W.heap.size W W') : RL B W' cur k q := by
  obtain ⟨a, c, h1, h2, h3, h4⟩ := h.ex
  exact ⟨a, c, h1, h2, h3, h4.keep hb⟩
/-- Rows in a block of one's own. -/
structure RB (B B2 : Nat) (W : World) (g cap : Nat) (qs : List Rw) (i : Nat) : Prop where
  ex : ∃ cur, Blk W g cur 41 ∧ cur.size = cap * 3 ∧ (∀ k, (h : k < qs.length) → RQ B W g cur k qs[k]) ∧ ∀ k, (h : k < qs.length) → k < i → RL B2 W cur k qs[k]
  n : qs.length ≤ cap
  cap : cap ≤ maxLen
  lo : B2 ≤ g
theorem RQ.keep {B : Nat} {W W' : World} {g : Nat} {cur : Array Value} {k : Nat} {q : Rw} (h : RQ B W g cur k q) (hb : Below W.heap.size W W') : RQ B W' g cur k q := by
  obtain ⟨a, c, h1, h2, h3, h4, h5⟩ := h.ex
  exact ⟨a, c, h1, h2, h3, h4.keep hb, h5⟩
theorem RB.keep {B B2 : Nat} {W W' : World} {g cap : Nat} {qs : List Rw} {i : Nat} (h : RB B B2 W g cap qs i) (hb : Below W.heap.size W W') : RB B B2 W' g cap qs i := by
  obtain ⟨cur, h1, h2, h3, h4⟩ := h.ex
  exact ⟨⟨cur, h1.keep hb, h2, fun k hk => (h3 k hk).keep hb, fun k hk hi => (h4 k hk hi).keep hb⟩, h.n, h.cap, h.lo⟩
theorem RB.or {B B2 : Nat} {W : World} {g cap : Nat} {qs : List Rw} {i : Nat} (h : RB B B2 W g cap qs i) (hi : qs.length ≤ i) (hq : ∀ q ∈ qs, I64 q.s ∧ I64 q.r) : OR B2 W (.slice (some ⟨g, 0, none⟩) qs.length cap) qs := by
  obtain ⟨cur, h1, h2, h3, h4⟩ := h.ex
  have hn := h.n
  refine ⟨⟨cur.toList.take (qs.length * 3), ⟨by simp; omega, .inr ⟨g, cap, cur, rfl, h.lo, h1, h.n, h.cap, h2, rfl⟩⟩, fun k hk => ?_⟩, hq⟩
  obtain ⟨a, c, e0, e1, e2, e3⟩ := (h4 k hk (by omega)).ex
  refine ⟨a, c, ?_, ?_, ?_, e3⟩
  · rw [List.getElem?_take, if_pos (by omega), Array.getElem?_toList]; exact e0
  · rw [List.getElem?_take, if_pos (by omega), Array.getElem?_toList]; exact e1
  · rw [List.getElem?_take, if_pos (by omega), Array.getElem?_toList]; exact e2
theorem MR.rng {B : Nat} {W : World} {a : Option Addr} {c : Nat} {qs : List Rw} (h : MR B W a c qs) : ∀ q ∈ qs, I64 q.s ∧ I64 q.r := by
  intro q hq
  obtain ⟨j, hj, rfl⟩ := List.mem_iff_getElem.1 hq
  obtain ⟨x, _, hr⟩ := h.at_ j hj
  exact ⟨hr.s, hr.r⟩

/-- 'append([]Row{}, rows...)' in one way. -/
theorem app_rows {ops : Array Oper} {rest : List Oper} {o : Oper} {a : Act} {Q : Exit → Act → World → Prop} {w w1 : World} {B' g0 : Nat}
    (hg : o.guard = none) (s x : Operand) (hop : o.op = Op.call { callee := Callee.builtin Builtin.append, args := #[s, x], argTypes := #[23, 23] })
    (hB : w1.heap.size ≤ g0) (hb : Below w1.heap.size w1 w) (h0 : Blk w g0 #[] 41) (hs : a.eval s = .slice (some ⟨g0, 0, none⟩) 0 0) {ao : Option Addr} {c : Nat} {qs : List Rw} (hm1 : MR B' w1 ao c qs) (n : Nat) (hn : qs.length = n)
    (hx : a.eval x = .slice ao n c) (hlen : n ≤ 1000)
    (hK : ∀ g cap w', RB B' g0 w' g cap qs 0 → w.grownBy w' (some g0) → wpList Try.prog ops Q rest (a.put o.dst (.slice (some ⟨g, 0, none⟩) n cap)) w') :
    wpList Try.prog ops Q (o :: rest) a w := by
  subst hn
  have hm := hm1.keep hb
  obtain ⟨i0, hi, hz0, hz1, hz2⟩ : ∃ i, Try.prog.info? 41 = some i ∧ i.zero = some (.agg #[.int .i64 0, .slice none 0 0, .int .i64 0]) ∧ i.size = 3 ∧ i.bytes = 40 := info_parts (by kernel_rfl)
  have hE : w.ownsRow g0 41 3 (.slice (some ⟨g0, 0, none⟩) 0 0) 0 [] := ⟨by simp, .inr ⟨g0, 0, #[], rfl, Nat.le_refl _, h0, Nat.le_refl _, by simp [maxLen], by simp, by simp⟩⟩
  by_cases h0z : qs = []
  · subst h0z
    refine wpList_append_fits_any w hg s x 23 hop g0 41 i0 3 Try.underlying23 hi hz1 g0 0 0 [] hs hE ao 0 c [] hx rfl (fun e => ⟨rfl, hm.nn e⟩) (by intro ad _ j u hj; simp at hj) (by simp) (by omega) ?_
    intro w' ho hgr
    obtain ⟨hl, h | ⟨g', cap', cur, hv, hB2, hh, hn, hm2, hs2, ht⟩⟩ := ho
    · cases h.1
    · cases hv
      exact hK _ _ _ ⟨⟨cur, hh, hs2, fun k hk => absurd hk (by simp), fun k hk => absurd hk (by simp)⟩, hn, hm2, hB2⟩ hgr
  · have hpos : 0 < qs.length := List.length_pos_iff.2 h0z
    obtain ⟨ad, rfl, _⟩ := hm.at_ 0 hpos
    have hcell : ∀ j, j < qs.length * 3 → ∃ u, w.cell? (ad.add j) = some u ∧ u.oneCell' = true := by
      intro j hj
      have hk : j / 3 < qs.length := by omega
      obtain ⟨x, hx, hr⟩ := hm.at_ (j / 3) hk
      cases hx
      obtain ⟨aH, cH, y0, y1, y2, _⟩ := hr.ex
      rw [add_next _ _ _ (by omega)] at y1 y2
      have : j = j / 3 * 3 ∨ j = j / 3 * 3 + 1 ∨ j = j / 3 * 3 + 2 := by omega
      rcases this with h | h | h <;> rw [h]
      · exact ⟨_, y0, rfl⟩
      · exact ⟨_, y1, rfl⟩
      · exact ⟨_, y2, rfl⟩
    let vs := (List.range (qs.length * 3)).map fun j => (w.cell? (ad.add j)).getD undef
    have hvs : ∀ j, j < qs.length * 3 → vs[j]? = w.cell? (ad.add j) := by
      intro j hj
      obtain ⟨u, hu, _⟩ := hcell j hj
      simp [vs, hj, hu]
    refine wpList_append_own w hg s x 23 hop g0 41 i0 _ 3 40 Try.underlying23 hi hz0 hz1 hz2 (by decide) (by decide) _ 0 [] hs hE ad qs.length c vs hx (by simp [vs]) (fun j u hj => ?_) (fun u hu => ?_) (by unfold maxLen; omega) (by omega) (by have := h0.lt; omega) ?_
    · have hjl : j < qs.length * 3 := by
        have := (List.getElem?_eq_some_iff.1 hj).1
        simpa [vs] using this
      rw [hvs j hjl] at hj
      exact hj
    · obtain ⟨j, hj, rfl⟩ := List.mem_map.1 hu
      obtain ⟨u, hu, h1⟩ := hcell j (by simpa using hj)
      rw [hu]; exact h1
    intro v' w' ho hgr _
    simp only [Nat.zero_add, List.nil_append] at ho
    obtain ⟨g, cap, rfl⟩ := Joins.ownsRow_form ho hpos
    have hown := ho
    obtain ⟨hl, h | ⟨g', cap', cur, hv, hB2, hh, hn, hm2, hs2, ht⟩⟩ := ho
    · cases h.1
    · cases hv
      have hcur : ∀ j, j < qs.length * 3 → cur[j]? = w.cell? (ad.add j) := by
        intro j hj
        have := congrArg (fun l => l[j]?) ht
        simp only [List.getElem?_take, hj, if_true] at this
        rw [← Array.getElem?_toList, this, hvs j hj]
      refine hK _ _ _ ⟨⟨cur, hh, hs2, fun k hk => ?_, fun k _ hk => absurd hk (by omega)⟩, hn, hm2, hB2⟩ hgr
      obtain ⟨x, hx, hr⟩ := hm1.at_ k hk
      cases hx
      obtain ⟨aH, cH, y0, y1, y2, y3⟩ := hr.ex
      rw [add_next _ _ _ (by omega)] at y1 y2
      have up : ∀ {y v}, w1.cell? y = some v → w.cell? y = some v := fun {y v} h => (hb.cell (World.block_lt_of_cell? w1 _ h)).trans h
      have hlt : ∀ x, aH = some x → 0 < qs[k].h.length → x.block < w1.heap.size := by
        intro x hx hn
        obtain ⟨z, hz, hc⟩ := y3.cell 0 hn
        rw [hx] at hz
        cases hz
        have := World.block_lt_of_cell? w1 _ hc
        rwa [add_block] at this
      refine ⟨aH, cH, ?_, ?_, ?_, ?_, fun x hx hn => by have := hlt x hx hn; omega⟩
      · rw [hcur _ (by omega)]; exact up y0
      · rw [hcur _ (by omega)]; exact up y1
      · rw [hcur _ (by omega)]; exact up y2
      · refine ⟨fun i hi => ?_, y3.rng, y3.len, y3.lo, y3.nn, y3.cap⟩
        obtain ⟨z, hz, hc⟩ := y3.cell i hi
        refine ⟨z, hz, ?_⟩
        have hzl := hlt z hz (by omega)
        rw [World.cell?_of_block (hgr.block _ (by rw [add_block]; have := hb.size; omega) (by rw [add_block]; simp [Value.ownBlock]; omega))]
        exact up hc
theorem MI.other {B : Nat} {W : World} {a : Option Addr} {c : Nat} {zs : List Int} (h : MI B W a c zs) {p : Addr} (hne : ∀ x, a = some x → 0 < zs.length → x.block ≠ p.block) (u : Value) : MI B (W.setCell p u) a c zs := by
  refine ⟨fun k hk => ?_, h.rng, h.len, h.lo, h.nn, h.cap⟩
  obtain ⟨x, hx, hc⟩ := h.cell k hk
  refine ⟨x, hx, ?_⟩
  rw [World.cell?_of_block (Below.heap_setCell W p u _ (by rw [add_block]; exact hne x hx (by omega)))]
  exact hc
theorem RB.set {B B2 : Nat} {W : World} {g cap : Nat} {qs : List Rw} {k : Nat} (h : RB B B2 W g cap qs k) (hk : k < qs.length) {g1 c1 n1 : Nat} (hn1 : qs[k].h.length = n1) (hO : OI B2 W g1 c1 qs[k].h) (hB : B ≤ B2) : RB B B2 (W.setCell ⟨g, k * 3 + 1, none⟩ (.slice (some ⟨g1, 0, none⟩) n1 c1)) g cap qs (k + 1) := by
  subst hn1
  obtain ⟨cur, h1, h2, h3, h4⟩ := h.ex
  have hne1 := hO.ne h1 (by decide)
  have hno := noInts_of h1 (by decide)
  have hsz : k * 3 + 1 < cur.size := by have := h.n; omega
  refine ⟨⟨_, h1.set _ _, by simpa using h2, fun j hj => ?_, fun j hj hjk => ?_⟩, h.n, h.cap, h.lo⟩
  · obtain ⟨a, c, e0, e1, e2, e3, e4⟩ := (h3 j hj).ex
    by_cases e : j = k
    · subst e
      have hx : ∀ x, some (⟨g1, 0, none⟩ : Addr) = some x → 0 < qs[j].h.length → x.block ≠ g := fun x hx _ => by cases hx; exact hne1
      refine ⟨some ⟨g1, 0, none⟩, c1, ?_, ?_, ?_, (hO.mi.mono hB).other hx _, hx⟩
      · rw [Array.getElem?_setIfInBounds, if_neg (by omega)]; exact e0
      · rw [Array.getElem?_setIfInBounds, if_pos rfl]; simp [hsz]
      · rw [Array.getElem?_setIfInBounds, if_neg (by omega)]; exact e2
    · refine ⟨a, c, ?_, ?_, ?_, e3.other e4 _, e4⟩
      · rw [Array.getElem?_setIfInBounds, if_neg (by omega)]; exact e0
      · rw [Array.getElem?_setIfInBounds, if_neg (by omega)]; exact e1
      · rw [Array.getElem?_setIfInBounds, if_neg (by omega)]; exact e2
  · by_cases e : j = k
    · subst e
      obtain ⟨a, c, e0, e1, e2, e3, e4⟩ := (h3 j hj).ex
      refine ⟨some ⟨g1, 0, none⟩, c1, ?_, ?_, ?_, hO.li.setOther hno _ _⟩
      · rw [Array.getElem?_setIfInBounds, if_neg (by omega)]; exact e0
      · rw [Array.getElem?_setIfInBounds, if_pos rfl]; simp [hsz]
      · rw [Array.getElem?_setIfInBounds, if_neg (by omega)]; exact e2
    · obtain ⟨a, c, e0, e1, e2, e3⟩ := (h4 j hj (by omega)).ex
      refine ⟨a, c, ?_, ?_, ?_, e3.setOther hno _ _⟩
      · rw [Array.getElem?_setIfInBounds, if_neg (by omega)]; exact e0
      · rw [Array.getElem?_setIfInBounds, if_neg (by omega)]; exact e1
      · rw [Array.getElem?_setIfInBounds, if_neg (by omega)]; exact e2

end Go.Proofs.Ytagakcnhhhlolaa.Base
