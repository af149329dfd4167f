/- Rows of one's own; appends in one way; the reference's RowsOf. -/
import Derived.Test.YtagakcnhhhlolaaLst
import Derived.Test.YtagakcnhhhlolaaMdlJ
namespace Go.Proofs.Ytagakcnhhhlolaa.Base
open Go.RowKit
set_option linter.unusedVariables false
set_option linter.unusedSimpArgs false

/-- What was a block of cells is as it was. -/
structure KC (W W' : World) : Prop where
  size : W.heap.size ≤ W'.heap.size
  cells : ∀ (k : Nat) (cs : Array Value) t q, W.heap[k]? = some (Obj.cells cs t q) → W'.heap[k]? = some (Obj.cells cs t q)
theorem KC.refl (W : World) : KC W W := ⟨Nat.le_refl _, fun _ _ _ _ h => h⟩
theorem KC.trans {W W' W2 : World} (h : KC W W') (k : KC W' W2) : KC W W2 := ⟨Nat.le_trans h.size k.size, fun a b c d e => k.cells _ _ _ _ (h.cells _ _ _ _ e)⟩
theorem kc_of {W W' : World} (h : Below W.heap.size W W') : KC W W' := ⟨h.size, fun k cs t q hk => (h.block k (Array.getElem?_eq_some_iff.1 hk).1).trans hk⟩
theorem kc_grown {W W' : World} {row : Option Nat} (hg : W.grownBy W' row) (hr : ∀ r, row = some r → ∃ o : Obj, W.heap[r]? = some o ∧ o.isCells = false) : KC W W' :=
  ⟨hg.size, fun k cs t q hk => (hg.block k (Array.getElem?_eq_some_iff.1 hk).1 (fun e => by
    obtain ⟨o, ho, hc⟩ := hr k e.symm
    rw [hk] at ho
    cases ho
    cases hc)).trans hk⟩
theorem KC.cell {W W' : World} (h : KC W W') {y : Addr} {v : Value} (hv : W.cell? y = some v) : W'.cell? y = some v := by
  unfold World.cell? at hv ⊢
  split at hv
  · rename_i cs t q hb
    rw [h.cells _ _ _ _ hb]
    exact hv
  · cases hv
theorem KC.frozen {W W' : World} (h : KC W W') {y : Addr} {v : Value} (hv : W.cell? y = some v) : W'.frozen? y = W.frozen? y := by
  unfold World.cell? at hv
  split at hv
  · rename_i cs t q hb
    unfold World.frozen?
    rw [hb, h.cells _ _ _ _ hb]
  · cases hv
theorem MI.kc {B : Nat} {W W' : World} {a : Option Addr} {c : Nat} {zs : List Int} (h : MI B W a c zs) (hb : KC W W') : MI B W' a c zs := by
  refine ⟨fun k hk => ?_, h.rng, h.len, h.lo, h.nn, h.cap⟩
  obtain ⟨x, hx, hc⟩ := h.cell k hk
  exact ⟨x, hx, hb.cell hc⟩
theorem WI.kc {B : Nat} {W W' : World} {a : Option Addr} {n : Nat} (h : WI B W a n) (hb : KC W W') : WI B W' a n := by
  refine ⟨fun k hk => ?_, h.len⟩
  obtain ⟨x, hx, ⟨u, hu⟩, hf, hB⟩ := h.at_ k hk
  exact ⟨x, hx, ⟨u, hb.cell hu⟩, (hb.frozen hu).trans hf, hB⟩
theorem IntsB.kc {W W' : World} {b : Nat} (h : IntsB W b) (hb : KC W W') : IntsB W' b := by
  obtain ⟨cs, q, h⟩ := h
  exact ⟨cs, q, hb.cells _ _ _ _ h⟩
theorem WJ.kc {B : Nat} {W W' : World} {a : Option Addr} {n : Nat} (h : WJ B W a n) (hb : KC W W') : WJ B W' a n := ⟨h.wi.kc hb, fun x hx hn => (h.ty x hx hn).kc hb⟩
theorem LI.kc {B : Nat} {W W' : World} {a : Option Addr} {c : Nat} {zs : List Int} (h : LI B W a c zs) (hb : KC W W') : LI B W' a c zs := ⟨h.mi.kc hb, h.wj.kc hb⟩
theorem Blk.kc {W W' : World} {b : Nat} {cs : Array Value} {t : TypeId} (h : Blk W b cs t) (hb : KC W W') : Blk W' b cs t := hb.cells _ _ _ _ h
theorem ownsRow_kc {W W' : World} {B : Nat} {e : TypeId} {size : Nat} {v : Value} {n : Nat} {xs : List Value} (h : W.ownsRow B e size v n xs) (hb : KC W W') : W'.ownsRow B e size v n xs := by
  refine ⟨h.1, ?_⟩
  rcases h.2 with hn | ⟨g, cap, cur, rfl, hB, hgg, rest⟩
  · exact .inl hn
  · exact .inr ⟨g, cap, cur, rfl, hB, hb.cells _ _ _ _ hgg, rest⟩

/-- 'append([]int{}, zs...)' in one way. -/
theorem app_copy {ops : Array Oper} {rest : List Oper} {o : Oper} {a : Act} {Q : Exit → Act → World → Prop} {w : World} {B B' g0 : Nat}
    (hg : o.guard = none) (s x : Operand) (hop : o.op = Op.call { callee := Callee.builtin Builtin.append, args := #[s, x], argTypes := #[22, 22] })
    (hB : B ≤ g0) (h0 : Blk w g0 #[] 3) (hs : a.eval s = .slice (some ⟨g0, 0, none⟩) 0 0) {ao : Option Addr} {c : Nat} {zs : List Int} (hm : MI B' w ao c zs) (n : Nat) (hn : zs.length = n)
    (hx : a.eval x = .slice ao n c) (hlen : n ≤ 100000)
    (hK : ∀ g cap w', OI B w' g cap zs → w.grownBy w' (some g0) → wpList Try.prog ops Q rest (a.put o.dst (.slice (some ⟨g, 0, none⟩) n cap)) w') :
    wpList Try.prog ops Q (o :: rest) a w := by
  subst hn
  obtain ⟨i0, hi, hz0, hz1, hz2⟩ : ∃ i, Try.prog.info? 3 = some i ∧ i.zero = some (.int .i64 0) ∧ i.size = 1 ∧ i.bytes = 8 := info_parts (by kernel_rfl)
  have hE : w.ownsRow B 3 1 (.slice (some ⟨g0, 0, none⟩) 0 0) 0 [] := ⟨by simp, .inr ⟨g0, 0, #[], rfl, hB, h0, Nat.le_refl _, by simp [maxLen], by simp, by simp⟩⟩
  have hcs : ∀ ad, ao = some ad → ∀ j u, (zs.map fun z => Value.int .i64 z)[j]? = some u → w.cell? (ad.add j) = some u := by
    intro ad ha j u hj
    have hjl : j < zs.length := by
      have := (List.getElem?_eq_some_iff.1 hj).1
      simpa using this
    obtain ⟨x, hx, hcx⟩ := hm.cell j hjl
    rw [ha] at hx
    cases hx
    rw [hcx]
    simp [List.getElem?_eq_getElem hjl] at hj
    rw [hj]
  by_cases h0z : zs = []
  · subst h0z
    refine wpList_append_fits_any w hg s x 22 hop B 3 i0 1 Try.underlying22 hi hz1 g0 0 0 [] hs hE ao 0 c [] hx rfl (fun e => ⟨rfl, hm.nn e⟩) (by intro ad _ j u hj; simp at hj) (by simp) (by omega) ?_
    intro w' ho hgr
    obtain ⟨hO, _⟩ := OI.of_row (v := .slice none 0 0) (zs := []) ho (by simp)
    exact hK _ _ _ hO hgr
  · have hpos : 0 < zs.length := List.length_pos_iff.2 h0z
    obtain ⟨ad, rfl, _⟩ := hm.cell 0 hpos
    refine wpList_append_own w hg s x 22 hop B 3 i0 _ 1 8 Try.underlying22 hi hz0 hz1 hz2 rfl (by decide) _ 0 [] hs hE ad zs.length c (zs.map fun z => Value.int .i64 z) hx (by simp) (hcs ad rfl) (ints_one zs) (by unfold maxLen; omega) (by omega) (by have := h0.lt; omega) ?_
    intro v' w' ho hgr _
    simp only [Nat.zero_add, List.nil_append] at ho
    obtain ⟨g, cap, rfl⟩ := Joins.ownsRow_form ho hpos
    obtain ⟨hO, _⟩ := OI.of_row (v := .slice none 0 0) ho hm.rng
    exact hK _ _ _ hO hgr

/-- The k-th row in these cells; its list is one's own. -/
structure RC (B : Nat) (W : World) (vs : List Value) (k : Nat) (q : Rw) : Prop where
  ex : ∃ a c, vs[k * 3]? = some (.int .i64 q.s) ∧ vs[k * 3 + 1]? = some (.slice a q.h.length c) ∧ vs[k * 3 + 2]? = some (.int .i64 q.r) ∧ LI B W a c q.h
structure OR (B : Nat) (W : World) (v : Value) (qs : List Rw) : Prop where
  ex : ∃ vs, W.ownsRow B 41 3 v qs.length vs ∧ ∀ k, (h : k < qs.length) → RC B W vs k qs[k]
  rng : ∀ q ∈ qs, I64 q.s ∧ I64 q.r
theorem OR.kc {B : Nat} {W W' : World} {v : Value} {qs : List Rw} (h : OR B W v qs) (hb : KC W W') : OR B W' v qs := by
  obtain ⟨vs, h1, h2⟩ := h.ex
  refine ⟨⟨vs, ownsRow_kc h1 hb, fun k hk => ?_⟩, h.rng⟩
  obtain ⟨a, c, e0, e1, e2, e3⟩ := (h2 k hk).ex
  exact ⟨a, c, e0, e1, e2, e3.kc hb⟩
theorem OR.keep {B : Nat} {W W' : World} {v : Value} {qs : List Rw} (h : OR B W v qs) (hb : Below W.heap.size W W') : OR B W' v qs := h.kc (kc_of hb)
theorem OR.nil (B : Nat) (W : World) : OR B W (.slice none 0 0) [] := ⟨⟨[], World.ownsRow_nil _ _ _ _, fun k hk => absurd hk (by simp)⟩, by simp⟩
theorem OR.mr {B : Nat} {W : World} {v : Value} {qs : List Rw} (h : OR B W v qs) (hl : qs.length ≤ 1000) : ∃ a c, v = .slice a qs.length c ∧ MR B W a c qs := by
  obtain ⟨vs, ho, hr⟩ := h.ex
  obtain ⟨hl2, h1 | ⟨g, cap, cur, rfl, hB, hh, hn, hm, hs, ht⟩⟩ := ho
  · obtain ⟨rfl, h0⟩ := h1
    have : qs = [] := List.eq_nil_of_length_eq_zero h0
    subst this
    exact ⟨none, 0, rfl, ⟨fun k hk => absurd hk (by simp), by simp [maxLen], fun _ _ hn => absurd hn (by simp), fun _ => rfl, Nat.le_refl _⟩⟩
  · refine ⟨_, cap, rfl, ⟨fun k hk => ⟨_, rfl, ?_⟩, by unfold maxLen; omega, fun x hx _ => by cases hx; exact hB, fun e => (by cases e), hn⟩⟩
    obtain ⟨a, c, e0, e1, e2, e3⟩ := (hr k hk).ex
    have hcur : ∀ j u, vs[j]? = some u → W.cell? ⟨g, j, none⟩ = some u := by
      intro j u hj
      have := (World.ownsRow.cells ⟨hl2, .inr ⟨g, cap, cur, rfl, hB, hh, hn, hm, hs, ht⟩⟩ (g := g) (by simp [Value.ownBlock])) j u hj
      rwa [Addr.add_lit, Nat.zero_add] at this
    have hq := h.rng _ (List.getElem_mem hk)
    refine ⟨⟨a, c, ?_, ?_, ?_, e3.mi⟩, hq.1, hq.2⟩
    · rw [Addr.add_lit, Nat.zero_add]; exact hcur _ _ e0
    · rw [Addr.add_lit, Nat.zero_add]; exact hcur _ _ e1
    · rw [Addr.add_lit, Nat.zero_add]; exact hcur _ _ e2
theorem OR.snoc {B : Nat} {W' : World} {v' : Value} {qs : List Rw} {vs : List Value} {q : Rw} {a : Option Addr} {c : Nat} (hr : ∀ k, (h : k < qs.length) → RC B W' vs k qs[k]) (hvl : vs.length = qs.length * 3) (hg : ∀ q ∈ qs, I64 q.s ∧ I64 q.r)
    (ho : W'.ownsRow B 41 3 v' (qs.length + 1) (vs ++ [.int .i64 q.s, .slice a q.h.length c, .int .i64 q.r])) (hL : LI B W' a c q.h) (hs : I64 q.s) (hrr : I64 q.r) : OR B W' v' (qs ++ [q]) := by
  refine ⟨⟨_, by simpa using ho, fun k hk => ?_⟩, fun p hp => ?_⟩
  · simp at hk
    by_cases e : k < qs.length
    · obtain ⟨a', c', e0, e1, e2, e3⟩ := (hr k e).ex
      rw [List.getElem_append_left e]
      refine ⟨a', c', ?_, ?_, ?_, e3⟩
      · rw [List.getElem?_append_left (by omega)]; exact e0
      · rw [List.getElem?_append_left (by omega)]; exact e1
      · rw [List.getElem?_append_left (by omega)]; exact e2
    · have : k = qs.length := by omega
      subst this
      refine ⟨a, c, ?_, ?_, ?_, ?_⟩ <;> simp [← hvl, hL]
  · rcases List.mem_append.1 hp with h | h
    · exact hg p h
    · simp at h; subst h; exact ⟨hs, hrr⟩
theorem RC.kc {B : Nat} {W W' : World} {vs : List Value} {k : Nat} {q : Rw} (h : RC B W vs k q) (hb : KC W W') : RC B W' vs k q := by
  obtain ⟨a, c, e0, e1, e2, e3⟩ := h.ex
  exact ⟨a, c, e0, e1, e2, e3.kc hb⟩

/-- The rows of a sensor. -/
def rowsS (s : Int) (qs : List Rw) : List Rw := qs.filter fun q => decide (q.s = s)
theorem rowsS_len (s : Int) (qs : List Rw) : (rowsS s qs).length ≤ qs.length := List.length_filter_le _ _
theorem rowsS_take {s : Int} {qs : List Rw} {k : Nat} (h : k < qs.length) : rowsS s (qs.take (k + 1)) = if qs[k].s = s then rowsS s (qs.take k) ++ [qs[k]] else rowsS s (qs.take k) := by
  unfold rowsS
  rw [List.take_succ_eq_append_getElem h, List.filter_append]
  by_cases e : qs[k].s = s <;> simp [List.filter_cons, e]

end Go.Proofs.Ytagakcnhhhlolaa.Base
