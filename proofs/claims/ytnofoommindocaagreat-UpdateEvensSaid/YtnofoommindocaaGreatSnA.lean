/- Rows of structs of one's own: cloned, appended to; what a call may change. No conditions. -/
import Derived.Test.YtnofoommindocaaGreatLst2
import Derived.Maps.AppendAt
namespace Go.Proofs.YtnofoommindocaaGreat.Base
open Go.RowKit
set_option linter.unusedVariables false
set_option linter.unusedSimpArgs false

/-- Only blocks with P have changed, and new ones have come. -/
structure Eff (P : Nat → Prop) (w w' : World) : Prop where
  os : w'.os = w.os
  tape : w'.tape = w.tape
  output : w'.output = w.output
  size : w.heap.size ≤ w'.heap.size
  block : ∀ k, k < w.heap.size → ¬ P k → w'.heap[k]? = w.heap[k]?
theorem Eff.of {P : Nat → Prop} {w w' : World} (h : Below w.heap.size w w') : Eff P w w' := ⟨h.os, h.tape, h.output, h.size, fun k hk _ => h.block k hk⟩
theorem Eff.refl (P : Nat → Prop) (w : World) : Eff P w w := Eff.of (Below.refl _ _)
theorem Eff.grown {P : Nat → Prop} {w w' : World} {row : Option Nat} (h : w.grownBy w' row) (hp : ∀ k, row = some k → P k) : Eff P w w' :=
  ⟨h.os, h.tape, h.output, h.size, fun k hk hn => h.block k hk (fun e => hn (hp k e.symm))⟩
theorem Eff.set {P : Nat → Prop} {w : World} (y : Addr) (v : Value) (hp : P y.block) : Eff P w (w.setCell y v) :=
  ⟨rfl, rfl, rfl, by simp [World.setCell], fun k hk hn => Below.heap_setCell w y v k (fun e => hn (by rw [e]; exact hp))⟩
theorem Eff.trans {P P' : Nat → Prop} {w w1 w2 : World} (h : Eff P w w1) (k : Eff P' w1 w2) (hp : ∀ k, k < w.heap.size → P' k → P k) : Eff P w w2 :=
  ⟨k.os.trans h.os, k.tape.trans h.tape, k.output.trans h.output, Nat.le_trans h.size k.size, fun b hb hn => (k.block b (Nat.lt_of_lt_of_le hb h.size) (fun e => hn (hp b hb e))).trans (h.block b hb hn)⟩
theorem Eff.mono {P P' : Nat → Prop} {w w' : World} (h : Eff P w w') (hp : ∀ k, k < w.heap.size → P k → P' k) : Eff P' w w' := ⟨h.os, h.tape, h.output, h.size, fun k hk hn => h.block k hk (fun e => hn (hp k hk e))⟩
theorem Eff.below {P : Nat → Prop} {w0 w w' : World} (h : Eff P w w') (h0 : Below w0.heap.size w0 w) (hp : ∀ k, P k → w0.heap.size ≤ k) : Below w0.heap.size w0 w' :=
  ⟨h.os.trans h0.os, h.tape.trans h0.tape, h.output.trans h0.output, Nat.le_trans h0.size h.size, fun k hk => (h.block k (Nat.lt_of_lt_of_le hk h0.size) (fun e => by have := hp k e; omega)).trans (h0.block k hk)⟩
theorem Eff.blk {P : Nat → Prop} {w w' : World} {b : Nat} {cs : Array Value} {t : TypeId} (h : Eff P w w') (hb : Blk w b cs t) (hp : ¬ P b) : Blk w' b cs t := (h.block b hb.lt hp).trans hb
/-- The block is one of that type. -/
def Ty (W : World) (b : Nat) (t : TypeId) : Prop := ∃ cs q, W.heap[b]? = some (Obj.cells cs t q)
theorem Blk.ty {W : World} {b : Nat} {cs : Array Value} {t : TypeId} (h : Blk W b cs t) : Ty W b t := ⟨cs, (0, 0), h⟩
theorem Ty.lt {W : World} {b : Nat} {t : TypeId} (h : Ty W b t) : b < W.heap.size := by
  obtain ⟨cs, q, h⟩ := h
  exact (Array.getElem?_eq_some_iff.1 h).1
theorem Ty.inj {W : World} {b : Nat} {t t' : TypeId} (h : Ty W b t) (h' : Ty W b t') : t = t' := by
  obtain ⟨cs, q, h⟩ := h
  obtain ⟨cs', q', h'⟩ := h'
  have := h.symm.trans h'
  injection this with this
  injection this
theorem Ty.keep {W W' : World} {b : Nat} {t : TypeId} (h : Ty W b t) (hb : Below W.heap.size W W') : Ty W' b t := by
  obtain ⟨cs, q, h⟩ := h
  exact ⟨cs, q, (hb.block _ (Array.getElem?_eq_some_iff.1 h).1).trans h⟩
theorem row_ty {W : World} {B : Nat} {e : TypeId} {size : Nat} {v : Value} {n : Nat} {xs : List Value} (h : W.ownsRow B e size v n xs) : ∀ g, v.ownBlock = some g → Ty W g e ∧ B ≤ g := by
  intro g hg
  rcases h.2 with ⟨rfl, _⟩ | ⟨g', cap, cur, rfl, hB, hh, _⟩
  · simp [Value.ownBlock] at hg
  · have : g' = g := by simpa [Value.ownBlock] using hg
    subst this
    exact ⟨⟨cur, (0, 0), hh⟩, hB⟩
theorem LI.eff {P : Nat → Prop} {B : Nat} {W W' : World} {a : Option Addr} {c : Nat} {zs : List Int} (h : LI B W a c zs) (he : Eff P W W') (hp : ∀ k, P k → ¬ Ty W k 3) : LI B W' a c zs :=
  h.same fun x hx hn => by
    obtain ⟨cs, q, hc⟩ := h.wj.ty x hx hn
    exact he.block _ (Array.getElem?_eq_some_iff.1 hc).1 (fun e => hp _ e ⟨cs, q, hc⟩)
theorem ownsRow_eff {P : Nat → Prop} {W W' : World} {B : Nat} {e : TypeId} {size : Nat} {v : Value} {n : Nat} {xs : List Value} (h : W.ownsRow B e size v n xs) (he : Eff P W W') (hp : ∀ k, v.ownBlock = some k → ¬ P k) : W'.ownsRow B e size v n xs := by
  refine ⟨h.1, ?_⟩
  rcases h.2 with hn | ⟨g, cap, cur, rfl, hB, hgg, rest⟩
  · exact .inl hn
  · exact .inr ⟨g, cap, cur, rfl, hB, (he.block g (Array.getElem?_eq_some_iff.1 hgg).1 (hp g rfl)).trans hgg, rest⟩

/-- At a, one behind the other. -/
def Rd (W : World) (a : Option Addr) (news : List Value) : Prop := ∀ (j : Nat) (u : Value), news[j]? = some u → ∃ ad : Addr, a = some ad ∧ W.cell? (ad.add j) = some u
theorem Rd.keep {W W' : World} {a : Option Addr} {news : List Value} (h : Rd W a news) (hb : Below W.heap.size W W') : Rd W' a news := fun j u hj => by
  obtain ⟨ad, h1, h2⟩ := h j u hj
  exact ⟨ad, h1, (hb.cell (World.block_lt_of_cell? W _ h2)).trans h2⟩
theorem rd_nil (W : World) (a : Option Addr) : Rd W a [] := fun j u hj => by simp at hj
/-- A row of one's own, from its k-th element on, n of them. -/
theorem row_rd {W : World} {B : Nat} {e : TypeId} {size : Nat} {g c n : Nat} {xs : List Value} (h : W.ownsRow B e size (.slice (some ⟨g, 0, none⟩) n c) n xs) (off m : Nat) : Rd W (some ⟨g, off, none⟩) ((xs.drop off).take m) := fun j u hj => by
  refine ⟨_, rfl, ?_⟩
  have := h.cells (g := g) rfl (off + j) u (by
    rw [List.getElem?_take] at hj
    split at hj
    · rwa [List.getElem?_drop] at hj
    · cases hj)
  rw [Addr.add_lit] at this ⊢
  rwa [Nat.zero_add] at this
section
variable {P : Program} {ops : Array Oper} {rest : List Oper} {o : Oper} {a : Act} {Q : Exit → Act → World → Prop} {w : World}
/-- 'append(S{}, x...)'. -/
theorem app_clone {E S : TypeId} {size bytes : Nat} {z : Value} (hS : P.underlying S = some (.slice E)) (hI : ∃ i, P.info? E = some i ∧ i.zero = some z ∧ i.size = size ∧ i.bytes = bytes) (hzs : z.cells.size = size) (hsz : 0 < size) (hby : bytes ≤ 1000)
    (hg : o.guard = none) (s x : Operand) (hop : o.op = Op.call { callee := Callee.builtin Builtin.append, args := #[s, x], argTypes := #[S, S] })
    (g0 : Nat) (h0 : Blk w g0 #[] E) (hs : a.eval s = .slice (some ⟨g0, 0, none⟩) 0 0) {ax : Option Addr} {m c : Nat} {news : List Value} (hx : a.eval x = .slice ax m c) (hnc : ax = none → c = 0) (hl : news.length = m * size) (hn : Rd w ax news) (h1 : ∀ u ∈ news, u.oneCell' = true) (hlen : m ≤ 100000)
    (hK : ∀ g cap w', w'.ownsRow g0 E size (.slice (some ⟨g, 0, none⟩) m cap) m news → w.grownBy w' (some g0) → wpList P ops Q rest (a.put o.dst (.slice (some ⟨g, 0, none⟩) m cap)) w') : wpList P ops Q (o :: rest) a w := by
  obtain ⟨i0, hi, hz0, hz1, hz2⟩ := hI
  have hE : w.ownsRow g0 E size (.slice (some ⟨g0, 0, none⟩) 0 0) 0 [] := ⟨by simp, .inr ⟨g0, 0, #[], rfl, Nat.le_refl _, h0, Nat.le_refl _, by simp [maxLen], by simp, by simp⟩⟩
  by_cases hm : m = 0
  · subst hm
    refine wpList_append_fits_any w hg s x S hop g0 E i0 size hS hi hz1 g0 0 0 [] hs hE ax 0 c news hx hl (fun e => ⟨rfl, hnc e⟩) (fun ad he j u hj => ?_) h1 (by omega) ?_
    · obtain ⟨ad', e1, e2⟩ := hn j u hj
      rw [he] at e1
      cases e1
      exact e2
    · intro w' ho hgr
      simp only [Nat.zero_add, List.nil_append] at ho
      exact hK _ _ _ ho hgr
  · have hpos : 0 < news.length := by rw [hl]; exact Nat.mul_pos (by omega) hsz
    obtain ⟨ad, rfl, _⟩ := hn 0 _ (List.getElem?_eq_getElem hpos)
    have hmb : m * bytes ≤ 100000 * 1000 := Nat.mul_le_mul hlen hby
    refine wpList_append_own w hg s x S hop g0 E i0 z size bytes hS hi hz0 hz1 hz2 hzs hsz _ 0 [] hs hE ad m c news hx hl (fun j u hj => ?_) h1 (by unfold maxLen; omega) (by rw [Nat.zero_add]; omega) (by have := h0.lt; omega) ?_
    · obtain ⟨ad', e1, e2⟩ := hn j u hj
      cases e1
      exact e2
    · intro v' w' ho hgr _
      simp only [Nat.zero_add, List.nil_append] at ho
      obtain ⟨g, cap, rfl⟩ := Joins.ownsRow_form ho (by omega)
      exact hK _ _ _ ho hgr
/-- 'append(v, x)', x one struct in a box. -/
theorem app_box {E S : TypeId} {size bytes : Nat} {z : Value} (hS : P.underlying S = some (.slice E)) (hI : ∃ i, P.info? E = some i ∧ i.zero = some z ∧ i.size = size ∧ i.bytes = bytes) (hzs : z.cells.size = size) (hsz : 0 < size) (hby : bytes ≤ 1000)
    (hg : o.guard = none) (s x : Operand) (hop : o.op = Op.call { callee := Callee.builtin Builtin.append, args := #[s, x], argTypes := #[S, S] })
    {B n : Nat} {v : Value} {xs : List Value} (hs : a.eval s = v) (h : w.ownsRow B E size v n xs) (hB : B ≤ w.heap.size) (e1 : Nat) {cs : Array Value} (hcs : cs.size = size) (hx : a.eval x = .slice (some ⟨e1, 0, none⟩) 1 1) (he : Blk w e1 cs E) (h1 : ∀ u ∈ cs.toList, u.oneCell' = true) (hlen : n ≤ 100000)
    (hK : ∀ g cap w', w'.ownsRow B E size (.slice (some ⟨g, 0, none⟩) (n + 1) cap) (n + 1) (xs ++ cs.toList) → w.grownBy w' v.ownBlock → wpList P ops Q rest (a.put o.dst (.slice (some ⟨g, 0, none⟩) (n + 1) cap)) w') : wpList P ops Q (o :: rest) a w := by
  obtain ⟨i0, hi, hz0, hz1, hz2⟩ := hI
  have hmb : (n + 1) * bytes ≤ 100001 * 1000 := Nat.mul_le_mul (by omega) hby
  refine wpList_append_own w hg s x S hop B E i0 z size bytes hS hi hz0 hz1 hz2 hzs hsz v n xs hs h ⟨e1, 0, none⟩ 1 1 cs.toList hx (by simp [hcs]) (fun j u hj => ?_) h1 (by unfold maxLen; omega) (by omega) hB (fun v' w' ho' hgr _ => ?_)
  · rw [Addr.add_lit, Nat.zero_add, he.cell]
    simpa using hj
  · obtain ⟨g, cap, rfl⟩ := Joins.ownsRow_form ho' (by omega)
    exact hK _ _ _ ho' hgr
/-- The same, the operation. -/
theorem op_app_box {E S : TypeId} {size bytes : Nat} {z : Value} (hS : P.underlying S = some (.slice E)) (hI : ∃ i, P.info? E = some i ∧ i.zero = some z ∧ i.size = size ∧ i.bytes = bytes) (hzs : z.cells.size = size) (hsz : 0 < size) (hby : bytes ≤ 1000)
    {K : Act → World → Prop} (s x : Operand) (hop : o.op = Op.call { callee := Callee.builtin Builtin.append, args := #[s, x], argTypes := #[S, S] })
    {B n : Nat} {v : Value} {xs : List Value} (hs : a.eval s = v) (h : w.ownsRow B E size v n xs) (hB : B ≤ w.heap.size) (e1 : Nat) {cs : Array Value} (hcs : cs.size = size) (hx : a.eval x = .slice (some ⟨e1, 0, none⟩) 1 1) (he : Blk w e1 cs E) (h1 : ∀ u ∈ cs.toList, u.oneCell' = true) (hlen : n ≤ 100000)
    (hK : ∀ g cap w', w'.ownsRow B E size (.slice (some ⟨g, 0, none⟩) (n + 1) cap) (n + 1) (xs ++ cs.toList) → w.grownBy w' v.ownBlock → (v.ownBlock = some g ∨ g = w.heap.size) → K (a.put o.dst (.slice (some ⟨g, 0, none⟩) (n + 1) cap)) w') : o.wp P a w K Q := by
  obtain ⟨i0, hi, hz0, hz1, hz2⟩ := hI
  have hmb : (n + 1) * bytes ≤ 100001 * 1000 := Nat.mul_le_mul (by omega) hby
  obtain ⟨v', w', hr, h2, h3, h4, h5⟩ := run_append_own_at (P := P) w B S o.type E i0 z size bytes hS hi hz0 hz1 hz2 hzs hsz v n xs h ⟨e1, 0, none⟩ 1 1 cs.toList (by simp [hcs]) (fun j u hj => by rw [Addr.add_lit, Nat.zero_add, he.cell]; simpa using hj) h1 (by unfold maxLen; omega) (by omega) hB
  obtain ⟨g, cap, rfl⟩ := Joins.ownsRow_form h2 (by omega)
  have := hK g cap w' h2 h3 (by rcases h5 with e | e <;> simp [Value.ownBlock] at e; exact .inl e.symm; exact .inr e)
  unfold Oper.wp execOp
  simp only [hop, resolve, invoke, builtin, Sem.run_bind, Sem.run_pure, Result.andThen_ok, List.map_toArray, List.map_cons, List.map_nil, hs, hx, hr]
  exact this
end

/-- One by one. -/
def All2 {α β : Type} (R : α → β → Prop) : List α → List β → Prop
  | [], [] => True
  | a :: xs, b :: bs => R a b ∧ All2 R xs bs
  | _, _ => False
theorem All2.len {α β : Type} {R : α → β → Prop} : ∀ {xs : List α} {bs : List β}, All2 R xs bs → xs.length = bs.length
  | [], [], _ => rfl
  | _ :: xs, _ :: bs, h => by simp [All2.len h.2]
theorem All2.imp {α β : Type} {R S : α → β → Prop} (hi : ∀ a b, R a b → S a b) : ∀ {xs : List α} {bs : List β}, All2 R xs bs → All2 S xs bs
  | [], [], _ => trivial
  | _ :: _, _ :: _, h => ⟨hi _ _ h.1, All2.imp hi h.2⟩
theorem All2.app {α β : Type} {R : α → β → Prop} {cs : List α} {ds : List β} (hc : All2 R cs ds) : ∀ {xs : List α} {bs : List β}, All2 R xs bs → All2 R (xs ++ cs) (bs ++ ds)
  | [], [], _ => hc
  | _ :: _, _ :: _, h => ⟨h.1, All2.app hc h.2⟩
theorem All2.take {α β : Type} {R : α → β → Prop} : ∀ (n : Nat) {xs : List α} {bs : List β}, All2 R xs bs → All2 R (xs.take n) (bs.take n)
  | 0, _, _, _ => by simp [All2]
  | _ + 1, [], [], _ => trivial
  | n + 1, _ :: _, _ :: _, h => ⟨h.1, All2.take n h.2⟩
theorem All2.drop {α β : Type} {R : α → β → Prop} : ∀ (n : Nat) {xs : List α} {bs : List β}, All2 R xs bs → All2 R (xs.drop n) (bs.drop n)
  | 0, _, _, h => h
  | _ + 1, [], [], _ => trivial
  | n + 1, _ :: _, _ :: _, h => All2.drop n h.2
theorem All2.get {α β : Type} {R : α → β → Prop} : ∀ {xs : List α} {bs : List β}, All2 R xs bs → ∀ (k : Nat) (hb : k < bs.length), ∃ a, xs[k]? = some a ∧ R a bs[k]
  | [], [], _, _, hb => absurd hb (by simp)
  | a :: _, _ :: _, h, 0, _ => ⟨a, rfl, h.1⟩
  | _ :: _, _ :: _, h, k + 1, hb => All2.get h.2 k (by simpa using hb)
/-- Rows of so many cells each, laid one behind the other. -/
theorem flat_len {α : Type} {s : Nat} : ∀ {l : List (List α)}, (∀ x ∈ l, x.length = s) → l.flatten.length = l.length * s
  | [], _ => by simp
  | x :: l, h => by
    have := flat_len (l := l) (fun y hy => h y (List.mem_cons_of_mem _ hy))
    have hx := h x (List.mem_cons_self ..)
    simp only [List.flatten_cons, List.length_append, List.length_cons, this, hx, Nat.succ_mul]
    omega
theorem flat_drop {α : Type} {s : Nat} : ∀ {l : List (List α)} (n : Nat), (∀ x ∈ l, x.length = s) → l.flatten.drop (n * s) = (l.drop n).flatten
  | l, 0, _ => by simp
  | [], n + 1, _ => by simp
  | x :: l, n + 1, h => by
    have hx := h x (List.mem_cons_self ..)
    have := flat_drop (l := l) n (fun y hy => h y (List.mem_cons_of_mem _ hy))
    simp only [List.flatten_cons, List.drop_succ_cons]
    rw [List.drop_append, List.drop_eq_nil_of_le (by rw [hx, Nat.succ_mul]; omega), List.nil_append, ← this, hx, Nat.succ_mul]
    congr 1
    omega
theorem flat_take {α : Type} {s : Nat} : ∀ {l : List (List α)} (n : Nat), (∀ x ∈ l, x.length = s) → l.flatten.take (n * s) = (l.take n).flatten
  | l, 0, _ => by simp
  | [], n + 1, _ => by simp
  | x :: l, n + 1, h => by
    have hx := h x (List.mem_cons_self ..)
    have := flat_take (l := l) n (fun y hy => h y (List.mem_cons_of_mem _ hy))
    simp only [List.flatten_cons, List.take_succ_cons]
    rw [List.take_append, List.take_of_length_le (by rw [hx, Nat.succ_mul]; omega), ← this, hx, Nat.succ_mul]
    congr 2
    omega
theorem flat_get {α : Type} {s : Nat} {l : List (List α)} (h : ∀ x ∈ l, x.length = s) (n : Nat) {x : List α} (hx : l[n]? = some x) (j : Nat) (hj : j < s) : l.flatten[n * s + j]? = x[j]? := by
  have e := flat_drop n h
  have : l.flatten[n * s + j]? = (l.flatten.drop (n * s))[j]? := by rw [List.getElem?_drop]
  rw [this, e]
  obtain ⟨hn, rfl⟩ := List.getElem?_eq_some_iff.1 hx
  have hl := h _ (List.getElem_mem hn)
  rw [List.drop_eq_getElem_cons hn, List.flatten_cons, List.getElem?_append_left (by omega)]

end Go.Proofs.YtnofoommindocaaGreat.Base
