/- Steps that make or write a block known whole: what is left is told of a world with a name. No conditions. -/
import Derived.Test.YtnofoommindocaaGreatSnA
import Derived.Test.YtnofoommindocaaGreatReg
import Derived.Deep.MidRow
namespace Go.Proofs.YtnofoommindocaaGreat.Base
open Go.RowKit
set_option linter.unusedVariables false
set_option linter.unusedSimpArgs false

/-- Cells written one behind the other. -/
def putL : List Value → Nat → List Value → List Value
  | [], _, _ => []
  | c :: cs, o + 1, us => c :: putL cs o us
  | _ :: cs, 0, u :: us => u :: putL cs 0 us
  | c :: cs, 0, [] => c :: cs
theorem putL_nil : ∀ (l : List Value) (o : Nat), putL l o [] = l
  | [], _ => rfl
  | c :: cs, o + 1 => by simp [putL, putL_nil cs o]
  | c :: cs, 0 => rfl
theorem putL_cons : ∀ (l : List Value) (o : Nat) (v : Value) (r : List Value), putL (l.set o v) (o + 1) r = putL l o (v :: r)
  | [], _, _, _ => rfl
  | c :: cs, o + 1, v, r => by simp [putL, putL_cons cs o v r]
  | c :: cs, 0, v, r => by simp [putL]
def putA (cs : Array Value) (o : Nat) (us : List Value) : Array Value := (putL cs.toList o us).toArray
theorem blk_setCells {b : Nat} {t : TypeId} : ∀ (r : List Value) {W : World} {cs : Array Value} (o : Nat), Blk W b cs t → Blk (W.setCells b o r) b (putA cs o r) t
  | [], _, cs, o, h => by unfold putA; rw [putL_nil]; exact h
  | v :: r, W, cs, o, h => by
    have := blk_setCells r (o + 1) (h.set o v)
    unfold putA at this ⊢
    rw [Array.toList_setIfInBounds, putL_cons] at this
    exact this
theorem eff_setCells (b : Nat) : ∀ (r : List Value) (W : World) (o : Nat), Eff (fun k => k = b) W (W.setCells b o r) ∧ (W.setCells b o r).heap.size = W.heap.size
  | [], W, _ => ⟨Eff.refl _ _, rfl⟩
  | v :: r, W, o => by
    obtain ⟨h1, h2⟩ := eff_setCells b r (W.setCell ⟨b, o, none⟩ v) (o + 1)
    refine ⟨(Eff.set (P := fun k => k = b) ⟨b, o, none⟩ v rfl).trans h1 (fun _ _ h => h), h2.trans (by simp [World.setCell])⟩
theorem Eff.size_eq {P : Nat → Prop} {w w' : World} (_ : Eff P w w') : True := trivial

section
variable {P : Program}
theorem run_store_blk {W : World} {b : Nat} {cs : Array Value} {t : TypeId} (hb : Blk W b cs t) (ty : TypeId) (off : Nat) (v : Value) (us : List Value) (hv : v.cells = us.toArray) (hi : (P.info? ty).map (·.size) = some us.length) (h1 : ∀ u ∈ us, u.oneCell' = true) (hle : off + us.length ≤ cs.size) :
    (storeVar ty ⟨b, off, none⟩ v).run P W = .ok () (W.setCells b off us) := by
  have hc : ∀ j, j < us.length → (W.cell? ⟨b, off + j, none⟩).isSome = true := fun j hj => by rw [hb.cell, Array.getElem?_eq_getElem (by omega)]; rfl
  have := run_storeCells_cells (P := P) b off us 0 W (fun j hj => by simpa using hc j hj) (fun j hj => hb.frozen _) h1
  cases hq : P.info? ty with
  | none => simp [hq] at hi
  | some i =>
    have hs : us.length = i.size := by simp [hq] at hi; omega
    simp only [Nat.add_zero] at this
    simp [storeVar, sizeOf, typeInfo, hq, hv, hs, this]
/-- Results that lie in memory. -/
theorem results_ct {fn : Func} {p u : Tmp} {ty : TypeId} (h : fn.results = #[.cell p ty, .tmp u]) (tmps : Array Value) (w : World) {g : Nat} {t : TypeId} {cs : Array Value} {d : TypeDesc}
    (hp : tmps.getD p undef = .pointer (some ⟨g, 0, none⟩)) (hg : Blk w g cs t) (hu : P.underlying ty = some d) (hd : (match d with | .struct _ | .array _ _ => true | _ => false) = true) (hi : (P.info? ty).map (·.size) = some cs.size) :
    (results fn tmps).run P w = .ok (.tuple #[.agg cs, tmps.getD u undef]) w := by
  have hp' : tmps[p]?.getD undef = .pointer (some ⟨g, 0, none⟩) := by simpa using hp
  simp [results, h, hp', asAddr, run_loadVar_row w g t ty cs (0, 0) d hg hu hd hi]
theorem results_cct {fn : Func} {p q u : Tmp} {ty tz : TypeId} (h : fn.results = #[.cell p ty, .cell q tz, .tmp u]) (tmps : Array Value) (w : World) {g k : Nat} {t s : TypeId} {cs ds : Array Value} {d e : TypeDesc}
    (hp : tmps.getD p undef = .pointer (some ⟨g, 0, none⟩)) (hg : Blk w g cs t) (hu : P.underlying ty = some d) (hd : (match d with | .struct _ | .array _ _ => true | _ => false) = true) (hi : (P.info? ty).map (·.size) = some cs.size)
    (hq : tmps.getD q undef = .pointer (some ⟨k, 0, none⟩)) (hk : Blk w k ds s) (hv : P.underlying tz = some e) (he : (match e with | .struct _ | .array _ _ => true | _ => false) = true) (hj : (P.info? tz).map (·.size) = some ds.size) :
    (results fn tmps).run P w = .ok (.tuple #[.agg cs, .agg ds, tmps.getD u undef]) w := by
  have hp' : tmps[p]?.getD undef = .pointer (some ⟨g, 0, none⟩) := by simpa using hp
  have hq' : tmps[q]?.getD undef = .pointer (some ⟨k, 0, none⟩) := by simpa using hq
  simp [results, h, hp', hq', asAddr, run_loadVar_row w g t ty cs (0, 0) d hg hu hd hi, run_loadVar_row w k s tz ds (0, 0) e hk hv he hj]
section
variable {ops : Array Oper} {rest : List Oper} {o : Oper} {a : Act} {Q : Exit → Act → World → Prop} {K : Act → World → Prop} {W : World}
/-- A store into a block known whole: the operation. -/
theorem op_store (ty : TypeId) (x y : Operand) (ho : o.op = .store ty x y) (hd : o.dst = none) {b : Nat} {cs : Array Value} {t : TypeId} (hb : Blk W b cs t) (off : Nat) (hx : a.eval x = .pointer (some ⟨b, off, none⟩)) {v : Value} (hy : a.eval y = v) (us : List Value) (hv : v.cells = us.toArray)
    (hi : (P.info? ty).map (·.size) = some us.length) (h1 : us.all (·.oneCell') = true) (hle : Nat.ble (off + us.length) cs.size = true) (cs' : Array Value) (hcs : putA cs off us = cs')
    (h : ∀ w', Blk w' b cs' t → Eff (fun k => k = b) W w' → w'.heap.size = W.heap.size → K a w') : o.wp P a W K Q := by
  subst hcs
  have hr := run_store_blk (P := P) hb ty off v us hv hi (List.all_eq_true.1 h1) (Nat.le_of_ble_eq_true hle)
  unfold Oper.wp execOp
  simp only [ho, hx, hy, Instr.storeAt, Instr.sureAddr, Sem.run_bind, Sem.run_pure, Result.andThen_ok, hr]
  obtain ⟨e1, e2⟩ := eff_setCells b us W off
  have := h _ (blk_setCells us off hb) e1 e2
  show K (a.put o.dst undef) _
  rw [hd]
  exact this
/-- The same at a plain region's list. -/
theorem ev_store (hgd : o.guard = none) (ty : TypeId) (x y : Operand) (ho : o.op = .store ty x y) (hd : o.dst = none) {b : Nat} {cs : Array Value} {t : TypeId} (hb : Blk W b cs t) (off : Nat) (hx : a.eval x = .pointer (some ⟨b, off, none⟩)) {v : Value} (hy : a.eval y = v) (us : List Value) (hv : v.cells = us.toArray)
    (hi : (P.info? ty).map (·.size) = some us.length) (h1 : us.all (·.oneCell') = true) (hle : Nat.ble (off + us.length) cs.size = true) (cs' : Array Value) (hcs : putA cs off us = cs')
    (h : ∀ w', Blk w' b cs' t → Eff (fun k => k = b) W w' → w'.heap.size = W.heap.size → wpList P ops Q rest a w') : wpList P ops Q (o :: rest) a W :=
  wpList_plain hgd fun _ hK => op_store ty x y ho hd hb off hx hy us hv hi h1 hle cs' hcs fun w' h1 h2 h3 => hK _ _ (h w' h1 h2 h3)
theorem blk_range {b : Nat} {cs : Array Value} {t : TypeId} (hb : Blk W b cs t) (off : Nat) (us : List Value) (h : (cs.toList.drop off).take us.length = us) : W.rangeAt b off us := by
  intro j v hj
  rw [hb.cell]
  have hjl := (List.getElem?_eq_some_iff.1 hj).1
  rw [← h, List.getElem?_take, if_pos hjl, List.getElem?_drop] at hj
  rw [← Array.getElem?_toList]
  exact hj
/-- A struct read out of a block known whole: the operation. -/
theorem op_load (ty : TypeId) (x : Operand) (ho : o.op = .load ty x) {b : Nat} {cs : Array Value} {t : TypeId} (hb : Blk W b cs t) (off : Nat) (hx : a.eval x = .pointer (some ⟨b, off, none⟩)) (us : List Value) (hus : (cs.toList.drop off).take us.length = us) {d : TypeDesc}
    (hu : P.underlying ty = some d) (hd : d.isRow = true) (hi : (P.info? ty).map (·.size) = some us.length) (h : K (a.put o.dst (.agg us.toArray)) W) : o.wp P a W K Q :=
  wp_load_mid ty x ho b off hx us d (blk_range hb off us hus) hu hd hi h
theorem ev_load (hgd : o.guard = none) (ty : TypeId) (x : Operand) (ho : o.op = .load ty x) {b : Nat} {cs : Array Value} {t : TypeId} (hb : Blk W b cs t) (off : Nat) (hx : a.eval x = .pointer (some ⟨b, off, none⟩)) (us : List Value) (hus : (cs.toList.drop off).take us.length = us) {d : TypeDesc}
    (hu : P.underlying ty = some d) (hd : d.isRow = true) (hi : (P.info? ty).map (·.size) = some us.length) (h : wpList P ops Q rest (a.put o.dst (.agg us.toArray)) W) : wpList P ops Q (o :: rest) a W :=
  wpList_plain hgd fun _ hK => op_load ty x ho hb off hx us hus hu hd hi (hK _ _ h)
/-- What makes one new block: the operation. -/
theorem op_new {cs : Array Value} {t : TypeId} (hrun : (execOp a.eval o).run P W = .ok (.value (.pointer (some ⟨W.heap.size, 0, none⟩))) (W.alloc (.cells cs t)))
    (h : ∀ w', Blk w' W.heap.size cs t → Below W.heap.size W w' → w'.heap.size = W.heap.size + 1 → K (a.put o.dst (.pointer (some ⟨W.heap.size, 0, none⟩))) w') : o.wp P a W K Q := by
  unfold Oper.wp
  rw [hrun]
  exact h _ (Blk.new W cs t) ((Below.refl _ _).alloc (Nat.le_refl _) _) (by simp)
theorem ev_new (hgd : o.guard = none) {cs : Array Value} {t : TypeId} (hrun : (execOp a.eval o).run P W = .ok (.value (.pointer (some ⟨W.heap.size, 0, none⟩))) (W.alloc (.cells cs t)))
    (h : ∀ w', Blk w' W.heap.size cs t → Below W.heap.size W w' → w'.heap.size = W.heap.size + 1 → wpList P ops Q rest (a.put o.dst (.pointer (some ⟨W.heap.size, 0, none⟩))) w') : wpList P ops Q (o :: rest) a W :=
  wpList_plain hgd fun _ hK => op_new hrun fun w' h1 h2 h3 => hK _ _ (h w' h1 h2 h3)
/-- 'S{x}': the operation. -/
theorem op_slice1 {cs : Array Value} {t : TypeId} (hrun : (execOp a.eval o).run P W = .ok (.value (.slice (some ⟨W.heap.size, 0, none⟩) 1 1)) (W.alloc (.cells cs t)))
    (h : ∀ w', Blk w' W.heap.size cs t → Below W.heap.size W w' → w'.heap.size = W.heap.size + 1 → K (a.put o.dst (.slice (some ⟨W.heap.size, 0, none⟩) 1 1)) w') : o.wp P a W K Q := by
  unfold Oper.wp
  rw [hrun]
  exact h _ (Blk.new W cs t) ((Below.refl _ _).alloc (Nat.le_refl _) _) (by simp)
/-- 'S{}'. -/
theorem ev_slice0 (hgd : o.guard = none) {t : TypeId} (hrun : (execOp a.eval o).run P W = .ok (.value (.slice (some ⟨W.heap.size, 0, none⟩) 0 0)) (W.alloc (.cells #[] t)))
    (h : ∀ w', Blk w' W.heap.size #[] t → Below W.heap.size W w' → w'.heap.size = W.heap.size + 1 → wpList P ops Q rest (a.put o.dst (.slice (some ⟨W.heap.size, 0, none⟩) 0 0)) w') : wpList P ops Q (o :: rest) a W :=
  wpList_plain hgd fun _ hK => by
    unfold Oper.wp
    rw [hrun]
    exact hK _ _ (h _ (Blk.new W #[] t) ((Below.refl _ _).alloc (Nat.le_refl _) _) (by simp))
/-- Slot by slot. -/
theorem at_dst {N : Tmp} (_ : o.dst = some N) (h : wpList P ops Q (o :: rest) a W) : wpList P ops Q (o :: rest) a W := h
theorem at_st {t : TypeId} {p q : Tmp} (_ : o.op = .store t (.tmp p) (.tmp q)) (h : wpList P ops Q (o :: rest) a W) : wpList P ops Q (o :: rest) a W := h
end
end

end Go.Proofs.YtnofoommindocaaGreat.Base
