/- Boxes and lists of ints of a call's own, one beside the other. -/
import Derived.Test.YtagakcnhhhlolaaL10G
namespace Go.Proofs.Ytagakcnhhhlolaa.Base
open Go.RowKit
set_option linter.unusedVariables false
set_option linter.unusedSimpArgs false

theorem OI.set {B : Nat} {W : World} {g c : Nat} {zs : List Int} (h : OI B W g c zs) (i : Nat) (z : Int) (hz : I64 z) (hi : i < zs.length) : OI B (W.setCell ⟨g, i, none⟩ (.int .i64 z)) g c (zs.set i z) := by
  obtain ⟨cur, hb, hs, hc⟩ := h.ex
  refine ⟨⟨_, hb.set i _, by simpa using hs, fun j hj => ?_⟩, fun u hu => ?_, by simpa using h.fit, h.len, h.lo⟩
  · have hj' : j < zs.length := by simpa using hj
    have hf := h.fit
    simp only [List.getElem_set]
    by_cases e : i = j
    · subst e; rw [Array.getElem?_setIfInBounds, if_pos rfl, if_pos (by omega), if_pos rfl]
    · rw [if_neg e, Array.getElem?_setIfInBounds, if_neg e]; exact hc j hj'
  · rcases List.mem_or_eq_of_mem_set hu with hu | rfl
    · exact h.rng u hu
    · exact hz
theorem OI.grown {B : Nat} {W W' : World} {g c : Nat} {zs : List Int} (h : OI B W g c zs) {row : Option Nat} (hg : W.grownBy W' row) (hne : some g ≠ row) : OI B W' g c zs := by
  obtain ⟨cur, hb, hs, hc⟩ := h.ex
  exact ⟨⟨cur, hb.grown hg hne, hs, hc⟩, h.rng, h.fit, h.len, h.lo⟩
theorem OI.lt {B : Nat} {W : World} {g c : Nat} {zs : List Int} (h : OI B W g c zs) : g < W.heap.size := by
  obtain ⟨cur, hb, _⟩ := h.ex
  exact hb.lt

abbrev LS := List (Nat × Nat × List Int)
abbrev BS := List (Nat × Array Value × TypeId)
/-- Boxes B and lists of ints L, all of blocks from n0 on. -/
structure Own (n0 : Nat) (B : BS) (L : LS) (W : World) : Prop where
  bk : ∀ (k : Nat) (u : Nat × Array Value × TypeId), B[k]? = some u → Blk W u.1 u.2.1 u.2.2 ∧ n0 ≤ u.1 ∧ u.2.2 ≠ 3
  li : ∀ (k : Nat) (u : Nat × Nat × List Int), L[k]? = some u → OI n0 W u.1 u.2.1 u.2.2
  bne : ∀ (i j : Nat) (u v : Nat × Array Value × TypeId), i ≠ j → B[i]? = some u → B[j]? = some v → u.1 ≠ v.1
  lne : ∀ (i j : Nat) (u v : Nat × Nat × List Int), i ≠ j → L[i]? = some u → L[j]? = some v → u.1 ≠ v.1
theorem Own.keep {n0 : Nat} {B : BS} {L : LS} {W W' : World} (h : Own n0 B L W) (hb : Below W.heap.size W W') : Own n0 B L W' :=
  ⟨fun k u hu => ⟨(h.bk k u hu).1.keep hb, (h.bk k u hu).2⟩, fun k u hu => (h.li k u hu).keep hb, h.bne, h.lne⟩
theorem set_at {α : Type} {l : List α} {k j : Nat} {a u : α} (h : (l.set k a)[j]? = some u) : (k = j ∧ u = a) ∨ (k ≠ j ∧ l[j]? = some u) := by
  rw [List.getElem?_set] at h
  split at h
  · split at h
    · exact .inl ⟨by assumption, (Option.some.inj h).symm⟩
    · cases h
  · exact .inr ⟨by assumption, h⟩
theorem Own.setB {n0 : Nat} {B : BS} {L : LS} {W : World} (h : Own n0 B L W) (k : Nat) {p : Nat} {cs : Array Value} {t : TypeId} (hu : B[k]? = some (p, cs, t)) (o : Nat) (z : Value) :
    Own n0 (B.set k (p, cs.setIfInBounds o z, t)) L (W.setCell ⟨p, o, none⟩ z) := by
  obtain ⟨h1, h2, h3⟩ := h.bk k _ hu
  refine ⟨fun j v hv => ?_, fun j v hv => ?_, fun i j a b hn ha hb => ?_, h.lne⟩
  · rcases set_at hv with ⟨rfl, rfl⟩ | ⟨hn, hv⟩
    · exact ⟨h1.set o z, h2, h3⟩
    · exact ⟨(h.bk j v hv).1.other (h.bne j k v _ (Ne.symm hn) hv hu) o z, (h.bk j v hv).2⟩
  · exact (h.li j v hv).other ((h.li j v hv).ne h1 (Ne.symm h3)) o z
  · rcases set_at ha with ⟨rfl, rfl⟩ | ⟨hn1, ha⟩ <;> rcases set_at hb with ⟨rfl, rfl⟩ | ⟨hn2, hb⟩
    · exact absurd rfl hn
    · exact h.bne _ _ (p, cs, t) _ hn hu hb
    · exact h.bne _ _ _ (p, cs, t) hn ha hu
    · exact h.bne _ _ _ _ hn ha hb
theorem Own.setL {n0 : Nat} {B : BS} {L : LS} {W : World} (h : Own n0 B L W) (k : Nat) {g c : Nat} {zs : List Int} (hu : L[k]? = some (g, c, zs)) (i : Nat) (z : Int) (hz : I64 z) (hi : i < zs.length) :
    Own n0 B (L.set k (g, c, zs.set i z)) (W.setCell ⟨g, i, none⟩ (.int .i64 z)) := by
  have h1 := h.li k _ hu
  refine ⟨fun j v hv => ?_, fun j v hv => ?_, h.bne, fun a b x y hn ha hb => ?_⟩
  · obtain ⟨e1, e2, e3⟩ := h.bk j v hv
    exact ⟨e1.other (Ne.symm (OI.ne h1 e1 (Ne.symm e3))) _ _, e2, e3⟩
  · rcases set_at hv with ⟨rfl, rfl⟩ | ⟨hn, hv⟩
    · exact h1.set i z hz hi
    · exact (h.li j v hv).other (h.lne j k v _ (Ne.symm hn) hv hu) _ _
  · rcases set_at ha with ⟨rfl, rfl⟩ | ⟨hn1, ha⟩ <;> rcases set_at hb with ⟨rfl, rfl⟩ | ⟨hn2, hb⟩
    · exact absurd rfl hn
    · exact h.lne _ _ (g, c, zs) _ hn hu hb
    · exact h.lne _ _ _ (g, c, zs) hn ha hu
    · exact h.lne _ _ _ _ hn ha hb
theorem Own.app {n0 : Nat} {B : BS} {L : LS} {W W' : World} (h : Own n0 B L W) (k : Nat) {g c : Nat} {zs : List Int} (hu : L[k]? = some (g, c, zs)) {g' c' : Nat} {zs' : List Int} (hg : W.grownBy W' (some g)) (hO : OI n0 W' g' c' zs') (hat : g' = g ∨ g' = W.heap.size) :
    Own n0 B (L.set k (g', c', zs')) W' := by
  have h1 := h.li k _ hu
  have hother : ∀ j v, k ≠ j → L[j]? = some v → v.1 ≠ g' := by
    intro j v hn hv e
    have h2 := (h.li j v hv).lt
    rcases hat with rfl | rfl
    · exact h.lne j k v _ (Ne.symm hn) hv hu e
    · omega
  refine ⟨fun j v hv => ?_, fun j v hv => ?_, h.bne, fun a b x y hn ha hb => ?_⟩
  · obtain ⟨e1, e2, e3⟩ := h.bk j v hv
    exact ⟨e1.grown hg (fun e => OI.ne h1 e1 (Ne.symm e3) (Option.some.inj e).symm), e2, e3⟩
  · rcases set_at hv with ⟨rfl, rfl⟩ | ⟨hn, hv⟩
    · exact hO
    · exact (h.li j v hv).grown hg (fun e => h.lne j k v _ (Ne.symm hn) hv hu (Option.some.inj e))
  · rcases set_at ha with ⟨rfl, rfl⟩ | ⟨hn1, ha⟩ <;> rcases set_at hb with ⟨rfl, rfl⟩ | ⟨hn2, hb⟩
    · exact absurd rfl hn
    · exact fun e => hother _ _ hn2 hb e.symm
    · exact hother _ _ hn1 ha
    · exact h.lne _ _ _ _ hn ha hb
/-- What lies below n0 is as it was. -/
theorem below_grown {w0 W W' : World} {g : Nat} (h : Below w0.heap.size w0 W) (hg : W.grownBy W' (some g)) (hl : w0.heap.size ≤ g) : Below w0.heap.size w0 W' :=
  ⟨hg.os.trans h.os, hg.tape.trans h.tape, hg.output.trans h.output, Nat.le_trans h.size hg.size, fun k hk => (hg.block k (Nat.lt_of_lt_of_le hk h.size) (by simp; omega)).trans (h.block k hk)⟩

/-- The blocks that a value names. -/
def bks : Value → List Nat
  | .agg cs => cs.toList.filterMap Value.ownBlock
  | .pointer (some a) => [a.block]
  | _ => []
theorem OB.bks_in {n0 : Nat} {W : World} {v : Value} {b : Blf} (h : OB n0 W v b) : ∀ x ∈ bks v, n0 ≤ x ∧ x < W.heap.size := by
  obtain ⟨gX, cX, gP, cP, rfl, h1, h2, _⟩ := h.ex
  intro x hx
  simp [bks, Value.ownBlock] at hx
  rcases hx with rfl | rfl
  · exact ⟨h1.lo, h1.lt⟩
  · exact ⟨h2.lo, h2.lt⟩

/-- The same beside the boxes of a model and a belief. -/
structure OwnX (w0 : World) (x y : Nat) (cs ds : Array Value) (n0 : Nat) (B : BS) (L : LS) (W : World) : Prop where
  bx : Bx w0 x y cs ds W
  own : Own n0 B L W
  lt : x < n0 ∧ y < n0 ∧ w0.heap.size ≤ n0
theorem OwnX.keep {w0 : World} {x y : Nat} {cs ds : Array Value} {n0 : Nat} {B : BS} {L : LS} {W W' : World} (h : OwnX w0 x y cs ds n0 B L W) (hb : Below W.heap.size W W') : OwnX w0 x y cs ds n0 B L W' := ⟨h.bx.keep hb, h.own.keep hb, h.lt⟩
theorem OwnX.drew {w0 : World} {x y : Nat} {cs ds : Array Value} {n0 : Nat} {B : BS} {L : LS} {W : World} (h : OwnX w0 x y cs ds n0 B L W) : OwnX w0 x y cs ds n0 B L W.drew := h.keep (below_drewN W 1)
theorem OwnX.setB {w0 : World} {x y : Nat} {cs ds : Array Value} {n0 : Nat} {B : BS} {L : LS} {W : World} (h : OwnX w0 x y cs ds n0 B L W) (k : Nat) {p : Nat} {es : Array Value} {t : TypeId} (hu : B[k]? = some (p, es, t)) (o : Nat) (z : Value) :
    OwnX w0 x y cs ds n0 (B.set k (p, es.setIfInBounds o z, t)) L (W.setCell ⟨p, o, none⟩ z) := by
  have hl := (h.own.bk k _ hu).2.1
  obtain ⟨l1, l2, l3⟩ := h.lt
  dsimp only at hl
  exact ⟨⟨h.bx.x.other (by omega) o z, h.bx.y.other (by omega) o z, h.bx.bel.setCell (p := ⟨p, o, none⟩) (by simp; omega) z⟩, h.own.setB k hu o z, h.lt⟩
theorem OwnX.setL {w0 : World} {x y : Nat} {cs ds : Array Value} {n0 : Nat} {B : BS} {L : LS} {W : World} (h : OwnX w0 x y cs ds n0 B L W) (k : Nat) {g c : Nat} {zs : List Int} (hu : L[k]? = some (g, c, zs)) (i : Nat) (z : Int) (hz : I64 z) (hi : i < zs.length) :
    OwnX w0 x y cs ds n0 B (L.set k (g, c, zs.set i z)) (W.setCell ⟨g, i, none⟩ (.int .i64 z)) := by
  have hl := (h.own.li k _ hu).lo
  obtain ⟨l1, l2, l3⟩ := h.lt
  dsimp only at hl
  exact ⟨⟨h.bx.x.other (by omega) i _, h.bx.y.other (by omega) i _, h.bx.bel.setCell (p := ⟨g, i, none⟩) (by simp; omega) _⟩, h.own.setL k hu i z hz hi, h.lt⟩
theorem OwnX.app {w0 : World} {x y : Nat} {cs ds : Array Value} {n0 : Nat} {B : BS} {L : LS} {W W' : World} (h : OwnX w0 x y cs ds n0 B L W) (k : Nat) {g c : Nat} {zs : List Int} (hu : L[k]? = some (g, c, zs)) {g' c' : Nat} {zs' : List Int} (hg : W.grownBy W' (some g)) (hO : OI n0 W' g' c' zs') (hat : g' = g ∨ g' = W.heap.size) :
    OwnX w0 x y cs ds n0 B (L.set k (g', c', zs')) W' := by
  have hl := (h.own.li k _ hu).lo
  obtain ⟨l1, l2, l3⟩ := h.lt
  dsimp only at hl
  exact ⟨⟨h.bx.x.grown hg (by simp; omega), h.bx.y.grown hg (by simp; omega), below_grown h.bx.bel hg (by omega)⟩, h.own.app k hu hg hO hat, h.lt⟩

end Go.Proofs.Ytagakcnhhhlolaa.Base
