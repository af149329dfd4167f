/- SyncTrue: the queue of rounds. -/
import Derived.Test.YtfjdooloikofoaaSyncR
import Derived.ArgAppend
import Derived.OwnWalk
namespace Go.Proofs.Ytfjdooloikofoaa.SyncA
open Go.RowKit Go.Shelf Go.Proofs.Ytfjdooloikofoaa.StampA Go.Proofs.Ytfjdooloikofoaa.Base
set_option linter.unusedVariables false
set_option linter.unusedSimpArgs false

/-- Block q holds, from off on, a queue of ints, with room to c; it is none that came in, and not b. -/
structure IQ (w0 : World) (b q off c : Nat) (zs : List Int) (W : World) : Prop where
  cur : ∃ cur, Blk W q cur 3 ∧ off + c ≤ cur.size ∧ ∀ j, j < zs.length → cur[off + j]? = some (.int .i64 (zs.getD j 0))
  len : zs.length ≤ c
  pos : 0 < zs.length
  ge : w0.heap.size ≤ q
  ne : q ≠ b
theorem IQ.cell {w0 W : World} {b q off c : Nat} {zs : List Int} (h : IQ w0 b q off c zs W) (j : Nat) (hj : j < zs.length) : W.cell? ⟨q, off + j, none⟩ = some (.int .i64 (zs.getD j 0)) := by
  obtain ⟨cur, hb, _, hc⟩ := h.cur
  exact (hb.cell (off + j)).trans (hc j hj)
theorem IQ.keep {w0 W W' : World} {b q off c : Nat} {zs : List Int} (h : IQ w0 b q off c zs W) (hK : Below W.heap.size W W') : IQ w0 b q off c zs W' := by
  obtain ⟨cur, hb, h1, hc⟩ := h.cur
  exact ⟨⟨cur, hb.keep hK, h1, hc⟩, h.len, h.pos, h.ge, h.ne⟩
theorem IQ.but {w0 W W' : World} {b q off c : Nat} {zs : List Int} (h : IQ w0 b q off c zs W) (hK : But b W W') : IQ w0 b q off c zs W' := by
  obtain ⟨cur, hb, h1, hc⟩ := h.cur
  exact ⟨⟨cur, (hK.block q hb.lt h.ne).trans hb, h1, hc⟩, h.len, h.pos, h.ge, h.ne⟩
theorem IQ.tail {w0 W : World} {b q off c : Nat} {zs : List Int} (h : IQ w0 b q off c zs W) (h1 : 1 < zs.length) : IQ w0 b q (off + 1) (c - 1) zs.tail W := by
  obtain ⟨cur, hb, h2, hc⟩ := h.cur
  have hl := h.len
  refine ⟨⟨cur, hb, by omega, fun j hj => ?_⟩, by simp; omega, by simp; omega, h.ge, h.ne⟩
  simp at hj
  have := hc (j + 1) (by omega)
  rw [show off + 1 + j = off + (j + 1) by omega, this]
  cases zs with
  | nil => simp at h1
  | cons z r => simp

theorem iq_law {ops : Array Oper} {rest : List Oper} {o : Oper} {a : Act} {Q : Exit → Act → World → Prop} {w w0 : World} {b q off c : Nat} {zs : List Int} {n : Nat} (h : IQ w0 b q off c zs w)
    (hg : o.guard = none) (s x : Operand) (hop : o.op = Op.call { callee := Callee.builtin Builtin.append, args := #[s, x], argTypes := #[35, 35] })
    (hn : zs.length = n) (hs : a.eval s = .slice (some ⟨q, off, none⟩) n c) (e1 : Nat) (z : Int) (hx : a.eval x = .slice (some ⟨e1, 0, none⟩) 1 1) (hz : w.cell? ⟨e1, 0, none⟩ = some (.int .i64 z))
    (hlen : n ≤ 1000) (hw0 : w0.heap.size ≤ w.heap.size) (hb : b < w.heap.size)
    (hK : ∀ q' off' c' w', IQ w0 b q' off' c' (zs ++ [z]) w' → But q' w w' → wpList Try.prog ops Q rest (a.put o.dst (.slice (some ⟨q', off', none⟩) (n + 1) c')) w') :
    wpList Try.prog ops Q (o :: rest) a w := by
  subst hn
  obtain ⟨i0, hi, hz0, hz1, hz2⟩ : ∃ i, Try.prog.info? 3 = some i ∧ i.zero = some (.int .i64 0) ∧ i.size = 1 ∧ i.bytes = 8 := info_parts (by kernel_rfl)
  obtain ⟨cur, hB, h1, hc⟩ := h.cur
  have hl := h.len
  refine wpList_append_arg w hg s x 35 hop 3 i0 _ 1 8 Try.underlying35 hi hz0 hz1 hz2 (by rfl) (by decide) q off zs.length c (zs.map (fun n => Value.int .i64 n)) hs (by simp) (fun j u hj => ?_) ⟨e1, 0, none⟩ 1 1 [.int .i64 z] hx rfl (fun j u hj => ?_) (fun u hu => ?_) (fun hr j hj => ?_) (by unfold maxLen; omega) (by omega) (fun hr => ?_) (fun hg v' w' ho hgr => ?_)
  · simp at hj
    obtain ⟨y, hy, rfl⟩ := hj
    have hjl : j < zs.length := (List.getElem?_eq_some_iff.1 hy).1
    rw [h.cell j hjl]
    simp [List.getD, hy]
  · cases j with
    | zero => simp at hj; subst hj; exact hz
    | succ j => simp at hj
  · simp at hu; subst hu; rfl
  · simp at hj
    subst hj
    refine ⟨?_, hB.frozen _⟩
    rw [hB.cell]
    simp [Array.getElem?_eq_getElem (show off + zs.length < cur.size by omega)]
  · refine hK q off c _ ⟨⟨cur.setIfInBounds (off + zs.length * 1) (.int .i64 z), hB.set _ _, by simpa using h1, fun j hj => ?_⟩, by simp; omega, by simp, h.ge, h.ne⟩ ⟨rfl, rfl, rfl, by simp [World.setCells, World.setCell], fun k hk hne => ?_⟩
    · simp at hj
      by_cases e : j = zs.length
      · subst e
        simp [show off + zs.length < cur.size by omega]
      · have : j < zs.length := by omega
        rw [Array.getElem?_setIfInBounds, if_neg (by omega), hc j this]
        simp [List.getD, List.getElem?_append_left this]
    · exact Below.heap_setCell w ⟨q, off + zs.length * 1, none⟩ _ k hne
  · obtain ⟨g2, c2, rfl⟩ := Joins.ownsRow_form ho (by omega)
    rcases ho with ⟨hl2, ⟨he, _⟩ | ⟨g, cap, cc, hv, hgb, hh, hnc, hcm, hsz, htk⟩⟩
    · cases he
    · cases hv
      refine hK g2 0 c2 w' ⟨⟨cc, hh, by omega, fun j hj => ?_⟩, by simpa using hnc, by simp, by omega, by omega⟩ ⟨hgr.os, hgr.tape, hgr.output, hgr.size, fun k hk hne => hgr.block k hk (by simp)⟩
      have hj2 : j < (zs.length + 1) * 1 := by simp at hj; omega
      have := congrArg (fun l => l[j]?) htk
      simp only [List.getElem?_take, hj2, if_true] at this
      rw [Nat.zero_add, ← Array.getElem?_toList, this]
      simp at hj
      by_cases e : j = zs.length
      · subst e; simp
      · have : j < zs.length := by omega
        simp [List.getD, List.getElem?_append_left, this]

theorem iq_law0 {ops : Array Oper} {rest : List Oper} {o : Oper} {a : Act} {Q : Exit → Act → World → Prop} {w w0 : World} {b : Nat}
    (hg : o.guard = none) (s x : Operand) (hop : o.op = Op.call { callee := Callee.builtin Builtin.append, args := #[s, x], argTypes := #[35, 35] })
    (hs : a.eval s = .slice none 0 0) (e1 : Nat) (z : Int) (hx : a.eval x = .slice (some ⟨e1, 0, none⟩) 1 1) (hz : w.cell? ⟨e1, 0, none⟩ = some (.int .i64 z))
    (hw0 : w0.heap.size ≤ w.heap.size) (hb : b < w.heap.size)
    (hK : ∀ q' off' c' w', IQ w0 b q' off' c' [z] w' → But q' w w' → wpList Try.prog ops Q rest (a.put o.dst (.slice (some ⟨q', off', none⟩) 1 c')) w') :
    wpList Try.prog ops Q (o :: rest) a w := by
  obtain ⟨i0, hi, hz0, hz1, hz2⟩ : ∃ i, Try.prog.info? 3 = some i ∧ i.zero = some (.int .i64 0) ∧ i.size = 1 ∧ i.bytes = 8 := info_parts (by kernel_rfl)
  refine wpList_append_grows w hg s x 35 hop 3 i0 _ 1 8 Try.underlying35 hi hz0 hz1 hz2 (by rfl) (by decide) none 0 0 [] hs (fun _ => ⟨rfl, rfl⟩) rfl (by intro b h; cases h) ⟨e1, 0, none⟩ 1 1 [.int .i64 z] hx rfl (fun j u hj => ?_) (fun u hu => ?_) (by omega) (by unfold maxLen; omega) (by omega) (fun v' w' ho hgr => ?_)
  · cases j with
    | zero => simp at hj; subst hj; exact hz
    | succ j => simp at hj
  · simp at hu; subst hu; rfl
  · obtain ⟨g2, c2, rfl⟩ := Joins.ownsRow_form ho (by omega)
    rcases ho with ⟨hl2, ⟨he, _⟩ | ⟨g, cap, cc, hv, hgb, hh, hnc, hcm, hsz, htk⟩⟩
    · cases he
    · cases hv
      refine hK g2 0 c2 w' ⟨⟨cc, hh, by omega, fun j hj => ?_⟩, by simpa using hnc, by simp, by omega, by omega⟩ ⟨hgr.os, hgr.tape, hgr.output, hgr.size, fun k hk hne => hgr.block k hk (by simp)⟩
      simp at hj
      subst hj
      have := congrArg (fun l => l[0]?) htk
      simpa using this

end Go.Proofs.Ytfjdooloikofoaa.SyncA
