/- Appending a matrix, in a plain walk. -/
import Derived.Test.YtkjbidpafnmogaaPick
namespace Go.Proofs.Ytkjbidpafnmogaa.Base
open Go.RowKit Go
set_option linter.unusedVariables false
set_option linter.unusedSimpArgs false

theorem app_mat {ops : Array Oper} {rest : List Oper} {o : Oper} {a : Act} {Q : Exit → Act → World → Prop} {w : World} {B : Nat} {v : Value} {ms : List Mt} {m : Mt} {aH : Option Addr} {cH : Nat}
    (hg : o.guard = none) (s x : Operand) (hop : o.op = Op.call { callee := Callee.builtin Builtin.append, args := #[s, x], argTypes := #[30, 30] })
    (hs : a.eval s = v) (h : OMs B w v ms) (hB : B ≤ w.heap.size) (e1 : Nat) (hx : a.eval x = .slice (some ⟨e1, 0, none⟩) 1 1) (nr nc : Int) (nh : Nat) (hnr : m.r = nr) (hnc : m.c = nc) (hnh : m.v.length = nh)
    (he : Blk w e1 #[.int .i64 nr, .int .i64 nc, .slice aH nh cH] 26) (hL : LI B w aH cH m.v) (h1 : I64 m.r) (h2 : I64 m.c) (hl : ms.length ≤ 1000)
    (hK : ∀ v' w', OMs B w' v' (ms ++ [m]) → w.grownBy w' v.ownBlock → (∀ k, v'.ownBlock = some k → v.ownBlock = some k ∨ w.heap.size ≤ k) → IsSl v' (ms.length + 1) → wpList Try.prog ops Q rest (a.put o.dst v') w') :
    wpList Try.prog ops Q (o :: rest) a w := by
  subst hnh hnr hnc
  obtain ⟨i0, hi, hz0, hz1, hz2⟩ : ∃ i, Try.prog.info? 26 = some i ∧ i.zero = some (.agg #[.int .i64 0, .int .i64 0, .slice none 0 0]) ∧ i.size = 3 ∧ i.bytes = 40 := info_parts (by kernel_rfl)
  obtain ⟨vs, ho, hr⟩ := h.ex
  have hne : 26 ≠ 3 := by decide
  refine wpList_append_own_at w hg s x 30 hop B 26 i0 _ 3 40 Try.underlying30 hi hz0 hz1 hz2 (by decide) (by decide) v ms.length vs hs ho ⟨e1, 0, none⟩ 1 1 [.int .i64 m.r, .int .i64 m.c, .slice aH m.v.length cH] hx rfl (fun j u hj => ?_) (fun u hu => ?_) (by unfold maxLen; omega) (by omega) hB (fun v' w' ho' hgr _ hat => ?_)
  · rw [Addr.add_lit, Nat.zero_add, he.cell]
    simpa using hj
  · simp at hu
    rcases hu with rfl | rfl | rfl <;> rfl
  · have hno := row_noInts ho hne
    have hf := ownsRow_succ ho'
    refine hK v' w' (OMs.snoc (fun k hk => ?_) ho.1 h.rng ho' (hL.grown hgr hno) h1 h2) hgr (fun k hk => ?_) hf
    · obtain ⟨a', c', e0, e1, e2, e3⟩ := (hr k hk).ex
      exact ⟨a', c', e0, e1, e2, e3.grown hgr hno⟩
    · rcases hat with e | e
      · exact .inl (e ▸ hk)
      · rw [hk] at e; cases e; exact .inr (Nat.le_refl _)


end Go.Proofs.Ytkjbidpafnmogaa.Base
