/- poly.terms: plain words, memory. -/
import Derived.Test.YtkjbidpafnmogaaGreatRfX
namespace Go.Proofs.YtkjbidpafnmogaaGreat.Base
open Go.RowKit Go
set_option linter.unusedVariables false
set_option linter.unusedSimpArgs false

def dvw (w z : Int) : Int := (divF z w).1
def flw (w : Int × Bool) (z : Int) : Bool := w.2 || (divF z w.1).2
theorem dvw_64 (w z : Int) : I64 (dvw w z) := (divF_fx z w).i64
def divsM (m : Mt) (k : Int) : Mt × Bool := (⟨m.r, m.c, m.v.map (dvw (wholeF k).1)⟩, m.v.any (flw (wholeF k)))
def termM (a : Mt) : Nat → Mt × Bool
  | 0 => (eyeM a.r.toNat, false)
  | m + 1 => ((divsM (mulM (termM a m).1 a).1 ((m : Int) + 1)).1, (termM a m).2 || (mulM (termM a m).1 a).2 || (divsM (mulM (termM a m).1 a).1 ((m : Int) + 1)).2)
theorem ok_made {r c : Nat} (h1 : 1 ≤ r) (h2 : r ≤ 12) (h3 : 1 ≤ c) (h4 : c ≤ 12) (f : Nat → Nat → Int × Bool) : okMt (madeF r c f).1 := by
  refine ⟨⟨?_, ?_⟩, ⟨?_, ?_⟩, ?_⟩ <;> simp [madeF] <;> omega
theorem mulM_r (m1 m2 : Mt) (h : okMt m1) : (mulM m1 m2).1.r = m1.r := by
  have := h.1.1
  simp [mulM, madeF]; omega
theorem mulM_c (m1 m2 : Mt) (h : okMt m2) : (mulM m1 m2).1.c = m2.c := by
  have := h.2.1.1
  simp [mulM, madeF]; omega
theorem ok_mul {m1 m2 : Mt} (h1 : okMt m1) (h2 : okMt m2) : okMt (mulM m1 m2).1 := by
  obtain ⟨a1, a2⟩ := h1.1
  obtain ⟨b1, b2⟩ := h2.2.1
  exact ok_made (by omega) (by omega) (by omega) (by omega) _
theorem ok_divs {m : Mt} (h : okMt m) (k : Int) : okMt (divsM m k).1 := ⟨h.1, h.2.1, by simpa [divsM] using h.2.2⟩
theorem eyeM_r (n : Nat) : (eyeM n).r = n := by simp [eyeM, diagM, madeM]
theorem eyeM_c (n : Nat) : (eyeM n).c = n := by simp [eyeM, diagM, madeM]
theorem ok_eye {n : Nat} (h1 : 1 ≤ n) (h2 : n ≤ 12) : okMt (eyeM n) := by
  refine ⟨⟨?_, ?_⟩, ⟨?_, ?_⟩, ?_⟩ <;> simp [eyeM, diagM, madeM] <;> omega
theorem term_ok {a : Mt} (h : okMt a) (hs : a.r = a.c) : ∀ m, okMt (termM a m).1 ∧ (termM a m).1.r = a.r ∧ (termM a m).1.c = a.c
  | 0 => by
    have h1 := h.1.1
    have h2 := h.1.2
    have e : ((a.r.toNat : Nat) : Int) = a.r := by omega
    exact ⟨ok_eye (by omega) (by omega), (eyeM_r _).trans e, (eyeM_c _).trans (e.trans hs)⟩
  | m + 1 => by
    obtain ⟨h1, h2, h3⟩ := term_ok h hs m
    exact ⟨ok_divs (ok_mul h1 h) _, (mulM_r _ a h1).trans h2, mulM_c (termM a m).1 a h⟩

theorem add_inj {x : Addr} {i j : Nat} (h : x.add i = x.add j) : i = j := by
  have hh : ∀ k, (x.add k).off = x.off + k := fun k => by unfold Addr.add; split <;> simp_all
  have := congrArg Addr.off h
  rw [hh, hh] at this
  omega
theorem LI.put {B : Nat} {W : World} {x : Addr} {c : Nat} {zs : List Int} (h : LI B W (some x) c zs) (j : Nat) (hj : j < zs.length) (z : Int) (hz : I64 z) : LI B (W.setCell (x.add j) (.int .i64 z)) (some x) c (zs.set j z) := by
  obtain ⟨u, hu, hc⟩ := h.mi.cell j hj
  cases hu
  refine ⟨⟨fun k hk => ?_, fun y hy => ?_, by simpa using h.mi.len, fun y hy hn => h.mi.lo y hy (by simpa using hn), fun e => (by cases e), by simpa using h.mi.cap⟩, ?_⟩
  · rw [List.length_set] at hk
    obtain ⟨u, hu, hck⟩ := h.mi.cell k hk
    cases hu
    refine ⟨x, rfl, ?_⟩
    by_cases e : j = k
    · subst e
      rw [List.getElem_set_self]
      exact World.cell?_setCell_same _ _ _ hc
    · rw [List.getElem_set_ne e]
      exact (World.cell?_setCell_other _ _ _ _ (fun h => e (add_inj h))).trans hck
  · rcases List.mem_or_eq_of_mem_set hy with h1 | h1
    · exact h.mi.rng y h1
    · rw [h1]; exact hz
  · rw [List.length_set]
    refine ⟨h.wj.wi.set _ _, fun y hy hn => ?_⟩
    cases hy
    have hi := h.wj.ty x rfl hn
    have := ((Wrote.refl 0 W).set (y := x.add j) (Nat.zero_le _) (by rw [add_block]; exact hi) (.int .i64 z)).intsB hi
    exact this
theorem set_at {vs : List Int} {d : Int → Int} {j : Nat} (hj : j < vs.length) : ((vs.take j).map d ++ vs.drop j).set j (d vs[j]) = (vs.take (j + 1)).map d ++ vs.drop (j + 1) := by
  refine List.ext_getElem (by simp; omega) fun k h1 h2 => ?_
  have hk : k < vs.length := by simp at h1; omega
  rw [List.getElem_set]
  by_cases e : j = k
  · subst e
    rw [if_pos rfl, List.getElem_append_left (by simp; omega)]
    simp
  · rw [if_neg e]
    by_cases h : k < j
    · rw [List.getElem_append_left (by simp; omega), List.getElem_append_left (by simp; omega)]
      simp
    · rw [List.getElem_append_right (by simp; omega), List.getElem_append_right (by simp; omega)]
      simp
      congr 1
      omega
theorem at_at {vs : List Int} {d : Int → Int} {j : Nat} (hj : j < vs.length) (hj2 : j < ((vs.take j).map d ++ vs.drop j).length) : ((vs.take j).map d ++ vs.drop j)[j] = vs[j] := by
  rw [List.getElem_append_right (by simp; omega)]
  simp [Nat.min_eq_left (Nat.le_of_lt hj)]

/-- What the iterator of the terms needs of a round: it leaves what lay below n₀ (but ex), the iterator's own box, and all lists of ints. -/
structure KpT (n₀ : Nat) (ex : Nat → Prop) (tb : Nat) (W W' : World) : Prop where
  size : W.heap.size ≤ W'.heap.size
  low : ∀ k, k < n₀ → ¬ ex k → W'.heap[k]? = W.heap[k]?
  box : Ty W tb 24 → W'.heap[tb]? = W.heap[tb]?
  ints : ∀ k, Ty W k 3 → W'.heap[k]? = W.heap[k]?
theorem KpT.trans {n₀ : Nat} {ex : Nat → Prop} {tb : Nat} {A B C : World} (h : KpT n₀ ex tb A B) (k : KpT n₀ ex tb B C) : KpT n₀ ex tb A C :=
  ⟨Nat.le_trans h.size k.size, fun i hi he => (k.low i hi he).trans (h.low i hi he), fun ht => by
    have h1 := h.box ht
    obtain ⟨cs, q, hc⟩ := ht
    exact (k.box ⟨cs, q, h1.trans hc⟩).trans h1, fun i ht => by
    have h1 := h.ints i ht
    obtain ⟨cs, q, hc⟩ := ht
    exact (k.ints i ⟨cs, q, h1.trans hc⟩).trans h1⟩
theorem KpT.putObj {n₀ : Nat} {ex : Nat → Prop} {tb : Nat} {W : World} {l : Nat} {o o' : Obj} (hl : n₀ ≤ l) (h : W.heap[l]? = some o) (hc : o.isCells = false) : KpT n₀ ex tb W (W.putObj l o') := by
  have hne : ∀ k t, Ty W k t → k ≠ l := fun k t ⟨cs, q, hk⟩ e => by subst e; rw [h] at hk; cases hk; cases hc
  exact ⟨by simp, fun k hk _ => World.putObj_heap_other (by omega), fun ht => World.putObj_heap_other (hne _ _ ht), fun k ht => World.putObj_heap_other (hne _ _ ht)⟩
theorem KpT.of {n₀ : Nat} {ex : Nat → Prop} {tb : Nat} {W W' : World} (h : Below W.heap.size W W') (hn : n₀ ≤ W.heap.size) : KpT n₀ ex tb W W' :=
  ⟨h.size, fun k hk _ => h.block k (Nat.lt_of_lt_of_le hk hn), fun ht => h.block _ ht.lt, fun k ht => h.block _ ht.lt⟩
theorem KpT.li {n₀ : Nat} {ex : Nat → Prop} {tb : Nat} {W W' : World} (k : KpT n₀ ex tb W W') {B : Nat} {a : Option Addr} {c : Nat} {zs : List Int} (h : LI B W a c zs) : LI B W' a c zs :=
  h.same fun x hx hn => k.ints _ (h.wj.ty x hx hn)
theorem KpT.mo {n₀ : Nat} {ex : Nat → Prop} {tb : Nat} {W W' : World} (k : KpT n₀ ex tb W W') {B : Nat} {v : Value} {m : Mt} (h : MO B W v m) : MO B W' v m := by
  obtain ⟨a, c, h1, h2⟩ := h.ex
  exact ⟨⟨a, c, h1, k.li h2⟩, h.r, h.c⟩
theorem KpT.blk {n₀ : Nat} {ex : Nat → Prop} {tb : Nat} {W W' : World} (k : KpT n₀ ex tb W W') {p : Nat} {cs : Array Value} {t : TypeId} (h : Blk W p cs t) (hp : p < n₀) (he : ¬ ex p) : Blk W' p cs t := (k.low p hp he).trans h
theorem KpT.up {n₀ : Nat} {ex : Nat → Prop} {tb : Nat} {W W' : World} (k : KpT n₀ ex tb W W') {b : Nat} {c : Bool} (h : UP W b c) (hp : b < n₀) (he : ¬ ex b) : UP W' b c := by
  obtain ⟨m, hm⟩ := h
  exact ⟨m, k.blk hm hp he⟩
theorem KpT.ml {n₀ : Nat} {ex : Nat → Prop} {tb : Nat} {W W' : World} (k : KpT n₀ ex tb W W') {b : Nat} {a : Option Addr} {c : Nat} {zs : List Int} (h : ML b W a c zs) (hp : ∀ x, a = some x → x.block < n₀ ∧ ¬ ex x.block) : ML b W' a c zs := by
  refine ⟨⟨fun j hj => ?_, h.mi.rng, h.mi.len, fun _ _ _ => Nat.zero_le _, h.mi.nn, h.mi.cap⟩, h.ne⟩
  obtain ⟨x, hx, hc⟩ := h.mi.cell j hj
  exact ⟨x, hx, (World.cell?_of_block (w := W) (by rw [add_block]; exact k.low _ (hp x hx).1 (hp x hx).2)).trans hc⟩

theorem others_of_eff {P : Nat → Prop} {W W' : World} (h : Eff P W W') (hp : ∀ k, P k → ∃ t, Ty W k t) : KeepsOthers W W' :=
  ⟨h.size, fun k o hk ho => (h.block k (Array.getElem?_eq_some_iff.1 hk).1 (fun hpk => by
    obtain ⟨t, cs, q, hc⟩ := hp k hpk
    rw [hk] at hc; cases hc; cases ho)).trans hk⟩

structure TS where
  tb : Nat
  m : Nat
/-- What the iterator changes between two rounds: the unit and its own box. -/
structure StepT (b : Nat) (s : TS) (X Y : World) : Prop where
  eff : Eff (fun k => k = b ∨ k = s.tb) X Y
  oth : KeepsOthers X Y
  tb : Ty X b 44
  tt : Ty X s.tb 24
  tt2 : Ty Y s.tb 24
def TellT (a : Mt) (b : Nat) (c0 : Bool) (n₀ : Nat) (s : TS) (v : Value) (W : World) : Prop := MO n₀ W v (termM a s.m).1 ∧ UP W b (c0 || (termM a s.m).2)
def StT (W : World) (s : TS) (W' : World) : Prop := s.m = 0 ∧ W.heap.size ≤ s.tb ∧ s.tb < W'.heap.size

end Go.Proofs.YtkjbidpafnmogaaGreat.Base
