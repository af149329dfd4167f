/- ModelRows: the walk. -/
import Derived.Test.YtagakcnhhhlolaaL10D
namespace Go.Proofs.Ytagakcnhhhlolaa.Base
open Go.RowKit
set_option linter.unusedVariables false
set_option linter.unusedSimpArgs false

/-- The rows of the first k sensors. -/
def catR (qs : List Rw) : Nat → List Rw
  | 0 => []
  | k + 1 => catR qs k ++ rowsS ((k : Int) + 1) qs
def Srt (qs : List Rw) : Prop := ∀ i j, (hi : i < qs.length) → (hj : j < qs.length) → i ≤ j → qs[i].s ≤ qs[j].s
theorem srt_of {n rmin : Int} {qs : List Rw} (h : okR n rmin qs) : Srt qs ∧ ∀ q ∈ qs, 1 ≤ q.s ∧ q.s ≤ 16 ∧ (q.h.length : Int) = n ∧ rmin ≤ q.r := by
  have each : ∀ j, (hj : j < qs.length) → lastS qs j ≤ qs[j].s ∧ qs[j].s ≤ 16 ∧ (qs[j].h.length : Int) = n ∧ rmin ≤ qs[j].r := by
    intro j hj
    have hb := h.1 j
    unfold badR at hb
    refine ⟨?_, ?_, ?_, ?_⟩
    · exact Classical.byContradiction fun e => hb ⟨hj, .inl fun x => e x.1⟩
    · exact Classical.byContradiction fun e => hb ⟨hj, .inl fun x => e x.2⟩
    · exact Classical.byContradiction fun e => hb ⟨hj, .inr (.inl e)⟩
    · exact Classical.byContradiction fun e => hb ⟨hj, .inr (.inr (.inr (by omega)))⟩
  have step : ∀ j, (hj : j + 1 < qs.length) → qs[j].s ≤ qs[j + 1].s := by
    intro j hj
    have := (each (j + 1) hj).1
    unfold lastS at this
    rw [dif_pos ⟨by omega, by simp; omega⟩] at this
    simpa using this
  have hs : Srt qs := by
    intro i j hi hj hij
    obtain ⟨d, rfl⟩ : ∃ d, j = i + d := ⟨j - i, by omega⟩
    clear hij
    induction d with
    | zero => exact Int.le_refl _
    | succ d ih =>
      have h1 := ih (by omega)
      have h2 := step (i + d) hj
      exact Int.le_trans h1 h2
  refine ⟨hs, fun q hq => ?_⟩
  obtain ⟨j, hj, rfl⟩ := List.mem_iff_getElem.1 hq
  have h1 := each j hj
  refine ⟨?_, h1.2.1, h1.2.2.1, h1.2.2.2⟩
  have h0 := (each 0 (by omega)).1
  have h2 := hs 0 j (by omega) hj (by omega)
  unfold lastS at h0
  rw [dif_neg (by omega)] at h0
  omega
theorem filter_split (qs : List Rw) (k : Int) (h : Srt qs) : qs.filter (fun q => decide (q.s ≤ k + 1)) = qs.filter (fun q => decide (q.s ≤ k)) ++ qs.filter (fun q => decide (q.s = k + 1)) := by
  induction qs with
  | nil => rfl
  | cons q qs ih =>
    have ht : Srt qs := fun i j hi hj hij => h (i + 1) (j + 1) (by simp; omega) (by simp; omega) (by omega)
    have hh : ∀ p ∈ qs, q.s ≤ p.s := by
      intro p hp
      obtain ⟨j, hj, rfl⟩ := List.mem_iff_getElem.1 hp
      exact h 0 (j + 1) (by simp) (by simp; omega) (by omega)
    by_cases h1 : q.s ≤ k
    · have e1 : q.s ≤ k + 1 := by omega
      have e2 : ¬ q.s = k + 1 := by omega
      simp [List.filter_cons, h1, e1, e2, ih ht]
    · by_cases h2 : q.s = k + 1
      · have e1 : q.s ≤ k + 1 := by omega
        have hz : qs.filter (fun p => decide (p.s ≤ k)) = [] := by
          rw [List.filter_eq_nil_iff]
          intro p hp
          have := hh p hp
          simp
          omega
        rw [List.filter_cons, List.filter_cons, List.filter_cons, if_pos (by simpa using e1), if_neg (by simpa using h1), if_pos (by simpa using h2), hz, ih ht, hz]
        rfl
      · have e1 : ¬ q.s ≤ k + 1 := by omega
        simp [List.filter_cons, h1, e1, h2, ih ht]
theorem catR_is (qs : List Rw) (h : Srt qs) (h1 : ∀ q ∈ qs, 1 ≤ q.s) (k : Nat) : catR qs k = qs.filter (fun q => decide (q.s ≤ (k : Int))) := by
  induction k with
  | zero =>
    symm
    show qs.filter _ = []
    rw [List.filter_eq_nil_iff]
    intro p hp
    have := h1 p hp
    simp
    omega
  | succ k ih =>
    show catR qs k ++ rowsS ((k : Int) + 1) qs = _
    rw [ih]
    have := filter_split qs k h
    push_cast
    rw [this]
    rfl
theorem catR_len (qs : List Rw) (h : Srt qs) (h1 : ∀ q ∈ qs, 1 ≤ q.s) (k : Nat) : (catR qs k).length ≤ qs.length := by
  rw [catR_is qs h h1 k]; exact List.length_filter_le _ _
theorem catR_all (qs : List Rw) (h : Srt qs) (h1 : ∀ q ∈ qs, 1 ≤ q.s) (h2 : ∀ q ∈ qs, q.s ≤ 16) : catR qs 16 = qs := by
  rw [catR_is qs h h1 16, List.filter_eq_self]
  intro q hq
  have := h2 q hq
  simp
  omega

theorem OR.append {B : Nat} {W' : World} {v' : Value} {qs ps : List Rw} {vs us : List Value} (hr : ∀ k, (h : k < qs.length) → RC B W' vs k qs[k]) (hvl : vs.length = qs.length * 3) (hg : ∀ q ∈ qs, I64 q.s ∧ I64 q.r)
    (hr2 : ∀ k, (h : k < ps.length) → RC B W' us k ps[k]) (hg2 : ∀ q ∈ ps, I64 q.s ∧ I64 q.r) (ho : W'.ownsRow B 41 3 v' (qs.length + ps.length) (vs ++ us)) : OR B W' v' (qs ++ ps) := by
  refine ⟨⟨_, by rw [List.length_append]; exact ho, fun k hk => ?_⟩, fun p hp => ?_⟩
  · by_cases e : k < qs.length
    · obtain ⟨a', c', e0, e1, e2, e3⟩ := (hr k e).ex
      rw [List.getElem_append_left e]
      refine ⟨a', c', ?_, ?_, ?_, e3⟩
      · rw [List.getElem?_append_left (by omega)]; exact e0
      · rw [List.getElem?_append_left (by omega)]; exact e1
      · rw [List.getElem?_append_left (by omega)]; exact e2
    · rw [List.length_append] at hk
      obtain ⟨a', c', e0, e1, e2, e3⟩ := (hr2 (k - qs.length) (by omega)).ex
      rw [List.getElem_append_right (by omega)]
      refine ⟨a', c', ?_, ?_, ?_, e3⟩
      · rw [List.getElem?_append_right (by omega), show k * 3 - vs.length = (k - qs.length) * 3 by omega]; exact e0
      · rw [List.getElem?_append_right (by omega), show k * 3 + 1 - vs.length = (k - qs.length) * 3 + 1 by omega]; exact e1
      · rw [List.getElem?_append_right (by omega), show k * 3 + 2 - vs.length = (k - qs.length) * 3 + 2 by omega]; exact e2
  · rcases List.mem_append.1 hp with h | h
    · exact hg p h
    · exact hg2 p h

def IsSl2 (v : Value) (n : Nat) : Prop := ∃ b c, v = .slice b n c
/-- 'append(all, l...)' in one way, both of one's own. -/
theorem app_more {ops : Array Oper} {rest : List Oper} {o : Oper} {a : Act} {Q : Exit → Act → World → Prop} {w : World} {B : Nat} {v : Value} {qs ps : List Rw} {al : Option Addr} {cl m : Nat}
    (hg : o.guard = none) (s x : Operand) (hop : o.op = Op.call { callee := Callee.builtin Builtin.append, args := #[s, x], argTypes := #[23, 23] })
    (hs : a.eval s = v) (h : OR B w v qs) (hB : B ≤ w.heap.size) (hm : ps.length = m) (hx : a.eval x = .slice al m cl) (h2 : OR B w (.slice al m cl) ps) (hl : qs.length ≤ 1000) (hl2 : m ≤ 1000)
    (hK : ∀ v' w', OR B w' v' (qs ++ ps) → w.grownBy w' v.ownBlock → IsSl2 v' (qs.length + m) → wpList Try.prog ops Q rest (a.put o.dst v') w') :
    wpList Try.prog ops Q (o :: rest) a w := by
  subst hm
  obtain ⟨i0, hi, hz0, hz1, hz2⟩ : ∃ i, Try.prog.info? 41 = some i ∧ i.zero = some (.agg #[.int .i64 0, .slice none 0 0, .int .i64 0]) ∧ i.size = 3 ∧ i.bytes = 40 := info_parts (by kernel_rfl)
  obtain ⟨vs, ho, hr⟩ := h.ex
  obtain ⟨us, ho2, hr2⟩ := h2.ex
  have hne : 41 ≠ 3 := by decide
  have hone : ∀ u ∈ us, u.oneCell' = true := by
    intro u hu
    obtain ⟨j, hj'⟩ := List.mem_iff_getElem?.1 hu
    have hj := (List.getElem?_eq_some_iff.1 hj').1
    rw [ho2.1] at hj
    have hk : j / 3 < ps.length := by omega
    obtain ⟨a', c', e0, e1, e2, _⟩ := (hr2 (j / 3) hk).ex
    have : j = j / 3 * 3 ∨ j = j / 3 * 3 + 1 ∨ j = j / 3 * 3 + 2 := by omega
    rcases this with h | h | h <;> rw [h] at hj'
    · rw [e0] at hj'; cases hj'; rfl
    · rw [e1] at hj'; cases hj'; rfl
    · rw [e2] at hj'; cases hj'; rfl
  have fin : ∀ v' w', w'.ownsRow B 41 3 v' (qs.length + ps.length) (vs ++ us) → w.grownBy w' v.ownBlock → wpList Try.prog ops Q rest (a.put o.dst v') w' := by
    intro v' w' ho' hgr
    have hno := row_noInts ho hne
    refine hK v' w' (OR.append (fun k hk => ?_) ho.1 h.rng (fun k hk => ?_) h2.rng ho') hgr ?_
    · obtain ⟨a', c', e0, e1, e2, e3⟩ := (hr k hk).ex
      exact ⟨a', c', e0, e1, e2, e3.grown hgr hno⟩
    · obtain ⟨a', c', e0, e1, e2, e3⟩ := (hr2 k hk).ex
      exact ⟨a', c', e0, e1, e2, e3.grown hgr hno⟩
    · rcases ho'.2 with ⟨hv, hn⟩ | ⟨g, cap, cur, hv, _⟩
      · exact ⟨none, 0, by rw [hv, hn]⟩
      · exact ⟨_, _, hv⟩
  cases al with
  | some ad =>
    refine wpList_append_own w hg s x 23 hop B 41 i0 _ 3 40 Try.underlying23 hi hz0 hz1 hz2 (by decide) (by decide) v qs.length vs hs ho ad ps.length cl us hx ho2.1 (fun j u hj => ?_) hone (by unfold maxLen; omega) (by omega) hB (fun v' w' ho' hgr _ => fin v' w' ho' hgr)
    have hob : (Value.slice (some ad) ps.length cl).ownBlock = some ad.block := by simp [Value.ownBlock]
    have hc := World.ownsRow.cells ho2 hob j u hj
    obtain ⟨_, h1 | ⟨g, cap, cur, hv, _⟩⟩ := ho2
    · cases h1.1
    · cases hv; exact hc
  | none =>
    have h0 : ps.length = 0 := by
      obtain ⟨_, h1 | ⟨g, cap, cur, hv, _⟩⟩ := ho2
      · exact h1.2
      · cases hv
    have hu : us = [] := List.eq_nil_of_length_eq_zero (by rw [ho2.1, h0])
    subst hu
    have hc0 : cl = 0 := by
      obtain ⟨_, h1 | ⟨g, cap, cur, hv, _⟩⟩ := ho2
      · have := h1.1; simp at this; exact this.2
      · cases hv
    refine wpList_append_own_none hg s x 23 hop B 41 i0 3 Try.underlying23 hi v qs.length vs hs ho (by rw [hx, h0, hc0]) ?_
    exact fin v w (by rw [h0, List.append_nil]; exact ho) (World.grownBy.refl _ _)

theorem okM_of_chk {M : Mdl} {cv : Int} (h : chkV M = cv) (h0 : cv = 0) : okM M := chkV_0.1 (h.trans h0)

set_option maxHeartbeats 8000000 in
set_option maxRecDepth 100000 in
theorem rows_walk (v0 : Value) (M : Mdl) (w : World) (hM : MM 0 w v0 M) :
    Calls Try.prog 6 #[v0] w fun e w' => e = .returned (.bool true) ∧ Below w.heap.size w w' := by
  obtain ⟨aA, cA, aQ, cQ, aR, cR, rfl, hA, hQ, hR⟩ := hM.ex
  have hX := Blk.new w #[Value.int .i64 M.n, .slice aA M.A.length cA, .slice aQ M.Q.length cQ, .int .i64 M.tick, .int .i64 M.gate, .int .i64 M.rmin, .slice aR M.rows.length cR] 25
  have hB : Below w.heap.size w (w.alloc (.cells #[Value.int .i64 M.n, .slice aA M.A.length cA, .slice aQ M.Q.length cQ, .int .i64 M.tick, .int .i64 M.gate, .int .i64 M.rmin, .slice aR M.rows.length cR] 25)) := (Below.refl _ _).alloc (Nat.le_refl _) _
  go_enter Try.func6, Try.ntmps6
  go_wp2_with fail
  generalize w.alloc (.cells #[Value.int .i64 M.n, .slice aA M.A.length cA, .slice aQ M.Q.length cQ, .int .i64 M.tick, .int .i64 M.gate, .int .i64 M.rmin, .slice aR M.rows.length cR] 25) = W1 at *
  refine (awake_is _).mono ?_
  rintro e w2 ⟨rfl, hK⟩
  replace hX := hX.keep hK
  replace hB := more hB hK
  clear hK
  have x0 := hX.cell 0
  have x1 := hX.cell 1
  have x2 := hX.cell 2
  have x3 := hX.cell 3
  have x4 := hX.cell 4
  have x5 := hX.cell 5
  have x6 := hX.cell 6
  simp at x0 x1 x2 x3 x4 x5 x6
  go_wp2_with fail
  refine (longModel_is (hM.keep hB)).mono ?_
  rintro e w3 ⟨hq, hK⟩
  replace hX := hX.keep hK
  replace hB := more hB hK
  clear hK x0 x1 x2 x3 x4 x5 x6
  rcases hq with ⟨hno, rfl⟩ | ⟨hmod, rfl⟩
  · clear hno
    go_wp2_with fail
    go_ret
    exact ⟨rfl, hB⟩
  have hmod' : Mod M := Classical.not_not.1 hmod
  clear hmod
  have hlM : M.rows.length ≤ 1000 := by have := hmod'.r; omega
  have hhM : ∀ q ∈ M.rows, q.h.length ≤ 100000 := fun q hq => by have := hmod'.h q hq; omega
  have x0 := hX.cell 0
  have x1 := hX.cell 1
  have x2 := hX.cell 2
  have x3 := hX.cell 3
  have x4 := hX.cell 4
  have x5 := hX.cell 5
  have x6 := hX.cell 6
  simp at x0 x1 x2 x3 x4 x5 x6
  go_wp2_with fail
  refine (check_is (hM.keep hB) hlM).mono ?_
  rintro e w4 ⟨hq, hK⟩
  replace hX := hX.keep hK
  replace hB := more hB hK
  clear hK x0 x1 x2 x3 x4 x5 x6
  rcases hq with ⟨hok, rfl⟩ | ⟨hno, rfl⟩
  case inr =>
    clear hno
    go_wp2_with fail
    go_ret
    exact ⟨rfl, hB⟩
  obtain ⟨hsrt, hall⟩ := srt_of hok.r
  have hrm : 1 ≤ M.rmin := hok.t.2.2
  have HS := Lib.hid hsrt
  have HA := Lib.hid hall
  clear hsrt hall hok hA hQ
  have hMw := hM.keep hB
  go_wp2_with fail
  go_loopw [4, 5, 6] (fun al sv lv wr => ∃ (k : Nat) (ov : Value), ov = al ∧ k ≤ 16 ∧ sv = .int .i64 (k + 1) ∧ OR w4.heap.size wr ov (catR M.rows k) ∧ Below w4.heap.size w4 wr) (fun _ sv _ _ => 17 - (intOf sv).toNat)
  case atStart => exact ⟨0, _, rfl, Nat.zero_le _, rfl, OR.nil _ _, Below.refl _ _⟩
  case round =>
    obtain ⟨k, ov, rfl, hk, rfl, hO, hBr⟩ := hrel
    have hW := more hB hBr
    have hXr := hX.keep hBr
    have x0 := hXr.cell 0
    have x1 := hXr.cell 1
    have x2 := hXr.cell 2
    have x3 := hXr.cell 3
    have x4 := hXr.cell 4
    have x5 := hXr.cell 5
    have x6 := hXr.cell 6
    simp at x0 x1 x2 x3 x4 x5 x6
    have hlc : (catR M.rows k).length ≤ 1000 := Nat.le_trans (catR_len M.rows HS.out (fun q hq => (HA.out q hq).1) k) hlM
    by_cases hkl : k < 16
    · have hkl' : ((k : Int) + 1) ≤ 16 := by omega
      have hk0 : (0 : Int) ≤ (k : Int) := by omega
      obtain ⟨ns, hns⟩ : ∃ n, (rowsS ((k : Int) + 1) M.rows).length = n := ⟨_, rfl⟩
      have hnl : ns ≤ 1000 := by rw [← hns]; exact Nat.le_trans (rowsS_len _ _) hlM
      have HNS := Lib.hid hns
      have HD := Lib.hid (fun (W : World) (hW : Below w.heap.size w W) => show Calls Try.prog 24 #[.agg #[Value.int .i64 M.n, .slice aA M.A.length cA, .slice aQ M.Q.length cQ, .int .i64 M.tick, .int .i64 M.gate, .int .i64 M.rmin, .slice aR M.rows.length cR], .int .i64 ((k : Int) + 1)] W fun e w' => e = .returned (.int .i64 ns) ∧ Below W.heap.size W w' from (dim_is (hM.keep hW) hlM hhM).mono fun e w' ⟨he, hb⟩ => ⟨by rw [he, hns], hb⟩)
      have HR1 := Lib.hid (fun (W : World) (hW : Below w.heap.size w W) => show Calls Try.prog 18 #[.agg #[Value.int .i64 M.n, .slice aA M.A.length cA, .slice aQ M.Q.length cQ, .int .i64 M.tick, .int .i64 M.gate, .int .i64 M.rmin, .slice aR M.rows.length cR], .int .i64 ((k : Int) + 1)] W fun e w' => ∃ a c, e = .returned (.slice a ns c) ∧ OR W.heap.size w' (.slice a ns c) (rowsS ((k : Int) + 1) M.rows) ∧ Below W.heap.size W w' from
        (rows_is (hM.keep hW) hlM hhM).mono fun e w' ⟨u, he, hO, hb⟩ => by obtain ⟨a, c, hu, _⟩ := hO.mr (by rw [hns]; exact hnl); rw [hns] at hu; exact ⟨a, c, by rw [he, hu], by rw [← hu]; exact hO, hb⟩)
      have HC := Lib.hid (show catR M.rows (k + 1) = catR M.rows k ++ rowsS ((k : Int) + 1) M.rows from rfl)
      clear hns
      generalize catR M.rows k = cs at *
      generalize rowsS ((k : Int) + 1) M.rows = rs at *
      go_wp2_with fail
      refine (HR1.out _ hW).mono ?_
      rintro e w5 ⟨a5, c5, rfl, hO5, hK5⟩
      have hX5 := hXr.keep hK5
      have hO' := hO.keep hK5
      have hW5 := more hW hK5
      have hsz : w4.heap.size ≤ wr.heap.size := hBr.size
      clear x0 x1 x2 x3 x4 x5 x6
      have x0 := hX5.cell 0
      have x1 := hX5.cell 1
      have x2 := hX5.cell 2
      have x3 := hX5.cell 3
      have x4 := hX5.cell 4
      have x5 := hX5.cell 5
      have x6 := hX5.cell 6
      simp at x0 x1 x2 x3 x4 x5 x6
      go_wp2_with fail
      refine (HD.out _ hW5).mono ?_
      rintro e w6 ⟨rfl, hK6⟩
      have hO6 := hO'.keep hK6
      have hP6 := (hO5.keep hK6).mono hsz
      have hb6 := more hBr (more hK5 hK6)
      have hsz6 := hb6.size
      clear x0 x1 x2 x3 x4 x5 x6 hX5 hXr hO hO5 hO' hK5 hK6 hBr
      go_wp2_with (at_builtin; refine app_more (B := w4.heap.size) (qs := cs) (ps := rs) (v := ov) rfl _ _ rfl rfl hO6 hsz6 HNS.out rfl hP6 hlc hnl ?_)
      intro v' w7 hO7 hg7 hs7
      obtain ⟨b7, c7, rfl⟩ := hs7
      have hb7 : Below w4.heap.size w4 w7 := by
        obtain ⟨vs, hov, _⟩ := hO6.ex
        exact ownsRow_grown hov hb6 hg7 (Nat.le_refl _)
      clear hg7 hO6 hP6 hb6
      go_wp2_with fail
      go_roundw
      case rel => exact ⟨k + 1, _, rfl, by omega, by go_num, by rw [HC.out]; exact hO7, hb7⟩
      case measure => simp [intOf]; omega
    · have hgk : ¬ ((k : Int) + 1) ≤ 16 := by omega
      have hk16 : k = 16 := by omega
      subst hk16
      rw [catR_all M.rows HS.out (fun q hq => (HA.out q hq).1) (fun q hq => (HA.out q hq).2.1)] at hO
      obtain ⟨a5, c5, rfl, hMR⟩ := hO.mr hlM
      obtain ⟨n, hn⟩ : ∃ n, M.rows.length = n := ⟨_, rfl⟩
      have HN := Lib.hid hn
      have hsame := Lib.hid (fun (W' : World) (h : Below wr.heap.size wr W') => sameRows_same (hMR.keep h) ((hR.keep hW).keep h))
      rw [hn] at hsame x6 hlM
      simp only [hn]
      clear hn hO
      go_wp2_with fail
      obtain ⟨wo, rfl⟩ : ∃ wo : World, wo = wr := ⟨_, rfl⟩
      have hrm' := hrm
      clear x0 x1 x2 x3 x4 x5 x6
      go_loopw [7] (fun iv w5 => ∃ (j : Nat), j ≤ n ∧ iv = .int .i64 j ∧ Below wo.heap.size wo w5) (fun iv _ => n - (intOf iv).toNat)
      case atStart => exact ⟨0, Nat.zero_le _, rfl, Below.refl _ _⟩
      case round =>
        obtain ⟨j, hj, rfl, hBj⟩ := hrel
        have hXj := hXr.keep hBj
        have hWj := more hW hBj
        have x0 := hXj.cell 0
        have x5 := hXj.cell 5
        have x6 := hXj.cell 6
        simp [HN.out] at x0 x5 x6
        by_cases hjl : j < n
        · have hjl' : (j : Int) < (n : Int) := by omega
          have hj0 : (0 : Int) ≤ (j : Int) := by omega
          have hjz : j < M.rows.length := by rw [HN.out]; exact hjl
          obtain ⟨x, rfl, hrow⟩ := (hMR.keep hBj).at_ j hjz
          obtain ⟨_, _, hh1, hh2⟩ := HA.out _ (List.getElem_mem hjz)
          generalize M.rows[j] = q at *
          obtain ⟨s, h, r⟩ := q
          obtain ⟨aH, cH, y0, y1, y2, _⟩ := hrow.ex
          dsimp only at y0 y1 y2 hh1 hh2
          clear hrow y0
          obtain ⟨nh, hnh⟩ : ∃ nh, h.length = nh := ⟨_, rfl⟩
          rw [hnh] at y1 hh1
          have hne : ((nh : Int) != M.n) = false := by simp [hh1]
          have hd1 : decide (r < M.rmin) = false := decide_eq_false (by omega)
          have hd2 : decide (r < 1) = false := decide_eq_false (by omega)
          rw [← hh1] at x0
          clear hh1 hne hnh
          go_wp2_with fail
          go_quiet (fail)
          go_wp2_with fail
          go_roundw
          case rel => exact ⟨j + 1, by omega, by go_num, more hBj (below_drewN _ _)⟩
          case measure => simp [intOf]; omega
        · have hgj : ¬ (j : Int) < (n : Int) := by omega
          go_wp2_with fail
          refine (hsame.out _ hBj).mono ?_
          rintro e w9 ⟨rfl, hK9⟩
          have hE := more hWj hK9
          clear hK9 hWj hBj x0 x5 x6
          go_wp2_with fail
          go_ret
          exact ⟨rfl, hE⟩

end Go.Proofs.Ytagakcnhhhlolaa.Base
