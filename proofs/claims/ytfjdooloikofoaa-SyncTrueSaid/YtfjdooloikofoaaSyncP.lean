/- The reference's clock: its Add, of an exchange that is taken. -/
import Derived.Test.YtfjdooloikofoaaSyncO
import Derived.Deep.RegionLawGrows
import Derived.Laws.OwnMore
import Derived.Laws.AppendOwn
import Derived.Lib.SmallJoins
import Derived.BigQuiet
namespace Go.Proofs.Ytfjdooloikofoaa.SyncA
open Go.RowKit Go.Shelf Go.Proofs.Ytfjdooloikofoaa.StampA Go.Proofs.Ytfjdooloikofoaa.Base
set_option linter.unusedVariables false
set_option linter.unusedSimpArgs false

theorem step_append_own {P : Program} {ops : Array Oper} {o : Oper} {a : Act} {w : World} {K : Act → World → Prop} {Q : Exit → Act → World → Prop} {E : Prop}
    (hgd : o.guard = none) (s x : Operand) (t : TypeId) (ho : o.op = .call { callee := .builtin .append, args := #[s, x], argTypes := #[t, t] })
    (base : Nat) (e : TypeId) (i : TypeInfo) (z : Value) (size bytes : Nat) (ht : P.underlying t = some (.slice e)) (hi : P.info? e = some i) (hz : i.zero = some z)
    (hsize : i.size = size) (hby : i.bytes = bytes) (hzs : z.cells.size = size) (hsz : 0 < size)
    (v : Value) (n : Nat) (xs : List Value) (hs : a.eval s = v) (hown : w.ownsRow base e size v n xs)
    (ad : Addr) (m c : Nat) (news : List Value) (hx : a.eval x = .slice (some ad) m c) (hl : news.length = m * size) (hnews : ∀ j u, news[j]? = some u → w.cell? (ad.add j) = some u) (h1 : ∀ u ∈ news, u.oneCell' = true)
    (h63 : n + m ≤ maxLen) (hbytes : (n + m) * bytes ≤ 140737488355328) (hbase : base ≤ w.heap.size)
    (h : ∀ v' w', w'.ownsRow base e size v' (n + m) (xs ++ news) → w.grownBy w' v.ownBlock → K (a.put o.dst v') w') :
    if Region.wanted o (yielded ops a.tmps) = true then Oper.wp P o a w K Q else E := by
  have hw : Region.wanted o (yielded ops a.tmps) = true := by simp [Region.wanted, hgd]
  rw [if_pos hw]
  exact wp_append_own w s x t ho base e i z size bytes ht hi hz hsize hby hzs hsz v n xs hs hown ad m c news hx hl hnews h1 h63 hbytes hbase (fun v' w' h2 h3 _ => h v' w' h2 h3)
theorem step_append_none {P : Program} {ops : Array Oper} {o : Oper} {a : Act} {w : World} {K : Act → World → Prop} {Q : Exit → Act → World → Prop} {E : Prop}
    (hgd : o.guard = none) (s x : Operand) (t : TypeId) (ho : o.op = .call { callee := .builtin .append, args := #[s, x], argTypes := #[t, t] })
    (base : Nat) (e : TypeId) (i : TypeInfo) (size : Nat) (ht : P.underlying t = some (.slice e)) (hi : P.info? e = some i)
    (v : Value) (n : Nat) (xs : List Value) (hs : a.eval s = v) (hown : w.ownsRow base e size v n xs) (hx : a.eval x = .slice none 0 0)
    (h : K (a.put o.dst v) w) :
    if Region.wanted o (yielded ops a.tmps) = true then Oper.wp P o a w K Q else E := by
  have hw : Region.wanted o (yielded ops a.tmps) = true := by simp [Region.wanted, hgd]
  rw [if_pos hw]
  have hrun := run_append_owned_none (P := P) (w := w) base t o.type e i size ht hi v n xs hown
  unfold Oper.wp
  simp [execOp, ho, resolve, invoke, builtin, hs, hx, hrun, Result.andThen]
  exact h

abbrev xc (x1 x2 x3 x4 : Int) : Array Value := #[.int .i64 x1, .int .i64 x2, .int .i64 x3, .int .i64 x4]
/-- The exchange's own block. -/
structure SX (bx : Nat) (x1 x2 x3 x4 : Int) (W : World) : Prop where
  c0 : W.cell? ⟨bx, 0, none⟩ = some (.int .i64 x1)
  c1 : W.cell? ⟨bx, 1, none⟩ = some (.int .i64 x2)
  c2 : W.cell? ⟨bx, 2, none⟩ = some (.int .i64 x3)
  c3 : W.cell? ⟨bx, 3, none⟩ = some (.int .i64 x4)
theorem SX.of {bx : Nat} {x1 x2 x3 x4 : Int} {W : World} (h : Blk W bx (xc x1 x2 x3 x4) 48) : SX bx x1 x2 x3 x4 W := ⟨h.cell 0, h.cell 1, h.cell 2, h.cell 3⟩
/-- The world within the region. -/
structure PA (w : World) (bx : Nat) (x1 x2 x3 x4 : Int) (W : World) : Prop where
  bel : Below w.heap.size w W
  hx : Blk W bx (xc x1 x2 x3 x4) 48
  le : w.heap.size ≤ bx
theorem PA.al {w W : World} {bx : Nat} {x1 x2 x3 x4 : Int} (h : PA w bx x1 x2 x3 x4 W) (o : Obj) : PA w bx x1 x2 x3 x4 (W.alloc o) :=
  ⟨h.bel.alloc h.bel.size o, h.hx.alloc o, h.le⟩
theorem PA.grown {w W W' : World} {bx : Nat} {x1 x2 x3 x4 : Int} {row : Option Nat} (h : PA w bx x1 x2 x3 x4 W) (hg : W.grownBy W' row) (hr : ∀ k, row = some k → w.heap.size ≤ k ∧ k ≠ bx) : PA w bx x1 x2 x3 x4 W' := by
  refine ⟨⟨hg.os.trans h.bel.os, hg.tape.trans h.bel.tape, hg.output.trans h.bel.output, Nat.le_trans h.bel.size hg.size, fun k hk => (hg.block k (Nat.lt_of_lt_of_le hk h.bel.size) (fun e => ?_)).trans (h.bel.block k hk)⟩, h.hx.grown hg (fun e => ?_), h.le⟩
  · have := (hr k e.symm).1; omega
  · exact (hr bx e.symm).2 rfl
theorem PA.drew {w W : World} {bx : Nat} {x1 x2 x3 x4 : Int} (h : PA w bx x1 x2 x3 x4 W) : PA w bx x1 x2 x3 x4 W.drew := ⟨h.bel.drew, h.hx.drew, h.le⟩
theorem PA.old {w W : World} {bx : Nat} {x1 x2 x3 x4 : Int} (h : PA w bx x1 x2 x3 x4 W) {a : Addr} {v : Value} (hc : w.cell? a = some v) : W.cell? a = some v :=
  (h.bel.cell (World.block_lt_of_cell? w _ hc)).trans hc
theorem owns_base {w : World} {B B' : Nat} {e : TypeId} {size : Nat} {v : Value} {n : Nat} {xs : List Value} (h : w.ownsRow B e size v n xs) (hB : B' ≤ B) : w.ownsRow B' e size v n xs := by
  refine ⟨h.1, ?_⟩
  rcases h.2 with h | ⟨g, cap, cur, h1, h2, h3⟩
  · exact .inl h
  · exact .inr ⟨g, cap, cur, h1, Nat.le_trans hB h2, h3⟩
theorem news_at {W : World} {e1 : Nat} {x1 x2 x3 x4 : Int} (h : Blk W e1 (xc x1 x2 x3 x4) 48) : ∀ j u, [Value.int .i64 x1, .int .i64 x2, .int .i64 x3, .int .i64 x4][j]? = some u → W.cell? ((⟨e1, 0, none⟩ : Addr).add j) = some u := by
  intro j u hj
  rw [Addr.add_lit, Nat.zero_add, h.cell j]
  simpa using hj
theorem news_one (x1 x2 x3 x4 : Int) : ∀ u ∈ [Value.int .i64 x1, .int .i64 x2, .int .i64 x3, .int .i64 x4], u.oneCell' = true := by
  intro u h
  simp at h
  rcases h with rfl | rfl | rfl | rfl <;> rfl
/-- What the region leaves. -/
structure PF (w : World) (b : Nat) (win : Int) (g2 n c2 : Nat) (xs : List Value) (W : World) : Prop where
  blk : Blk W b #[.int .i64 win, .slice (some ⟨g2, 0, none⟩) n c2] 78
  cells : ∀ j u, xs[j]? = some u → W.cell? ⟨g2, j, none⟩ = some u
  ne : g2 ≠ b
  ge : w.heap.size ≤ g2
  nc : n ≤ c2
  but : But b w W
theorem PF.mk' {w W : World} {b bx g2 n c2 : Nat} {win : Int} {s : Value} {x1 x2 x3 x4 : Int} {xs : List Value} (hb : Blk w b #[.int .i64 win, s] 78) (hP : PA w bx x1 x2 x3 x4 W)
    (h : W.ownsRow w.heap.size 48 4 (.slice (some ⟨g2, 0, none⟩) n c2) n xs) : PF w b win g2 n c2 xs (W.setCell ⟨b, 1, none⟩ (.slice (some ⟨g2, 0, none⟩) n c2)) := by
  have hbl := hb.lt
  have hg := (h.lt g2 rfl).1
  have hne : g2 ≠ b := by omega
  have hcap : n ≤ c2 := by
    rcases h.2 with ⟨h, _⟩ | ⟨g, cap, cur, h1, h2, h3, h4, _⟩
    · cases h
    · cases h1; exact h4
  refine ⟨?_, fun j u hj => ?_, hne, hg, hcap, ⟨?_, ?_, ?_, ?_, ?_⟩⟩
  · have := (hb.below hP.bel hbl).set 1 (.slice (some ⟨g2, 0, none⟩) n c2)
    simpa using this
  · have hc := h.cells rfl j u hj
    rw [Addr.add_lit, Nat.zero_add] at hc
    have := Below.heap_setCell W ⟨b, 1, none⟩ (.slice (some ⟨g2, 0, none⟩) n c2) g2 hne
    rw [← hc]
    simp [World.cell?, this]
  · exact hP.bel.os
  · exact hP.bel.tape
  · exact hP.bel.output
  · simpa [World.setCell] using hP.bel.size
  · intro k hk hkb
    exact (Below.heap_setCell W ⟨b, 1, none⟩ _ k hkb).trans (hP.bel.block k hk)
theorem PF.drewN {w W : World} {b g2 n c2 : Nat} {win : Int} {xs : List Value} (h : PF w b win g2 n c2 xs W) (k : Nat) : PF w b win g2 n c2 xs (W.drewN k) :=
  ⟨h.blk, h.cells, h.ne, h.ge, h.nc, ⟨h.but.os, h.but.tape, h.but.output, h.but.size, h.but.block⟩⟩
theorem PF.but' {w W : World} {b g2 n c2 : Nat} {win : Int} {xs : List Value} (h : PF w b win g2 n c2 xs W) (v : Value) : But b w (W.setCell ⟨b, 1, none⟩ v) :=
  ⟨h.but.os, h.but.tape, h.but.output, by simpa [World.setCell] using h.but.size, fun k hk hne => (Below.heap_setCell W ⟨b, 1, none⟩ v k hne).trans (h.but.block k hk hne)⟩
theorem PF.part {w W : World} {b g2 n c2 : Nat} {win : Int} {l : List TSw} {x : TSw} (h : PF w b win g2 (n + 1) c2 (flat l ++ [.int .i64 x.1.t1, .int .i64 x.1.t2, .int .i64 x.1.t3, .int .i64 x.1.t4]) W)
    (hl : l.length = n) (hw1 : 1 ≤ win) (hw2 : win ≤ 32) (hn : (n : Int) + 1 ≤ win) {av : Nat} (hav : av < w.heap.size) : RK W b av win (l ++ [x]) := by
  refine ⟨hw1, hw2, by simp [hl]; omega, .inr ⟨g2, 0, c2, ?_, ?_, by simp, h.ne, (by have := h.ge; omega), fun j u hj => ?_⟩⟩
  · have := h.blk
    simpa [hl] using this
  · have := h.nc
    simp [hl]; omega
  · rw [flat_app] at hj
    rw [Nat.zero_add]
    exact h.cells j u hj
theorem PF.full {w W : World} {b g2 n c2 : Nat} {win : Int} {l : List TSw} {x : TSw} (h : PF w b win g2 (n + 1) c2 (flat l ++ [.int .i64 x.1.t1, .int .i64 x.1.t2, .int .i64 x.1.t3, .int .i64 x.1.t4]) W)
    (hl : l.length = n) (hw1 : 1 ≤ win) (hw2 : win ≤ 32) (hn : (n : Int) = win) {av : Nat} (hav : av < w.heap.size) : RK (W.setCell ⟨b, 1, none⟩ (.slice (some ⟨g2, 4, none⟩) n (c2 - 1))) b av win (l.tail ++ [x]) := by
  have hlt : (l.tail ++ [x]).length = n := by simp; omega
  refine ⟨hw1, hw2, by rw [hlt]; omega, .inr ⟨g2, 4, c2 - 1, ?_, ?_, by omega, h.ne, (by have := h.ge; omega), fun j u hj => ?_⟩⟩
  · have := h.blk.set 1 (.slice (some ⟨g2, 4, none⟩) n (c2 - 1))
    rw [hlt]
    simpa using this
  · have := h.nc
    rw [hlt]; omega
  · have e : flat l ++ [.int .i64 x.1.t1, .int .i64 x.1.t2, .int .i64 x.1.t3, .int .i64 x.1.t4] = flat (l ++ [x]) := by rw [flat_app]; rfl
    have hne : g2 ≠ b := h.ne
    have := Below.heap_setCell W ⟨b, 1, none⟩ (.slice (some ⟨g2, 4, none⟩) n (c2 - 1)) g2 hne
    have hc := h.cells (4 + j) u (by
      rw [e]
      cases l with
      | nil => simp at hl; omega
      | cons y r =>
        rw [show 4 + j = j + 1 + 1 + 1 + 1 by omega]
        simpa [flat] using hj)
    rw [← hc]
    simp [World.cell?, this]

set_option maxHeartbeats 8000000 in
set_option maxRecDepth 100000 in
theorem radd_some {w : World} {b g off c n : Nat} {win : Int} (l : List TSw) (hln : l.length = n) (hn0 : 0 < n) (hn1 : (n : Int) ≤ win) (hw1 : 1 ≤ win) (hw2 : win ≤ 32) (hb : Blk w b #[.int .i64 win, (.slice (some ⟨g, off, none⟩) n c)] 78) (hgb : g ≠ b) (hL : ∀ j u, (flat l)[j]? = some u → w.cell? ⟨g, off + j, none⟩ = some u) (x1 x2 x3 x4 : Int)
    (e0 : tmB x1 = true) (e1 : tmB x2 = true) (e2 : tmB x3 = true) (e3 : tmB x4 = true) (h4 : x1 ≤ x4) (h5 : x2 ≤ x3) (h6 : 0 ≤ x4 - x1 - (x3 - x2)) (ht : Tm ⟨x1, x2, x3, x4⟩) {av : Nat} (hav : av < w.heap.size) :
    Calls Try.prog 33 #[.pointer (some ⟨b, 0, none⟩), .agg #[.int .i64 x1, .int .i64 x2, .int .i64 x3, .int .i64 x4]] w fun e w' => e = .returned (.int .i64 0) ∧ RK w' b av win (pushL win l ⟨⟨x1, x2, x3, x4⟩, ht⟩) ∧ But b w w' := by
  obtain ⟨i0, hi, hz0, hz1, hz2⟩ : ∃ i, Try.prog.info? 48 = some i ∧ i.zero = some (.agg #[.int .i64 0, .int .i64 0, .int .i64 0, .int .i64 0]) ∧ i.size = 4 ∧ i.bytes = 32 := info_parts (by kernel_rfl)
  go_enter Try.func33, Try.ntmps33
  go_wp2_with (first
    | (go_at_call 49; refine (time_is _ _ (by assumption) _).mono ?_; rintro e w' ⟨rfl, rfl⟩)
    | (go_at_call 50; refine (rround_any x1 x2 x3 x4 _ (tm_of _ e0) (tm_of _ e1) (tm_of _ e2) (tm_of _ e3)).mono ?_; rintro e w' ⟨rfl, hK⟩))
  have hP : PA w w.heap.size x1 x2 x3 x4 w'.drew := PA.drew ⟨((Below.refl _ _).alloc (Nat.le_refl _) _).trans (hK.mono (by simp)), (Blk.new w _ _).keep hK, Nat.le_refl _⟩
  have hq : w.cell? ⟨b, 1, none⟩ = some (.slice (some ⟨g, off, none⟩) n c) := hb.cell 1
  clear hK e0 e1 e2 e3 h4 h5 h6
  refine wp_region_held_drew (S := SX w.heap.size x1 x2 x3 x4) (by kernel_rfl) (SX.of hP.hx) (fun hS => ?_)
  generalize w'.drew = W0 at *
  refine wpAnyH_take (i := 0) (v := ?_) rfl (by kernel_rfl) (by kernel_rfl) (by kernel_rfl) (fun _ _ _ h => h) (Or.inl ⟨by rfl, ?_⟩) hS ?_
  rotate_left
  focus ((intro w' hSw; (obtain ⟨q0, q1, q2, q3⟩ := hSw); go_simp); first | done | with_reducible rfl)
  try simp only [Act.put, List.getElem_toArray, List.getElem_cons_zero, List.getElem_cons_succ, List.setIfInBounds_toArray, List.set_cons_zero, List.set_cons_succ]
  refine wpAnyH_take (i := 2) (v := ?_) rfl (by kernel_rfl) (by kernel_rfl) (by kernel_rfl) (fun _ _ _ h => h) (Or.inl ⟨by rfl, ?_⟩) hS ?_
  rotate_left
  focus ((intro w' hSw; (obtain ⟨q0, q1, q2, q3⟩ := hSw); go_simp); first | done | with_reducible rfl)
  try simp only [Act.put, List.getElem_toArray, List.getElem_cons_zero, List.getElem_cons_succ, List.setIfInBounds_toArray, List.set_cons_zero, List.set_cons_succ]
  refine wpAnyH_take (i := 3) (v := ?_) rfl (by kernel_rfl) (by kernel_rfl) (by kernel_rfl) (fun _ _ _ h => h) (Or.inl ⟨by rfl, ?_⟩) hS ?_
  rotate_left
  focus ((intro w' hSw; (obtain ⟨q0, q1, q2, q3⟩ := hSw); go_simp); first | done | with_reducible rfl)
  try simp only [Act.put, List.getElem_toArray, List.getElem_cons_zero, List.getElem_cons_succ, List.setIfInBounds_toArray, List.set_cons_zero, List.set_cons_succ]
  refine wpAnyH_take (i := 4) (v := ?_) rfl (by kernel_rfl) (by kernel_rfl) (by kernel_rfl) (fun _ _ _ h => h) (Or.inl ⟨by rfl, ?_⟩) hS ?_
  rotate_left
  focus ((intro w' hSw; (obtain ⟨q0, q1, q2, q3⟩ := hSw); go_simp); first | done | with_reducible rfl)
  try simp only [Act.put, List.getElem_toArray, List.getElem_cons_zero, List.getElem_cons_succ, List.setIfInBounds_toArray, List.set_cons_zero, List.set_cons_succ]
  refine wpAnyH_take (i := 7) (v := ?_) rfl (by kernel_rfl) (by kernel_rfl) (by kernel_rfl) (fun _ _ _ h => h) (Or.inl ⟨by rfl, ?_⟩) hS ?_
  rotate_left
  focus ((intro w' hSw; (obtain ⟨q0, q1, q2, q3⟩ := hSw); go_simp); first | done | with_reducible rfl)
  try simp only [Act.put, List.getElem_toArray, List.getElem_cons_zero, List.getElem_cons_succ, List.setIfInBounds_toArray, List.set_cons_zero, List.set_cons_succ]
  refine wpAnyH_ready (rs := [1, 5, 8]) (by kernel_rfl) (by simp) ?_
  refine AllReadyH.cons rfl (fun K hK => ?_) ?_
  · go_simp
    have hbs := hP.bel.size
    have hbx := hP.hx.lt
    replace hP := hP.al (.cells #[] 48)
    clear hbs hbx
    generalize W0.alloc (.cells #[] 48) = W1 at *
    generalize W0.heap.size = e0 at *
    refine hK.out _ _ (SX.of hP.hx) (fun hS => ?_)
    clear hK K
    try simp only [Act.put, List.getElem_toArray, List.getElem_cons_zero, List.getElem_cons_succ, List.setIfInBounds_toArray, List.set_cons_zero, List.set_cons_succ]
    refine wpAnyH_ready (rs := [5, 8]) (by kernel_rfl) (by simp) ?_
    refine AllReadyH.cons rfl (fun K hK => ?_) ?_
    · have q5 := hP.old hq
      go_simp
      clear q5
      refine hK.out _ _ (SX.of hP.hx) (fun hS => ?_)
      clear hK K
      try simp only [Act.put, List.getElem_toArray, List.getElem_cons_zero, List.getElem_cons_succ, List.setIfInBounds_toArray, List.set_cons_zero, List.set_cons_succ]
      refine wpAnyH_ready (rs := [6, 8]) (by kernel_rfl) (by simp) ?_
      refine AllReadyH.cons rfl (fun K hK => ?_) ?_
      · refine step_append_grows rfl (.tmp 47) (.tmp 51) 53 rfl 48 i0 _ 4 32 Try.underlying53 hi hz0 hz1 hz2 (by rfl) (by decide) (some ⟨e0, 0, none⟩) 0 0 [] rfl (by intro h; cases h) rfl (by intro b h j u hj; simp at hj) ⟨g, off, none⟩ n c (flat l) rfl (by rw [flat_len, hln]) (fun j u hj => by rw [Addr.add_lit]; exact hP.old (hL j u hj)) (flat_one l) (by omega) (by unfold maxLen; omega) (by omega) ?_
        intro v6 W6 h6 hG6
        rw [Nat.zero_add, List.nil_append] at h6
        obtain ⟨g1, c1, rfl⟩ := Joins.ownsRow_form h6 (by omega)
        have hg1 := (h6.lt g1 rfl).1
        have hbs := hP.bel.size
        have hbx := hP.hx.lt
        have hg1w : w.heap.size ≤ g1 := by omega
        have hg1x : g1 ≠ w.heap.size := by omega
        replace hP := hP.grown hG6 (fun k e => by cases e)
        replace h6 := owns_base h6 hbs
        clear hG6 hg1 hbs hbx
        refine hK.out _ _ (SX.of hP.hx) (fun hS => ?_)
        clear hK K
        try simp only [Act.put, List.getElem_toArray, List.getElem_cons_zero, List.getElem_cons_succ, List.setIfInBounds_toArray, List.set_cons_zero, List.set_cons_succ]
        refine wpAnyH_ready (rs := [8]) (by kernel_rfl) (by simp) ?_
        refine AllReadyH.cons rfl (fun K hK => ?_) AllReadyH.nil
        go_simp
        have h8 : Blk (W6.alloc (.cells #[.int .i64 x1, .int .i64 x2, .int .i64 x3, .int .i64 x4] 48)) W6.heap.size (xc x1 x2 x3 x4) 48 := Blk.new W6 _ _
        have hne : g1 ≠ W6.heap.size := by have := (h6.lt g1 rfl).2; omega
        replace h6 := h6.alloc (.cells #[.int .i64 x1, .int .i64 x2, .int .i64 x3, .int .i64 x4] 48)
        replace hP := hP.al (.cells #[.int .i64 x1, .int .i64 x2, .int .i64 x3, .int .i64 x4] 48)
        generalize W6.alloc (.cells #[.int .i64 x1, .int .i64 x2, .int .i64 x3, .int .i64 x4] 48) = W8 at *
        generalize W6.heap.size = e1 at *
        refine hK.out _ _ (SX.of hP.hx) (fun hS => ?_)
        clear hK K
        try simp only [Act.put, List.getElem_toArray, List.getElem_cons_zero, List.getElem_cons_succ, List.setIfInBounds_toArray, List.set_cons_zero, List.set_cons_succ]
        refine wpAnyH_ready (rs := [9]) (by kernel_rfl) (by simp) ?_
        refine AllReadyH.cons rfl (fun K hK => ?_) AllReadyH.nil
        refine step_append_own rfl (.tmp 52) (.tmp 54) 53 rfl w.heap.size 48 i0 _ 4 32 Try.underlying53 hi hz0 hz1 hz2 (by rfl) (by decide) _ n (flat l) rfl h6 ⟨e1, 0, none⟩ 1 1 [.int .i64 x1, .int .i64 x2, .int .i64 x3, .int .i64 x4] rfl rfl (news_at h8) (news_one x1 x2 x3 x4) (by unfold maxLen; omega) (by omega) hP.bel.size ?_
        intro v9 W9 h9 hG9
        obtain ⟨g2, c2, rfl⟩ := Joins.ownsRow_form h9 (by omega)
        replace hP := hP.grown hG9 (fun k e => by cases e; exact ⟨hg1w, hg1x⟩)
        clear hG9
        refine hK.out _ _ (SX.of hP.hx) (fun hS => ?_)
        clear hK K
        try simp only [Act.put, List.getElem_toArray, List.getElem_cons_zero, List.getElem_cons_succ, List.setIfInBounds_toArray, List.set_cons_zero, List.set_cons_succ]
        refine wpAnyH_take (i := 10) (v := ?_) rfl (by kernel_rfl) (by kernel_rfl) (by kernel_rfl) (fun _ _ _ h => h) (Or.inl ⟨by rfl, ?_⟩) hS ?_
        rotate_left
        focus ((intro w' hSw; (obtain ⟨q0, q1, q2, q3⟩ := hSw); go_simp); first | done | with_reducible rfl)
        try simp only [Act.put, List.getElem_toArray, List.getElem_cons_zero, List.getElem_cons_succ, List.setIfInBounds_toArray, List.set_cons_zero, List.set_cons_succ]
        refine wpAnyH_take (i := 11) (v := ?_) rfl (by kernel_rfl) (by kernel_rfl) (by kernel_rfl) (fun _ _ _ h => h) (Or.inl ⟨by rfl, ?_⟩) hS ?_
        rotate_left
        focus ((intro w' hSw; (obtain ⟨q0, q1, q2, q3⟩ := hSw); go_simp); first | done | with_reducible rfl)
        try simp only [Act.put, List.getElem_toArray, List.getElem_cons_zero, List.getElem_cons_succ, List.setIfInBounds_toArray, List.set_cons_zero, List.set_cons_succ]
        have q9 : W9.cell? ⟨b, 1, none⟩ = some (.slice (some ⟨g, off, none⟩) n c) := hP.old hq
        have f9 : W9.frozen? ⟨b, 1, none⟩ = false := (hb.below hP.bel hb.lt).frozen 1
        refine wpAnyH_ready (rs := [12]) (by kernel_rfl) (by simp) ?_
        refine AllReadyH.cons rfl (fun K hK => ?_) AllReadyH.nil
        go_simp
        have hbl := hb.lt
        have hle := hP.le
        refine hK.out _ _ (SX.of (hP.hx.other (by omega) _ _)) (fun hS2 => ?_)
        clear hK K hS2 hS q9 f9
        try simp only [Act.put, List.getElem_toArray, List.getElem_cons_zero, List.getElem_cons_succ, List.setIfInBounds_toArray, List.set_cons_zero, List.set_cons_succ]
        refine wpAnyH_done (by kernel_rfl) ?_ _
        have hF := PF.mk' hb hP h9
        generalize W9.setCell ⟨b, 1, none⟩ (.slice (some ⟨g2, 0, none⟩) (n + 1) c2) = Wf at *
        clear hP h9 hS hL hq h8 hne hg1w hg1x hi hz0 hz1 hz2
        have hc0 := hF.blk.cell 0
        have hc1 := hF.blk.cell 1
        have hnc := hF.nc
        have hbu := hF.but'
        have hfz := hF.blk.frozen 1
        simp only [List.getElem?_toArray, List.getElem?_cons_zero, List.getElem?_cons_succ, List.getElem?_cons] at hc0 hc1
        by_cases hfull : (n : Int) = win
        · have hgt : win < ((n + 1 : Nat) : Int) := by omega
          go_wp2_with fail
          go_quiet (fail)
          go_wp2_with fail
          go_ret
          exact ⟨rfl, by rw [pushL, if_pos (by omega)]; exact (hF.drewN _).full hln hw1 hw2 hfull hav, (hF.drewN _).but' _⟩
        · have hgt : ¬ win < ((n + 1 : Nat) : Int) := by omega
          go_wp2_with fail
          go_quiet (fail)
          go_wp2_with fail
          go_ret
          exact ⟨rfl, by rw [pushL, if_neg (by omega)]; exact (hF.drewN _).part hln hw1 hw2 (by omega) hav, (hF.drewN _).but⟩
      refine AllReadyH.cons rfl (fun K hK => ?_) AllReadyH.nil
      · go_simp
        have h8 : Blk (W1.alloc (.cells #[.int .i64 x1, .int .i64 x2, .int .i64 x3, .int .i64 x4] 48)) W1.heap.size (xc x1 x2 x3 x4) 48 := Blk.new W1 _ _
        replace hP := hP.al (.cells #[.int .i64 x1, .int .i64 x2, .int .i64 x3, .int .i64 x4] 48)
        generalize W1.alloc (.cells #[.int .i64 x1, .int .i64 x2, .int .i64 x3, .int .i64 x4] 48) = W8 at *
        generalize W1.heap.size = e1 at *
        refine hK.out _ _ (SX.of hP.hx) (fun hS => ?_)
        clear hK K
        try simp only [Act.put, List.getElem_toArray, List.getElem_cons_zero, List.getElem_cons_succ, List.setIfInBounds_toArray, List.set_cons_zero, List.set_cons_succ]
        refine wpAnyH_ready (rs := [6]) (by kernel_rfl) (by simp) ?_
        refine AllReadyH.cons rfl (fun K hK => ?_) AllReadyH.nil
        refine step_append_grows rfl (.tmp 47) (.tmp 51) 53 rfl 48 i0 _ 4 32 Try.underlying53 hi hz0 hz1 hz2 (by rfl) (by decide) (some ⟨e0, 0, none⟩) 0 0 [] rfl (by intro h; cases h) rfl (by intro b h j u hj; simp at hj) ⟨g, off, none⟩ n c (flat l) rfl (by rw [flat_len, hln]) (fun j u hj => by rw [Addr.add_lit]; exact hP.old (hL j u hj)) (flat_one l) (by omega) (by unfold maxLen; omega) (by omega) ?_
        intro v6 W6 h6 hG6
        rw [Nat.zero_add, List.nil_append] at h6
        obtain ⟨g1, c1, rfl⟩ := Joins.ownsRow_form h6 (by omega)
        have hg1 := (h6.lt g1 rfl).1
        have hbs := hP.bel.size
        have hbx := hP.hx.lt
        have hg1w : w.heap.size ≤ g1 := by omega
        have hg1x : g1 ≠ w.heap.size := by omega
        have hne : g1 ≠ e1 := by have := h8.lt; omega
        replace h8 := h8.grown hG6 (by simp)
        replace hP := hP.grown hG6 (fun k e => by cases e)
        replace h6 := owns_base h6 hbs
        clear hG6 hg1 hbs hbx
        refine hK.out _ _ (SX.of hP.hx) (fun hS => ?_)
        clear hK K
        try simp only [Act.put, List.getElem_toArray, List.getElem_cons_zero, List.getElem_cons_succ, List.setIfInBounds_toArray, List.set_cons_zero, List.set_cons_succ]
        refine wpAnyH_ready (rs := [9]) (by kernel_rfl) (by simp) ?_
        refine AllReadyH.cons rfl (fun K hK => ?_) AllReadyH.nil
        refine step_append_own rfl (.tmp 52) (.tmp 54) 53 rfl w.heap.size 48 i0 _ 4 32 Try.underlying53 hi hz0 hz1 hz2 (by rfl) (by decide) _ n (flat l) rfl h6 ⟨e1, 0, none⟩ 1 1 [.int .i64 x1, .int .i64 x2, .int .i64 x3, .int .i64 x4] rfl rfl (news_at h8) (news_one x1 x2 x3 x4) (by unfold maxLen; omega) (by omega) hP.bel.size ?_
        intro v9 W9 h9 hG9
        obtain ⟨g2, c2, rfl⟩ := Joins.ownsRow_form h9 (by omega)
        replace hP := hP.grown hG9 (fun k e => by cases e; exact ⟨hg1w, hg1x⟩)
        clear hG9
        refine hK.out _ _ (SX.of hP.hx) (fun hS => ?_)
        clear hK K
        try simp only [Act.put, List.getElem_toArray, List.getElem_cons_zero, List.getElem_cons_succ, List.setIfInBounds_toArray, List.set_cons_zero, List.set_cons_succ]
        refine wpAnyH_take (i := 10) (v := ?_) rfl (by kernel_rfl) (by kernel_rfl) (by kernel_rfl) (fun _ _ _ h => h) (Or.inl ⟨by rfl, ?_⟩) hS ?_
        rotate_left
        focus ((intro w' hSw; (obtain ⟨q0, q1, q2, q3⟩ := hSw); go_simp); first | done | with_reducible rfl)
        try simp only [Act.put, List.getElem_toArray, List.getElem_cons_zero, List.getElem_cons_succ, List.setIfInBounds_toArray, List.set_cons_zero, List.set_cons_succ]
        refine wpAnyH_take (i := 11) (v := ?_) rfl (by kernel_rfl) (by kernel_rfl) (by kernel_rfl) (fun _ _ _ h => h) (Or.inl ⟨by rfl, ?_⟩) hS ?_
        rotate_left
        focus ((intro w' hSw; (obtain ⟨q0, q1, q2, q3⟩ := hSw); go_simp); first | done | with_reducible rfl)
        try simp only [Act.put, List.getElem_toArray, List.getElem_cons_zero, List.getElem_cons_succ, List.setIfInBounds_toArray, List.set_cons_zero, List.set_cons_succ]
        have q9 : W9.cell? ⟨b, 1, none⟩ = some (.slice (some ⟨g, off, none⟩) n c) := hP.old hq
        have f9 : W9.frozen? ⟨b, 1, none⟩ = false := (hb.below hP.bel hb.lt).frozen 1
        refine wpAnyH_ready (rs := [12]) (by kernel_rfl) (by simp) ?_
        refine AllReadyH.cons rfl (fun K hK => ?_) AllReadyH.nil
        go_simp
        have hbl := hb.lt
        have hle := hP.le
        refine hK.out _ _ (SX.of (hP.hx.other (by omega) _ _)) (fun hS2 => ?_)
        clear hK K hS2 hS q9 f9
        try simp only [Act.put, List.getElem_toArray, List.getElem_cons_zero, List.getElem_cons_succ, List.setIfInBounds_toArray, List.set_cons_zero, List.set_cons_succ]
        refine wpAnyH_done (by kernel_rfl) ?_ _
        have hF := PF.mk' hb hP h9
        generalize W9.setCell ⟨b, 1, none⟩ (.slice (some ⟨g2, 0, none⟩) (n + 1) c2) = Wf at *
        clear hP h9 hS hL hq h8 hne hg1w hg1x hi hz0 hz1 hz2
        have hc0 := hF.blk.cell 0
        have hc1 := hF.blk.cell 1
        have hnc := hF.nc
        have hbu := hF.but'
        have hfz := hF.blk.frozen 1
        simp only [List.getElem?_toArray, List.getElem?_cons_zero, List.getElem?_cons_succ, List.getElem?_cons] at hc0 hc1
        by_cases hfull : (n : Int) = win
        · have hgt : win < ((n + 1 : Nat) : Int) := by omega
          go_wp2_with fail
          go_quiet (fail)
          go_wp2_with fail
          go_ret
          exact ⟨rfl, by rw [pushL, if_pos (by omega)]; exact (hF.drewN _).full hln hw1 hw2 hfull hav, (hF.drewN _).but' _⟩
        · have hgt : ¬ win < ((n + 1 : Nat) : Int) := by omega
          go_wp2_with fail
          go_quiet (fail)
          go_wp2_with fail
          go_ret
          exact ⟨rfl, by rw [pushL, if_neg (by omega)]; exact (hF.drewN _).part hln hw1 hw2 (by omega) hav, (hF.drewN _).but⟩
    refine AllReadyH.cons rfl (fun K hK => ?_) AllReadyH.nil
    · go_simp
      have h8 : Blk (W1.alloc (.cells #[.int .i64 x1, .int .i64 x2, .int .i64 x3, .int .i64 x4] 48)) W1.heap.size (xc x1 x2 x3 x4) 48 := Blk.new W1 _ _
      replace hP := hP.al (.cells #[.int .i64 x1, .int .i64 x2, .int .i64 x3, .int .i64 x4] 48)
      generalize W1.alloc (.cells #[.int .i64 x1, .int .i64 x2, .int .i64 x3, .int .i64 x4] 48) = W8 at *
      generalize W1.heap.size = e1 at *
      refine hK.out _ _ (SX.of hP.hx) (fun hS => ?_)
      clear hK K
      try simp only [Act.put, List.getElem_toArray, List.getElem_cons_zero, List.getElem_cons_succ, List.setIfInBounds_toArray, List.set_cons_zero, List.set_cons_succ]
      refine wpAnyH_ready (rs := [5]) (by kernel_rfl) (by simp) ?_
      refine AllReadyH.cons rfl (fun K hK => ?_) AllReadyH.nil
      have q5 := hP.old hq
      go_simp
      clear q5
      refine hK.out _ _ (SX.of hP.hx) (fun hS => ?_)
      clear hK K
      try simp only [Act.put, List.getElem_toArray, List.getElem_cons_zero, List.getElem_cons_succ, List.setIfInBounds_toArray, List.set_cons_zero, List.set_cons_succ]
      refine wpAnyH_ready (rs := [6]) (by kernel_rfl) (by simp) ?_
      refine AllReadyH.cons rfl (fun K hK => ?_) AllReadyH.nil
      refine step_append_grows rfl (.tmp 47) (.tmp 51) 53 rfl 48 i0 _ 4 32 Try.underlying53 hi hz0 hz1 hz2 (by rfl) (by decide) (some ⟨e0, 0, none⟩) 0 0 [] rfl (by intro h; cases h) rfl (by intro b h j u hj; simp at hj) ⟨g, off, none⟩ n c (flat l) rfl (by rw [flat_len, hln]) (fun j u hj => by rw [Addr.add_lit]; exact hP.old (hL j u hj)) (flat_one l) (by omega) (by unfold maxLen; omega) (by omega) ?_
      intro v6 W6 h6 hG6
      rw [Nat.zero_add, List.nil_append] at h6
      obtain ⟨g1, c1, rfl⟩ := Joins.ownsRow_form h6 (by omega)
      have hg1 := (h6.lt g1 rfl).1
      have hbs := hP.bel.size
      have hbx := hP.hx.lt
      have hg1w : w.heap.size ≤ g1 := by omega
      have hg1x : g1 ≠ w.heap.size := by omega
      have hne : g1 ≠ e1 := by have := h8.lt; omega
      replace h8 := h8.grown hG6 (by simp)
      replace hP := hP.grown hG6 (fun k e => by cases e)
      replace h6 := owns_base h6 hbs
      clear hG6 hg1 hbs hbx
      refine hK.out _ _ (SX.of hP.hx) (fun hS => ?_)
      clear hK K
      try simp only [Act.put, List.getElem_toArray, List.getElem_cons_zero, List.getElem_cons_succ, List.setIfInBounds_toArray, List.set_cons_zero, List.set_cons_succ]
      refine wpAnyH_ready (rs := [9]) (by kernel_rfl) (by simp) ?_
      refine AllReadyH.cons rfl (fun K hK => ?_) AllReadyH.nil
      refine step_append_own rfl (.tmp 52) (.tmp 54) 53 rfl w.heap.size 48 i0 _ 4 32 Try.underlying53 hi hz0 hz1 hz2 (by rfl) (by decide) _ n (flat l) rfl h6 ⟨e1, 0, none⟩ 1 1 [.int .i64 x1, .int .i64 x2, .int .i64 x3, .int .i64 x4] rfl rfl (news_at h8) (news_one x1 x2 x3 x4) (by unfold maxLen; omega) (by omega) hP.bel.size ?_
      intro v9 W9 h9 hG9
      obtain ⟨g2, c2, rfl⟩ := Joins.ownsRow_form h9 (by omega)
      replace hP := hP.grown hG9 (fun k e => by cases e; exact ⟨hg1w, hg1x⟩)
      clear hG9
      refine hK.out _ _ (SX.of hP.hx) (fun hS => ?_)
      clear hK K
      try simp only [Act.put, List.getElem_toArray, List.getElem_cons_zero, List.getElem_cons_succ, List.setIfInBounds_toArray, List.set_cons_zero, List.set_cons_succ]
      refine wpAnyH_take (i := 10) (v := ?_) rfl (by kernel_rfl) (by kernel_rfl) (by kernel_rfl) (fun _ _ _ h => h) (Or.inl ⟨by rfl, ?_⟩) hS ?_
      rotate_left
      focus ((intro w' hSw; (obtain ⟨q0, q1, q2, q3⟩ := hSw); go_simp); first | done | with_reducible rfl)
      try simp only [Act.put, List.getElem_toArray, List.getElem_cons_zero, List.getElem_cons_succ, List.setIfInBounds_toArray, List.set_cons_zero, List.set_cons_succ]
      refine wpAnyH_take (i := 11) (v := ?_) rfl (by kernel_rfl) (by kernel_rfl) (by kernel_rfl) (fun _ _ _ h => h) (Or.inl ⟨by rfl, ?_⟩) hS ?_
      rotate_left
      focus ((intro w' hSw; (obtain ⟨q0, q1, q2, q3⟩ := hSw); go_simp); first | done | with_reducible rfl)
      try simp only [Act.put, List.getElem_toArray, List.getElem_cons_zero, List.getElem_cons_succ, List.setIfInBounds_toArray, List.set_cons_zero, List.set_cons_succ]
      have q9 : W9.cell? ⟨b, 1, none⟩ = some (.slice (some ⟨g, off, none⟩) n c) := hP.old hq
      have f9 : W9.frozen? ⟨b, 1, none⟩ = false := (hb.below hP.bel hb.lt).frozen 1
      refine wpAnyH_ready (rs := [12]) (by kernel_rfl) (by simp) ?_
      refine AllReadyH.cons rfl (fun K hK => ?_) AllReadyH.nil
      go_simp
      have hbl := hb.lt
      have hle := hP.le
      refine hK.out _ _ (SX.of (hP.hx.other (by omega) _ _)) (fun hS2 => ?_)
      clear hK K hS2 hS q9 f9
      try simp only [Act.put, List.getElem_toArray, List.getElem_cons_zero, List.getElem_cons_succ, List.setIfInBounds_toArray, List.set_cons_zero, List.set_cons_succ]
      refine wpAnyH_done (by kernel_rfl) ?_ _
      have hF := PF.mk' hb hP h9
      generalize W9.setCell ⟨b, 1, none⟩ (.slice (some ⟨g2, 0, none⟩) (n + 1) c2) = Wf at *
      clear hP h9 hS hL hq h8 hne hg1w hg1x hi hz0 hz1 hz2
      have hc0 := hF.blk.cell 0
      have hc1 := hF.blk.cell 1
      have hnc := hF.nc
      have hbu := hF.but'
      have hfz := hF.blk.frozen 1
      simp only [List.getElem?_toArray, List.getElem?_cons_zero, List.getElem?_cons_succ, List.getElem?_cons] at hc0 hc1
      by_cases hfull : (n : Int) = win
      · have hgt : win < ((n + 1 : Nat) : Int) := by omega
        go_wp2_with fail
        go_quiet (fail)
        go_wp2_with fail
        go_ret
        exact ⟨rfl, by rw [pushL, if_pos (by omega)]; exact (hF.drewN _).full hln hw1 hw2 hfull hav, (hF.drewN _).but' _⟩
      · have hgt : ¬ win < ((n + 1 : Nat) : Int) := by omega
        go_wp2_with fail
        go_quiet (fail)
        go_wp2_with fail
        go_ret
        exact ⟨rfl, by rw [pushL, if_neg (by omega)]; exact (hF.drewN _).part hln hw1 hw2 (by omega) hav, (hF.drewN _).but⟩
  refine AllReadyH.cons rfl (fun K hK => ?_) ?_
  · have q5 := hP.old hq
    go_simp
    clear q5
    refine hK.out _ _ (SX.of hP.hx) (fun hS => ?_)
    clear hK K
    try simp only [Act.put, List.getElem_toArray, List.getElem_cons_zero, List.getElem_cons_succ, List.setIfInBounds_toArray, List.set_cons_zero, List.set_cons_succ]
    refine wpAnyH_ready (rs := [1, 8]) (by kernel_rfl) (by simp) ?_
    refine AllReadyH.cons rfl (fun K hK => ?_) ?_
    · go_simp
      have hbs := hP.bel.size
      have hbx := hP.hx.lt
      replace hP := hP.al (.cells #[] 48)
      clear hbs hbx
      generalize W0.alloc (.cells #[] 48) = W1 at *
      generalize W0.heap.size = e0 at *
      refine hK.out _ _ (SX.of hP.hx) (fun hS => ?_)
      clear hK K
      try simp only [Act.put, List.getElem_toArray, List.getElem_cons_zero, List.getElem_cons_succ, List.setIfInBounds_toArray, List.set_cons_zero, List.set_cons_succ]
      refine wpAnyH_ready (rs := [6, 8]) (by kernel_rfl) (by simp) ?_
      refine AllReadyH.cons rfl (fun K hK => ?_) ?_
      · refine step_append_grows rfl (.tmp 47) (.tmp 51) 53 rfl 48 i0 _ 4 32 Try.underlying53 hi hz0 hz1 hz2 (by rfl) (by decide) (some ⟨e0, 0, none⟩) 0 0 [] rfl (by intro h; cases h) rfl (by intro b h j u hj; simp at hj) ⟨g, off, none⟩ n c (flat l) rfl (by rw [flat_len, hln]) (fun j u hj => by rw [Addr.add_lit]; exact hP.old (hL j u hj)) (flat_one l) (by omega) (by unfold maxLen; omega) (by omega) ?_
        intro v6 W6 h6 hG6
        rw [Nat.zero_add, List.nil_append] at h6
        obtain ⟨g1, c1, rfl⟩ := Joins.ownsRow_form h6 (by omega)
        have hg1 := (h6.lt g1 rfl).1
        have hbs := hP.bel.size
        have hbx := hP.hx.lt
        have hg1w : w.heap.size ≤ g1 := by omega
        have hg1x : g1 ≠ w.heap.size := by omega
        replace hP := hP.grown hG6 (fun k e => by cases e)
        replace h6 := owns_base h6 hbs
        clear hG6 hg1 hbs hbx
        refine hK.out _ _ (SX.of hP.hx) (fun hS => ?_)
        clear hK K
        try simp only [Act.put, List.getElem_toArray, List.getElem_cons_zero, List.getElem_cons_succ, List.setIfInBounds_toArray, List.set_cons_zero, List.set_cons_succ]
        refine wpAnyH_ready (rs := [8]) (by kernel_rfl) (by simp) ?_
        refine AllReadyH.cons rfl (fun K hK => ?_) AllReadyH.nil
        go_simp
        have h8 : Blk (W6.alloc (.cells #[.int .i64 x1, .int .i64 x2, .int .i64 x3, .int .i64 x4] 48)) W6.heap.size (xc x1 x2 x3 x4) 48 := Blk.new W6 _ _
        have hne : g1 ≠ W6.heap.size := by have := (h6.lt g1 rfl).2; omega
        replace h6 := h6.alloc (.cells #[.int .i64 x1, .int .i64 x2, .int .i64 x3, .int .i64 x4] 48)
        replace hP := hP.al (.cells #[.int .i64 x1, .int .i64 x2, .int .i64 x3, .int .i64 x4] 48)
        generalize W6.alloc (.cells #[.int .i64 x1, .int .i64 x2, .int .i64 x3, .int .i64 x4] 48) = W8 at *
        generalize W6.heap.size = e1 at *
        refine hK.out _ _ (SX.of hP.hx) (fun hS => ?_)
        clear hK K
        try simp only [Act.put, List.getElem_toArray, List.getElem_cons_zero, List.getElem_cons_succ, List.setIfInBounds_toArray, List.set_cons_zero, List.set_cons_succ]
        refine wpAnyH_ready (rs := [9]) (by kernel_rfl) (by simp) ?_
        refine AllReadyH.cons rfl (fun K hK => ?_) AllReadyH.nil
        refine step_append_own rfl (.tmp 52) (.tmp 54) 53 rfl w.heap.size 48 i0 _ 4 32 Try.underlying53 hi hz0 hz1 hz2 (by rfl) (by decide) _ n (flat l) rfl h6 ⟨e1, 0, none⟩ 1 1 [.int .i64 x1, .int .i64 x2, .int .i64 x3, .int .i64 x4] rfl rfl (news_at h8) (news_one x1 x2 x3 x4) (by unfold maxLen; omega) (by omega) hP.bel.size ?_
        intro v9 W9 h9 hG9
        obtain ⟨g2, c2, rfl⟩ := Joins.ownsRow_form h9 (by omega)
        replace hP := hP.grown hG9 (fun k e => by cases e; exact ⟨hg1w, hg1x⟩)
        clear hG9
        refine hK.out _ _ (SX.of hP.hx) (fun hS => ?_)
        clear hK K
        try simp only [Act.put, List.getElem_toArray, List.getElem_cons_zero, List.getElem_cons_succ, List.setIfInBounds_toArray, List.set_cons_zero, List.set_cons_succ]
        refine wpAnyH_take (i := 10) (v := ?_) rfl (by kernel_rfl) (by kernel_rfl) (by kernel_rfl) (fun _ _ _ h => h) (Or.inl ⟨by rfl, ?_⟩) hS ?_
        rotate_left
        focus ((intro w' hSw; (obtain ⟨q0, q1, q2, q3⟩ := hSw); go_simp); first | done | with_reducible rfl)
        try simp only [Act.put, List.getElem_toArray, List.getElem_cons_zero, List.getElem_cons_succ, List.setIfInBounds_toArray, List.set_cons_zero, List.set_cons_succ]
        refine wpAnyH_take (i := 11) (v := ?_) rfl (by kernel_rfl) (by kernel_rfl) (by kernel_rfl) (fun _ _ _ h => h) (Or.inl ⟨by rfl, ?_⟩) hS ?_
        rotate_left
        focus ((intro w' hSw; (obtain ⟨q0, q1, q2, q3⟩ := hSw); go_simp); first | done | with_reducible rfl)
        try simp only [Act.put, List.getElem_toArray, List.getElem_cons_zero, List.getElem_cons_succ, List.setIfInBounds_toArray, List.set_cons_zero, List.set_cons_succ]
        have q9 : W9.cell? ⟨b, 1, none⟩ = some (.slice (some ⟨g, off, none⟩) n c) := hP.old hq
        have f9 : W9.frozen? ⟨b, 1, none⟩ = false := (hb.below hP.bel hb.lt).frozen 1
        refine wpAnyH_ready (rs := [12]) (by kernel_rfl) (by simp) ?_
        refine AllReadyH.cons rfl (fun K hK => ?_) AllReadyH.nil
        go_simp
        have hbl := hb.lt
        have hle := hP.le
        refine hK.out _ _ (SX.of (hP.hx.other (by omega) _ _)) (fun hS2 => ?_)
        clear hK K hS2 hS q9 f9
        try simp only [Act.put, List.getElem_toArray, List.getElem_cons_zero, List.getElem_cons_succ, List.setIfInBounds_toArray, List.set_cons_zero, List.set_cons_succ]
        refine wpAnyH_done (by kernel_rfl) ?_ _
        have hF := PF.mk' hb hP h9
        generalize W9.setCell ⟨b, 1, none⟩ (.slice (some ⟨g2, 0, none⟩) (n + 1) c2) = Wf at *
        clear hP h9 hS hL hq h8 hne hg1w hg1x hi hz0 hz1 hz2
        have hc0 := hF.blk.cell 0
        have hc1 := hF.blk.cell 1
        have hnc := hF.nc
        have hbu := hF.but'
        have hfz := hF.blk.frozen 1
        simp only [List.getElem?_toArray, List.getElem?_cons_zero, List.getElem?_cons_succ, List.getElem?_cons] at hc0 hc1
        by_cases hfull : (n : Int) = win
        · have hgt : win < ((n + 1 : Nat) : Int) := by omega
          go_wp2_with fail
          go_quiet (fail)
          go_wp2_with fail
          go_ret
          exact ⟨rfl, by rw [pushL, if_pos (by omega)]; exact (hF.drewN _).full hln hw1 hw2 hfull hav, (hF.drewN _).but' _⟩
        · have hgt : ¬ win < ((n + 1 : Nat) : Int) := by omega
          go_wp2_with fail
          go_quiet (fail)
          go_wp2_with fail
          go_ret
          exact ⟨rfl, by rw [pushL, if_neg (by omega)]; exact (hF.drewN _).part hln hw1 hw2 (by omega) hav, (hF.drewN _).but⟩
      refine AllReadyH.cons rfl (fun K hK => ?_) AllReadyH.nil
      · go_simp
        have h8 : Blk (W1.alloc (.cells #[.int .i64 x1, .int .i64 x2, .int .i64 x3, .int .i64 x4] 48)) W1.heap.size (xc x1 x2 x3 x4) 48 := Blk.new W1 _ _
        replace hP := hP.al (.cells #[.int .i64 x1, .int .i64 x2, .int .i64 x3, .int .i64 x4] 48)
        generalize W1.alloc (.cells #[.int .i64 x1, .int .i64 x2, .int .i64 x3, .int .i64 x4] 48) = W8 at *
        generalize W1.heap.size = e1 at *
        refine hK.out _ _ (SX.of hP.hx) (fun hS => ?_)
        clear hK K
        try simp only [Act.put, List.getElem_toArray, List.getElem_cons_zero, List.getElem_cons_succ, List.setIfInBounds_toArray, List.set_cons_zero, List.set_cons_succ]
        refine wpAnyH_ready (rs := [6]) (by kernel_rfl) (by simp) ?_
        refine AllReadyH.cons rfl (fun K hK => ?_) AllReadyH.nil
        refine step_append_grows rfl (.tmp 47) (.tmp 51) 53 rfl 48 i0 _ 4 32 Try.underlying53 hi hz0 hz1 hz2 (by rfl) (by decide) (some ⟨e0, 0, none⟩) 0 0 [] rfl (by intro h; cases h) rfl (by intro b h j u hj; simp at hj) ⟨g, off, none⟩ n c (flat l) rfl (by rw [flat_len, hln]) (fun j u hj => by rw [Addr.add_lit]; exact hP.old (hL j u hj)) (flat_one l) (by omega) (by unfold maxLen; omega) (by omega) ?_
        intro v6 W6 h6 hG6
        rw [Nat.zero_add, List.nil_append] at h6
        obtain ⟨g1, c1, rfl⟩ := Joins.ownsRow_form h6 (by omega)
        have hg1 := (h6.lt g1 rfl).1
        have hbs := hP.bel.size
        have hbx := hP.hx.lt
        have hg1w : w.heap.size ≤ g1 := by omega
        have hg1x : g1 ≠ w.heap.size := by omega
        have hne : g1 ≠ e1 := by have := h8.lt; omega
        replace h8 := h8.grown hG6 (by simp)
        replace hP := hP.grown hG6 (fun k e => by cases e)
        replace h6 := owns_base h6 hbs
        clear hG6 hg1 hbs hbx
        refine hK.out _ _ (SX.of hP.hx) (fun hS => ?_)
        clear hK K
        try simp only [Act.put, List.getElem_toArray, List.getElem_cons_zero, List.getElem_cons_succ, List.setIfInBounds_toArray, List.set_cons_zero, List.set_cons_succ]
        refine wpAnyH_ready (rs := [9]) (by kernel_rfl) (by simp) ?_
        refine AllReadyH.cons rfl (fun K hK => ?_) AllReadyH.nil
        refine step_append_own rfl (.tmp 52) (.tmp 54) 53 rfl w.heap.size 48 i0 _ 4 32 Try.underlying53 hi hz0 hz1 hz2 (by rfl) (by decide) _ n (flat l) rfl h6 ⟨e1, 0, none⟩ 1 1 [.int .i64 x1, .int .i64 x2, .int .i64 x3, .int .i64 x4] rfl rfl (news_at h8) (news_one x1 x2 x3 x4) (by unfold maxLen; omega) (by omega) hP.bel.size ?_
        intro v9 W9 h9 hG9
        obtain ⟨g2, c2, rfl⟩ := Joins.ownsRow_form h9 (by omega)
        replace hP := hP.grown hG9 (fun k e => by cases e; exact ⟨hg1w, hg1x⟩)
        clear hG9
        refine hK.out _ _ (SX.of hP.hx) (fun hS => ?_)
        clear hK K
        try simp only [Act.put, List.getElem_toArray, List.getElem_cons_zero, List.getElem_cons_succ, List.setIfInBounds_toArray, List.set_cons_zero, List.set_cons_succ]
        refine wpAnyH_take (i := 10) (v := ?_) rfl (by kernel_rfl) (by kernel_rfl) (by kernel_rfl) (fun _ _ _ h => h) (Or.inl ⟨by rfl, ?_⟩) hS ?_
        rotate_left
        focus ((intro w' hSw; (obtain ⟨q0, q1, q2, q3⟩ := hSw); go_simp); first | done | with_reducible rfl)
        try simp only [Act.put, List.getElem_toArray, List.getElem_cons_zero, List.getElem_cons_succ, List.setIfInBounds_toArray, List.set_cons_zero, List.set_cons_succ]
        refine wpAnyH_take (i := 11) (v := ?_) rfl (by kernel_rfl) (by kernel_rfl) (by kernel_rfl) (fun _ _ _ h => h) (Or.inl ⟨by rfl, ?_⟩) hS ?_
        rotate_left
        focus ((intro w' hSw; (obtain ⟨q0, q1, q2, q3⟩ := hSw); go_simp); first | done | with_reducible rfl)
        try simp only [Act.put, List.getElem_toArray, List.getElem_cons_zero, List.getElem_cons_succ, List.setIfInBounds_toArray, List.set_cons_zero, List.set_cons_succ]
        have q9 : W9.cell? ⟨b, 1, none⟩ = some (.slice (some ⟨g, off, none⟩) n c) := hP.old hq
        have f9 : W9.frozen? ⟨b, 1, none⟩ = false := (hb.below hP.bel hb.lt).frozen 1
        refine wpAnyH_ready (rs := [12]) (by kernel_rfl) (by simp) ?_
        refine AllReadyH.cons rfl (fun K hK => ?_) AllReadyH.nil
        go_simp
        have hbl := hb.lt
        have hle := hP.le
        refine hK.out _ _ (SX.of (hP.hx.other (by omega) _ _)) (fun hS2 => ?_)
        clear hK K hS2 hS q9 f9
        try simp only [Act.put, List.getElem_toArray, List.getElem_cons_zero, List.getElem_cons_succ, List.setIfInBounds_toArray, List.set_cons_zero, List.set_cons_succ]
        refine wpAnyH_done (by kernel_rfl) ?_ _
        have hF := PF.mk' hb hP h9
        generalize W9.setCell ⟨b, 1, none⟩ (.slice (some ⟨g2, 0, none⟩) (n + 1) c2) = Wf at *
        clear hP h9 hS hL hq h8 hne hg1w hg1x hi hz0 hz1 hz2
        have hc0 := hF.blk.cell 0
        have hc1 := hF.blk.cell 1
        have hnc := hF.nc
        have hbu := hF.but'
        have hfz := hF.blk.frozen 1
        simp only [List.getElem?_toArray, List.getElem?_cons_zero, List.getElem?_cons_succ, List.getElem?_cons] at hc0 hc1
        by_cases hfull : (n : Int) = win
        · have hgt : win < ((n + 1 : Nat) : Int) := by omega
          go_wp2_with fail
          go_quiet (fail)
          go_wp2_with fail
          go_ret
          exact ⟨rfl, by rw [pushL, if_pos (by omega)]; exact (hF.drewN _).full hln hw1 hw2 hfull hav, (hF.drewN _).but' _⟩
        · have hgt : ¬ win < ((n + 1 : Nat) : Int) := by omega
          go_wp2_with fail
          go_quiet (fail)
          go_wp2_with fail
          go_ret
          exact ⟨rfl, by rw [pushL, if_neg (by omega)]; exact (hF.drewN _).part hln hw1 hw2 (by omega) hav, (hF.drewN _).but⟩
    refine AllReadyH.cons rfl (fun K hK => ?_) AllReadyH.nil
    · go_simp
      have h8 : Blk (W0.alloc (.cells #[.int .i64 x1, .int .i64 x2, .int .i64 x3, .int .i64 x4] 48)) W0.heap.size (xc x1 x2 x3 x4) 48 := Blk.new W0 _ _
      replace hP := hP.al (.cells #[.int .i64 x1, .int .i64 x2, .int .i64 x3, .int .i64 x4] 48)
      generalize W0.alloc (.cells #[.int .i64 x1, .int .i64 x2, .int .i64 x3, .int .i64 x4] 48) = W8 at *
      generalize W0.heap.size = e1 at *
      refine hK.out _ _ (SX.of hP.hx) (fun hS => ?_)
      clear hK K
      try simp only [Act.put, List.getElem_toArray, List.getElem_cons_zero, List.getElem_cons_succ, List.setIfInBounds_toArray, List.set_cons_zero, List.set_cons_succ]
      refine wpAnyH_ready (rs := [1]) (by kernel_rfl) (by simp) ?_
      refine AllReadyH.cons rfl (fun K hK => ?_) AllReadyH.nil
      go_simp
      have hbs := hP.bel.size
      have hbx := hP.hx.lt
      replace hP := hP.al (.cells #[] 48)
      replace h8 := h8.alloc (.cells #[] 48)
      clear hbs hbx
      generalize W8.alloc (.cells #[] 48) = W1 at *
      generalize W8.heap.size = e0 at *
      refine hK.out _ _ (SX.of hP.hx) (fun hS => ?_)
      clear hK K
      try simp only [Act.put, List.getElem_toArray, List.getElem_cons_zero, List.getElem_cons_succ, List.setIfInBounds_toArray, List.set_cons_zero, List.set_cons_succ]
      refine wpAnyH_ready (rs := [6]) (by kernel_rfl) (by simp) ?_
      refine AllReadyH.cons rfl (fun K hK => ?_) AllReadyH.nil
      refine step_append_grows rfl (.tmp 47) (.tmp 51) 53 rfl 48 i0 _ 4 32 Try.underlying53 hi hz0 hz1 hz2 (by rfl) (by decide) (some ⟨e0, 0, none⟩) 0 0 [] rfl (by intro h; cases h) rfl (by intro b h j u hj; simp at hj) ⟨g, off, none⟩ n c (flat l) rfl (by rw [flat_len, hln]) (fun j u hj => by rw [Addr.add_lit]; exact hP.old (hL j u hj)) (flat_one l) (by omega) (by unfold maxLen; omega) (by omega) ?_
      intro v6 W6 h6 hG6
      rw [Nat.zero_add, List.nil_append] at h6
      obtain ⟨g1, c1, rfl⟩ := Joins.ownsRow_form h6 (by omega)
      have hg1 := (h6.lt g1 rfl).1
      have hbs := hP.bel.size
      have hbx := hP.hx.lt
      have hg1w : w.heap.size ≤ g1 := by omega
      have hg1x : g1 ≠ w.heap.size := by omega
      have hne : g1 ≠ e1 := by have := h8.lt; omega
      replace h8 := h8.grown hG6 (by simp)
      replace hP := hP.grown hG6 (fun k e => by cases e)
      replace h6 := owns_base h6 hbs
      clear hG6 hg1 hbs hbx
      refine hK.out _ _ (SX.of hP.hx) (fun hS => ?_)
      clear hK K
      try simp only [Act.put, List.getElem_toArray, List.getElem_cons_zero, List.getElem_cons_succ, List.setIfInBounds_toArray, List.set_cons_zero, List.set_cons_succ]
      refine wpAnyH_ready (rs := [9]) (by kernel_rfl) (by simp) ?_
      refine AllReadyH.cons rfl (fun K hK => ?_) AllReadyH.nil
      refine step_append_own rfl (.tmp 52) (.tmp 54) 53 rfl w.heap.size 48 i0 _ 4 32 Try.underlying53 hi hz0 hz1 hz2 (by rfl) (by decide) _ n (flat l) rfl h6 ⟨e1, 0, none⟩ 1 1 [.int .i64 x1, .int .i64 x2, .int .i64 x3, .int .i64 x4] rfl rfl (news_at h8) (news_one x1 x2 x3 x4) (by unfold maxLen; omega) (by omega) hP.bel.size ?_
      intro v9 W9 h9 hG9
      obtain ⟨g2, c2, rfl⟩ := Joins.ownsRow_form h9 (by omega)
      replace hP := hP.grown hG9 (fun k e => by cases e; exact ⟨hg1w, hg1x⟩)
      clear hG9
      refine hK.out _ _ (SX.of hP.hx) (fun hS => ?_)
      clear hK K
      try simp only [Act.put, List.getElem_toArray, List.getElem_cons_zero, List.getElem_cons_succ, List.setIfInBounds_toArray, List.set_cons_zero, List.set_cons_succ]
      refine wpAnyH_take (i := 10) (v := ?_) rfl (by kernel_rfl) (by kernel_rfl) (by kernel_rfl) (fun _ _ _ h => h) (Or.inl ⟨by rfl, ?_⟩) hS ?_
      rotate_left
      focus ((intro w' hSw; (obtain ⟨q0, q1, q2, q3⟩ := hSw); go_simp); first | done | with_reducible rfl)
      try simp only [Act.put, List.getElem_toArray, List.getElem_cons_zero, List.getElem_cons_succ, List.setIfInBounds_toArray, List.set_cons_zero, List.set_cons_succ]
      refine wpAnyH_take (i := 11) (v := ?_) rfl (by kernel_rfl) (by kernel_rfl) (by kernel_rfl) (fun _ _ _ h => h) (Or.inl ⟨by rfl, ?_⟩) hS ?_
      rotate_left
      focus ((intro w' hSw; (obtain ⟨q0, q1, q2, q3⟩ := hSw); go_simp); first | done | with_reducible rfl)
      try simp only [Act.put, List.getElem_toArray, List.getElem_cons_zero, List.getElem_cons_succ, List.setIfInBounds_toArray, List.set_cons_zero, List.set_cons_succ]
      have q9 : W9.cell? ⟨b, 1, none⟩ = some (.slice (some ⟨g, off, none⟩) n c) := hP.old hq
      have f9 : W9.frozen? ⟨b, 1, none⟩ = false := (hb.below hP.bel hb.lt).frozen 1
      refine wpAnyH_ready (rs := [12]) (by kernel_rfl) (by simp) ?_
      refine AllReadyH.cons rfl (fun K hK => ?_) AllReadyH.nil
      go_simp
      have hbl := hb.lt
      have hle := hP.le
      refine hK.out _ _ (SX.of (hP.hx.other (by omega) _ _)) (fun hS2 => ?_)
      clear hK K hS2 hS q9 f9
      try simp only [Act.put, List.getElem_toArray, List.getElem_cons_zero, List.getElem_cons_succ, List.setIfInBounds_toArray, List.set_cons_zero, List.set_cons_succ]
      refine wpAnyH_done (by kernel_rfl) ?_ _
      have hF := PF.mk' hb hP h9
      generalize W9.setCell ⟨b, 1, none⟩ (.slice (some ⟨g2, 0, none⟩) (n + 1) c2) = Wf at *
      clear hP h9 hS hL hq h8 hne hg1w hg1x hi hz0 hz1 hz2
      have hc0 := hF.blk.cell 0
      have hc1 := hF.blk.cell 1
      have hnc := hF.nc
      have hbu := hF.but'
      have hfz := hF.blk.frozen 1
      simp only [List.getElem?_toArray, List.getElem?_cons_zero, List.getElem?_cons_succ, List.getElem?_cons] at hc0 hc1
      by_cases hfull : (n : Int) = win
      · have hgt : win < ((n + 1 : Nat) : Int) := by omega
        go_wp2_with fail
        go_quiet (fail)
        go_wp2_with fail
        go_ret
        exact ⟨rfl, by rw [pushL, if_pos (by omega)]; exact (hF.drewN _).full hln hw1 hw2 hfull hav, (hF.drewN _).but' _⟩
      · have hgt : ¬ win < ((n + 1 : Nat) : Int) := by omega
        go_wp2_with fail
        go_quiet (fail)
        go_wp2_with fail
        go_ret
        exact ⟨rfl, by rw [pushL, if_neg (by omega)]; exact (hF.drewN _).part hln hw1 hw2 (by omega) hav, (hF.drewN _).but⟩
  refine AllReadyH.cons rfl (fun K hK => ?_) AllReadyH.nil
  · go_simp
    have h8 : Blk (W0.alloc (.cells #[.int .i64 x1, .int .i64 x2, .int .i64 x3, .int .i64 x4] 48)) W0.heap.size (xc x1 x2 x3 x4) 48 := Blk.new W0 _ _
    replace hP := hP.al (.cells #[.int .i64 x1, .int .i64 x2, .int .i64 x3, .int .i64 x4] 48)
    generalize W0.alloc (.cells #[.int .i64 x1, .int .i64 x2, .int .i64 x3, .int .i64 x4] 48) = W8 at *
    generalize W0.heap.size = e1 at *
    refine hK.out _ _ (SX.of hP.hx) (fun hS => ?_)
    clear hK K
    try simp only [Act.put, List.getElem_toArray, List.getElem_cons_zero, List.getElem_cons_succ, List.setIfInBounds_toArray, List.set_cons_zero, List.set_cons_succ]
    refine wpAnyH_ready (rs := [1, 5]) (by kernel_rfl) (by simp) ?_
    refine AllReadyH.cons rfl (fun K hK => ?_) ?_
    · go_simp
      have hbs := hP.bel.size
      have hbx := hP.hx.lt
      replace hP := hP.al (.cells #[] 48)
      replace h8 := h8.alloc (.cells #[] 48)
      clear hbs hbx
      generalize W8.alloc (.cells #[] 48) = W1 at *
      generalize W8.heap.size = e0 at *
      refine hK.out _ _ (SX.of hP.hx) (fun hS => ?_)
      clear hK K
      try simp only [Act.put, List.getElem_toArray, List.getElem_cons_zero, List.getElem_cons_succ, List.setIfInBounds_toArray, List.set_cons_zero, List.set_cons_succ]
      refine wpAnyH_ready (rs := [5]) (by kernel_rfl) (by simp) ?_
      refine AllReadyH.cons rfl (fun K hK => ?_) AllReadyH.nil
      have q5 := hP.old hq
      go_simp
      clear q5
      refine hK.out _ _ (SX.of hP.hx) (fun hS => ?_)
      clear hK K
      try simp only [Act.put, List.getElem_toArray, List.getElem_cons_zero, List.getElem_cons_succ, List.setIfInBounds_toArray, List.set_cons_zero, List.set_cons_succ]
      refine wpAnyH_ready (rs := [6]) (by kernel_rfl) (by simp) ?_
      refine AllReadyH.cons rfl (fun K hK => ?_) AllReadyH.nil
      refine step_append_grows rfl (.tmp 47) (.tmp 51) 53 rfl 48 i0 _ 4 32 Try.underlying53 hi hz0 hz1 hz2 (by rfl) (by decide) (some ⟨e0, 0, none⟩) 0 0 [] rfl (by intro h; cases h) rfl (by intro b h j u hj; simp at hj) ⟨g, off, none⟩ n c (flat l) rfl (by rw [flat_len, hln]) (fun j u hj => by rw [Addr.add_lit]; exact hP.old (hL j u hj)) (flat_one l) (by omega) (by unfold maxLen; omega) (by omega) ?_
      intro v6 W6 h6 hG6
      rw [Nat.zero_add, List.nil_append] at h6
      obtain ⟨g1, c1, rfl⟩ := Joins.ownsRow_form h6 (by omega)
      have hg1 := (h6.lt g1 rfl).1
      have hbs := hP.bel.size
      have hbx := hP.hx.lt
      have hg1w : w.heap.size ≤ g1 := by omega
      have hg1x : g1 ≠ w.heap.size := by omega
      have hne : g1 ≠ e1 := by have := h8.lt; omega
      replace h8 := h8.grown hG6 (by simp)
      replace hP := hP.grown hG6 (fun k e => by cases e)
      replace h6 := owns_base h6 hbs
      clear hG6 hg1 hbs hbx
      refine hK.out _ _ (SX.of hP.hx) (fun hS => ?_)
      clear hK K
      try simp only [Act.put, List.getElem_toArray, List.getElem_cons_zero, List.getElem_cons_succ, List.setIfInBounds_toArray, List.set_cons_zero, List.set_cons_succ]
      refine wpAnyH_ready (rs := [9]) (by kernel_rfl) (by simp) ?_
      refine AllReadyH.cons rfl (fun K hK => ?_) AllReadyH.nil
      refine step_append_own rfl (.tmp 52) (.tmp 54) 53 rfl w.heap.size 48 i0 _ 4 32 Try.underlying53 hi hz0 hz1 hz2 (by rfl) (by decide) _ n (flat l) rfl h6 ⟨e1, 0, none⟩ 1 1 [.int .i64 x1, .int .i64 x2, .int .i64 x3, .int .i64 x4] rfl rfl (news_at h8) (news_one x1 x2 x3 x4) (by unfold maxLen; omega) (by omega) hP.bel.size ?_
      intro v9 W9 h9 hG9
      obtain ⟨g2, c2, rfl⟩ := Joins.ownsRow_form h9 (by omega)
      replace hP := hP.grown hG9 (fun k e => by cases e; exact ⟨hg1w, hg1x⟩)
      clear hG9
      refine hK.out _ _ (SX.of hP.hx) (fun hS => ?_)
      clear hK K
      try simp only [Act.put, List.getElem_toArray, List.getElem_cons_zero, List.getElem_cons_succ, List.setIfInBounds_toArray, List.set_cons_zero, List.set_cons_succ]
      refine wpAnyH_take (i := 10) (v := ?_) rfl (by kernel_rfl) (by kernel_rfl) (by kernel_rfl) (fun _ _ _ h => h) (Or.inl ⟨by rfl, ?_⟩) hS ?_
      rotate_left
      focus ((intro w' hSw; (obtain ⟨q0, q1, q2, q3⟩ := hSw); go_simp); first | done | with_reducible rfl)
      try simp only [Act.put, List.getElem_toArray, List.getElem_cons_zero, List.getElem_cons_succ, List.setIfInBounds_toArray, List.set_cons_zero, List.set_cons_succ]
      refine wpAnyH_take (i := 11) (v := ?_) rfl (by kernel_rfl) (by kernel_rfl) (by kernel_rfl) (fun _ _ _ h => h) (Or.inl ⟨by rfl, ?_⟩) hS ?_
      rotate_left
      focus ((intro w' hSw; (obtain ⟨q0, q1, q2, q3⟩ := hSw); go_simp); first | done | with_reducible rfl)
      try simp only [Act.put, List.getElem_toArray, List.getElem_cons_zero, List.getElem_cons_succ, List.setIfInBounds_toArray, List.set_cons_zero, List.set_cons_succ]
      have q9 : W9.cell? ⟨b, 1, none⟩ = some (.slice (some ⟨g, off, none⟩) n c) := hP.old hq
      have f9 : W9.frozen? ⟨b, 1, none⟩ = false := (hb.below hP.bel hb.lt).frozen 1
      refine wpAnyH_ready (rs := [12]) (by kernel_rfl) (by simp) ?_
      refine AllReadyH.cons rfl (fun K hK => ?_) AllReadyH.nil
      go_simp
      have hbl := hb.lt
      have hle := hP.le
      refine hK.out _ _ (SX.of (hP.hx.other (by omega) _ _)) (fun hS2 => ?_)
      clear hK K hS2 hS q9 f9
      try simp only [Act.put, List.getElem_toArray, List.getElem_cons_zero, List.getElem_cons_succ, List.setIfInBounds_toArray, List.set_cons_zero, List.set_cons_succ]
      refine wpAnyH_done (by kernel_rfl) ?_ _
      have hF := PF.mk' hb hP h9
      generalize W9.setCell ⟨b, 1, none⟩ (.slice (some ⟨g2, 0, none⟩) (n + 1) c2) = Wf at *
      clear hP h9 hS hL hq h8 hne hg1w hg1x hi hz0 hz1 hz2
      have hc0 := hF.blk.cell 0
      have hc1 := hF.blk.cell 1
      have hnc := hF.nc
      have hbu := hF.but'
      have hfz := hF.blk.frozen 1
      simp only [List.getElem?_toArray, List.getElem?_cons_zero, List.getElem?_cons_succ, List.getElem?_cons] at hc0 hc1
      by_cases hfull : (n : Int) = win
      · have hgt : win < ((n + 1 : Nat) : Int) := by omega
        go_wp2_with fail
        go_quiet (fail)
        go_wp2_with fail
        go_ret
        exact ⟨rfl, by rw [pushL, if_pos (by omega)]; exact (hF.drewN _).full hln hw1 hw2 hfull hav, (hF.drewN _).but' _⟩
      · have hgt : ¬ win < ((n + 1 : Nat) : Int) := by omega
        go_wp2_with fail
        go_quiet (fail)
        go_wp2_with fail
        go_ret
        exact ⟨rfl, by rw [pushL, if_neg (by omega)]; exact (hF.drewN _).part hln hw1 hw2 (by omega) hav, (hF.drewN _).but⟩
    refine AllReadyH.cons rfl (fun K hK => ?_) AllReadyH.nil
    · have q5 := hP.old hq
      go_simp
      clear q5
      refine hK.out _ _ (SX.of hP.hx) (fun hS => ?_)
      clear hK K
      try simp only [Act.put, List.getElem_toArray, List.getElem_cons_zero, List.getElem_cons_succ, List.setIfInBounds_toArray, List.set_cons_zero, List.set_cons_succ]
      refine wpAnyH_ready (rs := [1]) (by kernel_rfl) (by simp) ?_
      refine AllReadyH.cons rfl (fun K hK => ?_) AllReadyH.nil
      go_simp
      have hbs := hP.bel.size
      have hbx := hP.hx.lt
      replace hP := hP.al (.cells #[] 48)
      replace h8 := h8.alloc (.cells #[] 48)
      clear hbs hbx
      generalize W8.alloc (.cells #[] 48) = W1 at *
      generalize W8.heap.size = e0 at *
      refine hK.out _ _ (SX.of hP.hx) (fun hS => ?_)
      clear hK K
      try simp only [Act.put, List.getElem_toArray, List.getElem_cons_zero, List.getElem_cons_succ, List.setIfInBounds_toArray, List.set_cons_zero, List.set_cons_succ]
      refine wpAnyH_ready (rs := [6]) (by kernel_rfl) (by simp) ?_
      refine AllReadyH.cons rfl (fun K hK => ?_) AllReadyH.nil
      refine step_append_grows rfl (.tmp 47) (.tmp 51) 53 rfl 48 i0 _ 4 32 Try.underlying53 hi hz0 hz1 hz2 (by rfl) (by decide) (some ⟨e0, 0, none⟩) 0 0 [] rfl (by intro h; cases h) rfl (by intro b h j u hj; simp at hj) ⟨g, off, none⟩ n c (flat l) rfl (by rw [flat_len, hln]) (fun j u hj => by rw [Addr.add_lit]; exact hP.old (hL j u hj)) (flat_one l) (by omega) (by unfold maxLen; omega) (by omega) ?_
      intro v6 W6 h6 hG6
      rw [Nat.zero_add, List.nil_append] at h6
      obtain ⟨g1, c1, rfl⟩ := Joins.ownsRow_form h6 (by omega)
      have hg1 := (h6.lt g1 rfl).1
      have hbs := hP.bel.size
      have hbx := hP.hx.lt
      have hg1w : w.heap.size ≤ g1 := by omega
      have hg1x : g1 ≠ w.heap.size := by omega
      have hne : g1 ≠ e1 := by have := h8.lt; omega
      replace h8 := h8.grown hG6 (by simp)
      replace hP := hP.grown hG6 (fun k e => by cases e)
      replace h6 := owns_base h6 hbs
      clear hG6 hg1 hbs hbx
      refine hK.out _ _ (SX.of hP.hx) (fun hS => ?_)
      clear hK K
      try simp only [Act.put, List.getElem_toArray, List.getElem_cons_zero, List.getElem_cons_succ, List.setIfInBounds_toArray, List.set_cons_zero, List.set_cons_succ]
      refine wpAnyH_ready (rs := [9]) (by kernel_rfl) (by simp) ?_
      refine AllReadyH.cons rfl (fun K hK => ?_) AllReadyH.nil
      refine step_append_own rfl (.tmp 52) (.tmp 54) 53 rfl w.heap.size 48 i0 _ 4 32 Try.underlying53 hi hz0 hz1 hz2 (by rfl) (by decide) _ n (flat l) rfl h6 ⟨e1, 0, none⟩ 1 1 [.int .i64 x1, .int .i64 x2, .int .i64 x3, .int .i64 x4] rfl rfl (news_at h8) (news_one x1 x2 x3 x4) (by unfold maxLen; omega) (by omega) hP.bel.size ?_
      intro v9 W9 h9 hG9
      obtain ⟨g2, c2, rfl⟩ := Joins.ownsRow_form h9 (by omega)
      replace hP := hP.grown hG9 (fun k e => by cases e; exact ⟨hg1w, hg1x⟩)
      clear hG9
      refine hK.out _ _ (SX.of hP.hx) (fun hS => ?_)
      clear hK K
      try simp only [Act.put, List.getElem_toArray, List.getElem_cons_zero, List.getElem_cons_succ, List.setIfInBounds_toArray, List.set_cons_zero, List.set_cons_succ]
      refine wpAnyH_take (i := 10) (v := ?_) rfl (by kernel_rfl) (by kernel_rfl) (by kernel_rfl) (fun _ _ _ h => h) (Or.inl ⟨by rfl, ?_⟩) hS ?_
      rotate_left
      focus ((intro w' hSw; (obtain ⟨q0, q1, q2, q3⟩ := hSw); go_simp); first | done | with_reducible rfl)
      try simp only [Act.put, List.getElem_toArray, List.getElem_cons_zero, List.getElem_cons_succ, List.setIfInBounds_toArray, List.set_cons_zero, List.set_cons_succ]
      refine wpAnyH_take (i := 11) (v := ?_) rfl (by kernel_rfl) (by kernel_rfl) (by kernel_rfl) (fun _ _ _ h => h) (Or.inl ⟨by rfl, ?_⟩) hS ?_
      rotate_left
      focus ((intro w' hSw; (obtain ⟨q0, q1, q2, q3⟩ := hSw); go_simp); first | done | with_reducible rfl)
      try simp only [Act.put, List.getElem_toArray, List.getElem_cons_zero, List.getElem_cons_succ, List.setIfInBounds_toArray, List.set_cons_zero, List.set_cons_succ]
      have q9 : W9.cell? ⟨b, 1, none⟩ = some (.slice (some ⟨g, off, none⟩) n c) := hP.old hq
      have f9 : W9.frozen? ⟨b, 1, none⟩ = false := (hb.below hP.bel hb.lt).frozen 1
      refine wpAnyH_ready (rs := [12]) (by kernel_rfl) (by simp) ?_
      refine AllReadyH.cons rfl (fun K hK => ?_) AllReadyH.nil
      go_simp
      have hbl := hb.lt
      have hle := hP.le
      refine hK.out _ _ (SX.of (hP.hx.other (by omega) _ _)) (fun hS2 => ?_)
      clear hK K hS2 hS q9 f9
      try simp only [Act.put, List.getElem_toArray, List.getElem_cons_zero, List.getElem_cons_succ, List.setIfInBounds_toArray, List.set_cons_zero, List.set_cons_succ]
      refine wpAnyH_done (by kernel_rfl) ?_ _
      have hF := PF.mk' hb hP h9
      generalize W9.setCell ⟨b, 1, none⟩ (.slice (some ⟨g2, 0, none⟩) (n + 1) c2) = Wf at *
      clear hP h9 hS hL hq h8 hne hg1w hg1x hi hz0 hz1 hz2
      have hc0 := hF.blk.cell 0
      have hc1 := hF.blk.cell 1
      have hnc := hF.nc
      have hbu := hF.but'
      have hfz := hF.blk.frozen 1
      simp only [List.getElem?_toArray, List.getElem?_cons_zero, List.getElem?_cons_succ, List.getElem?_cons] at hc0 hc1
      by_cases hfull : (n : Int) = win
      · have hgt : win < ((n + 1 : Nat) : Int) := by omega
        go_wp2_with fail
        go_quiet (fail)
        go_wp2_with fail
        go_ret
        exact ⟨rfl, by rw [pushL, if_pos (by omega)]; exact (hF.drewN _).full hln hw1 hw2 hfull hav, (hF.drewN _).but' _⟩
      · have hgt : ¬ win < ((n + 1 : Nat) : Int) := by omega
        go_wp2_with fail
        go_quiet (fail)
        go_wp2_with fail
        go_ret
        exact ⟨rfl, by rw [pushL, if_neg (by omega)]; exact (hF.drewN _).part hln hw1 hw2 (by omega) hav, (hF.drewN _).but⟩

set_option maxHeartbeats 8000000 in
set_option maxRecDepth 100000 in
theorem radd_nil {w : World} {b : Nat} {win : Int}  (hw1 : 1 ≤ win) (hw2 : win ≤ 32) (hb : Blk w b #[.int .i64 win, (.slice none 0 0)] 78)  (x1 x2 x3 x4 : Int)
    (e0 : tmB x1 = true) (e1 : tmB x2 = true) (e2 : tmB x3 = true) (e3 : tmB x4 = true) (h4 : x1 ≤ x4) (h5 : x2 ≤ x3) (h6 : 0 ≤ x4 - x1 - (x3 - x2)) (ht : Tm ⟨x1, x2, x3, x4⟩) {av : Nat} (hav : av < w.heap.size) :
    Calls Try.prog 33 #[.pointer (some ⟨b, 0, none⟩), .agg #[.int .i64 x1, .int .i64 x2, .int .i64 x3, .int .i64 x4]] w fun e w' => e = .returned (.int .i64 0) ∧ RK w' b av win (pushL win [] ⟨⟨x1, x2, x3, x4⟩, ht⟩) ∧ But b w w' := by
  obtain ⟨i0, hi, hz0, hz1, hz2⟩ : ∃ i, Try.prog.info? 48 = some i ∧ i.zero = some (.agg #[.int .i64 0, .int .i64 0, .int .i64 0, .int .i64 0]) ∧ i.size = 4 ∧ i.bytes = 32 := info_parts (by kernel_rfl)
  go_enter Try.func33, Try.ntmps33
  go_wp2_with (first
    | (go_at_call 49; refine (time_is _ _ (by assumption) _).mono ?_; rintro e w' ⟨rfl, rfl⟩)
    | (go_at_call 50; refine (rround_any x1 x2 x3 x4 _ (tm_of _ e0) (tm_of _ e1) (tm_of _ e2) (tm_of _ e3)).mono ?_; rintro e w' ⟨rfl, hK⟩))
  have hP : PA w w.heap.size x1 x2 x3 x4 w'.drew := PA.drew ⟨((Below.refl _ _).alloc (Nat.le_refl _) _).trans (hK.mono (by simp)), (Blk.new w _ _).keep hK, Nat.le_refl _⟩
  have hq : w.cell? ⟨b, 1, none⟩ = some (.slice none 0 0) := hb.cell 1
  clear hK e0 e1 e2 e3 h4 h5 h6
  refine wp_region_held_drew (S := SX w.heap.size x1 x2 x3 x4) (by kernel_rfl) (SX.of hP.hx) (fun hS => ?_)
  generalize w'.drew = W0 at *
  refine wpAnyH_take (i := 0) (v := ?_) rfl (by kernel_rfl) (by kernel_rfl) (by kernel_rfl) (fun _ _ _ h => h) (Or.inl ⟨by rfl, ?_⟩) hS ?_
  rotate_left
  focus ((intro w' hSw; (obtain ⟨q0, q1, q2, q3⟩ := hSw); go_simp); first | done | with_reducible rfl)
  try simp only [Act.put, List.getElem_toArray, List.getElem_cons_zero, List.getElem_cons_succ, List.setIfInBounds_toArray, List.set_cons_zero, List.set_cons_succ]
  refine wpAnyH_take (i := 2) (v := ?_) rfl (by kernel_rfl) (by kernel_rfl) (by kernel_rfl) (fun _ _ _ h => h) (Or.inl ⟨by rfl, ?_⟩) hS ?_
  rotate_left
  focus ((intro w' hSw; (obtain ⟨q0, q1, q2, q3⟩ := hSw); go_simp); first | done | with_reducible rfl)
  try simp only [Act.put, List.getElem_toArray, List.getElem_cons_zero, List.getElem_cons_succ, List.setIfInBounds_toArray, List.set_cons_zero, List.set_cons_succ]
  refine wpAnyH_take (i := 3) (v := ?_) rfl (by kernel_rfl) (by kernel_rfl) (by kernel_rfl) (fun _ _ _ h => h) (Or.inl ⟨by rfl, ?_⟩) hS ?_
  rotate_left
  focus ((intro w' hSw; (obtain ⟨q0, q1, q2, q3⟩ := hSw); go_simp); first | done | with_reducible rfl)
  try simp only [Act.put, List.getElem_toArray, List.getElem_cons_zero, List.getElem_cons_succ, List.setIfInBounds_toArray, List.set_cons_zero, List.set_cons_succ]
  refine wpAnyH_take (i := 4) (v := ?_) rfl (by kernel_rfl) (by kernel_rfl) (by kernel_rfl) (fun _ _ _ h => h) (Or.inl ⟨by rfl, ?_⟩) hS ?_
  rotate_left
  focus ((intro w' hSw; (obtain ⟨q0, q1, q2, q3⟩ := hSw); go_simp); first | done | with_reducible rfl)
  try simp only [Act.put, List.getElem_toArray, List.getElem_cons_zero, List.getElem_cons_succ, List.setIfInBounds_toArray, List.set_cons_zero, List.set_cons_succ]
  refine wpAnyH_take (i := 7) (v := ?_) rfl (by kernel_rfl) (by kernel_rfl) (by kernel_rfl) (fun _ _ _ h => h) (Or.inl ⟨by rfl, ?_⟩) hS ?_
  rotate_left
  focus ((intro w' hSw; (obtain ⟨q0, q1, q2, q3⟩ := hSw); go_simp); first | done | with_reducible rfl)
  try simp only [Act.put, List.getElem_toArray, List.getElem_cons_zero, List.getElem_cons_succ, List.setIfInBounds_toArray, List.set_cons_zero, List.set_cons_succ]
  refine wpAnyH_ready (rs := [1, 5, 8]) (by kernel_rfl) (by simp) ?_
  refine AllReadyH.cons rfl (fun K hK => ?_) ?_
  · go_simp
    have hbs := hP.bel.size
    have hbx := hP.hx.lt
    have h6 : (W0.alloc (.cells #[] 48)).ownsRow w.heap.size 48 4 (.slice (some ⟨W0.heap.size, 0, none⟩) 0 0) 0 [] := World.ownsRow_made W0 #[] 0 hbs (by simp [maxLen]) (by simp)
    have hg1w : w.heap.size ≤ W0.heap.size := hbs
    have hg1x : W0.heap.size ≠ w.heap.size := by omega
    replace hP := hP.al (.cells #[] 48)
    clear hbs hbx
    generalize W0.alloc (.cells #[] 48) = W1 at *
    generalize W0.heap.size = e0 at *
    refine hK.out _ _ (SX.of hP.hx) (fun hS => ?_)
    clear hK K
    try simp only [Act.put, List.getElem_toArray, List.getElem_cons_zero, List.getElem_cons_succ, List.setIfInBounds_toArray, List.set_cons_zero, List.set_cons_succ]
    refine wpAnyH_ready (rs := [5, 8]) (by kernel_rfl) (by simp) ?_
    refine AllReadyH.cons rfl (fun K hK => ?_) ?_
    · have q5 := hP.old hq
      go_simp
      clear q5
      refine hK.out _ _ (SX.of hP.hx) (fun hS => ?_)
      clear hK K
      try simp only [Act.put, List.getElem_toArray, List.getElem_cons_zero, List.getElem_cons_succ, List.setIfInBounds_toArray, List.set_cons_zero, List.set_cons_succ]
      refine wpAnyH_ready (rs := [6, 8]) (by kernel_rfl) (by simp) ?_
      refine AllReadyH.cons rfl (fun K hK => ?_) ?_
      · refine step_append_none rfl (.tmp 47) (.tmp 51) 53 rfl w.heap.size 48 i0 4 Try.underlying53 hi _ 0 [] rfl h6 rfl ?_
        refine hK.out _ _ (SX.of hP.hx) (fun hS => ?_)
        clear hK K
        try simp only [Act.put, List.getElem_toArray, List.getElem_cons_zero, List.getElem_cons_succ, List.setIfInBounds_toArray, List.set_cons_zero, List.set_cons_succ]
        refine wpAnyH_ready (rs := [8]) (by kernel_rfl) (by simp) ?_
        refine AllReadyH.cons rfl (fun K hK => ?_) AllReadyH.nil
        go_simp
        have h8 : Blk (W1.alloc (.cells #[.int .i64 x1, .int .i64 x2, .int .i64 x3, .int .i64 x4] 48)) W1.heap.size (xc x1 x2 x3 x4) 48 := Blk.new W1 _ _
        have hne : e0 ≠ W1.heap.size := by have := (h6.lt e0 rfl).2; omega
        replace h6 := h6.alloc (.cells #[.int .i64 x1, .int .i64 x2, .int .i64 x3, .int .i64 x4] 48)
        replace hP := hP.al (.cells #[.int .i64 x1, .int .i64 x2, .int .i64 x3, .int .i64 x4] 48)
        generalize W1.alloc (.cells #[.int .i64 x1, .int .i64 x2, .int .i64 x3, .int .i64 x4] 48) = W8 at *
        generalize W1.heap.size = e1 at *
        refine hK.out _ _ (SX.of hP.hx) (fun hS => ?_)
        clear hK K
        try simp only [Act.put, List.getElem_toArray, List.getElem_cons_zero, List.getElem_cons_succ, List.setIfInBounds_toArray, List.set_cons_zero, List.set_cons_succ]
        refine wpAnyH_ready (rs := [9]) (by kernel_rfl) (by simp) ?_
        refine AllReadyH.cons rfl (fun K hK => ?_) AllReadyH.nil
        refine step_append_own rfl (.tmp 52) (.tmp 54) 53 rfl w.heap.size 48 i0 _ 4 32 Try.underlying53 hi hz0 hz1 hz2 (by rfl) (by decide) _ 0 [] rfl h6 ⟨e1, 0, none⟩ 1 1 [.int .i64 x1, .int .i64 x2, .int .i64 x3, .int .i64 x4] rfl rfl (news_at h8) (news_one x1 x2 x3 x4) (by unfold maxLen; omega) (by omega) hP.bel.size ?_
        intro v9 W9 h9 hG9
        obtain ⟨g2, c2, rfl⟩ := Joins.ownsRow_form h9 (by omega)
        replace hP := hP.grown hG9 (fun k e => by cases e; exact ⟨hg1w, hg1x⟩)
        clear hG9
        refine hK.out _ _ (SX.of hP.hx) (fun hS => ?_)
        clear hK K
        try simp only [Act.put, List.getElem_toArray, List.getElem_cons_zero, List.getElem_cons_succ, List.setIfInBounds_toArray, List.set_cons_zero, List.set_cons_succ]
        refine wpAnyH_take (i := 10) (v := ?_) rfl (by kernel_rfl) (by kernel_rfl) (by kernel_rfl) (fun _ _ _ h => h) (Or.inl ⟨by rfl, ?_⟩) hS ?_
        rotate_left
        focus ((intro w' hSw; (obtain ⟨q0, q1, q2, q3⟩ := hSw); go_simp); first | done | with_reducible rfl)
        try simp only [Act.put, List.getElem_toArray, List.getElem_cons_zero, List.getElem_cons_succ, List.setIfInBounds_toArray, List.set_cons_zero, List.set_cons_succ]
        refine wpAnyH_take (i := 11) (v := ?_) rfl (by kernel_rfl) (by kernel_rfl) (by kernel_rfl) (fun _ _ _ h => h) (Or.inl ⟨by rfl, ?_⟩) hS ?_
        rotate_left
        focus ((intro w' hSw; (obtain ⟨q0, q1, q2, q3⟩ := hSw); go_simp); first | done | with_reducible rfl)
        try simp only [Act.put, List.getElem_toArray, List.getElem_cons_zero, List.getElem_cons_succ, List.setIfInBounds_toArray, List.set_cons_zero, List.set_cons_succ]
        have q9 : W9.cell? ⟨b, 1, none⟩ = some (.slice none 0 0) := hP.old hq
        have f9 : W9.frozen? ⟨b, 1, none⟩ = false := (hb.below hP.bel hb.lt).frozen 1
        refine wpAnyH_ready (rs := [12]) (by kernel_rfl) (by simp) ?_
        refine AllReadyH.cons rfl (fun K hK => ?_) AllReadyH.nil
        go_simp
        have hbl := hb.lt
        have hle := hP.le
        refine hK.out _ _ (SX.of (hP.hx.other (by omega) _ _)) (fun hS2 => ?_)
        clear hK K hS2 hS q9 f9
        try simp only [Act.put, List.getElem_toArray, List.getElem_cons_zero, List.getElem_cons_succ, List.setIfInBounds_toArray, List.set_cons_zero, List.set_cons_succ]
        refine wpAnyH_done (by kernel_rfl) ?_ _
        have hF := PF.mk' hb hP h9
        generalize W9.setCell ⟨b, 1, none⟩ (.slice (some ⟨g2, 0, none⟩) (0 + 1) c2) = Wf at *
        clear hP h9 hS hq h8 hne hg1w hg1x hi hz0 hz1 hz2
        have hc0 := hF.blk.cell 0
        have hc1 := hF.blk.cell 1
        have hnc := hF.nc
        have hbu := hF.but'
        have hfz := hF.blk.frozen 1
        simp only [List.getElem?_toArray, List.getElem?_cons_zero, List.getElem?_cons_succ, List.getElem?_cons] at hc0 hc1
        have hgt : ¬ win < ((0 + 1 : Nat) : Int) := by omega
        go_wp2_with fail
        go_quiet (fail)
        go_wp2_with fail
        go_ret
        exact ⟨rfl, by rw [pushL, if_neg (by simp; omega)]; exact PF.part (l := []) (n := 0) (hF.drewN _) rfl hw1 hw2 (by omega) hav, (hF.drewN _).but⟩
      refine AllReadyH.cons rfl (fun K hK => ?_) AllReadyH.nil
      · go_simp
        have h8 : Blk (W1.alloc (.cells #[.int .i64 x1, .int .i64 x2, .int .i64 x3, .int .i64 x4] 48)) W1.heap.size (xc x1 x2 x3 x4) 48 := Blk.new W1 _ _
        have hne : e0 ≠ W1.heap.size := by have := (h6.lt e0 rfl).2; omega
        replace h6 := h6.alloc (.cells #[.int .i64 x1, .int .i64 x2, .int .i64 x3, .int .i64 x4] 48)
        replace hP := hP.al (.cells #[.int .i64 x1, .int .i64 x2, .int .i64 x3, .int .i64 x4] 48)
        generalize W1.alloc (.cells #[.int .i64 x1, .int .i64 x2, .int .i64 x3, .int .i64 x4] 48) = W8 at *
        generalize W1.heap.size = e1 at *
        refine hK.out _ _ (SX.of hP.hx) (fun hS => ?_)
        clear hK K
        try simp only [Act.put, List.getElem_toArray, List.getElem_cons_zero, List.getElem_cons_succ, List.setIfInBounds_toArray, List.set_cons_zero, List.set_cons_succ]
        refine wpAnyH_ready (rs := [6]) (by kernel_rfl) (by simp) ?_
        refine AllReadyH.cons rfl (fun K hK => ?_) AllReadyH.nil
        refine step_append_none rfl (.tmp 47) (.tmp 51) 53 rfl w.heap.size 48 i0 4 Try.underlying53 hi _ 0 [] rfl h6 rfl ?_
        refine hK.out _ _ (SX.of hP.hx) (fun hS => ?_)
        clear hK K
        try simp only [Act.put, List.getElem_toArray, List.getElem_cons_zero, List.getElem_cons_succ, List.setIfInBounds_toArray, List.set_cons_zero, List.set_cons_succ]
        refine wpAnyH_ready (rs := [9]) (by kernel_rfl) (by simp) ?_
        refine AllReadyH.cons rfl (fun K hK => ?_) AllReadyH.nil
        refine step_append_own rfl (.tmp 52) (.tmp 54) 53 rfl w.heap.size 48 i0 _ 4 32 Try.underlying53 hi hz0 hz1 hz2 (by rfl) (by decide) _ 0 [] rfl h6 ⟨e1, 0, none⟩ 1 1 [.int .i64 x1, .int .i64 x2, .int .i64 x3, .int .i64 x4] rfl rfl (news_at h8) (news_one x1 x2 x3 x4) (by unfold maxLen; omega) (by omega) hP.bel.size ?_
        intro v9 W9 h9 hG9
        obtain ⟨g2, c2, rfl⟩ := Joins.ownsRow_form h9 (by omega)
        replace hP := hP.grown hG9 (fun k e => by cases e; exact ⟨hg1w, hg1x⟩)
        clear hG9
        refine hK.out _ _ (SX.of hP.hx) (fun hS => ?_)
        clear hK K
        try simp only [Act.put, List.getElem_toArray, List.getElem_cons_zero, List.getElem_cons_succ, List.setIfInBounds_toArray, List.set_cons_zero, List.set_cons_succ]
        refine wpAnyH_take (i := 10) (v := ?_) rfl (by kernel_rfl) (by kernel_rfl) (by kernel_rfl) (fun _ _ _ h => h) (Or.inl ⟨by rfl, ?_⟩) hS ?_
        rotate_left
        focus ((intro w' hSw; (obtain ⟨q0, q1, q2, q3⟩ := hSw); go_simp); first | done | with_reducible rfl)
        try simp only [Act.put, List.getElem_toArray, List.getElem_cons_zero, List.getElem_cons_succ, List.setIfInBounds_toArray, List.set_cons_zero, List.set_cons_succ]
        refine wpAnyH_take (i := 11) (v := ?_) rfl (by kernel_rfl) (by kernel_rfl) (by kernel_rfl) (fun _ _ _ h => h) (Or.inl ⟨by rfl, ?_⟩) hS ?_
        rotate_left
        focus ((intro w' hSw; (obtain ⟨q0, q1, q2, q3⟩ := hSw); go_simp); first | done | with_reducible rfl)
        try simp only [Act.put, List.getElem_toArray, List.getElem_cons_zero, List.getElem_cons_succ, List.setIfInBounds_toArray, List.set_cons_zero, List.set_cons_succ]
        have q9 : W9.cell? ⟨b, 1, none⟩ = some (.slice none 0 0) := hP.old hq
        have f9 : W9.frozen? ⟨b, 1, none⟩ = false := (hb.below hP.bel hb.lt).frozen 1
        refine wpAnyH_ready (rs := [12]) (by kernel_rfl) (by simp) ?_
        refine AllReadyH.cons rfl (fun K hK => ?_) AllReadyH.nil
        go_simp
        have hbl := hb.lt
        have hle := hP.le
        refine hK.out _ _ (SX.of (hP.hx.other (by omega) _ _)) (fun hS2 => ?_)
        clear hK K hS2 hS q9 f9
        try simp only [Act.put, List.getElem_toArray, List.getElem_cons_zero, List.getElem_cons_succ, List.setIfInBounds_toArray, List.set_cons_zero, List.set_cons_succ]
        refine wpAnyH_done (by kernel_rfl) ?_ _
        have hF := PF.mk' hb hP h9
        generalize W9.setCell ⟨b, 1, none⟩ (.slice (some ⟨g2, 0, none⟩) (0 + 1) c2) = Wf at *
        clear hP h9 hS hq h8 hne hg1w hg1x hi hz0 hz1 hz2
        have hc0 := hF.blk.cell 0
        have hc1 := hF.blk.cell 1
        have hnc := hF.nc
        have hbu := hF.but'
        have hfz := hF.blk.frozen 1
        simp only [List.getElem?_toArray, List.getElem?_cons_zero, List.getElem?_cons_succ, List.getElem?_cons] at hc0 hc1
        have hgt : ¬ win < ((0 + 1 : Nat) : Int) := by omega
        go_wp2_with fail
        go_quiet (fail)
        go_wp2_with fail
        go_ret
        exact ⟨rfl, by rw [pushL, if_neg (by simp; omega)]; exact PF.part (l := []) (n := 0) (hF.drewN _) rfl hw1 hw2 (by omega) hav, (hF.drewN _).but⟩
    refine AllReadyH.cons rfl (fun K hK => ?_) AllReadyH.nil
    · go_simp
      have h8 : Blk (W1.alloc (.cells #[.int .i64 x1, .int .i64 x2, .int .i64 x3, .int .i64 x4] 48)) W1.heap.size (xc x1 x2 x3 x4) 48 := Blk.new W1 _ _
      have hne : e0 ≠ W1.heap.size := by have := (h6.lt e0 rfl).2; omega
      replace h6 := h6.alloc (.cells #[.int .i64 x1, .int .i64 x2, .int .i64 x3, .int .i64 x4] 48)
      replace hP := hP.al (.cells #[.int .i64 x1, .int .i64 x2, .int .i64 x3, .int .i64 x4] 48)
      generalize W1.alloc (.cells #[.int .i64 x1, .int .i64 x2, .int .i64 x3, .int .i64 x4] 48) = W8 at *
      generalize W1.heap.size = e1 at *
      refine hK.out _ _ (SX.of hP.hx) (fun hS => ?_)
      clear hK K
      try simp only [Act.put, List.getElem_toArray, List.getElem_cons_zero, List.getElem_cons_succ, List.setIfInBounds_toArray, List.set_cons_zero, List.set_cons_succ]
      refine wpAnyH_ready (rs := [5]) (by kernel_rfl) (by simp) ?_
      refine AllReadyH.cons rfl (fun K hK => ?_) AllReadyH.nil
      have q5 := hP.old hq
      go_simp
      clear q5
      refine hK.out _ _ (SX.of hP.hx) (fun hS => ?_)
      clear hK K
      try simp only [Act.put, List.getElem_toArray, List.getElem_cons_zero, List.getElem_cons_succ, List.setIfInBounds_toArray, List.set_cons_zero, List.set_cons_succ]
      refine wpAnyH_ready (rs := [6]) (by kernel_rfl) (by simp) ?_
      refine AllReadyH.cons rfl (fun K hK => ?_) AllReadyH.nil
      refine step_append_none rfl (.tmp 47) (.tmp 51) 53 rfl w.heap.size 48 i0 4 Try.underlying53 hi _ 0 [] rfl h6 rfl ?_
      refine hK.out _ _ (SX.of hP.hx) (fun hS => ?_)
      clear hK K
      try simp only [Act.put, List.getElem_toArray, List.getElem_cons_zero, List.getElem_cons_succ, List.setIfInBounds_toArray, List.set_cons_zero, List.set_cons_succ]
      refine wpAnyH_ready (rs := [9]) (by kernel_rfl) (by simp) ?_
      refine AllReadyH.cons rfl (fun K hK => ?_) AllReadyH.nil
      refine step_append_own rfl (.tmp 52) (.tmp 54) 53 rfl w.heap.size 48 i0 _ 4 32 Try.underlying53 hi hz0 hz1 hz2 (by rfl) (by decide) _ 0 [] rfl h6 ⟨e1, 0, none⟩ 1 1 [.int .i64 x1, .int .i64 x2, .int .i64 x3, .int .i64 x4] rfl rfl (news_at h8) (news_one x1 x2 x3 x4) (by unfold maxLen; omega) (by omega) hP.bel.size ?_
      intro v9 W9 h9 hG9
      obtain ⟨g2, c2, rfl⟩ := Joins.ownsRow_form h9 (by omega)
      replace hP := hP.grown hG9 (fun k e => by cases e; exact ⟨hg1w, hg1x⟩)
      clear hG9
      refine hK.out _ _ (SX.of hP.hx) (fun hS => ?_)
      clear hK K
      try simp only [Act.put, List.getElem_toArray, List.getElem_cons_zero, List.getElem_cons_succ, List.setIfInBounds_toArray, List.set_cons_zero, List.set_cons_succ]
      refine wpAnyH_take (i := 10) (v := ?_) rfl (by kernel_rfl) (by kernel_rfl) (by kernel_rfl) (fun _ _ _ h => h) (Or.inl ⟨by rfl, ?_⟩) hS ?_
      rotate_left
      focus ((intro w' hSw; (obtain ⟨q0, q1, q2, q3⟩ := hSw); go_simp); first | done | with_reducible rfl)
      try simp only [Act.put, List.getElem_toArray, List.getElem_cons_zero, List.getElem_cons_succ, List.setIfInBounds_toArray, List.set_cons_zero, List.set_cons_succ]
      refine wpAnyH_take (i := 11) (v := ?_) rfl (by kernel_rfl) (by kernel_rfl) (by kernel_rfl) (fun _ _ _ h => h) (Or.inl ⟨by rfl, ?_⟩) hS ?_
      rotate_left
      focus ((intro w' hSw; (obtain ⟨q0, q1, q2, q3⟩ := hSw); go_simp); first | done | with_reducible rfl)
      try simp only [Act.put, List.getElem_toArray, List.getElem_cons_zero, List.getElem_cons_succ, List.setIfInBounds_toArray, List.set_cons_zero, List.set_cons_succ]
      have q9 : W9.cell? ⟨b, 1, none⟩ = some (.slice none 0 0) := hP.old hq
      have f9 : W9.frozen? ⟨b, 1, none⟩ = false := (hb.below hP.bel hb.lt).frozen 1
      refine wpAnyH_ready (rs := [12]) (by kernel_rfl) (by simp) ?_
      refine AllReadyH.cons rfl (fun K hK => ?_) AllReadyH.nil
      go_simp
      have hbl := hb.lt
      have hle := hP.le
      refine hK.out _ _ (SX.of (hP.hx.other (by omega) _ _)) (fun hS2 => ?_)
      clear hK K hS2 hS q9 f9
      try simp only [Act.put, List.getElem_toArray, List.getElem_cons_zero, List.getElem_cons_succ, List.setIfInBounds_toArray, List.set_cons_zero, List.set_cons_succ]
      refine wpAnyH_done (by kernel_rfl) ?_ _
      have hF := PF.mk' hb hP h9
      generalize W9.setCell ⟨b, 1, none⟩ (.slice (some ⟨g2, 0, none⟩) (0 + 1) c2) = Wf at *
      clear hP h9 hS hq h8 hne hg1w hg1x hi hz0 hz1 hz2
      have hc0 := hF.blk.cell 0
      have hc1 := hF.blk.cell 1
      have hnc := hF.nc
      have hbu := hF.but'
      have hfz := hF.blk.frozen 1
      simp only [List.getElem?_toArray, List.getElem?_cons_zero, List.getElem?_cons_succ, List.getElem?_cons] at hc0 hc1
      have hgt : ¬ win < ((0 + 1 : Nat) : Int) := by omega
      go_wp2_with fail
      go_quiet (fail)
      go_wp2_with fail
      go_ret
      exact ⟨rfl, by rw [pushL, if_neg (by simp; omega)]; exact PF.part (l := []) (n := 0) (hF.drewN _) rfl hw1 hw2 (by omega) hav, (hF.drewN _).but⟩
  refine AllReadyH.cons rfl (fun K hK => ?_) ?_
  · have q5 := hP.old hq
    go_simp
    clear q5
    refine hK.out _ _ (SX.of hP.hx) (fun hS => ?_)
    clear hK K
    try simp only [Act.put, List.getElem_toArray, List.getElem_cons_zero, List.getElem_cons_succ, List.setIfInBounds_toArray, List.set_cons_zero, List.set_cons_succ]
    refine wpAnyH_ready (rs := [1, 8]) (by kernel_rfl) (by simp) ?_
    refine AllReadyH.cons rfl (fun K hK => ?_) ?_
    · go_simp
      have hbs := hP.bel.size
      have hbx := hP.hx.lt
      have h6 : (W0.alloc (.cells #[] 48)).ownsRow w.heap.size 48 4 (.slice (some ⟨W0.heap.size, 0, none⟩) 0 0) 0 [] := World.ownsRow_made W0 #[] 0 hbs (by simp [maxLen]) (by simp)
      have hg1w : w.heap.size ≤ W0.heap.size := hbs
      have hg1x : W0.heap.size ≠ w.heap.size := by omega
      replace hP := hP.al (.cells #[] 48)
      clear hbs hbx
      generalize W0.alloc (.cells #[] 48) = W1 at *
      generalize W0.heap.size = e0 at *
      refine hK.out _ _ (SX.of hP.hx) (fun hS => ?_)
      clear hK K
      try simp only [Act.put, List.getElem_toArray, List.getElem_cons_zero, List.getElem_cons_succ, List.setIfInBounds_toArray, List.set_cons_zero, List.set_cons_succ]
      refine wpAnyH_ready (rs := [6, 8]) (by kernel_rfl) (by simp) ?_
      refine AllReadyH.cons rfl (fun K hK => ?_) ?_
      · refine step_append_none rfl (.tmp 47) (.tmp 51) 53 rfl w.heap.size 48 i0 4 Try.underlying53 hi _ 0 [] rfl h6 rfl ?_
        refine hK.out _ _ (SX.of hP.hx) (fun hS => ?_)
        clear hK K
        try simp only [Act.put, List.getElem_toArray, List.getElem_cons_zero, List.getElem_cons_succ, List.setIfInBounds_toArray, List.set_cons_zero, List.set_cons_succ]
        refine wpAnyH_ready (rs := [8]) (by kernel_rfl) (by simp) ?_
        refine AllReadyH.cons rfl (fun K hK => ?_) AllReadyH.nil
        go_simp
        have h8 : Blk (W1.alloc (.cells #[.int .i64 x1, .int .i64 x2, .int .i64 x3, .int .i64 x4] 48)) W1.heap.size (xc x1 x2 x3 x4) 48 := Blk.new W1 _ _
        have hne : e0 ≠ W1.heap.size := by have := (h6.lt e0 rfl).2; omega
        replace h6 := h6.alloc (.cells #[.int .i64 x1, .int .i64 x2, .int .i64 x3, .int .i64 x4] 48)
        replace hP := hP.al (.cells #[.int .i64 x1, .int .i64 x2, .int .i64 x3, .int .i64 x4] 48)
        generalize W1.alloc (.cells #[.int .i64 x1, .int .i64 x2, .int .i64 x3, .int .i64 x4] 48) = W8 at *
        generalize W1.heap.size = e1 at *
        refine hK.out _ _ (SX.of hP.hx) (fun hS => ?_)
        clear hK K
        try simp only [Act.put, List.getElem_toArray, List.getElem_cons_zero, List.getElem_cons_succ, List.setIfInBounds_toArray, List.set_cons_zero, List.set_cons_succ]
        refine wpAnyH_ready (rs := [9]) (by kernel_rfl) (by simp) ?_
        refine AllReadyH.cons rfl (fun K hK => ?_) AllReadyH.nil
        refine step_append_own rfl (.tmp 52) (.tmp 54) 53 rfl w.heap.size 48 i0 _ 4 32 Try.underlying53 hi hz0 hz1 hz2 (by rfl) (by decide) _ 0 [] rfl h6 ⟨e1, 0, none⟩ 1 1 [.int .i64 x1, .int .i64 x2, .int .i64 x3, .int .i64 x4] rfl rfl (news_at h8) (news_one x1 x2 x3 x4) (by unfold maxLen; omega) (by omega) hP.bel.size ?_
        intro v9 W9 h9 hG9
        obtain ⟨g2, c2, rfl⟩ := Joins.ownsRow_form h9 (by omega)
        replace hP := hP.grown hG9 (fun k e => by cases e; exact ⟨hg1w, hg1x⟩)
        clear hG9
        refine hK.out _ _ (SX.of hP.hx) (fun hS => ?_)
        clear hK K
        try simp only [Act.put, List.getElem_toArray, List.getElem_cons_zero, List.getElem_cons_succ, List.setIfInBounds_toArray, List.set_cons_zero, List.set_cons_succ]
        refine wpAnyH_take (i := 10) (v := ?_) rfl (by kernel_rfl) (by kernel_rfl) (by kernel_rfl) (fun _ _ _ h => h) (Or.inl ⟨by rfl, ?_⟩) hS ?_
        rotate_left
        focus ((intro w' hSw; (obtain ⟨q0, q1, q2, q3⟩ := hSw); go_simp); first | done | with_reducible rfl)
        try simp only [Act.put, List.getElem_toArray, List.getElem_cons_zero, List.getElem_cons_succ, List.setIfInBounds_toArray, List.set_cons_zero, List.set_cons_succ]
        refine wpAnyH_take (i := 11) (v := ?_) rfl (by kernel_rfl) (by kernel_rfl) (by kernel_rfl) (fun _ _ _ h => h) (Or.inl ⟨by rfl, ?_⟩) hS ?_
        rotate_left
        focus ((intro w' hSw; (obtain ⟨q0, q1, q2, q3⟩ := hSw); go_simp); first | done | with_reducible rfl)
        try simp only [Act.put, List.getElem_toArray, List.getElem_cons_zero, List.getElem_cons_succ, List.setIfInBounds_toArray, List.set_cons_zero, List.set_cons_succ]
        have q9 : W9.cell? ⟨b, 1, none⟩ = some (.slice none 0 0) := hP.old hq
        have f9 : W9.frozen? ⟨b, 1, none⟩ = false := (hb.below hP.bel hb.lt).frozen 1
        refine wpAnyH_ready (rs := [12]) (by kernel_rfl) (by simp) ?_
        refine AllReadyH.cons rfl (fun K hK => ?_) AllReadyH.nil
        go_simp
        have hbl := hb.lt
        have hle := hP.le
        refine hK.out _ _ (SX.of (hP.hx.other (by omega) _ _)) (fun hS2 => ?_)
        clear hK K hS2 hS q9 f9
        try simp only [Act.put, List.getElem_toArray, List.getElem_cons_zero, List.getElem_cons_succ, List.setIfInBounds_toArray, List.set_cons_zero, List.set_cons_succ]
        refine wpAnyH_done (by kernel_rfl) ?_ _
        have hF := PF.mk' hb hP h9
        generalize W9.setCell ⟨b, 1, none⟩ (.slice (some ⟨g2, 0, none⟩) (0 + 1) c2) = Wf at *
        clear hP h9 hS hq h8 hne hg1w hg1x hi hz0 hz1 hz2
        have hc0 := hF.blk.cell 0
        have hc1 := hF.blk.cell 1
        have hnc := hF.nc
        have hbu := hF.but'
        have hfz := hF.blk.frozen 1
        simp only [List.getElem?_toArray, List.getElem?_cons_zero, List.getElem?_cons_succ, List.getElem?_cons] at hc0 hc1
        have hgt : ¬ win < ((0 + 1 : Nat) : Int) := by omega
        go_wp2_with fail
        go_quiet (fail)
        go_wp2_with fail
        go_ret
        exact ⟨rfl, by rw [pushL, if_neg (by simp; omega)]; exact PF.part (l := []) (n := 0) (hF.drewN _) rfl hw1 hw2 (by omega) hav, (hF.drewN _).but⟩
      refine AllReadyH.cons rfl (fun K hK => ?_) AllReadyH.nil
      · go_simp
        have h8 : Blk (W1.alloc (.cells #[.int .i64 x1, .int .i64 x2, .int .i64 x3, .int .i64 x4] 48)) W1.heap.size (xc x1 x2 x3 x4) 48 := Blk.new W1 _ _
        have hne : e0 ≠ W1.heap.size := by have := (h6.lt e0 rfl).2; omega
        replace h6 := h6.alloc (.cells #[.int .i64 x1, .int .i64 x2, .int .i64 x3, .int .i64 x4] 48)
        replace hP := hP.al (.cells #[.int .i64 x1, .int .i64 x2, .int .i64 x3, .int .i64 x4] 48)
        generalize W1.alloc (.cells #[.int .i64 x1, .int .i64 x2, .int .i64 x3, .int .i64 x4] 48) = W8 at *
        generalize W1.heap.size = e1 at *
        refine hK.out _ _ (SX.of hP.hx) (fun hS => ?_)
        clear hK K
        try simp only [Act.put, List.getElem_toArray, List.getElem_cons_zero, List.getElem_cons_succ, List.setIfInBounds_toArray, List.set_cons_zero, List.set_cons_succ]
        refine wpAnyH_ready (rs := [6]) (by kernel_rfl) (by simp) ?_
        refine AllReadyH.cons rfl (fun K hK => ?_) AllReadyH.nil
        refine step_append_none rfl (.tmp 47) (.tmp 51) 53 rfl w.heap.size 48 i0 4 Try.underlying53 hi _ 0 [] rfl h6 rfl ?_
        refine hK.out _ _ (SX.of hP.hx) (fun hS => ?_)
        clear hK K
        try simp only [Act.put, List.getElem_toArray, List.getElem_cons_zero, List.getElem_cons_succ, List.setIfInBounds_toArray, List.set_cons_zero, List.set_cons_succ]
        refine wpAnyH_ready (rs := [9]) (by kernel_rfl) (by simp) ?_
        refine AllReadyH.cons rfl (fun K hK => ?_) AllReadyH.nil
        refine step_append_own rfl (.tmp 52) (.tmp 54) 53 rfl w.heap.size 48 i0 _ 4 32 Try.underlying53 hi hz0 hz1 hz2 (by rfl) (by decide) _ 0 [] rfl h6 ⟨e1, 0, none⟩ 1 1 [.int .i64 x1, .int .i64 x2, .int .i64 x3, .int .i64 x4] rfl rfl (news_at h8) (news_one x1 x2 x3 x4) (by unfold maxLen; omega) (by omega) hP.bel.size ?_
        intro v9 W9 h9 hG9
        obtain ⟨g2, c2, rfl⟩ := Joins.ownsRow_form h9 (by omega)
        replace hP := hP.grown hG9 (fun k e => by cases e; exact ⟨hg1w, hg1x⟩)
        clear hG9
        refine hK.out _ _ (SX.of hP.hx) (fun hS => ?_)
        clear hK K
        try simp only [Act.put, List.getElem_toArray, List.getElem_cons_zero, List.getElem_cons_succ, List.setIfInBounds_toArray, List.set_cons_zero, List.set_cons_succ]
        refine wpAnyH_take (i := 10) (v := ?_) rfl (by kernel_rfl) (by kernel_rfl) (by kernel_rfl) (fun _ _ _ h => h) (Or.inl ⟨by rfl, ?_⟩) hS ?_
        rotate_left
        focus ((intro w' hSw; (obtain ⟨q0, q1, q2, q3⟩ := hSw); go_simp); first | done | with_reducible rfl)
        try simp only [Act.put, List.getElem_toArray, List.getElem_cons_zero, List.getElem_cons_succ, List.setIfInBounds_toArray, List.set_cons_zero, List.set_cons_succ]
        refine wpAnyH_take (i := 11) (v := ?_) rfl (by kernel_rfl) (by kernel_rfl) (by kernel_rfl) (fun _ _ _ h => h) (Or.inl ⟨by rfl, ?_⟩) hS ?_
        rotate_left
        focus ((intro w' hSw; (obtain ⟨q0, q1, q2, q3⟩ := hSw); go_simp); first | done | with_reducible rfl)
        try simp only [Act.put, List.getElem_toArray, List.getElem_cons_zero, List.getElem_cons_succ, List.setIfInBounds_toArray, List.set_cons_zero, List.set_cons_succ]
        have q9 : W9.cell? ⟨b, 1, none⟩ = some (.slice none 0 0) := hP.old hq
        have f9 : W9.frozen? ⟨b, 1, none⟩ = false := (hb.below hP.bel hb.lt).frozen 1
        refine wpAnyH_ready (rs := [12]) (by kernel_rfl) (by simp) ?_
        refine AllReadyH.cons rfl (fun K hK => ?_) AllReadyH.nil
        go_simp
        have hbl := hb.lt
        have hle := hP.le
        refine hK.out _ _ (SX.of (hP.hx.other (by omega) _ _)) (fun hS2 => ?_)
        clear hK K hS2 hS q9 f9
        try simp only [Act.put, List.getElem_toArray, List.getElem_cons_zero, List.getElem_cons_succ, List.setIfInBounds_toArray, List.set_cons_zero, List.set_cons_succ]
        refine wpAnyH_done (by kernel_rfl) ?_ _
        have hF := PF.mk' hb hP h9
        generalize W9.setCell ⟨b, 1, none⟩ (.slice (some ⟨g2, 0, none⟩) (0 + 1) c2) = Wf at *
        clear hP h9 hS hq h8 hne hg1w hg1x hi hz0 hz1 hz2
        have hc0 := hF.blk.cell 0
        have hc1 := hF.blk.cell 1
        have hnc := hF.nc
        have hbu := hF.but'
        have hfz := hF.blk.frozen 1
        simp only [List.getElem?_toArray, List.getElem?_cons_zero, List.getElem?_cons_succ, List.getElem?_cons] at hc0 hc1
        have hgt : ¬ win < ((0 + 1 : Nat) : Int) := by omega
        go_wp2_with fail
        go_quiet (fail)
        go_wp2_with fail
        go_ret
        exact ⟨rfl, by rw [pushL, if_neg (by simp; omega)]; exact PF.part (l := []) (n := 0) (hF.drewN _) rfl hw1 hw2 (by omega) hav, (hF.drewN _).but⟩
    refine AllReadyH.cons rfl (fun K hK => ?_) AllReadyH.nil
    · go_simp
      have h8 : Blk (W0.alloc (.cells #[.int .i64 x1, .int .i64 x2, .int .i64 x3, .int .i64 x4] 48)) W0.heap.size (xc x1 x2 x3 x4) 48 := Blk.new W0 _ _
      replace hP := hP.al (.cells #[.int .i64 x1, .int .i64 x2, .int .i64 x3, .int .i64 x4] 48)
      generalize W0.alloc (.cells #[.int .i64 x1, .int .i64 x2, .int .i64 x3, .int .i64 x4] 48) = W8 at *
      generalize W0.heap.size = e1 at *
      refine hK.out _ _ (SX.of hP.hx) (fun hS => ?_)
      clear hK K
      try simp only [Act.put, List.getElem_toArray, List.getElem_cons_zero, List.getElem_cons_succ, List.setIfInBounds_toArray, List.set_cons_zero, List.set_cons_succ]
      refine wpAnyH_ready (rs := [1]) (by kernel_rfl) (by simp) ?_
      refine AllReadyH.cons rfl (fun K hK => ?_) AllReadyH.nil
      go_simp
      have hbs := hP.bel.size
      have hbx := hP.hx.lt
      have h6 : (W8.alloc (.cells #[] 48)).ownsRow w.heap.size 48 4 (.slice (some ⟨W8.heap.size, 0, none⟩) 0 0) 0 [] := World.ownsRow_made W8 #[] 0 hbs (by simp [maxLen]) (by simp)
      have hg1w : w.heap.size ≤ W8.heap.size := hbs
      have hg1x : W8.heap.size ≠ w.heap.size := by omega
      have hne : W8.heap.size ≠ e1 := by have := h8.lt; omega
      replace hP := hP.al (.cells #[] 48)
      replace h8 := h8.alloc (.cells #[] 48)
      clear hbs hbx
      generalize W8.alloc (.cells #[] 48) = W1 at *
      generalize W8.heap.size = e0 at *
      refine hK.out _ _ (SX.of hP.hx) (fun hS => ?_)
      clear hK K
      try simp only [Act.put, List.getElem_toArray, List.getElem_cons_zero, List.getElem_cons_succ, List.setIfInBounds_toArray, List.set_cons_zero, List.set_cons_succ]
      refine wpAnyH_ready (rs := [6]) (by kernel_rfl) (by simp) ?_
      refine AllReadyH.cons rfl (fun K hK => ?_) AllReadyH.nil
      refine step_append_none rfl (.tmp 47) (.tmp 51) 53 rfl w.heap.size 48 i0 4 Try.underlying53 hi _ 0 [] rfl h6 rfl ?_
      refine hK.out _ _ (SX.of hP.hx) (fun hS => ?_)
      clear hK K
      try simp only [Act.put, List.getElem_toArray, List.getElem_cons_zero, List.getElem_cons_succ, List.setIfInBounds_toArray, List.set_cons_zero, List.set_cons_succ]
      refine wpAnyH_ready (rs := [9]) (by kernel_rfl) (by simp) ?_
      refine AllReadyH.cons rfl (fun K hK => ?_) AllReadyH.nil
      refine step_append_own rfl (.tmp 52) (.tmp 54) 53 rfl w.heap.size 48 i0 _ 4 32 Try.underlying53 hi hz0 hz1 hz2 (by rfl) (by decide) _ 0 [] rfl h6 ⟨e1, 0, none⟩ 1 1 [.int .i64 x1, .int .i64 x2, .int .i64 x3, .int .i64 x4] rfl rfl (news_at h8) (news_one x1 x2 x3 x4) (by unfold maxLen; omega) (by omega) hP.bel.size ?_
      intro v9 W9 h9 hG9
      obtain ⟨g2, c2, rfl⟩ := Joins.ownsRow_form h9 (by omega)
      replace hP := hP.grown hG9 (fun k e => by cases e; exact ⟨hg1w, hg1x⟩)
      clear hG9
      refine hK.out _ _ (SX.of hP.hx) (fun hS => ?_)
      clear hK K
      try simp only [Act.put, List.getElem_toArray, List.getElem_cons_zero, List.getElem_cons_succ, List.setIfInBounds_toArray, List.set_cons_zero, List.set_cons_succ]
      refine wpAnyH_take (i := 10) (v := ?_) rfl (by kernel_rfl) (by kernel_rfl) (by kernel_rfl) (fun _ _ _ h => h) (Or.inl ⟨by rfl, ?_⟩) hS ?_
      rotate_left
      focus ((intro w' hSw; (obtain ⟨q0, q1, q2, q3⟩ := hSw); go_simp); first | done | with_reducible rfl)
      try simp only [Act.put, List.getElem_toArray, List.getElem_cons_zero, List.getElem_cons_succ, List.setIfInBounds_toArray, List.set_cons_zero, List.set_cons_succ]
      refine wpAnyH_take (i := 11) (v := ?_) rfl (by kernel_rfl) (by kernel_rfl) (by kernel_rfl) (fun _ _ _ h => h) (Or.inl ⟨by rfl, ?_⟩) hS ?_
      rotate_left
      focus ((intro w' hSw; (obtain ⟨q0, q1, q2, q3⟩ := hSw); go_simp); first | done | with_reducible rfl)
      try simp only [Act.put, List.getElem_toArray, List.getElem_cons_zero, List.getElem_cons_succ, List.setIfInBounds_toArray, List.set_cons_zero, List.set_cons_succ]
      have q9 : W9.cell? ⟨b, 1, none⟩ = some (.slice none 0 0) := hP.old hq
      have f9 : W9.frozen? ⟨b, 1, none⟩ = false := (hb.below hP.bel hb.lt).frozen 1
      refine wpAnyH_ready (rs := [12]) (by kernel_rfl) (by simp) ?_
      refine AllReadyH.cons rfl (fun K hK => ?_) AllReadyH.nil
      go_simp
      have hbl := hb.lt
      have hle := hP.le
      refine hK.out _ _ (SX.of (hP.hx.other (by omega) _ _)) (fun hS2 => ?_)
      clear hK K hS2 hS q9 f9
      try simp only [Act.put, List.getElem_toArray, List.getElem_cons_zero, List.getElem_cons_succ, List.setIfInBounds_toArray, List.set_cons_zero, List.set_cons_succ]
      refine wpAnyH_done (by kernel_rfl) ?_ _
      have hF := PF.mk' hb hP h9
      generalize W9.setCell ⟨b, 1, none⟩ (.slice (some ⟨g2, 0, none⟩) (0 + 1) c2) = Wf at *
      clear hP h9 hS hq h8 hne hg1w hg1x hi hz0 hz1 hz2
      have hc0 := hF.blk.cell 0
      have hc1 := hF.blk.cell 1
      have hnc := hF.nc
      have hbu := hF.but'
      have hfz := hF.blk.frozen 1
      simp only [List.getElem?_toArray, List.getElem?_cons_zero, List.getElem?_cons_succ, List.getElem?_cons] at hc0 hc1
      have hgt : ¬ win < ((0 + 1 : Nat) : Int) := by omega
      go_wp2_with fail
      go_quiet (fail)
      go_wp2_with fail
      go_ret
      exact ⟨rfl, by rw [pushL, if_neg (by simp; omega)]; exact PF.part (l := []) (n := 0) (hF.drewN _) rfl hw1 hw2 (by omega) hav, (hF.drewN _).but⟩
  refine AllReadyH.cons rfl (fun K hK => ?_) AllReadyH.nil
  · go_simp
    have h8 : Blk (W0.alloc (.cells #[.int .i64 x1, .int .i64 x2, .int .i64 x3, .int .i64 x4] 48)) W0.heap.size (xc x1 x2 x3 x4) 48 := Blk.new W0 _ _
    replace hP := hP.al (.cells #[.int .i64 x1, .int .i64 x2, .int .i64 x3, .int .i64 x4] 48)
    generalize W0.alloc (.cells #[.int .i64 x1, .int .i64 x2, .int .i64 x3, .int .i64 x4] 48) = W8 at *
    generalize W0.heap.size = e1 at *
    refine hK.out _ _ (SX.of hP.hx) (fun hS => ?_)
    clear hK K
    try simp only [Act.put, List.getElem_toArray, List.getElem_cons_zero, List.getElem_cons_succ, List.setIfInBounds_toArray, List.set_cons_zero, List.set_cons_succ]
    refine wpAnyH_ready (rs := [1, 5]) (by kernel_rfl) (by simp) ?_
    refine AllReadyH.cons rfl (fun K hK => ?_) ?_
    · go_simp
      have hbs := hP.bel.size
      have hbx := hP.hx.lt
      have h6 : (W8.alloc (.cells #[] 48)).ownsRow w.heap.size 48 4 (.slice (some ⟨W8.heap.size, 0, none⟩) 0 0) 0 [] := World.ownsRow_made W8 #[] 0 hbs (by simp [maxLen]) (by simp)
      have hg1w : w.heap.size ≤ W8.heap.size := hbs
      have hg1x : W8.heap.size ≠ w.heap.size := by omega
      have hne : W8.heap.size ≠ e1 := by have := h8.lt; omega
      replace hP := hP.al (.cells #[] 48)
      replace h8 := h8.alloc (.cells #[] 48)
      clear hbs hbx
      generalize W8.alloc (.cells #[] 48) = W1 at *
      generalize W8.heap.size = e0 at *
      refine hK.out _ _ (SX.of hP.hx) (fun hS => ?_)
      clear hK K
      try simp only [Act.put, List.getElem_toArray, List.getElem_cons_zero, List.getElem_cons_succ, List.setIfInBounds_toArray, List.set_cons_zero, List.set_cons_succ]
      refine wpAnyH_ready (rs := [5]) (by kernel_rfl) (by simp) ?_
      refine AllReadyH.cons rfl (fun K hK => ?_) AllReadyH.nil
      have q5 := hP.old hq
      go_simp
      clear q5
      refine hK.out _ _ (SX.of hP.hx) (fun hS => ?_)
      clear hK K
      try simp only [Act.put, List.getElem_toArray, List.getElem_cons_zero, List.getElem_cons_succ, List.setIfInBounds_toArray, List.set_cons_zero, List.set_cons_succ]
      refine wpAnyH_ready (rs := [6]) (by kernel_rfl) (by simp) ?_
      refine AllReadyH.cons rfl (fun K hK => ?_) AllReadyH.nil
      refine step_append_none rfl (.tmp 47) (.tmp 51) 53 rfl w.heap.size 48 i0 4 Try.underlying53 hi _ 0 [] rfl h6 rfl ?_
      refine hK.out _ _ (SX.of hP.hx) (fun hS => ?_)
      clear hK K
      try simp only [Act.put, List.getElem_toArray, List.getElem_cons_zero, List.getElem_cons_succ, List.setIfInBounds_toArray, List.set_cons_zero, List.set_cons_succ]
      refine wpAnyH_ready (rs := [9]) (by kernel_rfl) (by simp) ?_
      refine AllReadyH.cons rfl (fun K hK => ?_) AllReadyH.nil
      refine step_append_own rfl (.tmp 52) (.tmp 54) 53 rfl w.heap.size 48 i0 _ 4 32 Try.underlying53 hi hz0 hz1 hz2 (by rfl) (by decide) _ 0 [] rfl h6 ⟨e1, 0, none⟩ 1 1 [.int .i64 x1, .int .i64 x2, .int .i64 x3, .int .i64 x4] rfl rfl (news_at h8) (news_one x1 x2 x3 x4) (by unfold maxLen; omega) (by omega) hP.bel.size ?_
      intro v9 W9 h9 hG9
      obtain ⟨g2, c2, rfl⟩ := Joins.ownsRow_form h9 (by omega)
      replace hP := hP.grown hG9 (fun k e => by cases e; exact ⟨hg1w, hg1x⟩)
      clear hG9
      refine hK.out _ _ (SX.of hP.hx) (fun hS => ?_)
      clear hK K
      try simp only [Act.put, List.getElem_toArray, List.getElem_cons_zero, List.getElem_cons_succ, List.setIfInBounds_toArray, List.set_cons_zero, List.set_cons_succ]
      refine wpAnyH_take (i := 10) (v := ?_) rfl (by kernel_rfl) (by kernel_rfl) (by kernel_rfl) (fun _ _ _ h => h) (Or.inl ⟨by rfl, ?_⟩) hS ?_
      rotate_left
      focus ((intro w' hSw; (obtain ⟨q0, q1, q2, q3⟩ := hSw); go_simp); first | done | with_reducible rfl)
      try simp only [Act.put, List.getElem_toArray, List.getElem_cons_zero, List.getElem_cons_succ, List.setIfInBounds_toArray, List.set_cons_zero, List.set_cons_succ]
      refine wpAnyH_take (i := 11) (v := ?_) rfl (by kernel_rfl) (by kernel_rfl) (by kernel_rfl) (fun _ _ _ h => h) (Or.inl ⟨by rfl, ?_⟩) hS ?_
      rotate_left
      focus ((intro w' hSw; (obtain ⟨q0, q1, q2, q3⟩ := hSw); go_simp); first | done | with_reducible rfl)
      try simp only [Act.put, List.getElem_toArray, List.getElem_cons_zero, List.getElem_cons_succ, List.setIfInBounds_toArray, List.set_cons_zero, List.set_cons_succ]
      have q9 : W9.cell? ⟨b, 1, none⟩ = some (.slice none 0 0) := hP.old hq
      have f9 : W9.frozen? ⟨b, 1, none⟩ = false := (hb.below hP.bel hb.lt).frozen 1
      refine wpAnyH_ready (rs := [12]) (by kernel_rfl) (by simp) ?_
      refine AllReadyH.cons rfl (fun K hK => ?_) AllReadyH.nil
      go_simp
      have hbl := hb.lt
      have hle := hP.le
      refine hK.out _ _ (SX.of (hP.hx.other (by omega) _ _)) (fun hS2 => ?_)
      clear hK K hS2 hS q9 f9
      try simp only [Act.put, List.getElem_toArray, List.getElem_cons_zero, List.getElem_cons_succ, List.setIfInBounds_toArray, List.set_cons_zero, List.set_cons_succ]
      refine wpAnyH_done (by kernel_rfl) ?_ _
      have hF := PF.mk' hb hP h9
      generalize W9.setCell ⟨b, 1, none⟩ (.slice (some ⟨g2, 0, none⟩) (0 + 1) c2) = Wf at *
      clear hP h9 hS hq h8 hne hg1w hg1x hi hz0 hz1 hz2
      have hc0 := hF.blk.cell 0
      have hc1 := hF.blk.cell 1
      have hnc := hF.nc
      have hbu := hF.but'
      have hfz := hF.blk.frozen 1
      simp only [List.getElem?_toArray, List.getElem?_cons_zero, List.getElem?_cons_succ, List.getElem?_cons] at hc0 hc1
      have hgt : ¬ win < ((0 + 1 : Nat) : Int) := by omega
      go_wp2_with fail
      go_quiet (fail)
      go_wp2_with fail
      go_ret
      exact ⟨rfl, by rw [pushL, if_neg (by simp; omega)]; exact PF.part (l := []) (n := 0) (hF.drewN _) rfl hw1 hw2 (by omega) hav, (hF.drewN _).but⟩
    refine AllReadyH.cons rfl (fun K hK => ?_) AllReadyH.nil
    · have q5 := hP.old hq
      go_simp
      clear q5
      refine hK.out _ _ (SX.of hP.hx) (fun hS => ?_)
      clear hK K
      try simp only [Act.put, List.getElem_toArray, List.getElem_cons_zero, List.getElem_cons_succ, List.setIfInBounds_toArray, List.set_cons_zero, List.set_cons_succ]
      refine wpAnyH_ready (rs := [1]) (by kernel_rfl) (by simp) ?_
      refine AllReadyH.cons rfl (fun K hK => ?_) AllReadyH.nil
      go_simp
      have hbs := hP.bel.size
      have hbx := hP.hx.lt
      have h6 : (W8.alloc (.cells #[] 48)).ownsRow w.heap.size 48 4 (.slice (some ⟨W8.heap.size, 0, none⟩) 0 0) 0 [] := World.ownsRow_made W8 #[] 0 hbs (by simp [maxLen]) (by simp)
      have hg1w : w.heap.size ≤ W8.heap.size := hbs
      have hg1x : W8.heap.size ≠ w.heap.size := by omega
      have hne : W8.heap.size ≠ e1 := by have := h8.lt; omega
      replace hP := hP.al (.cells #[] 48)
      replace h8 := h8.alloc (.cells #[] 48)
      clear hbs hbx
      generalize W8.alloc (.cells #[] 48) = W1 at *
      generalize W8.heap.size = e0 at *
      refine hK.out _ _ (SX.of hP.hx) (fun hS => ?_)
      clear hK K
      try simp only [Act.put, List.getElem_toArray, List.getElem_cons_zero, List.getElem_cons_succ, List.setIfInBounds_toArray, List.set_cons_zero, List.set_cons_succ]
      refine wpAnyH_ready (rs := [6]) (by kernel_rfl) (by simp) ?_
      refine AllReadyH.cons rfl (fun K hK => ?_) AllReadyH.nil
      refine step_append_none rfl (.tmp 47) (.tmp 51) 53 rfl w.heap.size 48 i0 4 Try.underlying53 hi _ 0 [] rfl h6 rfl ?_
      refine hK.out _ _ (SX.of hP.hx) (fun hS => ?_)
      clear hK K
      try simp only [Act.put, List.getElem_toArray, List.getElem_cons_zero, List.getElem_cons_succ, List.setIfInBounds_toArray, List.set_cons_zero, List.set_cons_succ]
      refine wpAnyH_ready (rs := [9]) (by kernel_rfl) (by simp) ?_
      refine AllReadyH.cons rfl (fun K hK => ?_) AllReadyH.nil
      refine step_append_own rfl (.tmp 52) (.tmp 54) 53 rfl w.heap.size 48 i0 _ 4 32 Try.underlying53 hi hz0 hz1 hz2 (by rfl) (by decide) _ 0 [] rfl h6 ⟨e1, 0, none⟩ 1 1 [.int .i64 x1, .int .i64 x2, .int .i64 x3, .int .i64 x4] rfl rfl (news_at h8) (news_one x1 x2 x3 x4) (by unfold maxLen; omega) (by omega) hP.bel.size ?_
      intro v9 W9 h9 hG9
      obtain ⟨g2, c2, rfl⟩ := Joins.ownsRow_form h9 (by omega)
      replace hP := hP.grown hG9 (fun k e => by cases e; exact ⟨hg1w, hg1x⟩)
      clear hG9
      refine hK.out _ _ (SX.of hP.hx) (fun hS => ?_)
      clear hK K
      try simp only [Act.put, List.getElem_toArray, List.getElem_cons_zero, List.getElem_cons_succ, List.setIfInBounds_toArray, List.set_cons_zero, List.set_cons_succ]
      refine wpAnyH_take (i := 10) (v := ?_) rfl (by kernel_rfl) (by kernel_rfl) (by kernel_rfl) (fun _ _ _ h => h) (Or.inl ⟨by rfl, ?_⟩) hS ?_
      rotate_left
      focus ((intro w' hSw; (obtain ⟨q0, q1, q2, q3⟩ := hSw); go_simp); first | done | with_reducible rfl)
      try simp only [Act.put, List.getElem_toArray, List.getElem_cons_zero, List.getElem_cons_succ, List.setIfInBounds_toArray, List.set_cons_zero, List.set_cons_succ]
      refine wpAnyH_take (i := 11) (v := ?_) rfl (by kernel_rfl) (by kernel_rfl) (by kernel_rfl) (fun _ _ _ h => h) (Or.inl ⟨by rfl, ?_⟩) hS ?_
      rotate_left
      focus ((intro w' hSw; (obtain ⟨q0, q1, q2, q3⟩ := hSw); go_simp); first | done | with_reducible rfl)
      try simp only [Act.put, List.getElem_toArray, List.getElem_cons_zero, List.getElem_cons_succ, List.setIfInBounds_toArray, List.set_cons_zero, List.set_cons_succ]
      have q9 : W9.cell? ⟨b, 1, none⟩ = some (.slice none 0 0) := hP.old hq
      have f9 : W9.frozen? ⟨b, 1, none⟩ = false := (hb.below hP.bel hb.lt).frozen 1
      refine wpAnyH_ready (rs := [12]) (by kernel_rfl) (by simp) ?_
      refine AllReadyH.cons rfl (fun K hK => ?_) AllReadyH.nil
      go_simp
      have hbl := hb.lt
      have hle := hP.le
      refine hK.out _ _ (SX.of (hP.hx.other (by omega) _ _)) (fun hS2 => ?_)
      clear hK K hS2 hS q9 f9
      try simp only [Act.put, List.getElem_toArray, List.getElem_cons_zero, List.getElem_cons_succ, List.setIfInBounds_toArray, List.set_cons_zero, List.set_cons_succ]
      refine wpAnyH_done (by kernel_rfl) ?_ _
      have hF := PF.mk' hb hP h9
      generalize W9.setCell ⟨b, 1, none⟩ (.slice (some ⟨g2, 0, none⟩) (0 + 1) c2) = Wf at *
      clear hP h9 hS hq h8 hne hg1w hg1x hi hz0 hz1 hz2
      have hc0 := hF.blk.cell 0
      have hc1 := hF.blk.cell 1
      have hnc := hF.nc
      have hbu := hF.but'
      have hfz := hF.blk.frozen 1
      simp only [List.getElem?_toArray, List.getElem?_cons_zero, List.getElem?_cons_succ, List.getElem?_cons] at hc0 hc1
      have hgt : ¬ win < ((0 + 1 : Nat) : Int) := by omega
      go_wp2_with fail
      go_quiet (fail)
      go_wp2_with fail
      go_ret
      exact ⟨rfl, by rw [pushL, if_neg (by simp; omega)]; exact PF.part (l := []) (n := 0) (hF.drewN _) rfl hw1 hw2 (by omega) hav, (hF.drewN _).but⟩

theorem radd_ok {w : World} {b av : Nat} {win : Int} {l : List TSw} (h : RK w b av win l) (hav : av < w.heap.size) (x : Sw) (hx : okS x) :
    Calls Try.prog 33 #[.pointer (some ⟨b, 0, none⟩), x.val] w fun e w' => e = .returned (.int .i64 0) ∧ RK w' b av win (pushL win l ⟨x, hx.1⟩) ∧ But b w w' := by
  obtain ⟨x1, x2, x3, x4⟩ := x
  obtain ⟨ht, h4, h5, h6⟩ := hx
  have q0 := ht.a
  have q1 := ht.b
  have q2 := ht.c
  have q3 := ht.d
  unfold Sw.val
  unfold rnd at h6
  dsimp only at h4 h5 h6 q0 q1 q2 q3 ⊢
  have e0 : tmB x1 = true := by simp [tmB]; omega
  have e1 : tmB x2 = true := by simp [tmB]; omega
  have e2 : tmB x3 = true := by simp [tmB]; omega
  have e3 : tmB x4 = true := by simp [tmB]; omega
  rcases h.ex with ⟨rfl, hb⟩ | ⟨g, off, c, hb, hc, hn, hg, _, hL⟩
  · exact radd_nil h.w1 h.w2 hb x1 x2 x3 x4 e0 e1 e2 e3 h4 h5 h6 ht hav
  · exact radd_some l rfl hn h.len h.w1 h.w2 hb hg hL x1 x2 x3 x4 e0 e1 e2 e3 h4 h5 h6 ht hav

end Go.Proofs.Ytfjdooloikofoaa.SyncA
