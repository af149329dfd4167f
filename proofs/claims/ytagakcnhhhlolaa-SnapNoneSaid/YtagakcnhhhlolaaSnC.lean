/- snap: a memory; none, Len, last, Clone of marks. No conditions. -/
import Derived.Test.YtagakcnhhhlolaaSnB
import Derived.StillTailTactics
namespace Go.Proofs.Ytagakcnhhhlolaa.Base
open Go.RowKit
set_option linter.unusedVariables false
set_option linter.unusedSimpArgs false

set_option maxHeartbeats 1000000 in
theorem cloneM_is {W : World} {a : Option Addr} {n c : Nat} {news : List Value} (hl : news.length = n * 11) (hn : Rd W a news) (h1 : ∀ u ∈ news, u.oneCell' = true) (hnc : a = none → n = 0 ∧ c = 0) (hlen : n ≤ 100000) :
    Calls Try.prog 72 #[.slice a n c] W fun e w' => ∃ v, e = .returned v ∧ w'.ownsRow W.heap.size 96 11 v n news ∧ Below W.heap.size W w' := by
  have q0 : ∀ (w : World) (a : Option Addr) (n c n' c' : Nat), (binOp .eql 77 (.slice a n c) (.slice none n' c')).run Try.prog w = .ok (.bool a.isNone) w := fun w a n c n' c' => Lib.run_eql_slice_nil w _ _ a n c n' c' Try.underlying77
  cases a with
  | none =>
    obtain ⟨rfl, rfl⟩ := hnc rfl
    obtain rfl : news = [] := List.eq_nil_of_length_eq_zero (by simpa using hl)
    clear hl hn h1 hnc hlen
    go_enter Try.func72, Try.ntmps72
    go_wp2_with fail
    go_ret
    exact ⟨_, rfl, World.ownsRow_nil _ _ _ _, Below.refl _ _⟩
  | some x =>
    have HL := Lib.hid hl
    have HN := Lib.hid hn
    have HO := Lib.hid h1
    clear hl hn h1 hnc
    go_enter Try.func72, Try.ntmps72
    go_wp2_with (first | ((with_reducible refine at_dst (N := 5) rfl ?_); refine ev_slice0 rfl (t := 96) (by first | (go_simp; done) | (go_simp; rfl)) ?_; intro w1 b0 hB hz) | (at_builtin; refine app_clone Try.underlying77 (info_parts (by kernel_rfl)) (z := .agg #[.int .i64 0, .slice none 0 0, .slice none 0 0, .bool false, .int .i64 0, .int .i64 0, .bool false, .slice none 0 0, .slice none 0 0, .int .i64 0, .int .i64 0]) (size := 11) (bytes := 152) rfl (by decide) (by decide) rfl _ _ rfl W.heap.size b0 rfl rfl (fun e => by cases e) HL.out (HN.out.keep hB) HO.out hlen ?_; intro g cap w2 ho hg))
    go_ret
    exact ⟨_, rfl, ho, hB.trans ⟨hg.os, hg.tape, hg.output, hg.size, fun k hk => hg.block k (by omega) (by simp; omega)⟩⟩

/-- Marks, in a row of one's own. -/
def RK (B : Nat) (W : World) (v : Value) (ms : List Mrk) : Prop := ∃ vs : List (List Value), All2 (KV B W) vs ms ∧ W.ownsRow B 96 11 v ms.length vs.flatten
theorem all2_len {B : Nat} {W : World} {vs : List (List Value)} {ms : List Mrk} (h : All2 (KV B W) vs ms) : ∀ x ∈ vs, x.length = 11 := by
  intro x hx
  obtain ⟨k, hk, rfl⟩ := List.mem_iff_getElem.1 hx
  obtain ⟨a, h1, h2⟩ := h.get k (by rw [← h.len]; exact hk)
  rw [List.getElem?_eq_getElem hk] at h1
  cases h1
  exact h2.len.1
theorem all2_one {B : Nat} {W : World} {vs : List (List Value)} {ms : List Mrk} (h : All2 (KV B W) vs ms) : ∀ u ∈ vs.flatten, u.oneCell' = true := by
  intro u hu
  obtain ⟨x, hx, hux⟩ := List.mem_flatten.1 hu
  obtain ⟨k, hk, rfl⟩ := List.mem_iff_getElem.1 hx
  obtain ⟨a, h1, h2⟩ := h.get k (by rw [← h.len]; exact hk)
  rw [List.getElem?_eq_getElem hk] at h1
  cases h1
  exact h2.len.2 u hux
theorem RK.keep {B : Nat} {W W' : World} {v : Value} {ms : List Mrk} (h : RK B W v ms) (hb : Below W.heap.size W W') : RK B W' v ms := by
  obtain ⟨vs, h1, h2⟩ := h
  exact ⟨vs, h1.imp fun _ _ h => h.keep hb, ownsRow_keep h2 hb⟩
theorem RK.eff {P : Nat → Prop} {B : Nat} {W W' : World} {v : Value} {ms : List Mrk} (h : RK B W v ms) (he : Eff P W W') (hp : ∀ k, P k → ¬ Ty W k 3) (hv : ∀ k, v.ownBlock = some k → ¬ P k) : RK B W' v ms := by
  obtain ⟨vs, h1, h2⟩ := h
  exact ⟨vs, h1.imp fun _ _ h => h.eff he hp, ownsRow_eff h2 he hv⟩
theorem RK.mono {B B' : Nat} {W : World} {v : Value} {ms : List Mrk} (h : RK B W v ms) (hB : B' ≤ B) : RK B' W v ms := by
  obtain ⟨vs, h1, h2⟩ := h
  exact ⟨vs, h1.imp fun _ _ h => h.mono hB, ownsRow_mono h2 hB⟩
theorem RK.ty {B : Nat} {W : World} {v : Value} {ms : List Mrk} (h : RK B W v ms) : ∀ k, v.ownBlock = some k → Ty W k 96 ∧ B ≤ k := by
  obtain ⟨vs, h1, h2⟩ := h
  exact row_ty h2
/-- One of them. -/
theorem RK.at_ {B : Nat} {W : World} {v : Value} {ms : List Mrk} (h : RK B W v ms) (k : Nat) (hk : k < ms.length) : ∃ g c cs, v = .slice (some ⟨g, 0, none⟩) ms.length c ∧ KV B W cs ms[k] ∧ ∀ j, j < 11 → W.cell? ⟨g, k * 11 + j, none⟩ = cs[j]? := by
  obtain ⟨vs, h1, h2⟩ := h
  obtain ⟨g, c, rfl⟩ := Joins.ownsRow_form h2 (by omega)
  obtain ⟨cs, e1, e2⟩ := h1.get k hk
  refine ⟨g, c, cs, rfl, e2, fun j hj => ?_⟩
  have hlen := e2.len.1
  have := h2.cells (g := g) rfl (k * 11 + j) cs[j] (by rw [flat_get (all2_len h1) k e1 j hj, List.getElem?_eq_getElem (by omega)])
  rw [Addr.add_lit, Nat.zero_add] at this
  rw [this, List.getElem?_eq_getElem (by omega)]
theorem RK.form {B : Nat} {W : World} {v : Value} {ms : List Mrk} (h : RK B W v ms) (hn : ms ≠ []) : ∃ g c, v = .slice (some ⟨g, 0, none⟩) ms.length c ∧ B ≤ g ∧ ms.length ≤ c ∧ c ≤ maxLen := by
  obtain ⟨vs, h1, h2⟩ := h
  rcases h2.2 with ⟨_, h3⟩ | ⟨g, c, cur, rfl, hB, _, h4, h5, _⟩
  · exact absurd (List.eq_nil_of_length_eq_zero h3) hn
  · exact ⟨g, c, rfl, hB, h4, h5⟩

/-- A memory: its marks, the base first; its model. -/
structure PM (B : Nat) (W : World) (p : Nat) (v : Value) (M : Mdl) (ms : List Mrk) : Prop where
  ex : ∃ aA cA aQ cQ aR cR, Blk W p #[v, .int .i64 M.n, .slice aA M.A.length cA, .slice aQ M.Q.length cQ, .int .i64 M.tick, .int .i64 M.gate, .int .i64 M.rmin, .slice aR M.rows.length cR] 81 ∧ OM B W (.agg #[.int .i64 M.n, .slice aA M.A.length cA, .slice aQ M.Q.length cQ, .int .i64 M.tick, .int .i64 M.gate, .int .i64 M.rmin, .slice aR M.rows.length cR]) M
  rows : RK B W v ms
  lo : B ≤ p
  ne : ms ≠ []
  len : ms.length ≤ 1000
  ok : ∀ m ∈ ms, MkOk m
  mr : M.rows.length ≤ 1000
theorem PM.keep {B : Nat} {W W' : World} {p : Nat} {v : Value} {M : Mdl} {ms : List Mrk} (h : PM B W p v M ms) (hb : Below W.heap.size W W') : PM B W' p v M ms := by
  obtain ⟨aA, cA, aQ, cQ, aR, cR, h1, h2⟩ := h.ex
  exact ⟨⟨aA, cA, aQ, cQ, aR, cR, h1.keep hb, h2.keep hb⟩, h.rows.keep hb, h.lo, h.ne, h.len, h.ok, h.mr⟩
theorem PM.pos {B : Nat} {W : World} {p : Nat} {v : Value} {M : Mdl} {ms : List Mrk} (h : PM B W p v M ms) : 0 < ms.length := List.length_pos_iff.2 h.ne
/-- What its box has. -/
theorem PM.box {B : Nat} {W : World} {p : Nat} {v : Value} {M : Mdl} {ms : List Mrk} (h : PM B W p v M ms) : ∃ g c aA cA aQ cQ aR cR, v = .slice (some ⟨g, 0, none⟩) ms.length c ∧ ms.length ≤ c ∧ c ≤ maxLen ∧ B ≤ g ∧
    Blk W p #[.slice (some ⟨g, 0, none⟩) ms.length c, .int .i64 M.n, .slice aA M.A.length cA, .slice aQ M.Q.length cQ, .int .i64 M.tick, .int .i64 M.gate, .int .i64 M.rmin, .slice aR M.rows.length cR] 81 ∧ OM B W (.agg #[.int .i64 M.n, .slice aA M.A.length cA, .slice aQ M.Q.length cQ, .int .i64 M.tick, .int .i64 M.gate, .int .i64 M.rmin, .slice aR M.rows.length cR]) M := by
  obtain ⟨aA, cA, aQ, cQ, aR, cR, h1, h2⟩ := h.ex
  obtain ⟨g, c, rfl, hB, e1, e2⟩ := h.rows.form h.ne
  exact ⟨g, c, aA, cA, aQ, cQ, aR, cR, rfl, e1, e2, hB, h1, h2⟩

theorem none_is {B : Nat} {W : World} {p : Nat} {v : Value} {M : Mdl} {ms : List Mrk} (h : PM B W p v M ms) : Calls Try.prog 68 #[.pointer (some ⟨p, 0, none⟩)] W fun e w' => e = .returned (.bool false) ∧ W = w' := by
  obtain ⟨g, c, aA, cA, aQ, cQ, aR, cR, rfl, hc, _, hB, hb, _⟩ := h.box
  have hn : ((ms.length : Int) == 0) = false := by have := h.pos; rw [beq_eq_false_iff_ne]; omega
  have hc0 := hb.cell 0
  simp at hc0
  generalize ms.length = n at *
  clear h hb
  go_enter Try.func68, Try.ntmps68
  go_wp2_with fail
  go_ret
  exact ⟨rfl, rfl⟩
theorem mlen_is {B : Nat} {W : World} {p : Nat} {v : Value} {M : Mdl} {ms : List Mrk} (h : PM B W p v M ms) : Calls Try.prog 40 #[.pointer (some ⟨p, 0, none⟩)] W fun e w' => e = .returned (.int .i64 ((ms.length : Int) - 1)) ∧ W = w' := by
  obtain ⟨g, c, aA, cA, aQ, cQ, aR, cR, rfl, hc, _, hB, hb, _⟩ := h.box
  have hn : 0 < ms.length := h.pos
  have hl := h.len
  have hc0 := hb.cell 0
  simp at hc0
  have hw : IntKind.i64.wrap ((ms.length : Int) - 1) = (ms.length : Int) - 1 := IntWalk.i64_in _ (by omega)
  have HN := Lib.hid (none_is h)
  generalize ms.length = n at *
  clear h hb
  go_enter Try.func40, Try.ntmps40
  go_wp2_with fail
  refine HN.out.mono ?_
  rintro e w' ⟨rfl, rfl⟩
  go_wp2_with fail
  go_ret
  exact ⟨rfl, rfl⟩
/-- The last one's time. -/
def Last (t : Int) (e : Ending) : Prop := ∃ v1 v2 v3 v4 v5 v6 v7 v8 v9 v10, e = .returned (.agg #[.int .i64 t, v1, v2, v3, v4, v5, v6, v7, v8, v9, v10])
set_option maxHeartbeats 4000000 in
set_option maxRecDepth 100000 in
theorem last_is {B : Nat} {W : World} {p : Nat} {v : Value} {M : Mdl} {ms : List Mrk} (h : PM B W p v M ms) (k : Nat) (hk : ms.length = k + 1) : Calls Try.prog 71 #[.pointer (some ⟨p, 0, none⟩)] W fun e w' => Last (ms[k]'(by omega)).b.t e ∧ Below W.heap.size W w' := by
  obtain ⟨g, c, aA, cA, aQ, cQ, aR, cR, rfl, hc, _, hB, hb, _⟩ := h.box
  have hl := h.len
  obtain ⟨g', c', cs, e1, hkv, hcell⟩ := h.rows.at_ k (by omega)
  injection e1 with e1 _ _
  injection e1 with e1
  injection e1 with e1
  subst e1
  obtain ⟨aX, cX, aP, cP, aH, cH, aR', cR', rfl, _⟩ := hkv
  generalize ms[k] = m at *
  rw [hk] at hc hb hl
  have hc0 := hb.cell 0
  simp at hc0
  have hlt := hb.lt
  have d0 := hcell 0 (by omega)
  have d1 := hcell 1 (by omega)
  have d2 := hcell 2 (by omega)
  have d3 := hcell 3 (by omega)
  have d4 := hcell 4 (by omega)
  have d5 := hcell 5 (by omega)
  have d6 := hcell 6 (by omega)
  have d7 := hcell 7 (by omega)
  have d8 := hcell 8 (by omega)
  have d9 := hcell 9 (by omega)
  have d10 := hcell 10 (by omega)
  simp at d0 d1 d2 d3 d4 d5 d6 d7 d8 d9 d10
  clear h hb hcell hk
  go_enter Try.func71, Try.ntmps71
  go_wp2_with ((with_reducible refine at_dst (N := 2) rfl ?_); refine ev_new rfl (cs := #[Value.int .i64 0, Value.slice none 0 0, Value.slice none 0 0, Value.bool false, Value.int .i64 0, Value.int .i64 0, Value.bool false, Value.slice none 0 0, Value.slice none 0 0, Value.int .i64 0, Value.int .i64 0]) (t := 96) (by go_simp) ?_; intro w1 by1 hB1 hz1)
  have up : ∀ y v, W.cell? y = some v → w1.cell? y = some v := fun y v hv => (hB1.cell (World.block_lt_of_cell? W _ hv)).trans hv
  replace hc0 := up _ _ hc0
  replace d0 := up _ _ d0
  replace d1 := up _ _ d1
  replace d2 := up _ _ d2
  replace d3 := up _ _ d3
  replace d4 := up _ _ d4
  replace d5 := up _ _ d5
  replace d6 := up _ _ d6
  replace d7 := up _ _ d7
  replace d8 := up _ _ d8
  replace d9 := up _ _ d9
  replace d10 := up _ _ d10
  clear up
  have hk1 : (k : Int) < (k : Int) + 1 := by omega
  have hw1 : IntKind.i64.wrap (k : Int) = (k : Int) := IntWalk.i64_in _ (by omega)
  have hw2 : (k : Int) + 1 - 1 = (k : Int) := by omega
  have hk0 : (0 : Int) ≤ (k : Int) := by omega
  go_still_tail 12, (by kernel_rfl)
  go_wp2_with ((with_reducible refine at_st (p := 2) (q := 14) rfl ?_); refine ev_store rfl 96 _ _ rfl rfl by1.drew 0 rfl rfl [.int .i64 m.b.t, .slice aX m.b.X.length cX, .slice aP m.b.P.length cP, .bool m.b.flag, .int .i64 m.b.pass, .int .i64 m.b.fail, .bool m.t.is, .slice aH m.t.H.length cH, .slice aR' m.t.R.length cR', .int .i64 m.t.s, .int .i64 m.t.nu] rfl (by kernel_rfl) rfl rfl #[.int .i64 m.b.t, .slice aX m.b.X.length cX, .slice aP m.b.P.length cP, .bool m.b.flag, .int .i64 m.b.pass, .int .i64 m.b.fail, .bool m.t.is, .slice aH m.t.H.length cH, .slice aR' m.t.R.length cR', .int .i64 m.t.s, .int .i64 m.t.nu] rfl ?_; intro w2 by2 ef hz)
  have hB2 : Below W.heap.size W w2 := ef.below hB1.drew (by rintro _ rfl; exact Nat.le_refl _)
  refine bodyPost_ret (results_cell_row rfl _ _ _ 96 #[.int .i64 m.b.t, .slice aX m.b.X.length cX, .slice aP m.b.P.length cP, .bool m.b.flag, .int .i64 m.b.pass, .int .i64 m.b.fail, .bool m.t.is, .slice aH m.t.H.length cH, .slice aR' m.t.R.length cR', .int .i64 m.t.s, .int .i64 m.t.nu] (0, 0) _ rfl by2 Try.underlying96 rfl (by kernel_rfl)) rfl ?_
  exact ⟨⟨_, _, _, _, _, _, _, _, _, _, rfl⟩, hB2⟩

end Go.Proofs.Ytagakcnhhhlolaa.Base
