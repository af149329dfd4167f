/- binnaclekit: whether a model is long. binnaclekit: rows held side by side. binnaclekit: models held side by side. Rows of one's own; appends in one way; the reference's RowsOf. binnaclekit: CopyModel. binnaclekit: CopyModel's walk. -/
import Derived.Test.YtkjbidpafnmogaaGreatKitB
import Derived.Test.YtkjbidpafnmogaaGreatLst2
namespace Go.Proofs.YtkjbidpafnmogaaGreat.Base
open Go.RowKit
set_option linter.unusedVariables false
set_option linter.unusedSimpArgs false

/-- A model of moderate length. -/
structure Mod (M : Mdl) : Prop where
  a : M.A.length ≤ 40
  q : M.Q.length ≤ 12
  r : M.rows.length ≤ 30
  h : ∀ q ∈ M.rows, q.h.length ≤ 12
def TellsBb (e : Ending) (p : Prop) : Prop := (p ∧ e = .returned (.bool true)) ∨ (¬ p ∧ e = .returned (.bool false))

set_option maxHeartbeats 4000000 in
set_option maxRecDepth 100000 in
theorem longModel_is {B : Nat} {W : World} {v : Value} {M : Mdl} (hM : MM B W v M) :
    Calls Tryz.prog 37 #[v] W fun e w' => TellsBb e (¬ Mod M) ∧ Below W.heap.size W w' := by
  obtain ⟨aA, cA, aQ, cQ, aR, cR, rfl, hA, hQ, hR⟩ := hM.ex
  have hlA := hA.len
  have hlQ := hQ.len
  have hlR := hR.len
  unfold maxLen at hlA hlQ hlR
  have hB : Below W.heap.size W (W.alloc (.cells #[Value.int .i64 M.n, .slice aA M.A.length cA, .slice aQ M.Q.length cQ, .int .i64 M.tick, .int .i64 M.gate, .int .i64 M.rmin, .slice aR M.rows.length cR] 54)) := (Below.refl _ _).alloc (Nat.le_refl _) _
  have hR1 := hR.keep hB
  obtain ⟨n, hnl⟩ : ∃ n, M.rows.length = n := ⟨_, rfl⟩
  obtain ⟨la, hla⟩ : ∃ n, M.A.length = n := ⟨_, rfl⟩
  obtain ⟨lq, hlq⟩ : ∃ n, M.Q.length = n := ⟨_, rfl⟩
  have HNL := Lib.hid hnl
  have HLA := Lib.hid hla
  have HLQ := Lib.hid hlq
  rw [hnl, hla, hlq] at hB hR1
  rw [hnl] at hlR
  rw [hla] at hlA
  rw [hlq] at hlQ
  rw [hnl, hla, hlq]
  clear hnl hla hlq hA hQ hR hM
  go_enter Tryz.func37, Tryz.ntmps37
  go_wp2_with fail
  have hX := Blk.new W #[Value.int .i64 M.n, .slice aA la cA, .slice aQ lq cQ, .int .i64 M.tick, .int .i64 M.gate, .int .i64 M.rmin, .slice aR n cR] 54
  generalize W.alloc (.cells #[Value.int .i64 M.n, .slice aA la cA, .slice aQ lq cQ, .int .i64 M.tick, .int .i64 M.gate, .int .i64 M.rmin, .slice aR n cR] 54) = W1 at *
  have x1 := hX.cell 1
  have x2 := hX.cell 2
  have x6 := hX.cell 6
  simp at x1 x2 x6
  clear hX
  go_loopw [3] (fun i wr => ∃ (k : Nat), k ≤ n ∧ k ≤ 31 ∧ i = .int .i64 k ∧ Hid (∀ j, (hj : j < M.rows.length) → j < k → M.rows[j].h.length ≤ 12) ∧ wr = W1) (fun i _ => 31 - (intOf i).toNat)
  case atStart => exact ⟨0, Nat.zero_le _, by omega, rfl, fun j _ hj => absurd hj (by omega), rfl⟩
  case round =>
    obtain ⟨k, hk, hk2, rfl, hS, rfl⟩ := hrel
    by_cases hkl : k < n ∧ k < 31
    · obtain ⟨hkn, hk31⟩ := hkl
      have hkl' : (k : Int) < (n : Int) := by omega
      have hkl2 : (k : Int) < 31 := by omega
      have hk0 : (0 : Int) ≤ (k : Int) := by omega
      have hkz : k < M.rows.length := by rw [HNL.out]; exact hkn
      obtain ⟨x, rfl, hrow⟩ := hR1.at_ k hkz
      obtain ⟨⟨s, h, r⟩, hz⟩ : ∃ z, M.rows[k] = z := ⟨_, rfl⟩
      rw [hz] at hrow
      obtain ⟨aH, cH, y0, y1, y2, hH⟩ := hrow.ex
      clear hrow
      dsimp only at y0 y1 y2 hH
      have HZ := Lib.hid hz
      clear hz y0 y2
      have hlh := hH.len
      unfold maxLen at hlh
      clear hH
      by_cases g : 12 < h.length
      · have g' : (12 : Int) < (h.length : Int) := by omega
        have HN := Lib.hid (show ¬ Mod M from fun hm => by
          have := hm.h _ (List.getElem_mem hkz)
          rw [HZ.out] at this
          dsimp only at this
          omega)
        generalize h.length = lh at *
        go_wp2_with fail
        go_ret
        exact ⟨.inl ⟨HN.out, rfl⟩, hB⟩
      · have g' : ¬ (12 : Int) < (h.length : Int) := by omega
        have HG := Lib.hid (show M.rows[k].h.length ≤ 12 by rw [HZ.out]; dsimp only; omega)
        generalize h.length = lh at *
        go_wp2_with fail
        go_roundw
        case rel =>
          refine ⟨k + 1, by omega, by omega, by go_num, fun j hj hjk => ?_, by trivial⟩
          by_cases e : j = k
          · subst e; exact HG.out
          · exact hS.out j hj (by omega)
        case measure => simp [intOf]; omega
    · by_cases hkn : k < n
      · have hkl' : (k : Int) < (n : Int) := by omega
        have hkl2 : ¬ (k : Int) < 31 := by omega
        have hn31 : 31 < n := by omega
        by_cases g1 : 40 < la
        · have g1' : (40 : Int) < (la : Int) := by omega
          have HN := Lib.hid (show ¬ Mod M from fun hm => by have := hm.a; rw [HLA.out] at this; omega)
          go_wp2_with fail
          go_ret
          exact ⟨.inl ⟨HN.out, rfl⟩, hB⟩
        have g1' : ¬ (40 : Int) < (la : Int) := by omega
        by_cases g2 : 12 < lq
        · have g2' : (12 : Int) < (lq : Int) := by omega
          have HN := Lib.hid (show ¬ Mod M from fun hm => by have := hm.q; rw [HLQ.out] at this; omega)
          go_wp2_with fail
          go_ret
          exact ⟨.inl ⟨HN.out, rfl⟩, hB⟩
        have g2' : ¬ (12 : Int) < (lq : Int) := by omega
        have g3' : (30 : Int) < (n : Int) := by omega
        have HN := Lib.hid (show ¬ Mod M from fun hm => by have := hm.r; rw [HNL.out] at this; omega)
        go_wp2_with fail
        go_ret
        exact ⟨.inl ⟨HN.out, rfl⟩, hB⟩
      · have hkl' : ¬ (k : Int) < (n : Int) := by omega
        by_cases g1 : 40 < la
        · have g1' : (40 : Int) < (la : Int) := by omega
          have HN := Lib.hid (show ¬ Mod M from fun hm => by have := hm.a; rw [HLA.out] at this; omega)
          go_wp2_with fail
          go_ret
          exact ⟨.inl ⟨HN.out, rfl⟩, hB⟩
        have g1' : ¬ (40 : Int) < (la : Int) := by omega
        by_cases g2 : 12 < lq
        · have g2' : (12 : Int) < (lq : Int) := by omega
          have HN := Lib.hid (show ¬ Mod M from fun hm => by have := hm.q; rw [HLQ.out] at this; omega)
          go_wp2_with fail
          go_ret
          exact ⟨.inl ⟨HN.out, rfl⟩, hB⟩
        have g2' : ¬ (12 : Int) < (lq : Int) := by omega
        by_cases g3 : 30 < n
        · have g3' : (30 : Int) < (n : Int) := by omega
          have HN := Lib.hid (show ¬ Mod M from fun hm => by have := hm.r; rw [HNL.out] at this; omega)
          go_wp2_with fail
          go_ret
          exact ⟨.inl ⟨HN.out, rfl⟩, hB⟩
        have g3' : ¬ (30 : Int) < (n : Int) := by omega
        have HY := Lib.hid (show Mod M from ⟨by rw [HLA.out]; omega, by rw [HLQ.out]; omega, by rw [HNL.out]; omega, fun q hq => by
          obtain ⟨j, hj, rfl⟩ := List.mem_iff_getElem.1 hq
          exact hS.out j hj (by have := HNL.out; omega)⟩)
        go_wp2_with fail
        go_ret
        exact ⟨.inr ⟨fun h => h HY.out, rfl⟩, hB⟩

end Go.Proofs.YtkjbidpafnmogaaGreat.Base
namespace Go.Proofs.YtkjbidpafnmogaaGreat.Base
open Go.RowKit
set_option linter.unusedVariables false
set_option linter.unusedSimpArgs false

end Go.Proofs.YtkjbidpafnmogaaGreat.Base
namespace Go.Proofs.YtkjbidpafnmogaaGreat.Base
open Go.RowKit
set_option linter.unusedVariables false
set_option linter.unusedSimpArgs false

set_option maxHeartbeats 8000000 in
set_option maxRecDepth 100000 in
theorem sameModel_same {B1 B2 : Nat} {W : World} {v1 v2 : Value} {M : Mdl} (hM1 : MM B1 W v1 M) (hM2 : MM B2 W v2 M) :
    Calls Tryz.prog 44 #[v1, v2] W fun e w' => e = .returned (.bool true) ∧ Below W.heap.size W w' := by
  obtain ⟨aA, cA, aQ, cQ, aR, cR, rfl, hA, hQ, hR⟩ := hM1.ex
  obtain ⟨bA, dA, bQ, dQ, bR, dR, rfl, gA, gQ, gR⟩ := hM2.ex
  have l1 := hR.len
  unfold maxLen at l1
  obtain ⟨m, A, Q, tick, gate, rmin, qs⟩ := M
  clear hM1 hM2
  dsimp only at *
  obtain ⟨n, hn⟩ : ∃ n, qs.length = n := ⟨_, rfl⟩
  rw [hn] at l1 ⊢
  have HN := Lib.hid hn
  clear hn
  go_enter Tryz.func44, Tryz.ntmps44
  go_wp2_with fail
  have hX := (Blk.new W #[.int .i64 m, .slice aA A.length cA, .slice aQ Q.length cQ, .int .i64 tick, .int .i64 gate, .int .i64 rmin, .slice aR n cR] 54).alloc (.cells #[.int .i64 m, .slice bA A.length dA, .slice bQ Q.length dQ, .int .i64 tick, .int .i64 gate, .int .i64 rmin, .slice bR n dR] 54)
  have hY := Blk.new (W.alloc (.cells #[.int .i64 m, .slice aA A.length cA, .slice aQ Q.length cQ, .int .i64 tick, .int .i64 gate, .int .i64 rmin, .slice aR n cR] 54)) #[.int .i64 m, .slice bA A.length dA, .slice bQ Q.length dQ, .int .i64 tick, .int .i64 gate, .int .i64 rmin, .slice bR n dR] 54
  rw [World.size_alloc] at hY
  have hB : Below W.heap.size W ((W.alloc (.cells #[.int .i64 m, .slice aA A.length cA, .slice aQ Q.length cQ, .int .i64 tick, .int .i64 gate, .int .i64 rmin, .slice aR n cR] 54)).alloc (.cells #[.int .i64 m, .slice bA A.length dA, .slice bQ Q.length dQ, .int .i64 tick, .int .i64 gate, .int .i64 rmin, .slice bR n dR] 54)) := ((Below.refl _ _).alloc (Nat.le_refl _) _).alloc (by simp) _
  generalize (W.alloc (.cells #[.int .i64 m, .slice aA A.length cA, .slice aQ Q.length cQ, .int .i64 tick, .int .i64 gate, .int .i64 rmin, .slice aR n cR] 54)).alloc (.cells #[.int .i64 m, .slice bA A.length dA, .slice bQ Q.length dQ, .int .i64 tick, .int .i64 gate, .int .i64 rmin, .slice bR n dR] 54) = W1 at *
  refine (sameInts_same (hA.keep hB) (gA.keep hB)).mono ?_
  rintro e w2 ⟨rfl, j1, hw2⟩
  have hK2 : Below W1.heap.size W1 w2 := by rw [hw2]; exact below_drewN _ _
  have hB2 := more hB hK2
  replace hX := hX.keep hK2
  replace hY := hY.keep hK2
  clear hw2 hB
  have x0 := hX.cell 0
  have x1 := hX.cell 1
  have x2 := hX.cell 2
  have x6 := hX.cell 6
  have y0 := hY.cell 0
  have y1 := hY.cell 1
  have y2 := hY.cell 2
  have y6 := hY.cell 6
  simp at x0 x1 x2 x6 y0 y1 y2 y6
  go_wp2_with fail
  refine (sameInts_same (hQ.keep hB2) (gQ.keep hB2)).mono ?_
  rintro e w3 ⟨rfl, j2, hw3⟩
  have hK3 : Below w2.heap.size w2 w3 := by rw [hw3]; exact below_drewN _ _
  have hB3 := more hB2 hK3
  replace hX := hX.keep hK3
  replace hY := hY.keep hK3
  clear hw3 hB2 x0 x1 x2 x6 y0 y1 y2 y6
  have x6 := hX.cell 6
  have y6 := hY.cell 6
  simp at x6 y6
  go_wp2_with fail
  clear x6 y6
  go_loopw [5] (fun i wr => ∃ (k : Nat), k ≤ n ∧ i = .int .i64 k ∧ Below w3.heap.size w3 wr) (fun i _ => n - (intOf i).toNat)
  case atStart => exact ⟨0, Nat.zero_le _, rfl, Below.refl _ _⟩
  case round =>
    obtain ⟨k, hk, rfl, hBr⟩ := hrel
    have hW := more hB3 hBr
    have hXr := hX.keep hBr
    have hYr := hY.keep hBr
    have x6 := hXr.cell 6
    have y6 := hYr.cell 6
    simp at x6 y6
    have h1r := hR.keep hW
    have h2r := gR.keep hW
    by_cases hkl : k < n
    · have hkl' : (k : Int) < (n : Int) := by omega
      have hk0 : (0 : Int) ≤ (k : Int) := by omega
      have hkz : k < qs.length := by rw [HN.out]; exact hkl
      obtain ⟨x, rfl, r1⟩ := h1r.at_ k hkz
      obtain ⟨y, rfl, r2⟩ := h2r.at_ k hkz
      generalize qs[k] = q at *
      obtain ⟨s, h, r⟩ := q
      obtain ⟨aH, cH, y0, y1, y2, hH⟩ := r1.ex
      obtain ⟨bH, dH, z0, z1, z2, hG⟩ := r2.ex
      clear r1 r2
      dsimp only at y0 y1 y2 hH z0 z1 z2 hG
      have HS := Lib.hid (fun w' (hw : Below wr.heap.size wr w') => sameInts_same (hH.keep hw) (hG.keep hw))
      go_wp2_with fail
      go_quiet (first | (go_at_call_of 56 (Value.slice aH h.length cH); exact Calls.quiet_of (HS.out _ (below_drewN _ _))))
      go_wp2_with fail
      go_roundw
      case rel => exact ⟨k + 1, by omega, by go_num, more hBr (below_drewN _ _)⟩
      case measure => simp [intOf]; omega
    · have hge : ¬ (k : Int) < (n : Int) := by omega
      go_wp2_with fail
      go_ret
      exact ⟨rfl, hW⟩

end Go.Proofs.YtkjbidpafnmogaaGreat.Base
namespace Go.Proofs.YtkjbidpafnmogaaGreat.Base
open Go.RowKit
set_option linter.unusedVariables false
set_option linter.unusedSimpArgs false

/-- The k-th row in these cells; its list is one's own. -/
structure RC (B : Nat) (W : World) (vs : List Value) (k : Nat) (q : Rw) : Prop where
  ex : ∃ a c, vs[k * 3]? = some (.int .i64 q.s) ∧ vs[k * 3 + 1]? = some (.slice a q.h.length c) ∧ vs[k * 3 + 2]? = some (.int .i64 q.r) ∧ LI B W a c q.h
structure OR (B : Nat) (W : World) (v : Value) (qs : List Rw) : Prop where
  ex : ∃ vs, W.ownsRow B 100 3 v qs.length vs ∧ ∀ k, (h : k < qs.length) → RC B W vs k qs[k]
  rng : ∀ q ∈ qs, I64 q.s ∧ I64 q.r
theorem OR.kc {B : Nat} {W W' : World} {v : Value} {qs : List Rw} (h : OR B W v qs) (hb : KC W W') : OR B W' v qs := by
  obtain ⟨vs, h1, h2⟩ := h.ex
  refine ⟨⟨vs, ownsRow_kc h1 hb, fun k hk => ?_⟩, h.rng⟩
  obtain ⟨a, c, e0, e1, e2, e3⟩ := (h2 k hk).ex
  exact ⟨a, c, e0, e1, e2, e3.kc hb⟩
theorem OR.keep {B : Nat} {W W' : World} {v : Value} {qs : List Rw} (h : OR B W v qs) (hb : Below W.heap.size W W') : OR B W' v qs := h.kc (kc_of hb)
theorem OR.nil (B : Nat) (W : World) : OR B W (.slice none 0 0) [] := ⟨⟨[], World.ownsRow_nil _ _ _ _, fun k hk => absurd hk (by simp)⟩, by simp⟩
theorem OR.mr {B : Nat} {W : World} {v : Value} {qs : List Rw} (h : OR B W v qs) (hl : qs.length ≤ 1000) : ∃ a c, v = .slice a qs.length c ∧ MR B W a c qs := by
  obtain ⟨vs, ho, hr⟩ := h.ex
  obtain ⟨hl2, h1 | ⟨g, cap, cur, rfl, hB, hh, hn, hm, hs, ht⟩⟩ := ho
  · obtain ⟨rfl, h0⟩ := h1
    have : qs = [] := List.eq_nil_of_length_eq_zero h0
    subst this
    exact ⟨none, 0, rfl, ⟨fun k hk => absurd hk (by simp), by simp [maxLen], fun _ _ hn => absurd hn (by simp), fun _ => rfl, Nat.le_refl _⟩⟩
  · refine ⟨_, cap, rfl, ⟨fun k hk => ⟨_, rfl, ?_⟩, by unfold maxLen; omega, fun x hx _ => by cases hx; exact hB, fun e => (by cases e), hn⟩⟩
    obtain ⟨a, c, e0, e1, e2, e3⟩ := (hr k hk).ex
    have hcur : ∀ j u, vs[j]? = some u → W.cell? ⟨g, j, none⟩ = some u := by
      intro j u hj
      have := (World.ownsRow.cells ⟨hl2, .inr ⟨g, cap, cur, rfl, hB, hh, hn, hm, hs, ht⟩⟩ (g := g) (by simp [Value.ownBlock])) j u hj
      rwa [Addr.add_lit, Nat.zero_add] at this
    have hq := h.rng _ (List.getElem_mem hk)
    refine ⟨⟨a, c, ?_, ?_, ?_, e3.mi⟩, hq.1, hq.2⟩
    · rw [Addr.add_lit, Nat.zero_add]; exact hcur _ _ e0
    · rw [Addr.add_lit, Nat.zero_add]; exact hcur _ _ e1
    · rw [Addr.add_lit, Nat.zero_add]; exact hcur _ _ e2
theorem OR.snoc {B : Nat} {W' : World} {v' : Value} {qs : List Rw} {vs : List Value} {q : Rw} {a : Option Addr} {c : Nat} (hr : ∀ k, (h : k < qs.length) → RC B W' vs k qs[k]) (hvl : vs.length = qs.length * 3) (hg : ∀ q ∈ qs, I64 q.s ∧ I64 q.r)
    (ho : W'.ownsRow B 100 3 v' (qs.length + 1) (vs ++ [.int .i64 q.s, .slice a q.h.length c, .int .i64 q.r])) (hL : LI B W' a c q.h) (hs : I64 q.s) (hrr : I64 q.r) : OR B W' v' (qs ++ [q]) := by
  refine ⟨⟨_, by simpa using ho, fun k hk => ?_⟩, fun p hp => ?_⟩
  · simp at hk
    by_cases e : k < qs.length
    · obtain ⟨a', c', e0, e1, e2, e3⟩ := (hr k e).ex
      rw [List.getElem_append_left e]
      refine ⟨a', c', ?_, ?_, ?_, e3⟩
      · rw [List.getElem?_append_left (by omega)]; exact e0
      · rw [List.getElem?_append_left (by omega)]; exact e1
      · rw [List.getElem?_append_left (by omega)]; exact e2
    · have : k = qs.length := by omega
      subst this
      refine ⟨a, c, ?_, ?_, ?_, ?_⟩ <;> simp [← hvl, hL]
  · rcases List.mem_append.1 hp with h | h
    · exact hg p h
    · simp at h; subst h; exact ⟨hs, hrr⟩
theorem RC.kc {B : Nat} {W W' : World} {vs : List Value} {k : Nat} {q : Rw} (h : RC B W vs k q) (hb : KC W W') : RC B W' vs k q := by
  obtain ⟨a, c, e0, e1, e2, e3⟩ := h.ex
  exact ⟨a, c, e0, e1, e2, e3.kc hb⟩

/-- The rows of a sensor. -/
def rowsS (s : Int) (qs : List Rw) : List Rw := qs.filter fun q => decide (q.s = s)
theorem rowsS_len (s : Int) (qs : List Rw) : (rowsS s qs).length ≤ qs.length := List.length_filter_le _ _
theorem rowsS_take {s : Int} {qs : List Rw} {k : Nat} (h : k < qs.length) : rowsS s (qs.take (k + 1)) = if qs[k].s = s then rowsS s (qs.take k) ++ [qs[k]] else rowsS s (qs.take k) := by
  unfold rowsS
  rw [List.take_succ_eq_append_getElem h, List.filter_append]
  by_cases e : qs[k].s = s <;> simp [List.filter_cons, e]

theorem OR.mono {B B' : Nat} {W : World} {v : Value} {qs : List Rw} (h : OR B W v qs) (hB : B' ≤ B) : OR B' W v qs := by
  obtain ⟨vs, h1, h2⟩ := h.ex
  refine ⟨⟨vs, ownsRow_mono h1 hB, fun k hk => ?_⟩, h.rng⟩
  obtain ⟨a, c, e0, e1, e2, e3⟩ := (h2 k hk).ex
  exact ⟨a, c, e0, e1, e2, e3.mono hB⟩
theorem OR.setOther {B : Nat} {W : World} {v : Value} {qs : List Rw} (h : OR B W v qs) {b : Nat} (hb : ¬ IntsB W b) (hne : ∀ g, v.ownBlock = some g → g ≠ b) (o : Nat) (u : Value) : OR B (W.setCell ⟨b, o, none⟩ u) v qs := by
  obtain ⟨vs, h1, h2⟩ := h.ex
  refine ⟨⟨vs, ownsRow_other h1 hne o u, fun k hk => ?_⟩, h.rng⟩
  obtain ⟨a, c, e0, e1, e2, e3⟩ := (h2 k hk).ex
  exact ⟨a, c, e0, e1, e2, e3.setOther hb o u⟩
end Go.Proofs.YtkjbidpafnmogaaGreat.Base
namespace Go.Proofs.YtkjbidpafnmogaaGreat.Base
open Go.RowKit
set_option linter.unusedVariables false
set_option linter.unusedSimpArgs false

theorem add_next (x : Addr) (m i : Nat) (hi : 0 < i) : (⟨(x.add m).block, (x.add m).off + i, none⟩ : Addr) = x.add (m + i) := by
  unfold Addr.add
  by_cases h : m = 0
  · subst h
    rw [if_pos rfl, if_neg (by omega), Nat.zero_add]
  · rw [if_neg h, if_neg (by omega)]
    simp [Nat.add_assoc]
/-- The k-th row in these cells. -/
structure RQ (B : Nat) (W : World) (g : Nat) (cur : Array Value) (k : Nat) (q : Rw) : Prop where
  ex : ∃ a c, cur[k * 3]? = some (.int .i64 q.s) ∧ cur[k * 3 + 1]? = some (.slice a q.h.length c) ∧ cur[k * 3 + 2]? = some (.int .i64 q.r) ∧ MI B W a c q.h ∧ ∀ x, a = some x → 0 < q.h.length → x.block ≠ g
/-- The k-th row in these cells, with a list of its own. -/
structure RL (B : Nat) (W : World) (cur : Array Value) (k : Nat) (q : Rw) : Prop where
  ex : ∃ a c, cur[k * 3]? = some (.int .i64 q.s) ∧ cur[k * 3 + 1]? = some (.slice a q.h.length c) ∧ cur[k * 3 + 2]? = some (.int .i64 q.r) ∧ LI B W a c q.h
theorem RL.keep {B : Nat} {W W' : World} {cur : Array Value} {k : Nat} {q : Rw} (h : RL B W cur k q) (hb : Below W.heap.size W W') : RL B W' cur k q := by
  obtain ⟨a, c, h1, h2, h3, h4⟩ := h.ex
  exact ⟨a, c, h1, h2, h3, h4.keep hb⟩
/-- Rows in a block of one's own. -/
structure RB (B B2 : Nat) (W : World) (g cap : Nat) (qs : List Rw) (i : Nat) : Prop where
  ex : ∃ cur, Blk W g cur 100 ∧ cur.size = cap * 3 ∧ (∀ k, (h : k < qs.length) → RQ B W g cur k qs[k]) ∧ ∀ k, (h : k < qs.length) → k < i → RL B2 W cur k qs[k]
  n : qs.length ≤ cap
  cap : cap ≤ maxLen
  lo : B2 ≤ g
theorem RQ.keep {B : Nat} {W W' : World} {g : Nat} {cur : Array Value} {k : Nat} {q : Rw} (h : RQ B W g cur k q) (hb : Below W.heap.size W W') : RQ B W' g cur k q := by
  obtain ⟨a, c, h1, h2, h3, h4, h5⟩ := h.ex
  exact ⟨a, c, h1, h2, h3, h4.keep hb, h5⟩
theorem RB.keep {B B2 : Nat} {W W' : World} {g cap : Nat} {qs : List Rw} {i : Nat} (h : RB B B2 W g cap qs i) (hb : Below W.heap.size W W') : RB B B2 W' g cap qs i := by
  obtain ⟨cur, h1, h2, h3, h4⟩ := h.ex
  exact ⟨⟨cur, h1.keep hb, h2, fun k hk => (h3 k hk).keep hb, fun k hk hi => (h4 k hk hi).keep hb⟩, h.n, h.cap, h.lo⟩
theorem RB.or {B B2 : Nat} {W : World} {g cap : Nat} {qs : List Rw} {i : Nat} (h : RB B B2 W g cap qs i) (hi : qs.length ≤ i) (hq : ∀ q ∈ qs, I64 q.s ∧ I64 q.r) : OR B2 W (.slice (some ⟨g, 0, none⟩) qs.length cap) qs := by
  obtain ⟨cur, h1, h2, h3, h4⟩ := h.ex
  have hn := h.n
  refine ⟨⟨cur.toList.take (qs.length * 3), ⟨by simp; omega, .inr ⟨g, cap, cur, rfl, h.lo, h1, h.n, h.cap, h2, rfl⟩⟩, fun k hk => ?_⟩, hq⟩
  obtain ⟨a, c, e0, e1, e2, e3⟩ := (h4 k hk (by omega)).ex
  refine ⟨a, c, ?_, ?_, ?_, e3⟩
  · rw [List.getElem?_take, if_pos (by omega), Array.getElem?_toList]; exact e0
  · rw [List.getElem?_take, if_pos (by omega), Array.getElem?_toList]; exact e1
  · rw [List.getElem?_take, if_pos (by omega), Array.getElem?_toList]; exact e2
theorem MR.rng {B : Nat} {W : World} {a : Option Addr} {c : Nat} {qs : List Rw} (h : MR B W a c qs) : ∀ q ∈ qs, I64 q.s ∧ I64 q.r := by
  intro q hq
  obtain ⟨j, hj, rfl⟩ := List.mem_iff_getElem.1 hq
  obtain ⟨x, _, hr⟩ := h.at_ j hj
  exact ⟨hr.s, hr.r⟩

/-- 'append([]Row{}, rows...)' in one way. -/
theorem app_rows {ops : Array Oper} {rest : List Oper} {o : Oper} {a : Act} {Q : Exit → Act → World → Prop} {w w1 : World} {B' g0 : Nat}
    (hg : o.guard = none) (s x : Operand) (hop : o.op = Op.call { callee := Callee.builtin Builtin.append, args := #[s, x], argTypes := #[52, 52] })
    (hB : w1.heap.size ≤ g0) (hb : Below w1.heap.size w1 w) (h0 : Blk w g0 #[] 100) (hs : a.eval s = .slice (some ⟨g0, 0, none⟩) 0 0) {ao : Option Addr} {c : Nat} {qs : List Rw} (hm1 : MR B' w1 ao c qs) (n : Nat) (hn : qs.length = n)
    (hx : a.eval x = .slice ao n c) (hlen : n ≤ 1000)
    (hK : ∀ g cap w', RB B' g0 w' g cap qs 0 → w.grownBy w' (some g0) → wpList Tryz.prog ops Q rest (a.put o.dst (.slice (some ⟨g, 0, none⟩) n cap)) w') :
    wpList Tryz.prog ops Q (o :: rest) a w := by
  subst hn
  have hm := hm1.keep hb
  obtain ⟨i0, hi, hz0, hz1, hz2⟩ : ∃ i, Tryz.prog.info? 100 = some i ∧ i.zero = some (.agg #[.int .i64 0, .slice none 0 0, .int .i64 0]) ∧ i.size = 3 ∧ i.bytes = 40 := info_parts (by kernel_rfl)
  have hE : w.ownsRow g0 100 3 (.slice (some ⟨g0, 0, none⟩) 0 0) 0 [] := ⟨by simp, .inr ⟨g0, 0, #[], rfl, Nat.le_refl _, h0, Nat.le_refl _, by simp [maxLen], by simp, by simp⟩⟩
  by_cases h0z : qs = []
  · subst h0z
    refine wpList_append_fits_any w hg s x 52 hop g0 100 i0 3 Tryz.underlying52 hi hz1 g0 0 0 [] hs hE ao 0 c [] hx rfl (fun e => ⟨rfl, hm.nn e⟩) (by intro ad _ j u hj; simp at hj) (by simp) (by omega) ?_
    intro w' ho hgr
    obtain ⟨hl, h | ⟨g', cap', cur, hv, hB2, hh, hn, hm2, hs2, ht⟩⟩ := ho
    · cases h.1
    · cases hv
      exact hK _ _ _ ⟨⟨cur, hh, hs2, fun k hk => absurd hk (by simp), fun k hk => absurd hk (by simp)⟩, hn, hm2, hB2⟩ hgr
  · have hpos : 0 < qs.length := List.length_pos_iff.2 h0z
    obtain ⟨ad, rfl, _⟩ := hm.at_ 0 hpos
    have hcell : ∀ j, j < qs.length * 3 → ∃ u, w.cell? (ad.add j) = some u ∧ u.oneCell' = true := by
      intro j hj
      have hk : j / 3 < qs.length := by omega
      obtain ⟨x, hx, hr⟩ := hm.at_ (j / 3) hk
      cases hx
      obtain ⟨aH, cH, y0, y1, y2, _⟩ := hr.ex
      rw [add_next _ _ _ (by omega)] at y1 y2
      have : j = j / 3 * 3 ∨ j = j / 3 * 3 + 1 ∨ j = j / 3 * 3 + 2 := by omega
      rcases this with h | h | h <;> rw [h]
      · exact ⟨_, y0, rfl⟩
      · exact ⟨_, y1, rfl⟩
      · exact ⟨_, y2, rfl⟩
    let vs := (List.range (qs.length * 3)).map fun j => (w.cell? (ad.add j)).getD undef
    have hvs : ∀ j, j < qs.length * 3 → vs[j]? = w.cell? (ad.add j) := by
      intro j hj
      obtain ⟨u, hu, _⟩ := hcell j hj
      simp [vs, hj, hu]
    refine wpList_append_own w hg s x 52 hop g0 100 i0 _ 3 40 Tryz.underlying52 hi hz0 hz1 hz2 (by decide) (by decide) _ 0 [] hs hE ad qs.length c vs hx (by simp [vs]) (fun j u hj => ?_) (fun u hu => ?_) (by unfold maxLen; omega) (by omega) (by have := h0.lt; omega) ?_
    · have hjl : j < qs.length * 3 := by
        have := (List.getElem?_eq_some_iff.1 hj).1
        simpa [vs] using this
      rw [hvs j hjl] at hj
      exact hj
    · obtain ⟨j, hj, rfl⟩ := List.mem_map.1 hu
      obtain ⟨u, hu, h1⟩ := hcell j (by simpa using hj)
      rw [hu]; exact h1
    intro v' w' ho hgr _
    simp only [Nat.zero_add, List.nil_append] at ho
    obtain ⟨g, cap, rfl⟩ := Joins.ownsRow_form ho hpos
    have hown := ho
    obtain ⟨hl, h | ⟨g', cap', cur, hv, hB2, hh, hn, hm2, hs2, ht⟩⟩ := ho
    · cases h.1
    · cases hv
      have hcur : ∀ j, j < qs.length * 3 → cur[j]? = w.cell? (ad.add j) := by
        intro j hj
        have := congrArg (fun l => l[j]?) ht
        simp only [List.getElem?_take, hj, if_true] at this
        rw [← Array.getElem?_toList, this, hvs j hj]
      refine hK _ _ _ ⟨⟨cur, hh, hs2, fun k hk => ?_, fun k _ hk => absurd hk (by omega)⟩, hn, hm2, hB2⟩ hgr
      obtain ⟨x, hx, hr⟩ := hm1.at_ k hk
      cases hx
      obtain ⟨aH, cH, y0, y1, y2, y3⟩ := hr.ex
      rw [add_next _ _ _ (by omega)] at y1 y2
      have up : ∀ {y v}, w1.cell? y = some v → w.cell? y = some v := fun {y v} h => (hb.cell (World.block_lt_of_cell? w1 _ h)).trans h
      have hlt : ∀ x, aH = some x → 0 < qs[k].h.length → x.block < w1.heap.size := by
        intro x hx hn
        obtain ⟨z, hz, hc⟩ := y3.cell 0 hn
        rw [hx] at hz
        cases hz
        have := World.block_lt_of_cell? w1 _ hc
        rwa [add_block] at this
      refine ⟨aH, cH, ?_, ?_, ?_, ?_, fun x hx hn => by have := hlt x hx hn; omega⟩
      · rw [hcur _ (by omega)]; exact up y0
      · rw [hcur _ (by omega)]; exact up y1
      · rw [hcur _ (by omega)]; exact up y2
      · refine ⟨fun i hi => ?_, y3.rng, y3.len, y3.lo, y3.nn, y3.cap⟩
        obtain ⟨z, hz, hc⟩ := y3.cell i hi
        refine ⟨z, hz, ?_⟩
        have hzl := hlt z hz (by omega)
        rw [World.cell?_of_block (hgr.block _ (by rw [add_block]; have := hb.size; omega) (by rw [add_block]; simp [Value.ownBlock]; omega))]
        exact up hc
theorem MI.other {B : Nat} {W : World} {a : Option Addr} {c : Nat} {zs : List Int} (h : MI B W a c zs) {p : Addr} (hne : ∀ x, a = some x → 0 < zs.length → x.block ≠ p.block) (u : Value) : MI B (W.setCell p u) a c zs := by
  refine ⟨fun k hk => ?_, h.rng, h.len, h.lo, h.nn, h.cap⟩
  obtain ⟨x, hx, hc⟩ := h.cell k hk
  refine ⟨x, hx, ?_⟩
  rw [World.cell?_of_block (Below.heap_setCell W p u _ (by rw [add_block]; exact hne x hx (by omega)))]
  exact hc
theorem RB.set {B B2 : Nat} {W : World} {g cap : Nat} {qs : List Rw} {k : Nat} (h : RB B B2 W g cap qs k) (hk : k < qs.length) {g1 c1 n1 : Nat} (hn1 : qs[k].h.length = n1) (hO : OI B2 W g1 c1 qs[k].h) (hB : B ≤ B2) : RB B B2 (W.setCell ⟨g, k * 3 + 1, none⟩ (.slice (some ⟨g1, 0, none⟩) n1 c1)) g cap qs (k + 1) := by
  subst hn1
  obtain ⟨cur, h1, h2, h3, h4⟩ := h.ex
  have hne1 := hO.ne h1 (by decide)
  have hno := noInts_of h1 (by decide)
  have hsz : k * 3 + 1 < cur.size := by have := h.n; omega
  refine ⟨⟨_, h1.set _ _, by simpa using h2, fun j hj => ?_, fun j hj hjk => ?_⟩, h.n, h.cap, h.lo⟩
  · obtain ⟨a, c, e0, e1, e2, e3, e4⟩ := (h3 j hj).ex
    by_cases e : j = k
    · subst e
      have hx : ∀ x, some (⟨g1, 0, none⟩ : Addr) = some x → 0 < qs[j].h.length → x.block ≠ g := fun x hx _ => by cases hx; exact hne1
      refine ⟨some ⟨g1, 0, none⟩, c1, ?_, ?_, ?_, (hO.mi.mono hB).other hx _, hx⟩
      · rw [Array.getElem?_setIfInBounds, if_neg (by omega)]; exact e0
      · rw [Array.getElem?_setIfInBounds, if_pos rfl]; simp [hsz]
      · rw [Array.getElem?_setIfInBounds, if_neg (by omega)]; exact e2
    · refine ⟨a, c, ?_, ?_, ?_, e3.other e4 _, e4⟩
      · rw [Array.getElem?_setIfInBounds, if_neg (by omega)]; exact e0
      · rw [Array.getElem?_setIfInBounds, if_neg (by omega)]; exact e1
      · rw [Array.getElem?_setIfInBounds, if_neg (by omega)]; exact e2
  · by_cases e : j = k
    · subst e
      obtain ⟨a, c, e0, e1, e2, e3, e4⟩ := (h3 j hj).ex
      refine ⟨some ⟨g1, 0, none⟩, c1, ?_, ?_, ?_, hO.li.setOther hno _ _⟩
      · rw [Array.getElem?_setIfInBounds, if_neg (by omega)]; exact e0
      · rw [Array.getElem?_setIfInBounds, if_pos rfl]; simp [hsz]
      · rw [Array.getElem?_setIfInBounds, if_neg (by omega)]; exact e2
    · obtain ⟨a, c, e0, e1, e2, e3⟩ := (h4 j hj (by omega)).ex
      refine ⟨a, c, ?_, ?_, ?_, e3.setOther hno _ _⟩
      · rw [Array.getElem?_setIfInBounds, if_neg (by omega)]; exact e0
      · rw [Array.getElem?_setIfInBounds, if_neg (by omega)]; exact e1
      · rw [Array.getElem?_setIfInBounds, if_neg (by omega)]; exact e2

end Go.Proofs.YtkjbidpafnmogaaGreat.Base
namespace Go.Proofs.YtkjbidpafnmogaaGreat.Base
open Go.RowKit
set_option linter.unusedVariables false
set_option linter.unusedSimpArgs false

theorem MR.zero {B : Nat} {W : World} {a : Option Addr} {c : Nat} {qs : List Rw} (h : MR B W a c qs) : MR 0 W a c qs :=
  ⟨fun k hk => by
    obtain ⟨x, hx, hr⟩ := h.at_ k hk
    obtain ⟨aH, cH, y0, y1, y2, y3⟩ := hr.ex
    exact ⟨x, hx, ⟨⟨aH, cH, y0, y1, y2, y3.mono (Nat.zero_le _)⟩, hr.s, hr.r⟩⟩, h.len, fun _ _ _ => Nat.zero_le _, h.nn, h.cap⟩
theorem MR.mono {B B' : Nat} {W : World} {a : Option Addr} {c : Nat} {qs : List Rw} (h : MR B W a c qs) (hB : B' ≤ B) : MR B' W a c qs :=
  ⟨fun k hk => by
    obtain ⟨x, hx, hr⟩ := h.at_ k hk
    obtain ⟨aH, cH, y0, y1, y2, y3⟩ := hr.ex
    exact ⟨x, hx, ⟨⟨aH, cH, y0, y1, y2, y3.mono hB⟩, hr.s, hr.r⟩⟩, h.len, fun x hx hn => Nat.le_trans hB (h.lo x hx hn), h.nn, h.cap⟩
/-- A model in memory of its own. -/
structure OM (B : Nat) (W : World) (v : Value) (M : Mdl) : Prop where
  ex : ∃ aA cA aQ cQ aR cR, v = .agg #[.int .i64 M.n, .slice aA M.A.length cA, .slice aQ M.Q.length cQ, .int .i64 M.tick, .int .i64 M.gate, .int .i64 M.rmin, .slice aR M.rows.length cR] ∧
    LI B W aA cA M.A ∧ LI B W aQ cQ M.Q ∧ OR B W (.slice aR M.rows.length cR) M.rows
  n : I64 M.n
  tick : I64 M.tick
  gate : I64 M.gate
  rmin : I64 M.rmin
theorem OM.mm {B : Nat} {W : World} {v : Value} {M : Mdl} (h : OM B W v M) (hl : M.rows.length ≤ 1000) : MM B W v M := by
  obtain ⟨aA, cA, aQ, cQ, aR, cR, hv, h1, h2, h3⟩ := h.ex
  obtain ⟨a, c, he, hm⟩ := h3.mr hl
  cases he
  exact ⟨⟨aA, cA, aQ, cQ, aR, cR, hv, h1.mi, h2.mi, hm⟩, h.n, h.tick, h.gate, h.rmin⟩
theorem OM.keep {B : Nat} {W W' : World} {v : Value} {M : Mdl} (h : OM B W v M) (hb : Below W.heap.size W W') : OM B W' v M := by
  obtain ⟨aA, cA, aQ, cQ, aR, cR, hv, h1, h2, h3⟩ := h.ex
  exact ⟨⟨aA, cA, aQ, cQ, aR, cR, hv, h1.keep hb, h2.keep hb, h3.keep hb⟩, h.n, h.tick, h.gate, h.rmin⟩
theorem OM.mono {B B' : Nat} {W : World} {v : Value} {M : Mdl} (h : OM B W v M) (hB : B' ≤ B) : OM B' W v M := by
  obtain ⟨aA, cA, aQ, cQ, aR, cR, hv, h1, h2, h3⟩ := h.ex
  exact ⟨⟨aA, cA, aQ, cQ, aR, cR, hv, h1.mono hB, h2.mono hB, h3.mono hB⟩, h.n, h.tick, h.gate, h.rmin⟩
theorem own_type {W : World} {B : Nat} {e : TypeId} {size : Nat} {v : Value} {n : Nat} {xs : List Value} (h : W.ownsRow B e size v n xs) {b : Nat} {cs : Array Value} {t : TypeId} (hb : Blk W b cs t) (ht : t ≠ e) : ∀ g, v.ownBlock = some g → g ≠ b := by
  intro g hg
  rcases h.2 with ⟨rfl, _⟩ | ⟨g', cap, cur, rfl, _, hgb, _⟩
  · simp [Value.ownBlock] at hg
  · simp [Value.ownBlock] at hg
    subst hg
    exact blk_ne hgb hb (Ne.symm ht)
theorem OM.other {B : Nat} {W : World} {v : Value} {M : Mdl} (h : OM B W v M) {b : Nat} {cs : Array Value} {t : TypeId} (hb : Blk W b cs t) (h1 : t ≠ 3) (h2 : t ≠ 100) (o : Nat) (u : Value) : OM B (W.setCell ⟨b, o, none⟩ u) v M := by
  obtain ⟨aA, cA, aQ, cQ, aR, cR, hv, g1, g2, g3⟩ := h.ex
  have hno := noInts_of hb h1
  obtain ⟨vs, ho, _⟩ := g3.ex
  exact ⟨⟨aA, cA, aQ, cQ, aR, cR, hv, g1.setOther hno o u, g2.setOther hno o u, g3.setOther hno (own_type ho hb h2) o u⟩, h.n, h.tick, h.gate, h.rmin⟩
theorem OB.other {B : Nat} {W : World} {v : Value} {b : Blf} (h : OB B W v b) {k : Nat} {cs : Array Value} {t : TypeId} (hb : Blk W k cs t) (h1 : 3 ≠ t) (o : Nat) (u : Value) : OB B (W.setCell ⟨k, o, none⟩ u) v b := by
  obtain ⟨gX, cX, gP, cP, hv, g1, g2, hn⟩ := h.ex
  exact ⟨⟨gX, cX, gP, cP, hv, g1.other (g1.ne hb h1) o u, g2.other (g2.ne hb h1) o u, hn⟩, h.t, h.pass, h.fail⟩
theorem OB.mono {B B' : Nat} {W : World} {v : Value} {b : Blf} (h : OB B W v b) (hB : B' ≤ B) : OB B' W v b := by
  obtain ⟨gX, cX, gP, cP, hv, g1, g2, hn⟩ := h.ex
  exact ⟨⟨gX, cX, gP, cP, hv, g1.mono hB, g2.mono hB, hn⟩, h.t, h.pass, h.fail⟩

/-- Within CopyModel. -/
structure SCp (w0 : World) (cs zs : Array Value) (A Q : List Int) (qs : List Rw) (g1 c1 g2 c2 g0 g cap i : Nat) (W : World) : Prop where
  x : Blk W w0.heap.size cs 54
  y : Blk W (w0.heap.size + 1) zs 54
  o1 : OI w0.heap.size W g1 c1 A
  o2 : OI w0.heap.size W g2 c2 Q
  rb : RB 0 g0 W g cap qs i
  bel : Below w0.heap.size w0 W
  le : w0.heap.size ≤ g0
theorem SCp.keep {w0 W W' : World} {cs zs : Array Value} {A Q : List Int} {qs : List Rw} {g1 c1 g2 c2 g0 g cap i : Nat} (h : SCp w0 cs zs A Q qs g1 c1 g2 c2 g0 g cap i W) (hb : Below W.heap.size W W') : SCp w0 cs zs A Q qs g1 c1 g2 c2 g0 g cap i W' :=
  ⟨h.x.keep hb, h.y.keep hb, h.o1.keep hb, h.o2.keep hb, h.rb.keep hb, more h.bel hb, h.le⟩
theorem SCp.set {w0 W : World} {cs zs : Array Value} {A Q : List Int} {qs : List Rw} {g1 c1 g2 c2 g0 g cap k : Nat} (h : SCp w0 cs zs A Q qs g1 c1 g2 c2 g0 g cap k W) (hk : k < qs.length) {g5 c5 n5 : Nat} (hn : qs[k].h.length = n5) (hO : OI g0 W g5 c5 qs[k].h) :
    SCp w0 cs zs A Q qs g1 c1 g2 c2 g0 g cap (k + 1) (W.setCell ⟨g, k * 3 + 1, none⟩ (.slice (some ⟨g5, 0, none⟩) n5 c5)) := by
  obtain ⟨cur, hg, _⟩ := h.rb.ex
  exact ⟨h.x.other (blk_ne h.x hg (by decide)) _ _, h.y.other (blk_ne h.y hg (by decide)) _ _, h.o1.other (h.o1.ne hg (by decide)) _ _, h.o2.other (h.o2.ne hg (by decide)) _ _, h.rb.set hk hn hO (Nat.zero_le _), h.bel.setCell (Nat.le_trans h.le h.rb.lo) _, h.le⟩

set_option maxHeartbeats 8000000 in
set_option maxRecDepth 100000 in
theorem copyModel_om {B : Nat} {w0 : World} {v : Value} {M : Mdl} (hM : MM B w0 v M) (h1 : M.A.length ≤ 100000) (h2 : M.Q.length ≤ 100000) (hl : M.rows.length ≤ 1000) (hh : ∀ q ∈ M.rows, q.h.length ≤ 100000) :
    Calls Tryz.prog 40 #[v] w0 fun e w' => ∃ v', e = .returned v' ∧ OM w0.heap.size w' v' M ∧ Below w0.heap.size w0 w' := by
  obtain ⟨aA, cA, aQ, cQ, aR, cR, rfl, hA, hQ, hR⟩ := hM.ex
  obtain ⟨hn64, ht64, hg64, hr64⟩ : Hid (I64 M.n) ∧ Hid (I64 M.tick) ∧ Hid (I64 M.gate) ∧ Hid (I64 M.rmin) := ⟨hM.n, hM.tick, hM.gate, hM.rmin⟩
  obtain ⟨m, A, Q, tick, gate, rmin, qs⟩ := M
  clear hM
  dsimp only at *
  have hrng := Lib.hid hR.rng
  obtain ⟨n, hnl⟩ : ∃ n, qs.length = n := ⟨_, rfl⟩
  obtain ⟨la, hla⟩ : ∃ n, A.length = n := ⟨_, rfl⟩
  obtain ⟨lq, hlq⟩ : ∃ n, Q.length = n := ⟨_, rfl⟩
  rw [hnl] at hl
  have hcA : ∀ (W : World), Below w0.heap.size w0 W → Calls Tryz.prog 47 #[.slice aA la cA] W fun e w' => ∃ g cap, e = .returned (.slice (some ⟨g, 0, none⟩) la cap) ∧ OI W.heap.size w' g cap A ∧ Below W.heap.size W w' := fun W hb => by
    have := copyInts_is (hA.keep hb) h1
    rw [hla] at this
    exact this
  have hcQ : ∀ (W : World), Below w0.heap.size w0 W → Calls Tryz.prog 47 #[.slice aQ lq cQ] W fun e w' => ∃ g cap, e = .returned (.slice (some ⟨g, 0, none⟩) lq cap) ∧ OI W.heap.size w' g cap Q ∧ Below W.heap.size W w' := fun W hb => by
    have := copyInts_is (hQ.keep hb) h2
    rw [hlq] at this
    exact this
  rw [hnl, hla, hlq]
  have HCA := Lib.hid hcA
  have HCQ := Lib.hid hcQ
  have HNL := Lib.hid hnl
  have HLA := Lib.hid hla
  have HLQ := Lib.hid hlq
  have HR := Lib.hid hR
  clear hcA hcQ hnl hla hlq hA hQ hR
  go_enter Tryz.func40, Tryz.ntmps40
  go_wp2_with fail
  have b1 := (Blk.new w0 #[Value.int .i64 m, .slice aA la cA, .slice aQ lq cQ, .int .i64 tick, .int .i64 gate, .int .i64 rmin, .slice aR n cR] 54).alloc (.cells #[Value.int .i64 0, .slice none 0 0, .slice none 0 0, .int .i64 0, .int .i64 0, .int .i64 0, .slice none 0 0] 54)
  have b2 := Blk.new (w0.alloc (.cells #[Value.int .i64 m, .slice aA la cA, .slice aQ lq cQ, .int .i64 tick, .int .i64 gate, .int .i64 rmin, .slice aR n cR] 54)) #[Value.int .i64 0, .slice none 0 0, .slice none 0 0, .int .i64 0, .int .i64 0, .int .i64 0, .slice none 0 0] 54
  rw [World.size_alloc] at b2
  have hB1 : Below w0.heap.size w0 ((w0.alloc (.cells #[Value.int .i64 m, .slice aA la cA, .slice aQ lq cQ, .int .i64 tick, .int .i64 gate, .int .i64 rmin, .slice aR n cR] 54)).alloc (.cells #[Value.int .i64 0, .slice none 0 0, .slice none 0 0, .int .i64 0, .int .i64 0, .int .i64 0, .slice none 0 0] 54)) := ((Below.refl _ _).alloc (Nat.le_refl _) _).alloc (by simp) _
  generalize (w0.alloc (.cells #[Value.int .i64 m, .slice aA la cA, .slice aQ lq cQ, .int .i64 tick, .int .i64 gate, .int .i64 rmin, .slice aR n cR] 54)).alloc (.cells #[Value.int .i64 0, .slice none 0 0, .slice none 0 0, .int .i64 0, .int .i64 0, .int .i64 0, .slice none 0 0] 54) = W1 at *
  refine (HCA.out _ hB1).mono ?_
  rintro e w1 ⟨g1, k1, rfl, hO1, hK1⟩
  replace b1 := b1.keep hK1
  replace b2 := b2.keep hK1
  have hB2 := more hB1 hK1
  replace hO1 := hO1.mono hB1.size
  have q1 := b1.cell 1
  have q2 := b1.cell 2
  have f1 := b1.frozen 1
  simp at q1 q2
  go_wp2_with fail
  have hn1 := hO1.ne b1 (by decide)
  replace b1 := b1.set 1 (.slice (some ⟨g1, 0, none⟩) la k1)
  replace b2 := b2.other (c := w0.heap.size) (by omega) 1 (.slice (some ⟨g1, 0, none⟩) la k1)
  replace hO1 := hO1.other hn1 1 (.slice (some ⟨g1, 0, none⟩) la k1)
  replace hB2 := hB2.setCell (p := ⟨w0.heap.size, 1, none⟩) (Nat.le_refl _) (.slice (some ⟨g1, 0, none⟩) la k1)
  clear q1 q2 f1 hB1 hK1
  generalize w1.setCell ⟨w0.heap.size, 1, none⟩ (.slice (some ⟨g1, 0, none⟩) la k1) = W2 at *
  refine (HCQ.out _ hB2).mono ?_
  rintro e w2 ⟨g2, k2, rfl, hO2, hK2⟩
  replace b1 := b1.keep hK2
  replace b2 := b2.keep hK2
  replace hO1 := hO1.keep hK2
  have hB3 := more hB2 hK2
  replace hO2 := hO2.mono hB2.size
  have q2 := b1.cell 2
  have q6 := b1.cell 6
  have f2 := b1.frozen 2
  simp at q2 q6
  have hn2 := hO2.ne b1 (by decide)
  have hl0 : w0.heap.size < w2.heap.size := b1.lt
  have b1' := b1.set 2 (.slice (some ⟨g2, 0, none⟩) lq k2)
  have b2' := b2.other (c := w0.heap.size) (by omega) 2 (.slice (some ⟨g2, 0, none⟩) lq k2)
  have hO1' := hO1.other hn1 2 (.slice (some ⟨g2, 0, none⟩) lq k2)
  have hO2' := hO2.other hn2 2 (.slice (some ⟨g2, 0, none⟩) lq k2)
  have hB3' := hB3.setCell (p := ⟨w0.heap.size, 2, none⟩) (Nat.le_refl _) (.slice (some ⟨g2, 0, none⟩) lq k2)
  have hB4 := hB3'.alloc (hB3'.size) (.cells #[] 100)
  have hsz3 : w0.heap.size ≤ w2.heap.size := hB3.size
  have hE := Blk.new (w2.setCell ⟨w0.heap.size, 2, none⟩ (.slice (some ⟨g2, 0, none⟩) lq k2)) #[] 100
  rw [World.size_setCell] at hE
  clear hB2 hK2
  go_wp2_with (at_builtin; refine app_rows (w1 := w0) rfl _ _ rfl hsz3 hB4 hE rfl HR.out.zero n HNL.out rfl hl ?_)
  intro g cap w4 hRB hgr
  have hS : SCp w0 #[Value.int .i64 m, .slice (some ⟨g1, 0, none⟩) la k1, .slice (some ⟨g2, 0, none⟩) lq k2, .int .i64 tick, .int .i64 gate, .int .i64 rmin, .slice aR n cR] #[Value.int .i64 0, .slice none 0 0, .slice none 0 0, .int .i64 0, .int .i64 0, .int .i64 0, .slice none 0 0] A Q qs g1 k1 g2 k2 w2.heap.size g cap 0 w4 := by
    have hb' : Below (w2.setCell ⟨w0.heap.size, 2, none⟩ (.slice (some ⟨g2, 0, none⟩) lq k2)).heap.size (w2.setCell ⟨w0.heap.size, 2, none⟩ (.slice (some ⟨g2, 0, none⟩) lq k2)) w4 := ((Below.refl _ _).alloc (Nat.le_refl _) _).grown hgr (by simp) (fun k hk => by cases hk; simp [World.size_setCell])
    exact ⟨b1'.keep hb', b2'.keep hb', hO1'.keep hb', hO2'.keep hb', hRB, more hB3' hb', hsz3⟩
  clear b1' b2' hO1' hO2' hB3' hB4 hE hgr hRB b1 b2 hO1 hO2 hB3 q2 q6 f2 hn1 hn2
  go_wp2_with fail
  go_loopw [4] (fun i wr => ∃ (k : Nat), k ≤ n ∧ i = .int .i64 k ∧ SCp w0 #[Value.int .i64 m, .slice (some ⟨g1, 0, none⟩) la k1, .slice (some ⟨g2, 0, none⟩) lq k2, .int .i64 tick, .int .i64 gate, .int .i64 rmin, .slice aR n cR] #[Value.int .i64 0, .slice none 0 0, .slice none 0 0, .int .i64 0, .int .i64 0, .int .i64 0, .slice none 0 0] A Q qs g1 k1 g2 k2 w2.heap.size g cap k wr) (fun i _ => n - (intOf i).toNat)
  case atStart => exact ⟨0, Nat.zero_le _, rfl, hS⟩
  case round =>
    clear hS
    obtain ⟨k, hk, rfl, hS⟩ := hrel
    by_cases hkl : k < n
    · have hkl' : (k : Int) < (n : Int) := by omega
      have hk0 : (0 : Int) ≤ (k : Int) := by omega
      have hkz : k < qs.length := by rw [HNL.out]; exact hkl
      obtain ⟨cur, hbg, hcs, hrq, _⟩ := hS.rb.ex
      obtain ⟨a, c, e0, e1, e2, e3, _⟩ := (hrq k hkz).ex
      have hcc := copyInts_is e3 (hh _ (List.getElem_mem hkz))
      obtain ⟨nh, hnh⟩ : ∃ nh, qs[k].h.length = nh := ⟨_, rfl⟩
      rw [hnh] at hcc e1
      have HNH := Lib.hid hnh
      clear hnh
      have d1 : wr.cell? ⟨g, k * 3 + 1, none⟩ = some (.slice a nh c) := (hbg.cell _).trans e1
      have hfr := hbg.frozen (k * 3 + 1)
      clear e0 e1 e2 e3 hrq hbg
      go_wp2_with fail
      refine hcc.mono ?_
      rintro e w5 ⟨g5, c5, rfl, hO5, hK5⟩
      have hlo : w2.heap.size ≤ wr.heap.size := by
        obtain ⟨_, hgg, _⟩ := hS.rb.ex
        have := hS.rb.lo
        have := hgg.lt
        omega
      have hS5 := hS.keep hK5
      have HS6 := Lib.hid (hS5.set hkz HNH.out (hO5.mono hlo))
      obtain ⟨cur5, hbg5, hcs5, hrq5, _⟩ := hS5.rb.ex
      obtain ⟨a5, c5', _, e5, _, _, _⟩ := (hrq5 k hkz).ex
      have d5 := (hbg5.cell (k * 3 + 1)).trans e5
      have f5 := hbg5.frozen (k * 3 + 1)
      clear e5 hrq5 hbg5 hO5 hcc d1 hfr
      go_wp2_with fail
      go_roundw
      case rel => exact ⟨k + 1, by omega, by go_num, HS6.out⟩
      case measure => simp [intOf]; omega
    · have hge : ¬ (k : Int) < (n : Int) := by omega
      have hkn : k = n := by omega
      subst hkn
      obtain ⟨b1, b2, hO1, hO2, hRB, hB5, hle⟩ := hS
      have hOR := hRB.or (by rw [HNL.out]; exact Nat.le_refl _) hrng.out
      rw [HNL.out] at hOR
      obtain ⟨cur, hbg, _⟩ := hRB.ex
      have q0 := b1.cell 0
      have q1 := b1.cell 1
      have q2 := b1.cell 2
      have q3 := b1.cell 3
      have q4 := b1.cell 4
      have q5 := b1.cell 5
      have q6 := b1.cell 6
      have f6 := b1.frozen 6
      have r0 := b2.cell 0
      have r1 := b2.cell 1
      have r2 := b2.cell 2
      have r3 := b2.cell 3
      have r4 := b2.cell 4
      have r5 := b2.cell 5
      have r6 := b2.cell 6
      have fr := b2.frozen
      simp at q0 q1 q2 q3 q4 q5 q6 r0 r1 r2 r3 r4 r5 r6
      go_wp2_with fail
      have st : ∀ {W : World} {cs zs : Array Value}, Blk W w0.heap.size cs 54 → Blk W (w0.heap.size + 1) zs 54 → OI w0.heap.size W g1 k1 A → OI w0.heap.size W g2 k2 Q → Blk W g cur 100 → OR w2.heap.size W (.slice (some ⟨g, 0, none⟩) k cap) qs → Below w0.heap.size w0 W →
          ∀ o u, Blk (W.setCell ⟨w0.heap.size + 1, o, none⟩ u) w0.heap.size cs 54 ∧ Blk (W.setCell ⟨w0.heap.size + 1, o, none⟩ u) (w0.heap.size + 1) (zs.setIfInBounds o u) 54 ∧ OI w0.heap.size (W.setCell ⟨w0.heap.size + 1, o, none⟩ u) g1 k1 A ∧ OI w0.heap.size (W.setCell ⟨w0.heap.size + 1, o, none⟩ u) g2 k2 Q ∧ Blk (W.setCell ⟨w0.heap.size + 1, o, none⟩ u) g cur 100 ∧ OR w2.heap.size (W.setCell ⟨w0.heap.size + 1, o, none⟩ u) (.slice (some ⟨g, 0, none⟩) k cap) qs ∧ Below w0.heap.size w0 (W.setCell ⟨w0.heap.size + 1, o, none⟩ u) :=
        fun a b c d e f h o u => ⟨a.other (by omega) o u, b.set o u, c.other (c.ne b (by decide)) o u, d.other (d.ne b (by decide)) o u, e.other (blk_ne e b (by decide)) o u, f.setOther (noInts_of b (by decide)) (fun g' hg' => by simp [Value.ownBlock] at hg'; subst hg'; exact blk_ne e b (by decide)) o u, h.setCell (by simp) _⟩
      have a1 := b1.set 6 (.slice (some ⟨g, 0, none⟩) k cap)
      have a2 := b2.other (c := w0.heap.size) (by omega) 6 (.slice (some ⟨g, 0, none⟩) k cap)
      have a3 := hO1.other (hO1.ne b1 (by decide)) 6 (.slice (some ⟨g, 0, none⟩) k cap)
      have a4 := hO2.other (hO2.ne b1 (by decide)) 6 (.slice (some ⟨g, 0, none⟩) k cap)
      have a5 := hbg.other (blk_ne hbg b1 (by decide)) 6 (.slice (some ⟨g, 0, none⟩) k cap)
      have a6 := hOR.setOther (noInts_of b1 (by decide)) (fun g' hg' => by simp [Value.ownBlock] at hg'; subst hg'; exact blk_ne hbg b1 (by decide)) 6 (.slice (some ⟨g, 0, none⟩) k cap)
      have a7 := hB5.setCell (p := ⟨w0.heap.size, 6, none⟩) (Nat.le_refl _) (.slice (some ⟨g, 0, none⟩) k cap)
      obtain ⟨a1, a2, a3, a4, a5, a6, a7⟩ := st a1 a2 a3 a4 a5 a6 a7 0 (.int .i64 m)
      obtain ⟨a1, a2, a3, a4, a5, a6, a7⟩ := st a1 a2 a3 a4 a5 a6 a7 1 (.slice (some ⟨g1, 0, none⟩) la k1)
      obtain ⟨a1, a2, a3, a4, a5, a6, a7⟩ := st a1 a2 a3 a4 a5 a6 a7 2 (.slice (some ⟨g2, 0, none⟩) lq k2)
      obtain ⟨a1, a2, a3, a4, a5, a6, a7⟩ := st a1 a2 a3 a4 a5 a6 a7 3 (.int .i64 tick)
      obtain ⟨a1, a2, a3, a4, a5, a6, a7⟩ := st a1 a2 a3 a4 a5 a6 a7 4 (.int .i64 gate)
      obtain ⟨a1, a2, a3, a4, a5, a6, a7⟩ := st a1 a2 a3 a4 a5 a6 a7 5 (.int .i64 rmin)
      obtain ⟨a1, a2, a3, a4, a5, a6, a7⟩ := st a1 a2 a3 a4 a5 a6 a7 6 (.slice (some ⟨g, 0, none⟩) k cap)
      clear st b1 b2 hO1 hO2 hRB hB5 hbg hOR q0 q1 q2 q3 q4 q5 q6 f6 r0 r1 r2 r3 r4 r5 r6 fr a1 a5
      generalize (((((((wr.setCell ⟨w0.heap.size, 6, none⟩ (.slice (some ⟨g, 0, none⟩) k cap)).setCell ⟨w0.heap.size + 1, 0, none⟩ (.int .i64 m)).setCell ⟨w0.heap.size + 1, 1, none⟩ (.slice (some ⟨g1, 0, none⟩) la k1)).setCell ⟨w0.heap.size + 1, 2, none⟩ (.slice (some ⟨g2, 0, none⟩) lq k2)).setCell ⟨w0.heap.size + 1, 3, none⟩ (.int .i64 tick)).setCell ⟨w0.heap.size + 1, 4, none⟩ (.int .i64 gate)).setCell ⟨w0.heap.size + 1, 5, none⟩ (.int .i64 rmin)).setCell ⟨w0.heap.size + 1, 6, none⟩ (.slice (some ⟨g, 0, none⟩) k cap) = W9 at *
      have q0 := a2.cell 0
      have q1 := a2.cell 1
      have q2 := a2.cell 2
      have q3 := a2.cell 3
      have q4 := a2.cell 4
      have q5 := a2.cell 5
      have q6 := a2.cell 6
      simp at q0 q1 q2 q3 q4 q5 q6
      refine bodyPost_ret (v := .agg #[.int .i64 m, .slice (some ⟨g1, 0, none⟩) la k1, .slice (some ⟨g2, 0, none⟩) lq k2, .int .i64 tick, .int .i64 gate, .int .i64 rmin, .slice (some ⟨g, 0, none⟩) k cap]) (by simp [results, Tryz.results40, go_sem, q0, q1, q2, q3, q4, q5, q6]) rfl ?_
      rw [← HNL.out] at a6
      exact ⟨_, rfl, ⟨⟨some ⟨g1, 0, none⟩, k1, some ⟨g2, 0, none⟩, k2, some ⟨g, 0, none⟩, cap, by dsimp only; rw [HNL.out, HLA.out, HLQ.out], a3.li, a4.li, a6.mono hle⟩, hn64.out, ht64.out, hg64.out, hr64.out⟩, a7⟩
theorem copyModel_is {B : Nat} {w0 : World} {v : Value} {M : Mdl} (hM : MM B w0 v M) (h1 : M.A.length ≤ 100000) (h2 : M.Q.length ≤ 100000) (hl : M.rows.length ≤ 1000) (hh : ∀ q ∈ M.rows, q.h.length ≤ 100000) :
    Calls Tryz.prog 40 #[v] w0 fun e w' => ∃ v', e = .returned v' ∧ MM w0.heap.size w' v' M ∧ Below w0.heap.size w0 w' :=
  (copyModel_om hM h1 h2 hl hh).mono fun _ _ ⟨v', he, hm, hb⟩ => ⟨v', he, hm.mm hl, hb⟩

end Go.Proofs.YtkjbidpafnmogaaGreat.Base
