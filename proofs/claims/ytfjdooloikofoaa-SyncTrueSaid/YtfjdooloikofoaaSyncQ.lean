/- The reference's clock: its Best. -/
import Derived.Test.YtfjdooloikofoaaSyncN
import Derived.Deep.RegionHeld3
namespace Go.Proofs.Ytfjdooloikofoaa.SyncA
open Go.RowKit Go.Shelf Go.Proofs.Ytfjdooloikofoaa.StampA Go.Proofs.Ytfjdooloikofoaa.Base
set_option linter.unusedVariables false
set_option linter.unusedSimpArgs false

/-- Within the loop: the clock's slice, the box of the best one. -/
structure SB (w : World) (b bb g off n c : Nat) (l : List TSw) (y : Sw) (W : World) : Prop where
  blk : Blk W bb (swc y) 48
  old : Below w.heap.size w W
  le : w.heap.size ≤ bb
  lt : b < w.heap.size
  c1 : w.cell? ⟨b, 1, none⟩ = some (.slice (some ⟨g, off, none⟩) n c)
  el : ∀ j u, (flat l)[j]? = some u → w.cell? ⟨g, off + j, none⟩ = some u
theorem SB.keep {w W W' : World} {b bb g off n c : Nat} {l : List TSw} {y : Sw} (h : SB w b bb g off n c l y W) (hK : Below W.heap.size W W') : SB w b bb g off n c l y W' :=
  ⟨h.blk.keep hK, h.old.trans (hK.mono h.old.size), h.le, h.lt, h.c1, h.el⟩
theorem SB.drew {w W : World} {b bb g off n c : Nat} {l : List TSw} {y : Sw} (h : SB w b bb g off n c l y W) : SB w b bb g off n c l y W.drew :=
  ⟨h.blk, h.old.drew, h.le, h.lt, h.c1, h.el⟩
theorem SB.q1 {w W : World} {b bb g off n c : Nat} {l : List TSw} {y : Sw} (h : SB w b bb g off n c l y W) : W.cell? ⟨b, 1, none⟩ = some (.slice (some ⟨g, off, none⟩) n c) :=
  (h.old.cell (World.block_lt_of_cell? w _ h.c1)).trans h.c1
theorem SB.qe {w W : World} {b bb g off n c : Nat} {l : List TSw} {y : Sw} (h : SB w b bb g off n c l y W) (k : Nat) (hk : k < l.length) {x1 x2 x3 x4 : Int} {hx : Tm ⟨x1, x2, x3, x4⟩} (he : l[k] = ⟨⟨x1, x2, x3, x4⟩, hx⟩) :
    W.cell? ⟨g, off + k * 4, none⟩ = some (.int .i64 x1) ∧ W.cell? ⟨g, off + k * 4 + 1, none⟩ = some (.int .i64 x2) ∧ W.cell? ⟨g, off + k * 4 + 2, none⟩ = some (.int .i64 x3) ∧ W.cell? ⟨g, off + k * 4 + 3, none⟩ = some (.int .i64 x4) := by
  obtain ⟨a0, a1, a2, a3⟩ := flat_get l k hk
  rw [he] at a0 a1 a2 a3
  have c : ∀ j u, (flat l)[j]? = some u → W.cell? ⟨g, off + j, none⟩ = some u := fun j u hj => (h.old.cell (World.block_lt_of_cell? w _ (h.el j u hj))).trans (h.el j u hj)
  exact ⟨c _ _ a0, by have := c _ _ a1; rwa [← Nat.add_assoc] at this, by have := c _ _ a2; rwa [← Nat.add_assoc] at this, by have := c _ _ a3; rwa [← Nat.add_assoc] at this⟩
theorem SB.qy {w W : World} {b bb g off n c : Nat} {l : List TSw} {y1 y2 y3 y4 : Int} (h : SB w b bb g off n c l ⟨y1, y2, y3, y4⟩ W) :
    W.cell? ⟨bb, 0, none⟩ = some (.int .i64 y1) ∧ W.cell? ⟨bb, 1, none⟩ = some (.int .i64 y2) ∧ W.cell? ⟨bb, 2, none⟩ = some (.int .i64 y3) ∧ W.cell? ⟨bb, 3, none⟩ = some (.int .i64 y4) :=
  ⟨h.blk.cell 0, h.blk.cell 1, h.blk.cell 2, h.blk.cell 3⟩

theorem SB.all {w W : World} {b bb g off n c k : Nat} {l : List TSw} {y1 y2 y3 y4 x1 x2 x3 x4 : Int} {hx : Tm ⟨x1, x2, x3, x4⟩} (hk : k < l.length) (he : RowKit.Hid (l[k] = ⟨⟨x1, x2, x3, x4⟩, hx⟩)) (h : SB w b bb g off n c l ⟨y1, y2, y3, y4⟩ W) :
    SB w b bb g off n c l ⟨y1, y2, y3, y4⟩ W ∧ W.cell? ⟨b, 1, none⟩ = some (.slice (some ⟨g, off, none⟩) n c) ∧
    (W.cell? ⟨g, off + k * 4, none⟩ = some (.int .i64 x1) ∧ W.cell? ⟨g, off + k * 4 + 1, none⟩ = some (.int .i64 x2) ∧ W.cell? ⟨g, off + k * 4 + 2, none⟩ = some (.int .i64 x3) ∧ W.cell? ⟨g, off + k * 4 + 3, none⟩ = some (.int .i64 x4)) ∧
    (W.cell? ⟨bb, 0, none⟩ = some (.int .i64 y1) ∧ W.cell? ⟨bb, 1, none⟩ = some (.int .i64 y2) ∧ W.cell? ⟨bb, 2, none⟩ = some (.int .i64 y3) ∧ W.cell? ⟨bb, 3, none⟩ = some (.int .i64 y4)) :=
  ⟨h, h.q1, h.qe k hk he.out, h.qy⟩

theorem rbest_nil {w : World} {b : Nat} {win : Int} (hb : Blk w b #[.int .i64 win, .slice none 0 0] 78) :
    Calls Try.prog 35 #[.pointer (some ⟨b, 0, none⟩)] w fun e w' => e = .returned (.tuple #[.int .i64 0, .int .i64 0, .int .i64 11]) ∧ w = w' := by
  have c1 := hb.cell 1
  simp at c1
  go_enter Try.func35, Try.ntmps35
  go_wp2
  go_ret3
  exact ⟨rfl, rfl⟩

set_option maxHeartbeats 8000000 in
set_option maxRecDepth 100000 in
theorem rbest_some {w : World} {b g off c : Nat} {win : Int} (l : List TSw) (hn0 : 0 < l.length) (hn1 : l.length ≤ 100) (hb : Blk w b #[.int .i64 win, .slice (some ⟨g, off, none⟩) l.length c] 78) (hL : ∀ j u, (flat l)[j]? = some u → w.cell? ⟨g, off + j, none⟩ = some u) :
    Calls Try.prog 35 #[.pointer (some ⟨b, 0, none⟩)] w fun e w' => e = .returned (.tuple #[.int .i64 (bT l).1, .int .i64 (bT l).2.1, .int .i64 (bT l).2.2]) ∧ Below w.heap.size w w' := by
  have c1 : w.cell? ⟨b, 1, none⟩ = some (.slice (some ⟨g, off, none⟩) l.length c) := hb.cell 1
  have hbl := hb.lt
  obtain ⟨⟨⟨z1, z2, z3, z4⟩, hz⟩, he0⟩ : ∃ z, l[0] = z := ⟨_, rfl⟩
  have HE := Lib.hid he0
  have HL := Lib.hid hL
  clear he0 hL hb
  obtain ⟨d0, d1, d2, d3⟩ : w.cell? ⟨g, off, none⟩ = some (.int .i64 z1) ∧ w.cell? ⟨g, off + 1, none⟩ = some (.int .i64 z2) ∧ w.cell? ⟨g, off + 2, none⟩ = some (.int .i64 z3) ∧ w.cell? ⟨g, off + 3, none⟩ = some (.int .i64 z4) := by
    obtain ⟨a0, a1, a2, a3⟩ := flat_get l 0 hn0
    rw [HE.out] at a0 a1 a2 a3
    exact ⟨HL.out _ _ a0, HL.out _ _ a1, HL.out _ _ a2, HL.out _ _ a3⟩
  have hbst : bst (l.take 1) = some ⟨⟨z1, z2, z3, z4⟩, hz⟩ := by
    cases l with
    | nil => simp at hn0
    | cons x r => have := HE.out; simp at this; simp [bst, bstep, this]
  have HB := Lib.hid hbst
  clear hbst
  obtain ⟨n, hn⟩ : ∃ n, l.length = n := ⟨_, rfl⟩
  rw [hn] at c1 hn0 hn1
  have hnn : ¬ (n : Int) = 0 := by omega
  go_enter Try.func35, Try.ntmps35
  go_wp2_with fail
  have hzz : ((n : Int) == 0) = false := by simp; omega
  simp only [hzz]
  have hS0 : SB w b w.heap.size g off n c l ⟨z1, z2, z3, z4⟩ (w.alloc (.cells #[.int .i64 z1, .int .i64 z2, .int .i64 z3, .int .i64 z4] 48)) := ⟨Blk.new w _ _, (Below.refl _ _).alloc (Nat.le_refl _) _, Nat.le_refl _, hbl, c1, HL.out⟩
  generalize w.alloc (.cells #[.int .i64 z1, .int .i64 z2, .int .i64 z3, .int .i64 z4] 48) = W0 at *
  clear c1 d0 d1 d2 d3 HL
  go_loopw [6] (fun i wr => ∃ (k : Nat) (y : TSw), 1 ≤ k ∧ k ≤ n ∧ i = .int .i64 k ∧ Hid (bst (l.take k) = some y) ∧ SB w b w.heap.size g off n c l y.1 wr) (fun i _ => n - (intOf i).toNat)
  case atStart => exact ⟨1, ⟨⟨z1, z2, z3, z4⟩, hz⟩, by omega, by omega, rfl, HB, hS0⟩
  case round =>
    clear hS0
    obtain ⟨k, ⟨⟨y1, y2, y3, y4⟩, hy⟩, hk1, hkn, rfl, HBk, hS⟩ := hrel
    have c1 := hS.q1
    obtain ⟨p0, p1, p2, p3⟩ := hS.qy
    have ra := hy.a
    have rb := hy.b
    have rc := hy.c
    have rd := hy.d
    dsimp only at ra rb rc rd
    by_cases hkl : k < n
    · have hkl' : (k : Int) < (n : Int) := by omega
      have hk0 : (0 : Int) ≤ (k : Int) := by omega
      have hkll : k < l.length := by omega
      obtain ⟨⟨⟨x1, x2, x3, x4⟩, hx⟩, hex⟩ : ∃ z, l[k] = z := ⟨_, rfl⟩
      have HEX := Lib.hid hex
      clear hex
      have qa := hx.a
      have qb := hx.b
      have qc := hx.c
      have qd := hx.d
      dsimp only at qa qb qc qd
      have hbk : bst (l.take (k + 1)) = some (if x4 - x1 - (x3 - x2) ≤ y4 - y1 - (y3 - y2) then ⟨⟨x1, x2, x3, x4⟩, hx⟩ else ⟨⟨y1, y2, y3, y4⟩, hy⟩) := by
        rw [take_snoc l k hkll, bst_snoc, HBk.out, HEX.out]
        unfold bstep rnd
        dsimp only
        split <;> rfl
      have HBK := Lib.hid hbk
      clear hbk
      have hS1 := hS.drew
      have HS1 := SB.all hkll HEX hS1
      clear c1 p0 p1 p2 p3
      obtain ⟨_, c1, ⟨e0, e1, e2, e3⟩, ⟨p0, p1, p2, p3⟩⟩ := SB.all hkll HEX hS
      go_wp2_with fail
      clear c1 e0 e1 e2 e3 p0 p1 p2 p3 hS
      go_region_held3 (fun W => SB w b w.heap.size g off n c l ⟨y1, y2, y3, y4⟩ W ∧ W.cell? ⟨b, 1, none⟩ = some (.slice (some ⟨g, off, none⟩) n c) ∧
          (W.cell? ⟨g, off + k * 4, none⟩ = some (.int .i64 x1) ∧ W.cell? ⟨g, off + k * 4 + 1, none⟩ = some (.int .i64 x2) ∧ W.cell? ⟨g, off + k * 4 + 2, none⟩ = some (.int .i64 x3) ∧ W.cell? ⟨g, off + k * 4 + 3, none⟩ = some (.int .i64 x4)) ∧
          (W.cell? ⟨w.heap.size, 0, none⟩ = some (.int .i64 y1) ∧ W.cell? ⟨w.heap.size, 1, none⟩ = some (.int .i64 y2) ∧ W.cell? ⟨w.heap.size, 2, none⟩ = some (.int .i64 y3) ∧ W.cell? ⟨w.heap.size, 3, none⟩ = some (.int .i64 y4)))
        (exact SB.all hkll HEX (by assumption))
        (first
          | (go_at_call_of 50 (Value.agg #[Value.int IntKind.i64 x1, Value.int IntKind.i64 x2, Value.int IntKind.i64 x3, Value.int IntKind.i64 x4]); refine (rround_any x1 x2 x3 x4 _ qa qb qc qd).mono ?_; rintro e w5 ⟨rfl, hK⟩; have hS5 := SB.keep (by assumption) hK; clear hK)
          | (go_at_call 50; refine (rround_any y1 y2 y3 y4 _ ra rb rc rd).mono ?_; rintro e w6 ⟨rfl, hK⟩; have hS6 := SB.keep (by assumption) hK; clear hK))
      obtain ⟨hS9, c1, ⟨e0, e1, e2, e3⟩, ⟨p0, p1, p2, p3⟩⟩ := SB.all hkll HEX (by assumption)
      have hK9 := hS9.blk.frozen
      clear HS1
      by_cases hle : x4 - x1 - (x3 - x2) ≤ y4 - y1 - (y3 - y2)
      · go_wp2_with fail
        go_roundw
        case rel =>
          refine ⟨k + 1, ⟨⟨x1, x2, x3, x4⟩, hx⟩, by omega, by omega, by go_num, ?_, ⟨?_, ?_, hS9.le, hbl, hS9.c1, hS9.el⟩⟩
          · have := HBK.out
            rw [if_pos hle] at this
            exact this
          · have := (((hS9.blk.set 0 (.int .i64 x1)).set 1 (.int .i64 x2)).set 2 (.int .i64 x3)).set 3 (.int .i64 x4)
            exact this
          · exact (((hS9.old.setCell (by simp) _).setCell (by simp) _).setCell (by simp) _).setCell (by simp) _
        case measure => simp [intOf]; omega
      · go_wp2_with fail
        go_roundw
        case rel =>
          refine ⟨k + 1, ⟨⟨y1, y2, y3, y4⟩, hy⟩, by omega, by omega, by go_num, ?_, hS9⟩
          have := HBK.out
          rw [if_neg hle] at this
          exact this
        case measure => simp [intOf]; omega
    · have hge : ¬ (k : Int) < (n : Int) := by omega
      have hfin : bT l = ((y2 - y1 + (y3 - y4)) / 2, y4 - y1 - (y3 - y2), 0) := by
        have := HBk.out
        rw [List.take_of_length_le (by omega)] at this
        unfold bT
        rw [this]
        rfl
      go_wp2_with fail
      have hS1 : S1 w w.heap.size y1 y2 y3 y4 wr := ⟨hS.blk, Nat.le_refl _, hS.old⟩
      have hS2 := hS1.drew
      clear hS c1 p0 p1 p2 p3 hS1
      go_region_held3 (fun W' => S1 w w.heap.size y1 y2 y3 y4 W' ∧ (W'.cell? ⟨w.heap.size, 0, none⟩ = some (.int .i64 y1) ∧ W'.cell? ⟨w.heap.size, 1, none⟩ = some (.int .i64 y2) ∧ W'.cell? ⟨w.heap.size, 2, none⟩ = some (.int .i64 y3) ∧ W'.cell? ⟨w.heap.size, 3, none⟩ = some (.int .i64 y4)))
        (exact S1.cells (by assumption))
        (first
          | (go_at_call 50; refine (rround_any y1 y2 y3 y4 _ ra rb rc rd).mono ?_; rintro e w5 ⟨rfl, hK⟩; have hS5 := S1.keep (by assumption) hK; clear hK)
          | (go_at_call 55; refine (roffset_any y1 y2 y3 y4 _ ra rb rc rd).mono ?_; rintro e w6 ⟨rfl, hK⟩; have hS6 := S1.keep (by assumption) hK; clear hK))
      go_wp2
      go_ret3
      exact ⟨by rw [hfin]; rfl, S1.below (by assumption)⟩

theorem rBest {w : World} {b av : Nat} {win : Int} {l : List TSw} (h : RK w b av win l) :
    Calls Try.prog 35 #[.pointer (some ⟨b, 0, none⟩)] w fun e w' => e = .returned (.tuple #[.int .i64 (bT l).1, .int .i64 (bT l).2.1, .int .i64 (bT l).2.2]) ∧ Below w.heap.size w w' := by
  rcases h.ex with ⟨rfl, hb⟩ | ⟨g, off, c, hb, hc, hn, hg, _, hL⟩
  · exact (rbest_nil hb).mono fun e w' ⟨he, hw⟩ => ⟨he, by rw [← hw]; exact Below.refl _ _⟩
  · have := h.len
    have := h.w2
    exact rbest_some l hn (by omega) hb hL

end Go.Proofs.Ytfjdooloikofoaa.SyncA
