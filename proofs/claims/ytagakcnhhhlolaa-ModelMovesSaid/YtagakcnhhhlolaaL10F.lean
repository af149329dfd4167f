/- ModelMoves: the walk. -/
import Derived.Test.YtagakcnhhhlolaaL10E
import Derived.Test.YtagakcnhhhlolaaGrow
import Derived.StillTailTactics
import Derived.Laws.OwnMore
namespace Go.Proofs.Ytagakcnhhhlolaa.Base
open Go.RowKit
set_option linter.unusedVariables false
set_option linter.unusedSimpArgs false

def bools (n : Nat) (l : Nat → Bool) : Array Value := ((List.range n).map fun j => Value.bool (l j)).toArray
theorem bools_at (n : Nat) (l : Nat → Bool) (j : Nat) (h : j < n) : (bools n l)[j]? = some (.bool (l j)) := by simp [bools, h]
theorem bools_set (n : Nat) (l : Nat → Bool) (q : Nat) (v : Bool) : (bools n l).setIfInBounds q (.bool v) = bools n (fun j => if j = q then v else l j) := by
  refine Array.ext_getElem? fun j => ?_
  rw [Array.getElem?_setIfInBounds]
  by_cases hj : j < n
  · rw [bools_at _ _ _ hj, bools_at n (fun j => if j = q then v else l j) j hj]
    by_cases e : q = j
    · subst e
      rw [if_pos rfl, if_pos (by simp [bools, hj]), if_pos rfl]
    · rw [if_neg e, if_neg (fun h => e h.symm)]
  · have h1 : (bools n l)[j]? = none := by simp [bools]; omega
    have h2 : (bools n (fun j => if j = q then v else l j))[j]? = none := by simp [bools]; omega
    rw [h1, h2]
    split
    · split
      · rename_i h; simp [bools] at h; omega
      · rfl
    · rfl
/-- Where it is told, the column is at least d behind the row. -/
def Upr (n d : Nat) (l : Nat → Bool) : Prop := ∀ i k, i < n → k < n → l (i * n + k) = true → i + d ≤ k
theorem Upr.none (n d : Nat) : Upr n d (fun _ => false) := fun i k _ _ h => by cases h
theorem ij_inj {n i k i' k' : Nat} (hk : k < n) (hk' : k' < n) (h : i * n + k = i' * n + k') : i = i' ∧ k = k' := by
  have h1 : (i * n + k) / n = i := by
    rw [Nat.mul_comm, Nat.mul_add_div (by omega), Nat.div_eq_of_lt hk]; rfl
  have h2 : (i' * n + k') / n = i' := by
    rw [Nat.mul_comm, Nat.mul_add_div (by omega), Nat.div_eq_of_lt hk']; rfl
  have hi : i = i' := by rw [← h1, ← h2, h]
  subst hi
  exact ⟨rfl, by omega⟩
theorem Upr.set {n d : Nat} {l : Nat → Bool} (h : Upr n d l) {i k : Nat} (hk : k < n) (v : Bool) (hv : v = true → i + d ≤ k) : Upr n d (fun j => if j = i * n + k then v else l j) := by
  intro i' k' hi' hk' hl
  dsimp only at hl
  by_cases e : i' * n + k' = i * n + k
  · rw [if_pos e] at hl
    obtain ⟨rfl, rfl⟩ := ij_inj hk' hk e
    exact hv hl
  · rw [if_neg e] at hl
    exact h i' k' hi' hk' hl
/-- 'make([]bool, n)' in one way. -/
theorem make_bools {ops : Array Oper} {rest : List Oper} {o : Oper} {a : Act} {Q : Exit → Act → World → Prop} (w : World) (hg : o.guard = none) (s c : Operand) (hop : o.op = Op.makeSlice 47 s c) (n : Nat)
    (hl : a.eval s = .int .i64 n) (hc : a.eval c = .int .i64 n) (hn : n ≤ 1000)
    (hK : ∀ w', Blk w' w.heap.size (bools n fun _ => false) 4 → Below w.heap.size w w' → wpList Try.prog ops Q rest (a.put o.dst (.slice (some ⟨w.heap.size, 0, none⟩) n n)) w') :
    wpList Try.prog ops Q (o :: rest) a w := by
  obtain ⟨i0, hi, hz0, hz1, hz2⟩ : ∃ i, Try.prog.info? 4 = some i ∧ i.zero = some (.bool false) ∧ i.size = 1 ∧ i.bytes = 1 := info_parts (by kernel_rfl)
  refine wpList_make_full w hg s c 47 hop w.heap.size 4 i0 (.bool false) 1 Try.underlying47 hi hz0 hz1 .i64 .i64 n n n hl hc rfl rfl (by rw [hz2]; omega) (by unfold maxLen; omega) (Nat.le_refl _) (fun w' ho hgr => ?_)
  refine hK w' ?_ ⟨hgr.os, hgr.tape, hgr.output, hgr.size, fun k hk => hgr.block k hk (by simp)⟩
  obtain ⟨_, h1 | ⟨g, cap, cur, hv, hB, hh, _, _, hs, ht⟩⟩ := ho
  · cases h1.1
  · cases hv
    have hcur : cur = bools n fun _ => false := by
      have e : (Value.bool false).cells = #[Value.bool false] := rfl
      rw [e, toList_madeCells_one] at ht
      have hl2 : cur.toList = List.replicate n (Value.bool false) := by
        rw [List.take_of_length_le (by simp [hs])] at ht
        rw [ht]; simp
      refine Array.ext' ?_
      rw [hl2]
      simp [bools, List.map_const']
    rw [hcur] at hh
    exact hh

/-- The model's box, and where it leads so far. -/
structure SM1 (w0 : World) (cs : Array Value) (g n : Nat) (l : Nat → Bool) (W : World) : Prop where
  bx : Blk W w0.heap.size cs 25
  b1 : Blk W g (bools n l) 4
  bel : Below w0.heap.size w0 W
  lo : w0.heap.size ≤ g
theorem SM1.keep {w0 W W' : World} {cs : Array Value} {g n : Nat} {l : Nat → Bool} (h : SM1 w0 cs g n l W) (hb : Below W.heap.size W W') : SM1 w0 cs g n l W' := ⟨h.bx.keep hb, h.b1.keep hb, more h.bel hb, h.lo⟩
theorem SM1.set {w0 W : World} {cs : Array Value} {g n : Nat} {l : Nat → Bool} (h : SM1 w0 cs g n l W) (q : Nat) (v : Bool) : SM1 w0 cs g n (fun j => if j = q then v else l j) (W.setCell ⟨g, q, none⟩ (.bool v)) :=
  ⟨h.bx.other (blk_ne h.bx h.b1 (by decide)) _ _, by rw [← bools_set]; exact h.b1.set _ _, h.bel.setCell (p := ⟨g, q, none⟩) h.lo _, h.lo⟩
structure SM2 (w0 : World) (cs : Array Value) (g g2 n : Nat) (l nx : Nat → Bool) (W : World) : Prop where
  s1 : SM1 w0 cs g n l W
  b2 : Blk W g2 (bools n nx) 4
  lo : w0.heap.size ≤ g2
  ne : g ≠ g2
theorem SM2.keep {w0 W W' : World} {cs : Array Value} {g g2 n : Nat} {l nx : Nat → Bool} (h : SM2 w0 cs g g2 n l nx W) (hb : Below W.heap.size W W') : SM2 w0 cs g g2 n l nx W' := ⟨h.s1.keep hb, h.b2.keep hb, h.lo, h.ne⟩
theorem SM2.set {w0 W : World} {cs : Array Value} {g g2 n : Nat} {l nx : Nat → Bool} (h : SM2 w0 cs g g2 n l nx W) (q : Nat) (v : Bool) : SM2 w0 cs g g2 n l (fun j => if j = q then v else nx j) (W.setCell ⟨g2, q, none⟩ (.bool v)) :=
  ⟨⟨h.s1.bx.other (blk_ne h.s1.bx h.b2 (by decide)) _ _, h.s1.b1.other h.ne _ _, h.s1.bel.setCell (p := ⟨g2, q, none⟩) h.lo _, h.s1.lo⟩, by rw [← bools_set]; exact h.b2.set _ _, h.lo, h.ne⟩
theorem SM2.next {w0 W : World} {cs : Array Value} {g g2 n : Nat} {l nx : Nat → Bool} (h : SM2 w0 cs g g2 n l nx W) : SM1 w0 cs g2 n nx W := ⟨h.s1.bx, h.b2, h.s1.bel, h.lo⟩

/-- Within the innermost round. -/
structure SR (w0 wr : World) (cs : Array Value) (g g2 n : Nat) (l nx : Nat → Bool) (xa : Addr) (r1 r2 : Nat) (d : Int) (W : World) : Prop where
  sm : SM2 w0 cs g g2 n l nx W
  cA : W.cell? (xa.add r2) = some (.int .i64 d)
theorem SR.keep {w0 wr W W' : World} {cs : Array Value} {g g2 n : Nat} {l nx : Nat → Bool} {xa : Addr} {r1 r2 : Nat} {d : Int} (h : SR w0 wr cs g g2 n l nx xa r1 r2 d W) (hb : Below W.heap.size W W') : SR w0 wr cs g g2 n l nx xa r1 r2 d W' :=
  ⟨h.sm.keep hb, (hb.cell (World.block_lt_of_cell? W _ h.cA)).trans h.cA⟩
theorem SR.cells {w0 wr W : World} {m0 m1 m2 m3 m4 m5 m6 : Value} {g g2 n : Nat} {l nx : Nat → Bool} {xa : Addr} {r1 r2 : Nat} {d : Int} {nxv : Bool} (h : SR w0 wr #[m0, m1, m2, m3, m4, m5, m6] g g2 n l nx xa r1 r2 d W) (hr : r1 < n) (hv : nx r1 = nxv) :
    W.cell? ⟨w0.heap.size, 0, none⟩ = some m0 ∧ W.cell? ⟨w0.heap.size, 1, none⟩ = some m1 ∧ W.cell? ⟨g2, r1, none⟩ = some (.bool nxv) ∧ W.cell? (xa.add r2) = some (.int .i64 d) :=
  ⟨h.sm.s1.bx.cell 0, h.sm.s1.bx.cell 1, by rw [← hv]; exact (h.sm.b2.cell r1).trans (bools_at n nx r1 hr), h.cA⟩

set_option maxHeartbeats 16000000 in
set_option maxRecDepth 100000 in
theorem moves_walk (v0 : Value) (M : Mdl) (w : World) (hM : MM 0 w v0 M) :
    Calls Try.prog 5 #[v0] w fun e w' => e = .returned (.bool true) ∧ Below w.heap.size w w' := by
  obtain ⟨aA, cA, aQ, cQ, aR, cR, rfl, hA, hQ, hR⟩ := hM.ex
  have hX := Blk.new w #[Value.int .i64 M.n, .slice aA M.A.length cA, .slice aQ M.Q.length cQ, .int .i64 M.tick, .int .i64 M.gate, .int .i64 M.rmin, .slice aR M.rows.length cR] 25
  have hB : Below w.heap.size w (w.alloc (.cells #[Value.int .i64 M.n, .slice aA M.A.length cA, .slice aQ M.Q.length cQ, .int .i64 M.tick, .int .i64 M.gate, .int .i64 M.rmin, .slice aR M.rows.length cR] 25)) := (Below.refl _ _).alloc (Nat.le_refl _) _
  go_enter Try.func5, Try.ntmps5
  go_wp2_with fail
  generalize w.alloc (.cells #[Value.int .i64 M.n, .slice aA M.A.length cA, .slice aQ M.Q.length cQ, .int .i64 M.tick, .int .i64 M.gate, .int .i64 M.rmin, .slice aR M.rows.length cR] 25) = W1 at *
  refine (known_is _).mono ?_
  rintro e w2 ⟨rfl, hK⟩
  replace hX := hX.keep hK
  replace hB := more hB hK
  clear hK
  have x0 := hX.cell 0
  have x1 := hX.cell 1
  have x2 := hX.cell 2
  have x3 := hX.cell 3
  have x4 := hX.cell 4
  have x5 := hX.cell 5
  have x6 := hX.cell 6
  simp at x0 x1 x2 x3 x4 x5 x6
  go_wp2_with fail
  refine (longModel_is (hM.keep hB)).mono ?_
  rintro e w3 ⟨hq, hK⟩
  replace hX := hX.keep hK
  replace hB := more hB hK
  clear hK x0 x1 x2 x3 x4 x5 x6
  rcases hq with ⟨hno, rfl⟩ | ⟨hmod, rfl⟩
  · clear hno
    go_wp2_with fail
    go_ret
    exact ⟨rfl, hB⟩
  have hmod' : Mod M := Classical.not_not.1 hmod
  clear hmod
  have hlM : M.rows.length ≤ 1000 := by have := hmod'.r; omega
  have x0 := hX.cell 0
  have x1 := hX.cell 1
  have x2 := hX.cell 2
  have x3 := hX.cell 3
  have x4 := hX.cell 4
  have x5 := hX.cell 5
  have x6 := hX.cell 6
  simp at x0 x1 x2 x3 x4 x5 x6
  go_wp2_with fail
  refine (check_is (hM.keep hB) hlM).mono ?_
  rintro e w4 ⟨hq, hK⟩
  replace hX := hX.keep hK
  replace hB := more hB hK
  clear hK x0 x1 x2 x3 x4 x5 x6
  rcases hq with ⟨hok, rfl⟩ | ⟨hno, rfl⟩
  case inr =>
    clear hno
    go_wp2_with fail
    go_ret
    exact ⟨rfl, hB⟩
  obtain ⟨n, hn⟩ : ∃ n : Nat, M.n = n := ⟨M.n.toNat, by have := hok.n; omega⟩
  have hn1 : 1 ≤ n := by have := hok.n; omega
  have hn2 : n ≤ 6 := by have := hok.n; omega
  obtain ⟨la, hla⟩ : ∃ la, M.A.length = la := ⟨_, rfl⟩
  have hmm2 : (n : Int) * (n : Int) = (la : Int) := by have := hok.a.2; rw [hla, hn] at this; exact this.symm
  have hmm : n * n = la := by exact_mod_cast hmm2
  have hmm3 : la ≤ 36 := by
    rw [← hmm]
    have := Nat.mul_le_mul hn2 hn2
    omega
  have hbad := hok.a.1
  rw [hn] at hbad
  have HBAD := Lib.hid hbad
  have HMM := Lib.hid hmm
  have HLA := Lib.hid hla
  rw [hn, hla] at hX
  simp only [hn, hla]
  clear hbad hok hn hla hmm hQ hR hM hmod' hlM
  have x0 := hX.cell 0
  have x1 := hX.cell 1
  simp at x0 x1
  have hsz := hB.size
  have hlaz : ¬ (la : Int) = 0 := by
    intro h
    have := Int.mul_pos (show (0 : Int) < n by omega) (show (0 : Int) < n by omega)
    omega
  go_wp2_with (at_make; refine make_bools _ rfl _ _ rfl la rfl rfl (by omega) ?_)
  intro w5 hb5 hK5
  have hS5 : SM1 w #[Value.int .i64 n, .slice aA la cA, .slice aQ M.Q.length cQ, .int .i64 M.tick, .int .i64 M.gate, .int .i64 M.rmin, .slice aR M.rows.length cR] w4.heap.size la (fun _ => false) w5 := ⟨hX.keep hK5, hb5, more hB hK5, hsz⟩
  clear hb5 hK5 hX hB x0 x1
  go_wp2_with fail
  go_loopw [5] (fun iv wr => ∃ (i : Nat) (l : Nat → Bool), i ≤ n ∧ iv = .int .i64 i ∧ Hid (Upr n 0 l) ∧ SM1 w #[Value.int .i64 n, .slice aA la cA, .slice aQ M.Q.length cQ, .int .i64 M.tick, .int .i64 M.gate, .int .i64 M.rmin, .slice aR M.rows.length cR] w4.heap.size la l wr) (fun iv _ => n - (intOf iv).toNat)
  case atStart => exact ⟨0, _, Nat.zero_le _, rfl, Upr.none _ _, hS5⟩
  case round =>
    clear hS5
    obtain ⟨i, l, hi, rfl, hU, hS⟩ := hrel
    have x0 := hS.bx.cell 0
    have x1 := hS.bx.cell 1
    simp at x0 x1
    by_cases hil : i < n
    · have hil' : (i : Int) < (n : Int) := by omega
      have hi0 : (0 : Int) ≤ (i : Int) := by omega
      obtain ⟨_, _, e3, e4⟩ := idx_of hn1 hn2 hil hil
      rw [HMM.out] at e3
      obtain ⟨p, hp⟩ : ∃ p, i * n = p := ⟨_, rfl⟩
      have hpm : (i : Int) * (n : Int) = (p : Int) := by rw [← hp]; simp
      have HU := Lib.hid (show Upr n 0 (fun j => if j = p + i then true else l j) by rw [← hp]; exact hU.out.set hil true (fun _ => by omega))
      rw [hp] at e3 e4
      clear hp
      obtain ⟨q, hq⟩ : ∃ q, p + i = q := ⟨_, rfl⟩
      rw [hq] at e3 HU
      have hpk : (p : Int) + (i : Int) = (q : Int) := by omega
      have q2 : (q : Int) < (la : Int) := by omega
      have q0 : (0 : Int) ≤ (q : Int) := by omega
      have c1 := (hS.b1.cell q).trans (bools_at la l q e3)
      have f1 := hS.b1.frozen q
      have HS := Lib.hid (hS.set q true)
      clear hq hS
      go_wp2_with fail
      go_roundw
      case rel => exact ⟨i + 1, _, by omega, by go_num, HU.out, HS.out⟩
      case measure => simp [intOf]; omega
    · have hgi : ¬ (i : Int) < (n : Int) := by omega
      go_wp2_with fail
      clear x0 x1 hgi hi hil
      go_loopw [4, 6] (fun lv tv w5 => ∃ (t g : Nat) (l : Nat → Bool), t ≤ n ∧ .slice (some ⟨g, 0, none⟩) la la = lv ∧ tv = .int .i64 t ∧ Hid (Upr n t l) ∧ SM1 w #[Value.int .i64 n, .slice aA la cA, .slice aQ M.Q.length cQ, .int .i64 M.tick, .int .i64 M.gate, .int .i64 M.rmin, .slice aR M.rows.length cR] g la l w5) (fun _ tv _ => n - (intOf tv).toNat)
      case atStart => exact ⟨0, _, l, Nat.zero_le _, rfl, rfl, hU, hS⟩
      case round =>
        clear hS hU
        obtain ⟨t, g, l, ht, rfl, rfl, hU, hS⟩ := hrel
        have x0 := hS.bx.cell 0
        have x1 := hS.bx.cell 1
        simp at x0 x1
        by_cases htl : t < n
        · have htl' : (t : Int) < (n : Int) := by omega
          have ht0 : (0 : Int) ≤ (t : Int) := by omega
          have hlo := hS.bel.size
          have hgl := hS.b1.lt
          go_wp2_with (at_make; refine make_bools _ rfl _ _ rfl la rfl rfl (by omega) ?_)
          intro w6 hb6 hK6
          obtain ⟨g2, hg2⟩ : ∃ g2, wr.heap.size = g2 := ⟨_, rfl⟩
          rw [hg2] at hb6
          simp only [hg2]
          have hS6 : SM2 w #[Value.int .i64 n, .slice aA la cA, .slice aQ M.Q.length cQ, .int .i64 M.tick, .int .i64 M.gate, .int .i64 M.rmin, .slice aR M.rows.length cR] g g2 la l (fun _ => false) w6 := ⟨hS.keep hK6, hb6, by omega, by omega⟩
          clear hb6 hK6 hg2 hS x0 x1
          go_wp2_with fail
          clear hlo hgl
          go_loopw [8] (fun iv w7 => ∃ (i : Nat) (nx : Nat → Bool), i ≤ n ∧ iv = .int .i64 i ∧ Hid (Upr n (t + 1) nx) ∧ SM2 w #[Value.int .i64 n, .slice aA la cA, .slice aQ M.Q.length cQ, .int .i64 M.tick, .int .i64 M.gate, .int .i64 M.rmin, .slice aR M.rows.length cR] g g2 la l nx w7) (fun iv _ => n - (intOf iv).toNat)
          case atStart => exact ⟨0, _, Nat.zero_le _, rfl, Upr.none _ _, hS6⟩
          case round =>
            clear hS6
            obtain ⟨i, nx, hi, rfl, hV, hS⟩ := hrel
            have x0 := hS.s1.bx.cell 0
            simp at x0
            by_cases hil : i < n
            · have hil' : (i : Int) < (n : Int) := by omega
              have hi0 : (0 : Int) ≤ (i : Int) := by omega
              go_wp2_with fail
              clear x0
              go_loopw [9] (fun kv w8 => ∃ (k : Nat) (nx : Nat → Bool), k ≤ n ∧ kv = .int .i64 k ∧ Hid (Upr n (t + 1) nx) ∧ SM2 w #[Value.int .i64 n, .slice aA la cA, .slice aQ M.Q.length cQ, .int .i64 M.tick, .int .i64 M.gate, .int .i64 M.rmin, .slice aR M.rows.length cR] g g2 la l nx w8) (fun kv _ => n - (intOf kv).toNat)
              case atStart => exact ⟨0, nx, Nat.zero_le _, rfl, hV, hS⟩
              case round =>
                clear hS hV
                obtain ⟨k, nx, hk, rfl, hV, hS⟩ := hrel
                have x0 := hS.s1.bx.cell 0
                simp at x0
                by_cases hkl : k < n
                · have hkl' : (k : Int) < (n : Int) := by omega
                  have hk0 : (0 : Int) ≤ (k : Int) := by omega
                  obtain ⟨_, _, e3, e4⟩ := idx_of hn1 hn2 hil hkl
                  rw [HMM.out] at e3
                  obtain ⟨p, hp⟩ : ∃ p, i * n = p := ⟨_, rfl⟩
                  have hpm : (i : Int) * (n : Int) = (p : Int) := by rw [← hp]; simp
                  rw [hp] at e3 e4
                  have HP := Lib.hid hp
                  clear hp
                  obtain ⟨q, hq⟩ : ∃ q, p + k = q := ⟨_, rfl⟩
                  rw [hq] at e3
                  have hpk : (p : Int) + (k : Int) = (q : Int) := by omega
                  have q2 : (q : Int) < (la : Int) := by omega
                  have q0 : (0 : Int) ≤ (q : Int) := by omega
                  have HUQ := Lib.hid (show l q = true → i + t ≤ k by rw [← hq, ← HP.out]; exact hU.out i k hil hkl)
                  clear hq
                  go_wp2_with fail
                  clear x0
                  go_loopw [10] (fun jv w9 => ∃ (j : Nat) (nx : Nat → Bool), j ≤ n ∧ jv = .int .i64 j ∧ Hid (Upr n (t + 1) nx) ∧ SM2 w #[Value.int .i64 n, .slice aA la cA, .slice aQ M.Q.length cQ, .int .i64 M.tick, .int .i64 M.gate, .int .i64 M.rmin, .slice aR M.rows.length cR] g g2 la l nx w9) (fun jv _ => n - (intOf jv).toNat)
                  case atStart => exact ⟨0, nx, Nat.zero_le _, rfl, hV, hS⟩
                  case round =>
                    clear hS hV
                    obtain ⟨j, nx, hj, rfl, hV, hS⟩ := hrel
                    have x0 := hS.s1.bx.cell 0
                    have x1 := hS.s1.bx.cell 1
                    simp at x0 x1
                    have c1 := (hS.s1.b1.cell q).trans (bools_at la l q e3)
                    cases hlq : l q with
                    | false =>
                      rw [hlq] at c1
                      clear hlq
                      go_wp2_with fail
                      go_roundw
                      case rel => exact ⟨k + 1, nx, by omega, by go_num, hV, hS⟩
                      case measure => simp [intOf]; omega
                    | true =>
                      rw [hlq] at c1
                      have hik := HUQ.out hlq
                      clear hlq
                      by_cases hjl : j < n
                      · have hjl' : (j : Int) < (n : Int) := by omega
                        have hj0 : (0 : Int) ≤ (j : Int) := by omega
                        obtain ⟨_, _, f3, f4⟩ := idx_of hn1 hn2 hil hjl
                        obtain ⟨g1, g2', g3, g4⟩ := idx_of hn1 hn2 hkl hjl
                        rw [HP.out, HMM.out] at f3
                        rw [HMM.out] at g3
                        have hbd := HBAD.out (k * n + j)
                        obtain ⟨p2, hp2⟩ : ∃ p, k * n = p := ⟨_, rfl⟩
                        have hpm2 : (k : Int) * (n : Int) = (p2 : Int) := by rw [← hp2]; simp
                        rw [hp2] at g1 g2' g3 g4 hbd
                        clear hp2
                        obtain ⟨r1, hr1⟩ : ∃ q, p + j = q := ⟨_, rfl⟩
                        obtain ⟨r2, hr2⟩ : ∃ q, p2 + j = q := ⟨_, rfl⟩
                        rw [hr1] at f3
                        rw [hr2] at g1 g2' g3 hbd
                        have hpk1 : (p : Int) + (j : Int) = (r1 : Int) := by omega
                        have hpk2 : (p2 : Int) + (j : Int) = (r2 : Int) := by omega
                        have hVr := Lib.hid (show nx r1 = true → i + (t + 1) ≤ j by rw [← hr1, ← HP.out]; exact hV.out i j hil hjl)
                        have hVs := Lib.hid (fun (v : Bool) (hv : v = true → i + (t + 1) ≤ j) => show Upr n (t + 1) (fun z => if z = r1 then v else nx z) by rw [← hr1, ← HP.out]; exact hV.out.set hjl v hv)
                        clear hr1 hr2
                        obtain ⟨xa, rfl, hcA, hrA⟩ := (hA.keep hS.s1.bel).atD r2 (by rw [HLA.out]; exact g3)
                        have hbz : M.A.getD r2 0 ≠ 0 → k < j := fun h => by
                          refine Classical.byContradiction fun hjk => hbd ⟨by rw [HLA.out]; exact g3, ?_, .inl ?_⟩
                          · rw [getD_at]; exact h
                          · rw [g1, g2']; omega
                        have HBZ := Lib.hid hbz
                        generalize M.A.getD r2 0 = d at *
                        obtain ⟨nxv, hnx⟩ : ∃ z, nx r1 = z := ⟨_, rfl⟩
                        have hNX := Lib.hid hnx
                        obtain ⟨dz, hdz⟩ : ∃ z, (d != 0) = z := ⟨_, rfl⟩
                        have hDZ := Lib.hid hdz
                        have wa1 : IntKind.i64.wrap (p : Int) = (p : Int) := IntWalk.i64_in _ (by omega)
                        have wa2 : IntKind.i64.wrap (p2 : Int) = (p2 : Int) := IntWalk.i64_in _ (by omega)
                        have wa3 : IntKind.i64.wrap (r1 : Int) = (r1 : Int) := IntWalk.i64_in _ (by omega)
                        have wa4 : IntKind.i64.wrap (r2 : Int) = (r2 : Int) := IntWalk.i64_in _ (by omega)
                        have r10 : (0 : Int) ≤ (r1 : Int) := by omega
                        have r11 : (r1 : Int) < (la : Int) := by omega
                        have r20 : (0 : Int) ≤ (r2 : Int) := by omega
                        have r21 : (r2 : Int) < (la : Int) := by omega
                        have HV := Lib.hid (hVs.out (nxv || dz) (fun h => by
                          cases hn : nxv with
                          | true => rw [hn] at hnx; exact hVr.out hnx
                          | false =>
                            rw [hn] at h
                            have hd : d ≠ 0 := by
                              have : (d != 0) = true := hdz.trans (by simpa using h)
                              exact bne_iff_ne.1 this
                            have := HBZ.out hd
                            omega))
                        have hSR : SR w wr #[Value.int .i64 n, .slice (some xa) la cA, .slice aQ M.Q.length cQ, .int .i64 M.tick, .int .i64 M.gate, .int .i64 M.rmin, .slice aR M.rows.length cR] g g2 la l nx xa r1 r2 d wr := ⟨hS, hcA⟩
                        have hSR0 := hSR.keep (below_drewN wr 1)
                        clear hbz hbd g1 g2' hrA hS hV hSR hcA x1 hnx hdz
                        go_wp2_with fail
                        refine region_grows 30 (fun i => [102, 103, 104, 105, 106, 107, 108, 109, 110, 111, 112, 113, 114, 115, 116, 117, 118, 119, 120, 121, 122, 123, 124, 125, 126, 127, 128, 129, 130, 131].getD i 0) (fun zz yy _ => yy = ([Value.slice (some { block := g2, off := 0 }) la la, Value.int IntKind.i64 ↑i, Value.pointer (some { block := w.heap.size, off := 0 }), Value.int IntKind.i64 ↑n, Value.int IntKind.i64 ↑p, Value.int IntKind.i64 ↑j, Value.int IntKind.i64 ↑r1, Value.slice (some { block := g2, off := 0 }) la la, Value.int IntKind.i64 ↑i, Value.pointer (some { block := w.heap.size, off := 0 }), Value.int IntKind.i64 ↑n, Value.int IntKind.i64 ↑p, Value.int IntKind.i64 ↑j, Value.int IntKind.i64 ↑r1, Value.pointer (some { block := g2, off := r1 }), Value.bool nxv, Value.bool nxv, (if nxv = true then undef else Value.pointer (some { block := w.heap.size, off := 1 })), (if nxv = true then undef else Value.slice (some xa) la cA), (if nxv = true then undef else Value.int IntKind.i64 ↑k), (if nxv = true then undef else Value.pointer (some { block := w.heap.size, off := 0 })), (if nxv = true then undef else Value.int IntKind.i64 ↑n), (if nxv = true then undef else Value.int IntKind.i64 ↑p2), (if nxv = true then undef else Value.int IntKind.i64 ↑j), (if nxv = true then undef else Value.int IntKind.i64 ↑r2), (if nxv = true then undef else Value.pointer (some (xa.add r2))), (if nxv = true then undef else Value.int IntKind.i64 d), (if nxv = true then undef else Value.bool dz), Value.bool (nxv || dz), Value.pointer (some { block := g2, off := r1 })] : List Value).getD zz undef) (SR w wr #[Value.int .i64 n, .slice (some xa) la cA, .slice aQ M.Q.length cQ, .int .i64 M.tick, .int .i64 M.gate, .int .i64 M.rmin, .slice aR M.rows.length cR] g g2 la l nx xa r1 r2 d)
                          (by kernel_rfl) (by kernel_rfl) (by kernel_rfl) (by kernel_rfl) (by kernel_rfl) (by kernel_rfl) (fun _ _ _ _ h _ => h) (fun W W' h hb => h.keep hb) hSR0 ?_ ?_
                        · clear c1 x0
                          intro ii hii b' W hSW he hF K hK
                          have hcs : ii = 0 ∨ ii = 1 ∨ ii = 2 ∨ ii = 3 ∨ ii = 4 ∨ ii = 5 ∨ ii = 6 ∨ ii = 7 ∨ ii = 8 ∨ ii = 9 ∨ ii = 10 ∨ ii = 11 ∨ ii = 12 ∨ ii = 13 ∨ ii = 14 ∨ ii = 15 ∨ ii = 16 ∨ ii = 17 ∨ ii = 18 ∨ ii = 19 ∨ ii = 20 ∨ ii = 21 ∨ ii = 22 ∨ ii = 23 ∨ ii = 24 ∨ ii = 25 ∨ ii = 26 ∨ ii = 27 ∨ ii = 28 ∨ ii = 29 := by omega
                          rcases hcs with rfl | rfl | rfl | rfl | rfl | rfl | rfl | rfl | rfl | rfl | rfl | rfl | rfl | rfl | rfl | rfl | rfl | rfl | rfl | rfl | rfl | rfl | rfl | rfl | rfl | rfl | rfl | rfl | rfl | rfl
                          · refine wpOp_go rfl rfl ?_
                            have h7 : b'.tmps[7]?.getD undef = Value.slice (some { block := g2, off := 0 }) la la := he 7 (by kernel_rfl)
                            have HK := Lib.hid hK
                            clear hK he hF
                            obtain ⟨x0, x1, c2, hcA⟩ := hSW.cells f3 hNX.out
                            go_simp
                            exact HK.out _ _ rfl (Below.refl _ _)
                          · refine wpOp_go rfl rfl ?_
                            have h8 : b'.tmps[8]?.getD undef = Value.int IntKind.i64 ↑i := he 8 (by kernel_rfl)
                            have HK := Lib.hid hK
                            clear hK he hF
                            obtain ⟨x0, x1, c2, hcA⟩ := hSW.cells f3 hNX.out
                            go_simp
                            exact HK.out _ _ rfl (Below.refl _ _)
                          · refine wpOp_go rfl rfl ?_
                            have h1 : b'.tmps[1]?.getD undef = Value.pointer (some { block := w.heap.size, off := 0 }) := he 1 (by kernel_rfl)
                            have HK := Lib.hid hK
                            clear hK he hF
                            obtain ⟨x0, x1, c2, hcA⟩ := hSW.cells f3 hNX.out
                            go_simp
                            exact HK.out _ _ rfl (Below.refl _ _)
                          · refine wpOp_go rfl rfl ?_
                            have h104 : b'.tmps[104]?.getD undef = Value.pointer (some { block := w.heap.size, off := 0 }) := hF 2 (by kernel_rfl)
                            have HK := Lib.hid hK
                            clear hK he hF
                            obtain ⟨x0, x1, c2, hcA⟩ := hSW.cells f3 hNX.out
                            go_simp
                            exact HK.out _ _ rfl (Below.refl _ _)
                          · refine wpOp_go rfl rfl ?_
                            have h103 : b'.tmps[103]?.getD undef = Value.int IntKind.i64 ↑i := hF 1 (by kernel_rfl)
                            have h105 : b'.tmps[105]?.getD undef = Value.int IntKind.i64 ↑n := hF 3 (by kernel_rfl)
                            have HK := Lib.hid hK
                            clear hK he hF
                            obtain ⟨x0, x1, c2, hcA⟩ := hSW.cells f3 hNX.out
                            go_simp
                            exact HK.out _ _ rfl (Below.refl _ _)
                          · refine wpOp_go rfl rfl ?_
                            have h10 : b'.tmps[10]?.getD undef = Value.int IntKind.i64 ↑j := he 10 (by kernel_rfl)
                            have HK := Lib.hid hK
                            clear hK he hF
                            obtain ⟨x0, x1, c2, hcA⟩ := hSW.cells f3 hNX.out
                            go_simp
                            exact HK.out _ _ rfl (Below.refl _ _)
                          · refine wpOp_go rfl rfl ?_
                            have h106 : b'.tmps[106]?.getD undef = Value.int IntKind.i64 ↑p := hF 4 (by kernel_rfl)
                            have h107 : b'.tmps[107]?.getD undef = Value.int IntKind.i64 ↑j := hF 5 (by kernel_rfl)
                            have HK := Lib.hid hK
                            clear hK he hF
                            obtain ⟨x0, x1, c2, hcA⟩ := hSW.cells f3 hNX.out
                            go_simp
                            exact HK.out _ _ rfl (Below.refl _ _)
                          · refine wpOp_go rfl rfl ?_
                            have h7 : b'.tmps[7]?.getD undef = Value.slice (some { block := g2, off := 0 }) la la := he 7 (by kernel_rfl)
                            have HK := Lib.hid hK
                            clear hK he hF
                            obtain ⟨x0, x1, c2, hcA⟩ := hSW.cells f3 hNX.out
                            go_simp
                            exact HK.out _ _ rfl (Below.refl _ _)
                          · refine wpOp_go rfl rfl ?_
                            have h8 : b'.tmps[8]?.getD undef = Value.int IntKind.i64 ↑i := he 8 (by kernel_rfl)
                            have HK := Lib.hid hK
                            clear hK he hF
                            obtain ⟨x0, x1, c2, hcA⟩ := hSW.cells f3 hNX.out
                            go_simp
                            exact HK.out _ _ rfl (Below.refl _ _)
                          · refine wpOp_go rfl rfl ?_
                            have h1 : b'.tmps[1]?.getD undef = Value.pointer (some { block := w.heap.size, off := 0 }) := he 1 (by kernel_rfl)
                            have HK := Lib.hid hK
                            clear hK he hF
                            obtain ⟨x0, x1, c2, hcA⟩ := hSW.cells f3 hNX.out
                            go_simp
                            exact HK.out _ _ rfl (Below.refl _ _)
                          · refine wpOp_go rfl rfl ?_
                            have h111 : b'.tmps[111]?.getD undef = Value.pointer (some { block := w.heap.size, off := 0 }) := hF 9 (by kernel_rfl)
                            have HK := Lib.hid hK
                            clear hK he hF
                            obtain ⟨x0, x1, c2, hcA⟩ := hSW.cells f3 hNX.out
                            go_simp
                            exact HK.out _ _ rfl (Below.refl _ _)
                          · refine wpOp_go rfl rfl ?_
                            have h110 : b'.tmps[110]?.getD undef = Value.int IntKind.i64 ↑i := hF 8 (by kernel_rfl)
                            have h112 : b'.tmps[112]?.getD undef = Value.int IntKind.i64 ↑n := hF 10 (by kernel_rfl)
                            have HK := Lib.hid hK
                            clear hK he hF
                            obtain ⟨x0, x1, c2, hcA⟩ := hSW.cells f3 hNX.out
                            go_simp
                            exact HK.out _ _ rfl (Below.refl _ _)
                          · refine wpOp_go rfl rfl ?_
                            have h10 : b'.tmps[10]?.getD undef = Value.int IntKind.i64 ↑j := he 10 (by kernel_rfl)
                            have HK := Lib.hid hK
                            clear hK he hF
                            obtain ⟨x0, x1, c2, hcA⟩ := hSW.cells f3 hNX.out
                            go_simp
                            exact HK.out _ _ rfl (Below.refl _ _)
                          · refine wpOp_go rfl rfl ?_
                            have h113 : b'.tmps[113]?.getD undef = Value.int IntKind.i64 ↑p := hF 11 (by kernel_rfl)
                            have h114 : b'.tmps[114]?.getD undef = Value.int IntKind.i64 ↑j := hF 12 (by kernel_rfl)
                            have HK := Lib.hid hK
                            clear hK he hF
                            obtain ⟨x0, x1, c2, hcA⟩ := hSW.cells f3 hNX.out
                            go_simp
                            exact HK.out _ _ rfl (Below.refl _ _)
                          · refine wpOp_go rfl rfl ?_
                            have h109 : b'.tmps[109]?.getD undef = Value.slice (some { block := g2, off := 0 }) la la := hF 7 (by kernel_rfl)
                            have h115 : b'.tmps[115]?.getD undef = Value.int IntKind.i64 ↑r1 := hF 13 (by kernel_rfl)
                            have HK := Lib.hid hK
                            clear hK he hF
                            obtain ⟨x0, x1, c2, hcA⟩ := hSW.cells f3 hNX.out
                            go_simp
                            exact HK.out _ _ rfl (Below.refl _ _)
                          · refine wpOp_go rfl rfl ?_
                            have h116 : b'.tmps[116]?.getD undef = Value.pointer (some { block := g2, off := r1 }) := hF 14 (by kernel_rfl)
                            have HK := Lib.hid hK
                            clear hK he hF
                            obtain ⟨x0, x1, c2, hcA⟩ := hSW.cells f3 hNX.out
                            go_simp
                            exact HK.out _ _ rfl (Below.refl _ _)
                          · refine wpOp_go rfl rfl ?_
                            have h117 : b'.tmps[117]?.getD undef = Value.bool nxv := hF 15 (by kernel_rfl)
                            have HK := Lib.hid hK
                            clear hK he hF
                            obtain ⟨x0, x1, c2, hcA⟩ := hSW.cells f3 hNX.out
                            go_simp
                            exact HK.out _ _ rfl (Below.refl _ _)
                          · have hg118 : b'.tmps[118]?.getD undef = Value.bool nxv := hF 16 (by kernel_rfl)
                            have h1 : b'.tmps[1]?.getD undef = Value.pointer (some { block := w.heap.size, off := 0 }) := he 1 (by kernel_rfl)
                            refine wpOp_guard (dg := 118) rfl rfl rfl rfl hg118 ?_
                            cases nxv with
                            | true =>
                              rw [if_neg (by decide)]
                              exact hK _ _ rfl (Below.refl _ _)
                            | false =>
                              rw [if_pos rfl]
                              simp only [Bool.false_eq_true, if_false] at *
                              have HK := Lib.hid hK
                              clear hK he hF
                              obtain ⟨x0, x1, c2, hcA⟩ := hSW.cells f3 hNX.out
                              go_simp
                              exact HK.out _ _ rfl (Below.refl _ _)
                          · have hg118 : b'.tmps[118]?.getD undef = Value.bool nxv := hF 16 (by kernel_rfl)
                            have h119 : b'.tmps[119]?.getD undef = (if nxv = true then undef else Value.pointer (some { block := w.heap.size, off := 1 })) := hF 17 (by kernel_rfl)
                            refine wpOp_guard (dg := 118) rfl rfl rfl rfl hg118 ?_
                            cases nxv with
                            | true =>
                              rw [if_neg (by decide)]
                              exact hK _ _ rfl (Below.refl _ _)
                            | false =>
                              rw [if_pos rfl]
                              simp only [Bool.false_eq_true, if_false] at *
                              have HK := Lib.hid hK
                              clear hK he hF
                              obtain ⟨x0, x1, c2, hcA⟩ := hSW.cells f3 hNX.out
                              go_simp
                              exact HK.out _ _ rfl (Below.refl _ _)
                          · have hg118 : b'.tmps[118]?.getD undef = Value.bool nxv := hF 16 (by kernel_rfl)
                            have h9 : b'.tmps[9]?.getD undef = Value.int IntKind.i64 ↑k := he 9 (by kernel_rfl)
                            refine wpOp_guard (dg := 118) rfl rfl rfl rfl hg118 ?_
                            cases nxv with
                            | true =>
                              rw [if_neg (by decide)]
                              exact hK _ _ rfl (Below.refl _ _)
                            | false =>
                              rw [if_pos rfl]
                              simp only [Bool.false_eq_true, if_false] at *
                              have HK := Lib.hid hK
                              clear hK he hF
                              obtain ⟨x0, x1, c2, hcA⟩ := hSW.cells f3 hNX.out
                              go_simp
                              exact HK.out _ _ rfl (Below.refl _ _)
                          · have hg118 : b'.tmps[118]?.getD undef = Value.bool nxv := hF 16 (by kernel_rfl)
                            have h1 : b'.tmps[1]?.getD undef = Value.pointer (some { block := w.heap.size, off := 0 }) := he 1 (by kernel_rfl)
                            refine wpOp_guard (dg := 118) rfl rfl rfl rfl hg118 ?_
                            cases nxv with
                            | true =>
                              rw [if_neg (by decide)]
                              exact hK _ _ rfl (Below.refl _ _)
                            | false =>
                              rw [if_pos rfl]
                              simp only [Bool.false_eq_true, if_false] at *
                              have HK := Lib.hid hK
                              clear hK he hF
                              obtain ⟨x0, x1, c2, hcA⟩ := hSW.cells f3 hNX.out
                              go_simp
                              exact HK.out _ _ rfl (Below.refl _ _)
                          · have hg118 : b'.tmps[118]?.getD undef = Value.bool nxv := hF 16 (by kernel_rfl)
                            have h122 : b'.tmps[122]?.getD undef = (if nxv = true then undef else Value.pointer (some { block := w.heap.size, off := 0 })) := hF 20 (by kernel_rfl)
                            refine wpOp_guard (dg := 118) rfl rfl rfl rfl hg118 ?_
                            cases nxv with
                            | true =>
                              rw [if_neg (by decide)]
                              exact hK _ _ rfl (Below.refl _ _)
                            | false =>
                              rw [if_pos rfl]
                              simp only [Bool.false_eq_true, if_false] at *
                              have HK := Lib.hid hK
                              clear hK he hF
                              obtain ⟨x0, x1, c2, hcA⟩ := hSW.cells f3 hNX.out
                              go_simp
                              exact HK.out _ _ rfl (Below.refl _ _)
                          · have hg118 : b'.tmps[118]?.getD undef = Value.bool nxv := hF 16 (by kernel_rfl)
                            have h121 : b'.tmps[121]?.getD undef = (if nxv = true then undef else Value.int IntKind.i64 ↑k) := hF 19 (by kernel_rfl)
                            have h123 : b'.tmps[123]?.getD undef = (if nxv = true then undef else Value.int IntKind.i64 ↑n) := hF 21 (by kernel_rfl)
                            refine wpOp_guard (dg := 118) rfl rfl rfl rfl hg118 ?_
                            cases nxv with
                            | true =>
                              rw [if_neg (by decide)]
                              exact hK _ _ rfl (Below.refl _ _)
                            | false =>
                              rw [if_pos rfl]
                              simp only [Bool.false_eq_true, if_false] at *
                              have HK := Lib.hid hK
                              clear hK he hF
                              obtain ⟨x0, x1, c2, hcA⟩ := hSW.cells f3 hNX.out
                              go_simp
                              exact HK.out _ _ rfl (Below.refl _ _)
                          · have hg118 : b'.tmps[118]?.getD undef = Value.bool nxv := hF 16 (by kernel_rfl)
                            have h10 : b'.tmps[10]?.getD undef = Value.int IntKind.i64 ↑j := he 10 (by kernel_rfl)
                            refine wpOp_guard (dg := 118) rfl rfl rfl rfl hg118 ?_
                            cases nxv with
                            | true =>
                              rw [if_neg (by decide)]
                              exact hK _ _ rfl (Below.refl _ _)
                            | false =>
                              rw [if_pos rfl]
                              simp only [Bool.false_eq_true, if_false] at *
                              have HK := Lib.hid hK
                              clear hK he hF
                              obtain ⟨x0, x1, c2, hcA⟩ := hSW.cells f3 hNX.out
                              go_simp
                              exact HK.out _ _ rfl (Below.refl _ _)
                          · have hg118 : b'.tmps[118]?.getD undef = Value.bool nxv := hF 16 (by kernel_rfl)
                            have h124 : b'.tmps[124]?.getD undef = (if nxv = true then undef else Value.int IntKind.i64 ↑p2) := hF 22 (by kernel_rfl)
                            have h125 : b'.tmps[125]?.getD undef = (if nxv = true then undef else Value.int IntKind.i64 ↑j) := hF 23 (by kernel_rfl)
                            refine wpOp_guard (dg := 118) rfl rfl rfl rfl hg118 ?_
                            cases nxv with
                            | true =>
                              rw [if_neg (by decide)]
                              exact hK _ _ rfl (Below.refl _ _)
                            | false =>
                              rw [if_pos rfl]
                              simp only [Bool.false_eq_true, if_false] at *
                              have HK := Lib.hid hK
                              clear hK he hF
                              obtain ⟨x0, x1, c2, hcA⟩ := hSW.cells f3 hNX.out
                              go_simp
                              exact HK.out _ _ rfl (Below.refl _ _)
                          · have hg118 : b'.tmps[118]?.getD undef = Value.bool nxv := hF 16 (by kernel_rfl)
                            have h120 : b'.tmps[120]?.getD undef = (if nxv = true then undef else Value.slice (some xa) la cA) := hF 18 (by kernel_rfl)
                            have h126 : b'.tmps[126]?.getD undef = (if nxv = true then undef else Value.int IntKind.i64 ↑r2) := hF 24 (by kernel_rfl)
                            refine wpOp_guard (dg := 118) rfl rfl rfl rfl hg118 ?_
                            cases nxv with
                            | true =>
                              rw [if_neg (by decide)]
                              exact hK _ _ rfl (Below.refl _ _)
                            | false =>
                              rw [if_pos rfl]
                              simp only [Bool.false_eq_true, if_false] at *
                              have HK := Lib.hid hK
                              clear hK he hF
                              obtain ⟨x0, x1, c2, hcA⟩ := hSW.cells f3 hNX.out
                              go_simp
                              exact HK.out _ _ rfl (Below.refl _ _)
                          · have hg118 : b'.tmps[118]?.getD undef = Value.bool nxv := hF 16 (by kernel_rfl)
                            have h127 : b'.tmps[127]?.getD undef = (if nxv = true then undef else Value.pointer (some (xa.add r2))) := hF 25 (by kernel_rfl)
                            refine wpOp_guard (dg := 118) rfl rfl rfl rfl hg118 ?_
                            cases nxv with
                            | true =>
                              rw [if_neg (by decide)]
                              exact hK _ _ rfl (Below.refl _ _)
                            | false =>
                              rw [if_pos rfl]
                              simp only [Bool.false_eq_true, if_false] at *
                              have HK := Lib.hid hK
                              clear hK he hF
                              obtain ⟨x0, x1, c2, hcA⟩ := hSW.cells f3 hNX.out
                              go_simp
                              exact HK.out _ _ rfl (Below.refl _ _)
                          · have hg118 : b'.tmps[118]?.getD undef = Value.bool nxv := hF 16 (by kernel_rfl)
                            have h128 : b'.tmps[128]?.getD undef = (if nxv = true then undef else Value.int IntKind.i64 d) := hF 26 (by kernel_rfl)
                            refine wpOp_guard (dg := 118) rfl rfl rfl rfl hg118 ?_
                            cases nxv with
                            | true =>
                              rw [if_neg (by decide)]
                              exact hK _ _ rfl (Below.refl _ _)
                            | false =>
                              rw [if_pos rfl]
                              simp only [Bool.false_eq_true, if_false] at *
                              have HK := Lib.hid hK
                              clear hK he hF
                              obtain ⟨x0, x1, c2, hcA⟩ := hSW.cells f3 hNX.out
                              go_simp
                              rw [hDZ.out]; exact HK.out _ _ rfl (Below.refl _ _)
                          · refine wpOp_go rfl rfl ?_
                            have h118 : b'.tmps[118]?.getD undef = Value.bool nxv := hF 16 (by kernel_rfl)
                            have h129 : b'.tmps[129]?.getD undef = (if nxv = true then undef else Value.bool dz) := hF 27 (by kernel_rfl)
                            have HK := Lib.hid hK
                            clear hK he hF
                            obtain ⟨x0, x1, c2, hcA⟩ := hSW.cells f3 hNX.out
                            go_simp
                            cases nxv <;> exact HK.out _ _ (by rfl) (Below.refl _ _)
                          · refine wpOp_go rfl rfl ?_
                            have h102 : b'.tmps[102]?.getD undef = Value.slice (some { block := g2, off := 0 }) la la := hF 0 (by kernel_rfl)
                            have h108 : b'.tmps[108]?.getD undef = Value.int IntKind.i64 ↑r1 := hF 6 (by kernel_rfl)
                            have HK := Lib.hid hK
                            clear hK he hF
                            obtain ⟨x0, x1, c2, hcA⟩ := hSW.cells f3 hNX.out
                            go_simp
                            exact HK.out _ _ rfl (Below.refl _ _)
                        · intro v W hv hSW
                          have h28 : v 28 = Value.bool (nxv || dz) := hv 28 (by decide)
                          have h29 : v 29 = Value.pointer (some ⟨g2, r1, none⟩) := hv 29 (by decide)
                          clear hv
                          have HSM := Lib.hid (hSW.sm.set r1 (nxv || dz))
                          obtain ⟨y0, y1, y2, y3⟩ := hSW.cells f3 hNX.out
                          have fr2 := hSW.sm.b2.frozen r1
                          simp only [putsL, Act.put, h28, h29]
                          clear h28 h29 c1 x0
                          simp [List.getD]
                          refine wpAny_one (i := 30) (by kernel_rfl) rfl rfl ?_
                          intro K hK
                          have HK := Lib.hid hK
                          clear hK
                          go_simp
                          refine HK.out _ _ ?_
                          refine wpAny_none (by kernel_rfl) ?_
                          clear HK K
                          go_wp2_with fail
                          go_roundw
                          case rel => exact ⟨j + 1, _, by omega, by go_num, HV.out, HSM.out⟩
                          case measure => simp [intOf]; omega
                      · have hgj : ¬ (j : Int) < (n : Int) := by omega
                        go_wp2_with fail
                        go_roundw
                        case rel => exact ⟨k + 1, nx, by omega, by go_num, hV, hS⟩
                        case measure => simp [intOf]; omega
                · have hgk : ¬ (k : Int) < (n : Int) := by omega
                  go_wp2_with fail
                  go_roundw
                  case rel => exact ⟨i + 1, nx, by omega, by go_num, hV, hS⟩
                  case measure => simp [intOf]; omega
            · have hgi : ¬ (i : Int) < (n : Int) := by omega
              go_wp2_with fail
              clear x0
              go_loopw [11] (fun iv w7 => ∃ (i : Nat), i ≤ n ∧ iv = .int .i64 i ∧ SM2 w #[Value.int .i64 n, .slice aA la cA, .slice aQ M.Q.length cQ, .int .i64 M.tick, .int .i64 M.gate, .int .i64 M.rmin, .slice aR M.rows.length cR] g g2 la l nx w7) (fun iv _ => n - (intOf iv).toNat)
              case atStart => exact ⟨0, Nat.zero_le _, rfl, hS⟩
              case round =>
                clear hS hgi hi hil
                obtain ⟨i, hi, rfl, hS⟩ := hrel
                have x0 := hS.s1.bx.cell 0
                simp at x0
                by_cases hil : i < n
                · have hil' : (i : Int) < (n : Int) := by omega
                  have hi0 : (0 : Int) ≤ (i : Int) := by omega
                  obtain ⟨_, _, e3, e4⟩ := idx_of hn1 hn2 hil hil
                  rw [HMM.out] at e3
                  have hno : ¬ nx (i * n + i) = true := fun h => by have := hV.out i i hil hil h; omega
                  obtain ⟨p, hp⟩ : ∃ p, i * n = p := ⟨_, rfl⟩
                  have hpm : (i : Int) * (n : Int) = (p : Int) := by rw [← hp]; simp
                  rw [hp] at e3 e4 hno
                  clear hp
                  obtain ⟨q, hq⟩ : ∃ q, p + i = q := ⟨_, rfl⟩
                  rw [hq] at e3 hno
                  have hpk : (p : Int) + (i : Int) = (q : Int) := by omega
                  have q2 : (q : Int) < (la : Int) := by omega
                  have q0 : (0 : Int) ≤ (q : Int) := by omega
                  have c2 := (hS.b2.cell q).trans (bools_at la nx q e3)
                  rw [Bool.eq_false_iff.2 hno] at c2
                  clear hq hno
                  go_wp2_with fail
                  go_roundw
                  case rel => exact ⟨i + 1, by omega, by go_num, hS⟩
                  case measure => simp [intOf]; omega
                · have hgi : ¬ (i : Int) < (n : Int) := by omega
                  go_wp2_with fail
                  go_roundw
                  case rel => exact ⟨t + 1, g2, nx, by omega, rfl, by go_num, hV, hS.next⟩
                  case measure => simp [intOf]; omega
        · have hgt : ¬ (t : Int) < (n : Int) := by omega
          have htn : t = n := by omega
          subst htn
          have hz : ∀ j, j < la → l j = false := by
            rw [← HMM.out]
            exact idx_all hn1 (fun i k hi hk => Bool.eq_false_iff.2 (fun h => by have := hU.out i k hi hk h; omega))
          have HZ := Lib.hid hz
          clear hz x1
          go_wp2_with fail
          clear x0
          go_loopw [12] (fun iv w7 => ∃ (i : Nat), i ≤ la ∧ iv = .int .i64 i ∧ w7 = wr) (fun iv _ => la - (intOf iv).toNat)
          case atStart => exact ⟨0, Nat.zero_le _, rfl, rfl⟩
          case round =>
            obtain ⟨i, hi, rfl, rfl⟩ := hrel
            by_cases hil : i < la
            · have hil' : (i : Int) < (la : Int) := by omega
              have hi0 : (0 : Int) ≤ (i : Int) := by omega
              have c1 := (hS.b1.cell i).trans (bools_at la l i hil)
              rw [HZ.out i hil] at c1
              go_wp2_with fail
              go_roundw
              case rel => exact ⟨i + 1, by omega, by go_num, by trivial⟩
              case measure => simp [intOf]; omega
            · have hgi : ¬ (i : Int) < (la : Int) := by omega
              go_wp2_with fail
              go_ret
              exact ⟨rfl, hS.bel⟩

end Go.Proofs.Ytagakcnhhhlolaa.Base
