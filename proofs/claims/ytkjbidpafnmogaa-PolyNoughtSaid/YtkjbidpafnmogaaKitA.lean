/- binnaclekit: lists of ints. -/
import Derived.Test.YtkjbidpafnmogaaMem
import Derived.Test.YtkjbidpafnmogaaBlk
import Derived.BigQuiet
import Derived.KernelRfl
import Derived.Deep.QuietTactic
import Derived.WalkLawsBesides
import Derived.Lib.Hide
import Derived.Below
import Derived.OwnWalk
import Derived.Laws.AppendOwn
import Derived.Laws.OwnMore
import Derived.Laws.AppendOwnNone
namespace Go.Proofs.Ytkjbidpafnmogaa.Base
open Go.RowKit
set_option linter.unusedVariables false
set_option linter.unusedSimpArgs false

set_option maxHeartbeats 2000000 in
theorem sameInts_is {B1 B2 : Nat} {W : World} {a b : Option Addr} {c1 c2 : Nat} {zs ys : List Int} (h1 : MI B1 W a c1 zs) (h2 : MI B2 W b c2 ys) :
    Calls Try.prog 31 #[.slice a zs.length c1, .slice b ys.length c2] W fun e w' => e = .returned (.bool (decide (zs = ys))) ∧ ∃ n, w' = W.drewN n := by
  have l1 := h1.len
  have l2 := h2.len
  unfold maxLen at l1 l2
  by_cases hl : zs.length = ys.length
  · obtain ⟨n, hn⟩ : ∃ n, zs.length = n := ⟨_, rfl⟩
    have hn2 : ys.length = n := by omega
    rw [hn, hn2]
    rw [hn] at l1
    clear l2 hl
    go_enter Try.func31, Try.ntmps31
    go_wp2_with fail
    go_loopw [5] (fun i wr => ∃ (k m : Nat), k ≤ n ∧ i = .int .i64 k ∧ Hid (∀ j, j < k → zs[j]? = ys[j]?) ∧ wr = W.drewN m) (fun i _ => n - (intOf i).toNat)
    case atStart => exact ⟨0, 0, Nat.zero_le _, rfl, fun j hj => absurd hj (by omega), rfl⟩
    case round =>
      obtain ⟨k, m, hk, rfl, hS, rfl⟩ := hrel
      by_cases hkl : k < n
      · have hkl' : (k : Int) < (n : Int) := by omega
        have hk0 : (0 : Int) ≤ (k : Int) := by omega
        obtain ⟨x, rfl, hx, hxr⟩ := h1.at k (by omega)
        obtain ⟨y, rfl, hy, hyr⟩ := h2.at k (by omega)
        have hzk : zs[k]? = some zs[k] := by simp
        have hyk : ys[k]? = some ys[k] := by simp
        have HZ := Lib.hid hzk
        have HY := Lib.hid hyk
        clear hzk hyk
        generalize zs[k] = z at *
        generalize ys[k] = u at *
        by_cases hzu : z = u
        · subst hzu
          go_wp2_with fail
          go_quiet (fail)
          go_wp2_with fail
          go_roundw
          case rel =>
            refine ⟨k + 1, m + nq, by omega, by go_num, fun j hj => ?_, by first | rfl | trivial | simp [World.drewN_drewN]⟩
            by_cases e : j = k
            · subst e; rw [HZ.out, HY.out]
            · exact hS.out j (by omega)
          case measure => simp [intOf]; omega
        · go_wp2_with fail
          go_quiet (fail)
          go_wp2_with fail
          go_ret
          refine ⟨?_, m + nq, by first | rfl | trivial | simp [World.drewN_drewN]⟩
          have e : ¬ zs = ys := by
            intro e
            subst e
            have := HZ.out.symm.trans HY.out
            simp at this
            exact hzu this
          rw [decide_eq_false e]
          rfl
      · have hge : ¬ (k : Int) < (n : Int) := by omega
        go_wp2_with fail
        go_ret
        refine ⟨?_, m, rfl⟩
        have e : zs = ys := by
          refine List.ext_getElem? fun j => ?_
          by_cases hj : j < k
          · exact hS.out j hj
          · rw [List.getElem?_eq_none (by omega), List.getElem?_eq_none (by omega)]
        rw [decide_eq_true e]
        rfl
  · have hl' : ¬ (zs.length : Int) = (ys.length : Int) := by omega
    have hd : decide (zs = ys) = false := decide_eq_false (fun e => hl (by rw [e]))
    rw [hd]
    clear hd
    generalize zs.length = n1 at *
    generalize ys.length = n2 at *
    go_enter Try.func31, Try.ntmps31
    go_wp2_with fail
    go_ret
    exact ⟨rfl, 0, rfl⟩

/-- A slice of ints in a row of its own, from its head on; the row is none below block B. -/
structure OI (B : Nat) (W : World) (g cap : Nat) (zs : List Int) : Prop where
  ex : ∃ cur, Blk W g cur 3 ∧ cur.size = cap ∧ ∀ j, (h : j < zs.length) → cur[j]? = some (.int .i64 zs[j])
  rng : ∀ z ∈ zs, I64 z
  fit : zs.length ≤ cap
  len : cap ≤ maxLen
  lo : B ≤ g
theorem OI.mi {B : Nat} {W : World} {g cap : Nat} {zs : List Int} (h : OI B W g cap zs) : MI B W (some ⟨g, 0, none⟩) cap zs := by
  obtain ⟨cur, hb, hs, hc⟩ := h.ex
  refine ⟨fun k hk => ⟨_, rfl, ?_⟩, h.rng, Nat.le_trans h.fit h.len, fun x hx _ => ?_, fun h => (by cases h), h.fit⟩
  · rw [Addr.add_lit, Nat.zero_add, hb.cell, hc k hk]
  · cases hx; exact h.lo
theorem OI.keep {B : Nat} {W W' : World} {g cap : Nat} {zs : List Int} (h : OI B W g cap zs) (hb : Below W.heap.size W W') : OI B W' g cap zs := by
  obtain ⟨cur, hk, hs, hc⟩ := h.ex
  exact ⟨⟨cur, hk.keep hb, hs, hc⟩, h.rng, h.fit, h.len, h.lo⟩
theorem ints_one (zs : List Int) : ∀ u ∈ zs.map (fun z => Value.int .i64 z), u.oneCell' = true := by
  intro u hu
  obtain ⟨z, _, rfl⟩ := List.mem_map.1 hu
  rfl
theorem OI.of_row {B : Nat} {W : World} {v : Value} {g cap n : Nat} {zs : List Int} (h : W.ownsRow B 3 1 (.slice (some ⟨g, 0, none⟩) n cap) n (zs.map fun z => Value.int .i64 z)) (hr : ∀ z ∈ zs, I64 z) : OI B W g cap zs ∧ n = zs.length := by
  obtain ⟨hl, h | ⟨g', cap', cur, hv, hB, hh, hn, hm, hs, ht⟩⟩ := h
  · cases h.1
  · cases hv
    have hln : n = zs.length := by simpa using hl.symm
    refine ⟨⟨⟨cur, hh, by simpa using hs, fun j hj => ?_⟩, hr, by omega, hm, hB⟩, hln⟩
    have := congrArg (fun l => l[j]?) ht
    simp only [List.getElem?_take, show j < n * 1 by omega, if_true, List.getElem?_map] at this
    rw [← Array.getElem?_toList, this]
    simp [List.getElem?_eq_getElem hj]

end Go.Proofs.Ytkjbidpafnmogaa.Base
