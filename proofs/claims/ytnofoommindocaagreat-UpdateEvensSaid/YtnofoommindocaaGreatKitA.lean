/- binnaclekit: lists of ints. -/
import Derived.Test.YtnofoommindocaaGreatMem
import Derived.Test.YtnofoommindocaaGreatBlk
import Derived.BigQuiet
import Derived.KernelRfl
import Derived.Deep.QuietTactic
import Derived.WalkLawsBesides
import Derived.Lib.Hide
import Derived.Below
import Derived.OwnWalk
import Derived.Laws.AppendOwn
import Derived.Laws.OwnMore
import Derived.Laws.AppendOwnNone
namespace Go.Proofs.YtnofoommindocaaGreat.Base
open Go.RowKit
set_option linter.unusedVariables false
set_option linter.unusedSimpArgs false

set_option maxHeartbeats 2000000 in
theorem sameInts_is {B1 B2 : Nat} {W : World} {a b : Option Addr} {c1 c2 : Nat} {zs ys : List Int} (h1 : MI B1 W a c1 zs) (h2 : MI B2 W b c2 ys) :
    Calls Tryz.prog 33 #[.slice a zs.length c1, .slice b ys.length c2] W fun e w' => e = .returned (.bool (decide (zs = ys))) ∧ ∃ n, w' = W.drewN n := by
  have l1 := h1.len
  have l2 := h2.len
  unfold maxLen at l1 l2
  by_cases hl : zs.length = ys.length
  · obtain ⟨n, hn⟩ : ∃ n, zs.length = n := ⟨_, rfl⟩
    have hn2 : ys.length = n := by omega
    rw [hn, hn2]
    rw [hn] at l1
    clear l2 hl
    go_enter Tryz.func33, Tryz.ntmps33
    go_wp2_with fail
    go_loopw [5] (fun i wr => ∃ (k m : Nat), k ≤ n ∧ i = .int .i64 k ∧ Hid (∀ j, j < k → zs[j]? = ys[j]?) ∧ wr = W.drewN m) (fun i _ => n - (intOf i).toNat)
    case atStart => exact ⟨0, 0, Nat.zero_le _, rfl, fun j hj => absurd hj (by omega), rfl⟩
    case round =>
      obtain ⟨k, m, hk, rfl, hS, rfl⟩ := hrel
      by_cases hkl : k < n
      · have hkl' : (k : Int) < (n : Int) := by omega
        have hk0 : (0 : Int) ≤ (k : Int) := by omega
        obtain ⟨x, rfl, hx, hxr⟩ := h1.at k (by omega)
        obtain ⟨y, rfl, hy, hyr⟩ := h2.at k (by omega)
        have hzk : zs[k]? = some zs[k] := by simp
        have hyk : ys[k]? = some ys[k] := by simp
        have HZ := Lib.hid hzk
        have HY := Lib.hid hyk
        clear hzk hyk
        generalize zs[k] = z at *
        generalize ys[k] = u at *
        by_cases hzu : z = u
        · subst hzu
          go_wp2_with fail
          go_quiet (fail)
          go_wp2_with fail
          go_roundw
          case rel =>
            refine ⟨k + 1, m + nq, by omega, by go_num, fun j hj => ?_, by first | rfl | trivial | simp [World.drewN_drewN]⟩
            by_cases e : j = k
            · subst e; rw [HZ.out, HY.out]
            · exact hS.out j (by omega)
          case measure => simp [intOf]; omega
        · go_wp2_with fail
          go_quiet (fail)
          go_wp2_with fail
          go_ret
          refine ⟨?_, m + nq, by first | rfl | trivial | simp [World.drewN_drewN]⟩
          have e : ¬ zs = ys := by
            intro e
            subst e
            have := HZ.out.symm.trans HY.out
            simp at this
            exact hzu this
          rw [decide_eq_false e]
          rfl
      · have hge : ¬ (k : Int) < (n : Int) := by omega
        go_wp2_with fail
        go_ret
        refine ⟨?_, m, rfl⟩
        have e : zs = ys := by
          refine List.ext_getElem? fun j => ?_
          by_cases hj : j < k
          · exact hS.out j hj
          · rw [List.getElem?_eq_none (by omega), List.getElem?_eq_none (by omega)]
        rw [decide_eq_true e]
        rfl
  · have hl' : ¬ (zs.length : Int) = (ys.length : Int) := by omega
    have hd : decide (zs = ys) = false := decide_eq_false (fun e => hl (by rw [e]))
    rw [hd]
    clear hd
    generalize zs.length = n1 at *
    generalize ys.length = n2 at *
    go_enter Tryz.func33, Tryz.ntmps33
    go_wp2_with fail
    go_ret
    exact ⟨rfl, 0, rfl⟩

/-- A slice of ints in a row of its own, from its head on; the row is none below block B. -/
structure OI (B : Nat) (W : World) (g cap : Nat) (zs : List Int) : Prop where
  ex : ∃ cur, Blk W g cur 3 ∧ cur.size = cap ∧ ∀ j, (h : j < zs.length) → cur[j]? = some (.int .i64 zs[j])
  rng : ∀ z ∈ zs, I64 z
  fit : zs.length ≤ cap
  len : cap ≤ maxLen
  lo : B ≤ g
theorem OI.mi {B : Nat} {W : World} {g cap : Nat} {zs : List Int} (h : OI B W g cap zs) : MI B W (some ⟨g, 0, none⟩) cap zs := by
  obtain ⟨cur, hb, hs, hc⟩ := h.ex
  refine ⟨fun k hk => ⟨_, rfl, ?_⟩, h.rng, Nat.le_trans h.fit h.len, fun x hx _ => ?_, fun h => (by cases h), h.fit⟩
  · rw [Addr.add_lit, Nat.zero_add, hb.cell, hc k hk]
  · cases hx; exact h.lo
theorem OI.keep {B : Nat} {W W' : World} {g cap : Nat} {zs : List Int} (h : OI B W g cap zs) (hb : Below W.heap.size W W') : OI B W' g cap zs := by
  obtain ⟨cur, hk, hs, hc⟩ := h.ex
  exact ⟨⟨cur, hk.keep hb, hs, hc⟩, h.rng, h.fit, h.len, h.lo⟩
theorem ints_one (zs : List Int) : ∀ u ∈ zs.map (fun z => Value.int .i64 z), u.oneCell' = true := by
  intro u hu
  obtain ⟨z, _, rfl⟩ := List.mem_map.1 hu
  rfl
theorem OI.of_row {B : Nat} {W : World} {v : Value} {g cap n : Nat} {zs : List Int} (h : W.ownsRow B 3 1 (.slice (some ⟨g, 0, none⟩) n cap) n (zs.map fun z => Value.int .i64 z)) (hr : ∀ z ∈ zs, I64 z) : OI B W g cap zs ∧ n = zs.length := by
  obtain ⟨hl, h | ⟨g', cap', cur, hv, hB, hh, hn, hm, hs, ht⟩⟩ := h
  · cases h.1
  · cases hv
    have hln : n = zs.length := by simpa using hl.symm
    refine ⟨⟨⟨cur, hh, by simpa using hs, fun j hj => ?_⟩, hr, by omega, hm, hB⟩, hln⟩
    have := congrArg (fun l => l[j]?) ht
    simp only [List.getElem?_take, show j < n * 1 by omega, if_true, List.getElem?_map] at this
    rw [← Array.getElem?_toList, this]
    simp [List.getElem?_eq_getElem hj]

set_option maxHeartbeats 1000000 in
theorem copyInts_is {B : Nat} {W : World} {a : Option Addr} {c : Nat} {zs : List Int} (h : MI B W a c zs) (hlen : zs.length ≤ 100000) :
    Calls Tryz.prog 23 #[.slice a zs.length c] W fun e w' => ∃ g cap, e = .returned (.slice (some ⟨g, 0, none⟩) zs.length cap) ∧ OI W.heap.size w' g cap zs ∧ Below W.heap.size W w' := by
  obtain ⟨i0, hi, hz0, hz1, hz2⟩ : ∃ i, Tryz.prog.info? 3 = some i ∧ i.zero = some (.int .i64 0) ∧ i.size = 1 ∧ i.bytes = 8 := info_parts (by kernel_rfl)
  have hE : (W.alloc (.cells #[] 3)).ownsRow W.heap.size 3 1 (.slice (some ⟨W.heap.size, 0, none⟩) 0 0) 0 [] := World.ownsRow_made W #[] 0 (Nat.le_refl _) (by simp [maxLen]) (by simp)
  have hB1 : Below W.heap.size W (W.alloc (.cells #[] 3)) := (Below.refl _ _).alloc (Nat.le_refl _) _
  have h1 := h.keep hB1
  by_cases h0 : zs = []
  · subst h0
    go_enter Tryz.func23, Tryz.ntmps23
    go_wp2_with (at_builtin; refine wpList_append_fits_any _ rfl _ _ 22 rfl W.heap.size 3 i0 1 Tryz.underlying22 hi hz1 W.heap.size 0 0 [] rfl hE a 0 c [] rfl rfl (fun e => ⟨rfl, h.nn e⟩) (by intro ad _ j u hj; simp at hj) (by simp) (by omega) ?_)
    intro w' ho hg
    go_wp2_with fail
    go_ret
    have hw : Below W.heap.size W w' := hB1.trans ⟨hg.os, hg.tape, hg.output, hg.size, fun k hk => hg.block k (by simp; omega) (by simp; omega)⟩
    obtain ⟨hO, hn⟩ := OI.of_row (v := .slice none 0 0) (zs := []) ho (by simp)
    exact ⟨_, _, rfl, hO, hw⟩
  · have hpos : 0 < zs.length := List.length_pos_iff.2 h0
    obtain ⟨ad, rfl, hc0⟩ := h1.cell 0 hpos
    have hn : (zs.map fun z => Value.int .i64 z).length = zs.length * 1 := by simp
    have hcs : ∀ j u, (zs.map fun z => Value.int .i64 z)[j]? = some u → (W.alloc (.cells #[] 3)).cell? (ad.add j) = some u := by
      intro j u hj
      have hjl : j < zs.length := by
        have := (List.getElem?_eq_some_iff.1 hj).1
        simpa using this
      obtain ⟨x, hx, hcx⟩ := h1.cell j hjl
      cases hx
      rw [hcx]
      simp [List.getElem?_eq_getElem hjl] at hj
      rw [hj]
    obtain ⟨n, hnn⟩ : ∃ n, zs.length = n := ⟨_, rfl⟩
    rw [hnn] at hn hlen hpos ⊢
    clear hc0
    have H1 := Lib.hid h1
    clear h1 h
    go_enter Tryz.func23, Tryz.ntmps23
    go_wp2_with (at_builtin; refine wpList_append_own _ rfl _ _ 22 rfl W.heap.size 3 i0 _ 1 8 Tryz.underlying22 hi hz0 hz1 hz2 rfl (by decide) _ 0 [] rfl hE ad n c _ rfl hn hcs (ints_one zs) (by unfold maxLen; omega) (by omega) hB1.size ?_)
    intro v' w' ho hg _
    try simp only [Nat.zero_add, List.nil_append] at ho
    obtain ⟨g, cap, rfl⟩ := Joins.ownsRow_form ho hpos
    go_wp2_with fail
    go_ret
    have hw : Below W.heap.size W w' := hB1.trans ⟨hg.os, hg.tape, hg.output, hg.size, fun k hk => hg.block k (by simp; omega) (by simp [Value.ownBlock]; omega)⟩
    obtain ⟨hO, _⟩ := OI.of_row (v := .slice none 0 0) ho H1.out.rng
    exact ⟨_, _, rfl, hO, hw⟩

end Go.Proofs.YtnofoommindocaaGreat.Base
