/- StampLags: a record of lags tells what the reference's record tells, lag by lag; no conditions. -/
import Derived.Test.YtfjdooloikofoaaStampE
import Derived.Deep.RegionHeld3
namespace Go.Proofs.Ytfjdooloikofoaa.StampA
open Go.RowKit
set_option linter.unusedVariables false
set_option linter.unusedSimpArgs false

/-- What a record holds. -/
structure St where
  n : Int
  m : Int
  lo : Int
  hi : Int

def inR (x : Int) : Bool := decide (0 ≤ x ∧ x ≤ 1099511627776)
def stp (x : Int) (s : St) : St := if inR x = true then (if s.n = 0 then ⟨1, x, x, x⟩ else ⟨s.n + 1, (7 * s.m + x) / 8, min s.lo x, max s.hi x⟩) else s
def er (x : Int) : Int := if inR x = true then 0 else 2

structure Good (k : Nat) (s : St) : Prop where
  n0 : 0 ≤ s.n
  n1 : s.n ≤ k
  m0 : 0 ≤ s.m
  m1 : s.m ≤ 1099511627776

theorem Good.next {k : Nat} {s : St} (x : Int) (g : Good k s) : Good (k + 1) (stp x s) := by
  have a := g.n0
  have b := g.n1
  have c := g.m0
  have d := g.m1
  unfold stp
  by_cases h : inR x = true
  · have h' := of_decide_eq_true h
    rw [if_pos h]
    by_cases hz : s.n = 0
    · rw [if_pos hz]; exact ⟨by simp, by simp; omega, h'.1, h'.2⟩
    · rw [if_neg hz]; exact ⟨by simp; omega, by simp; omega, by simp; omega, by simp; omega⟩
  · rw [if_neg h]; exact ⟨a, by omega, c, d⟩

structure RecS (w : World) (b : Nat) (s : St) : Prop where
  blk : w.heap[b]? = some (recObj true s.n s.m s.lo s.hi)
structure RefS (w : World) (b : Nat) (s : St) : Prop where
  blk : w.heap[b]? = some (refObj s.n s.lo s.hi s.m)

theorem RecS.keep {w w' : World} {b : Nat} {s : St} (h : RecS w b s) (hb : Below w.heap.size w w') : RecS w' b s :=
  ⟨(hb.block b (Array.getElem?_eq_some_iff.1 h.blk).1).trans h.blk⟩
theorem RecS.but {w w' : World} {b c : Nat} {s : St} (h : RecS w b s) (hne : b ≠ c) (hb : But c w w') : RecS w' b s :=
  ⟨(hb.block b (Array.getElem?_eq_some_iff.1 h.blk).1 hne).trans h.blk⟩
theorem RefS.keep {w w' : World} {b : Nat} {s : St} (h : RefS w b s) (hb : Below w.heap.size w w') : RefS w' b s :=
  ⟨(hb.block b (Array.getElem?_eq_some_iff.1 h.blk).1).trans h.blk⟩
theorem RefS.but {w w' : World} {b c : Nat} {s : St} (h : RefS w b s) (hne : b ≠ c) (hb : But c w w') : RefS w' b s :=
  ⟨(hb.block b (Array.getElem?_eq_some_iff.1 h.blk).1 hne).trans h.blk⟩
theorem RefS.drew {w : World} {b : Nat} {s : St} (h : RefS w b s) : RefS w.drew b s := ⟨h.blk⟩
theorem RecS.drew {w : World} {b : Nat} {s : St} (h : RecS w b s) : RecS w.drew b s := ⟨h.blk⟩
theorem Old.drew {w0 w : World} (h : Old w0 w) : Old w0 w.drew := ⟨h.below.drew⟩
theorem Old.cell {w0 w : World} {a : Addr} {v : Value} (h : Old w0 w) (hc : w0.cell? a = some v) : w.cell? a = some v :=
  (h.below.cell (World.block_lt_of_cell? w0 _ hc)).trans hc

theorem add_S {w : World} {b k : Nat} {s : St} (x : Int) (g : Good k s) (hk : k ≤ 100) (h : RecS w b s) :
    Calls Try.prog 17 #[.pointer (some ⟨b, 0, none⟩), .int .i64 x] w fun e w' => e = .returned (.int .i64 (er x)) ∧ RecS w' b (stp x s) ∧ But b w w' := by
  have a := g.n0
  have c := g.n1
  unfold er stp
  by_cases hx : inR x = true
  · have h' := of_decide_eq_true hx
    rw [if_pos hx, if_pos hx]
    by_cases hz : s.n = 0
    · rw [if_pos hz]
      refine (add_first b w x s.m s.lo s.hi h'.1 h'.2 (by rw [← hz]; exact h.blk)).mono ?_
      exact fun _ _ ⟨he, hr, hB⟩ => ⟨he, ⟨hr⟩, hB⟩
    · rw [if_neg hz]
      exact (add_next b w x s.n s.m s.lo s.hi h'.1 h'.2 (by omega) (by omega) g.m0 g.m1 h.blk).mono fun _ _ ⟨he, hr, hB⟩ => ⟨he, ⟨hr⟩, hB⟩
  · have h' : ¬ (0 ≤ x ∧ x ≤ 1099511627776) := of_decide_eq_false ((Bool.not_eq_true _).mp hx)
    rw [if_neg hx, if_neg hx]
    refine (add_out b w x s.n s.m s.lo s.hi (by omega) h.blk).mono ?_
    rintro e w' ⟨he, rfl⟩
    exact ⟨he, h, .refl _ _⟩

theorem radd_S {w : World} {b k : Nat} {s : St} (x : Int) (g : Good k s) (hk : k ≤ 100) (h : RefS w b s) :
    Calls Try.prog 23 #[.pointer (some ⟨b, 0, none⟩), .int .i64 x] w fun e w' => e = .returned (.int .i64 (er x)) ∧ RefS w' b (stp x s) ∧ But b w w' := by
  have a := g.n0
  have c := g.n1
  unfold er stp
  by_cases hx : inR x = true
  · have h' := of_decide_eq_true hx
    rw [if_pos hx, if_pos hx]
    by_cases hz : s.n = 0
    · rw [if_pos hz]
      refine (radd_first b w x s.lo s.hi s.m h'.1 h'.2 (by rw [← hz]; exact h.blk)).mono ?_
      exact fun _ _ ⟨he, hr, hB⟩ => ⟨he, ⟨hr⟩, hB⟩
    · rw [if_neg hz]
      exact (radd_next b w x s.n s.lo s.hi s.m h'.1 h'.2 (by omega) (by omega) g.m0 g.m1 h.blk).mono fun _ _ ⟨he, hr, hB⟩ => ⟨he, ⟨hr⟩, hB⟩
  · have h' : ¬ (0 ≤ x ∧ x ≤ 1099511627776) := of_decide_eq_false ((Bool.not_eq_true _).mp hx)
    rw [if_neg hx, if_neg hx]
    refine (radd_out b w x s.n s.lo s.hi s.m (by omega) h.blk).mono ?_
    rintro e w' ⟨he, rfl⟩
    exact ⟨he, h, .refl _ _⟩

theorem count_S {w : World} {b : Nat} {s : St} (h : RecS w b s) :
    Calls Try.prog 18 #[.pointer (some ⟨b, 0, none⟩)] w fun e w' => e = .returned (.int .i64 s.n) ∧ Below w.heap.size w w' := count_rec b w _ _ _ _ h.blk
theorem least_S {w : World} {b : Nat} {s : St} (h : RecS w b s) :
    Calls Try.prog 19 #[.pointer (some ⟨b, 0, none⟩)] w fun e w' => e = .returned (.int .i64 s.lo) ∧ Below w.heap.size w w' := least_rec b w _ _ _ _ h.blk
theorem most_S {w : World} {b : Nat} {s : St} (h : RecS w b s) :
    Calls Try.prog 20 #[.pointer (some ⟨b, 0, none⟩)] w fun e w' => e = .returned (.int .i64 s.hi) ∧ Below w.heap.size w w' := most_rec b w _ _ _ _ h.blk
theorem mean_S {w : World} {b : Nat} {s : St} (h : RecS w b s) :
    Calls Try.prog 21 #[.pointer (some ⟨b, 0, none⟩)] w fun e w' => e = .returned (.int .i64 s.m) ∧ Below w.heap.size w w' := mean_rec b w _ _ _ _ h.blk

theorem wpAnyH_weaken {P : Program} {md : Region.Mode} {ops : Array Oper} {Q : Exit → Act → World → Prop} {S S2 : World → Prop} (h : ∀ w, S2 w → S w) :
    ∀ (fuel : Nat) (listed : Array Bool) (a : Act) (w : World), wpAnyH P md ops Q S2 fuel listed a w → wpAnyH P md ops Q S fuel listed a w
  | 0, _, _, _, hh => hh
  | fuel + 1, _, _, _, hh => ⟨hh.1, fun i hi => wpOp_mono (fun a' w' h' => ⟨h _ h'.1, wpAnyH_weaken h fuel _ a' w' h'.2⟩) (hh.2 i hi)⟩

theorem s2_of {w W : World} {bq : Nat} {s : St} (h : Old w W) (hq : RefS W bq s) :
    (Old w W ∧ RefS W bq s) ∧ W.cell? ⟨bq, 0, none⟩ = some (.int .i64 s.n) ∧ W.cell? ⟨bq, 1, none⟩ = some (.int .i64 s.lo) ∧ W.cell? ⟨bq, 2, none⟩ = some (.int .i64 s.hi) ∧ W.cell? ⟨bq, 3, none⟩ = some (.int .i64 s.m) :=
  ⟨⟨h, hq⟩, ref_cells hq.blk⟩

set_option maxHeartbeats 4000000 in
set_option maxRecDepth 100000 in
theorem lags_core (a : Option Addr) (len cap : Nat) (zs : List Int) (w : World) (hI : Ints w a len zs) (hlen : len ≤ 17592186044416) :
    Calls Try.prog 5 #[.slice a len cap] w fun e w' => e = .returned (.bool true) ∧ Below w.heap.size w w' := by
  have hO : Old w w := ⟨Below.refl _ _⟩
  go_enter Try.func5, Try.ntmps5
  go_wp2_with fail
  refine (new_R _).mono ?_
  rintro e w2 ⟨br, rfl, hbr, hR, hK⟩
  have hbr2 := hO.below.size
  replace hO := hO.keep hK
  have hlt : br < w2.heap.size := (Array.getElem?_eq_some_iff.1 hR.blk).1
  clear hK
  go_wp2_with fail
  obtain ⟨W3, hW3⟩ : ∃ W3 : World, w2.alloc (.cells #[.int .i64 0, .int .i64 0, .int .i64 0, .int .i64 0] 38) = W3 := ⟨_, rfl⟩
  have hQ : RefS W3 w2.heap.size ⟨0, 0, 0, 0⟩ := ⟨by rw [← hW3]; exact heap_alloc_new _ _⟩
  have hR3 : RecS W3 br ⟨0, 0, 0, 0⟩ := ⟨by rw [← hW3]; exact heap_alloc_at hR.blk⟩
  have hO3 : Old w W3 := hO.keep (by rw [← hW3]; exact (Below.refl _ _).alloc (Nat.le_refl _) _)
  have hbr3 : w.heap.size ≤ br := by omega
  have hbq : w.heap.size ≤ w2.heap.size := hO.below.size
  have hne : br ≠ w2.heap.size := by omega
  rw [hW3]
  generalize w2.heap.size = bq at *
  clear hW3 hR hO hbr hbr2 hlt
  by_cases h100 : len ≤ 100
  case neg =>
    have h100' : ¬ (len : Int) ≤ 100 := by omega
    refine wp_loop_rounds 1 ?_
    rw [rounds_succ]
    go_wp2_with (go_at_call 16; refine (awake_ok _).mono ?_; rintro e w' ⟨rfl, hK⟩)
    all_goals go_ret
    all_goals exact ⟨rfl, (hO3.keep (by assumption)).below⟩
  have h100' : (len : Int) ≤ 100 := by omega
  go_loopw [5] (fun i wr => ∃ (k : Nat) (s : St), k ≤ len ∧ i = .int .i64 k ∧ RecS wr br s ∧ RefS wr bq s ∧ Good k s ∧ Old w wr) (fun i _ => len - (intOf i).toNat)
  case atStart => exact ⟨0, ⟨0, 0, 0, 0⟩, Nat.zero_le _, rfl, hR3, hQ, ⟨by simp, by simp, by simp, by simp⟩, hO3⟩
  case round =>
    clear hR3 hQ hO3
    obtain ⟨k, s, hk, rfl, hR, hQ, hG, hO⟩ := hrel
    by_cases hkl : k < len
    · have hkl' : (k : Int) < (len : Int) := by omega
      have hk0 : (0 : Int) ≤ (k : Int) := by omega
      obtain ⟨ad, rfl, hc, hz0, hz1⟩ := hI.cell k hkl
      have hc1 := hO.cell hc
      have hR1 := hR.drew
      have hQ1 := hQ.drew
      have hO1 := hO.drew
      have hc2 := hO1.cell hc
      have hGn := hG.next (zs[k]?.getD 0)
      go_wp2_with fail
      refine wp_region_held_drew (S := fun w' => Old w w' ∧ w'.cell? (ad.add k) = some (.int .i64 (zs[k]?.getD 0))) (by kernel_rfl) ⟨hO1, hc2⟩ (fun hHeld => ?_)
      refine wpAnyH_take (i := 0) (v := ?_) rfl (by kernel_rfl) (by kernel_rfl) (by kernel_rfl) (fun _ _ _ h => h) (Or.inl ⟨by rfl, ?_⟩) (by assumption) ?_
      rotate_left
      focus ((intro w' hSw; (try dsimp only at hSw); go_simp); first | done | with_reducible rfl)
      try simp only [Act.put, List.setIfInBounds_toArray, List.set_cons_zero, List.set_cons_succ]
      refine wpAnyH_take (i := 1) (v := ?_) rfl (by kernel_rfl) (by kernel_rfl) (by kernel_rfl) (fun _ _ _ h => h) (Or.inl ⟨by rfl, ?_⟩) (by assumption) ?_
      rotate_left
      focus ((intro w' hSw; (try dsimp only at hSw); go_simp); first | done | with_reducible rfl)
      try simp only [Act.put, List.setIfInBounds_toArray, List.set_cons_zero, List.set_cons_succ]
      refine wpAnyH_take (i := 2) (v := ?_) rfl (by kernel_rfl) (by kernel_rfl) (by kernel_rfl) (fun _ _ _ h => h) (Or.inl ⟨by rfl, ?_⟩) (by assumption) ?_
      rotate_left
      focus ((intro w' hSw; (try dsimp only at hSw); go_simp); first | done | with_reducible rfl)
      try simp only [Act.put, List.setIfInBounds_toArray, List.set_cons_zero, List.set_cons_succ]
      refine wpAnyH_take (i := 3) (v := ?_) rfl (by kernel_rfl) (by kernel_rfl) (by kernel_rfl) (fun _ _ _ h => h) (Or.inl ⟨by rfl, ?_⟩) (by assumption) ?_
      rotate_left
      focus ((intro w' hSw; (try dsimp only at hSw); go_simp); first | done | with_reducible rfl)
      try simp only [Act.put, List.setIfInBounds_toArray, List.set_cons_zero, List.set_cons_succ]
      refine wpAnyH_take (i := 4) (v := ?_) rfl (by kernel_rfl) (by kernel_rfl) (by kernel_rfl) (fun _ _ _ h => h) (Or.inl ⟨by rfl, ?_⟩) (by assumption) ?_
      rotate_left
      focus ((intro w' hSw; (try dsimp only at hSw); go_simp); first | done | with_reducible rfl)
      try simp only [Act.put, List.setIfInBounds_toArray, List.set_cons_zero, List.set_cons_succ]
      refine wpAnyH_take (i := 6) (v := ?_) rfl (by kernel_rfl) (by kernel_rfl) (by kernel_rfl) (fun _ _ _ h => h) (Or.inl ⟨by rfl, ?_⟩) (by assumption) ?_
      rotate_left
      focus ((intro w' hSw; (try dsimp only at hSw); go_simp); first | done | with_reducible rfl)
      try simp only [Act.put, List.setIfInBounds_toArray, List.set_cons_zero, List.set_cons_succ]
      refine wpAnyH_take (i := 7) (v := ?_) rfl (by kernel_rfl) (by kernel_rfl) (by kernel_rfl) (fun _ _ _ h => h) (Or.inl ⟨by rfl, ?_⟩) (by assumption) ?_
      rotate_left
      focus ((intro w' hSw; (try dsimp only at hSw); go_simp); first | done | with_reducible rfl)
      try simp only [Act.put, List.setIfInBounds_toArray, List.set_cons_zero, List.set_cons_succ]
      refine wpAnyH_take (i := 8) (v := ?_) rfl (by kernel_rfl) (by kernel_rfl) (by kernel_rfl) (fun _ _ _ h => h) (Or.inl ⟨by rfl, ?_⟩) (by assumption) ?_
      rotate_left
      focus ((intro w' hSw; (try dsimp only at hSw); go_simp); first | done | with_reducible rfl)
      try simp only [Act.put, List.setIfInBounds_toArray, List.set_cons_zero, List.set_cons_succ]
      refine wpAnyH_take (i := 9) (v := ?_) rfl (by kernel_rfl) (by kernel_rfl) (by kernel_rfl) (fun _ _ _ h => h) (Or.inl ⟨by rfl, ?_⟩) (by assumption) ?_
      rotate_left
      focus ((intro w' hSw; (try dsimp only at hSw); go_simp); first | done | with_reducible rfl)
      try simp only [Act.put, List.setIfInBounds_toArray, List.set_cons_zero, List.set_cons_succ]
      refine wpAnyH_ready (rs := [5]) (by kernel_rfl) (by simp) ?_
      refine AllReadyH.cons rfl (fun K hK => ?_) AllReadyH.nil
      go_simp
      refine (add_S _ hG (by omega) (by assumption)).mono ?_; rintro e w5 ⟨rfl, hR5, hK5⟩; have hO5 := Old.but (by assumption) hK5 hbr3; have hc5 := hO5.cell hc; have hQ5 := RefS.but (by assumption) hne.symm hK5; clear hK5; dsimp only
      refine hK.out _ _ ?_ (fun hHeld => ?_)
      · exact ⟨by assumption, by assumption⟩
      clear hK K
      try simp only [Act.put, List.setIfInBounds_toArray, List.set_cons_zero, List.set_cons_succ]
      refine wpAnyH_ready (rs := [10]) (by kernel_rfl) (by simp) ?_
      refine AllReadyH.cons rfl (fun K hK => ?_) AllReadyH.nil
      go_simp
      refine (radd_S _ hG (by omega) (by assumption)).mono ?_; rintro e w6 ⟨rfl, hQ6, hK6⟩; have hO6 := Old.but (by assumption) hK6 hbq; have hc6 := hO6.cell hc; have hR6 := RecS.but (by assumption) hne hK6; clear hK6; dsimp only
      refine hK.out _ _ ?_ (fun hHeld => ?_)
      · exact ⟨by assumption, by assumption⟩
      clear hK K
      try simp only [Act.put, List.setIfInBounds_toArray, List.set_cons_zero, List.set_cons_succ]
      refine wpAnyH_weaken (S2 := fun w' => (Old w w' ∧ RefS w' bq (stp (zs[k]?.getD 0) s)) ∧ w'.cell? ⟨bq, 0, none⟩ = some (.int .i64 (stp (zs[k]?.getD 0) s).n) ∧ w'.cell? ⟨bq, 1, none⟩ = some (.int .i64 (stp (zs[k]?.getD 0) s).lo) ∧ w'.cell? ⟨bq, 2, none⟩ = some (.int .i64 (stp (zs[k]?.getD 0) s).hi) ∧ w'.cell? ⟨bq, 3, none⟩ = some (.int .i64 (stp (zs[k]?.getD 0) s).m)) (fun w' h => ⟨h.1.1, h.1.1.cell hc⟩) _ _ _ _ ?_
      have hHeld2 := s2_of (by assumption) hQ6
      refine wpAnyH_take (i := 11) (v := ?_) rfl (by kernel_rfl) (by kernel_rfl) (by kernel_rfl) (fun _ _ _ h => h) (Or.inl ⟨by rfl, ?_⟩) (by assumption) ?_
      rotate_left
      focus ((intro w' hSw; (try dsimp only at hSw); go_simp); first | done | with_reducible rfl)
      try simp only [Act.put, List.setIfInBounds_toArray, List.set_cons_zero, List.set_cons_succ]
      refine wpAnyH_take (i := 12) (v := ?_) rfl (by kernel_rfl) (by kernel_rfl) (by kernel_rfl) (fun _ _ _ h => h) (Or.inl ⟨by rfl, ?_⟩) (by assumption) ?_
      rotate_left
      focus ((intro w' hSw; (try dsimp only at hSw); go_simp); first | done | with_reducible rfl)
      try simp only [Act.put, List.setIfInBounds_toArray, List.set_cons_zero, List.set_cons_succ]
      refine wpAnyH_take (i := 13) (v := ?_) rfl (by kernel_rfl) (by kernel_rfl) (by kernel_rfl) (fun _ _ _ h => h) (Or.inl ⟨by rfl, ?_⟩) (by assumption) ?_
      rotate_left
      focus ((intro w' hSw; (try dsimp only at hSw); go_simp); first | done | with_reducible rfl)
      try simp only [Act.put, List.setIfInBounds_toArray, List.set_cons_zero, List.set_cons_succ]
      refine wpAnyH_take (i := 15) (v := ?_) rfl (by kernel_rfl) (by kernel_rfl) (by kernel_rfl) (fun _ _ _ h => h) (Or.inl ⟨by rfl, ?_⟩) (by assumption) ?_
      rotate_left
      focus ((intro w' hSw; (try dsimp only at hSw); go_simp); first | done | with_reducible rfl)
      try simp only [Act.put, List.setIfInBounds_toArray, List.set_cons_zero, List.set_cons_succ]
      refine wpAnyH_take (i := 16) (v := ?_) rfl (by kernel_rfl) (by kernel_rfl) (by kernel_rfl) (fun _ _ _ h => h) (Or.inl ⟨by rfl, ?_⟩) (by assumption) ?_
      rotate_left
      focus ((intro w' hSw; (try dsimp only at hSw); go_simp); first | done | with_reducible rfl)
      try simp only [Act.put, List.setIfInBounds_toArray, List.set_cons_zero, List.set_cons_succ]
      refine wpAnyH_ready (rs := [14]) (by kernel_rfl) (by simp) ?_
      refine AllReadyH.cons rfl (fun K hK => ?_) AllReadyH.nil
      go_simp
      refine (count_S (by assumption)).mono ?_; rintro e w18 ⟨rfl, hK18⟩; have hO18 := Old.keep (by assumption) hK18; have hc18 := hO18.cell hc; have hR18 := RecS.keep (by assumption) hK18; have hQ18 := RefS.keep (by assumption) hK18; clear hK18; dsimp only
      refine hK.out _ _ ?_ (fun hHeld => ?_)
      · exact s2_of (by assumption) (by assumption)
      clear hK K
      try simp only [Act.put, List.setIfInBounds_toArray, List.set_cons_zero, List.set_cons_succ]
      refine wpAnyH_take (i := 17) (v := ?_) rfl (by kernel_rfl) (by kernel_rfl) (by kernel_rfl) (fun _ _ _ h => h) (Or.inl ⟨by rfl, ?_⟩) (by assumption) ?_
      rotate_left
      focus ((intro w' hSw; (try dsimp only at hSw); go_simp); first | done | with_reducible rfl)
      try simp only [Act.put, List.setIfInBounds_toArray, List.set_cons_zero, List.set_cons_succ]
      refine wpAnyH_take (i := 18) (v := ?_) rfl (by kernel_rfl) (by kernel_rfl) (by kernel_rfl) (fun _ _ _ h => h) (Or.inl ⟨by rfl, ?_⟩) (by assumption) ?_
      rotate_left
      focus ((intro w' hSw; (try dsimp only at hSw); go_simp); first | done | with_reducible rfl)
      try simp only [Act.put, List.setIfInBounds_toArray, List.set_cons_zero, List.set_cons_succ]
      refine wpAnyH_take (i := 19) (v := ?_) rfl (by kernel_rfl) (by kernel_rfl) (by kernel_rfl) (fun _ _ _ h => h) (Or.inl ⟨by rfl, ?_⟩) (by assumption) ?_
      rotate_left
      focus ((intro w' hSw; (try dsimp only at hSw); go_simp); first | done | with_reducible rfl)
      try simp only [Act.put, List.setIfInBounds_toArray, List.set_cons_zero, List.set_cons_succ]
      refine wpAnyH_take (i := 20) (v := ?_) rfl (by kernel_rfl) (by kernel_rfl) (by kernel_rfl) (fun _ _ _ h => h) (Or.inl ⟨by rfl, ?_⟩) (by assumption) ?_
      rotate_left
      focus ((intro w' hSw; (try dsimp only at hSw); go_simp); first | done | with_reducible rfl)
      try simp only [Act.put, List.setIfInBounds_toArray, List.set_cons_zero, List.set_cons_succ]
      refine wpAnyH_take (i := 22) (v := ?_) rfl (by kernel_rfl) (by kernel_rfl) (by kernel_rfl) (fun _ _ _ h => h) (Or.inl ⟨by rfl, ?_⟩) (by assumption) ?_
      rotate_left
      focus ((intro w' hSw; (try dsimp only at hSw); go_simp); first | done | with_reducible rfl)
      try simp only [Act.put, List.setIfInBounds_toArray, List.set_cons_zero, List.set_cons_succ]
      refine wpAnyH_take (i := 23) (v := ?_) rfl (by kernel_rfl) (by kernel_rfl) (by kernel_rfl) (fun _ _ _ h => h) (Or.inl ⟨by rfl, ?_⟩) (by assumption) ?_
      rotate_left
      focus ((intro w' hSw; (try dsimp only at hSw); go_simp); first | done | with_reducible rfl)
      try simp only [Act.put, List.setIfInBounds_toArray, List.set_cons_zero, List.set_cons_succ]
      refine wpAnyH_ready (rs := [21]) (by kernel_rfl) (by simp) ?_
      refine AllReadyH.cons rfl (fun K hK => ?_) AllReadyH.nil
      go_simp
      refine (least_S (by assumption)).mono ?_; rintro e w19 ⟨rfl, hK19⟩; have hO19 := Old.keep (by assumption) hK19; have hc19 := hO19.cell hc; have hR19 := RecS.keep (by assumption) hK19; have hQ19 := RefS.keep (by assumption) hK19; clear hK19; dsimp only
      refine hK.out _ _ ?_ (fun hHeld => ?_)
      · exact s2_of (by assumption) (by assumption)
      clear hK K
      try simp only [Act.put, List.setIfInBounds_toArray, List.set_cons_zero, List.set_cons_succ]
      refine wpAnyH_take (i := 24) (v := ?_) rfl (by kernel_rfl) (by kernel_rfl) (by kernel_rfl) (fun _ _ _ h => h) (Or.inl ⟨by rfl, ?_⟩) (by assumption) ?_
      rotate_left
      focus ((intro w' hSw; (try dsimp only at hSw); go_simp); first | done | with_reducible rfl)
      try simp only [Act.put, List.setIfInBounds_toArray, List.set_cons_zero, List.set_cons_succ]
      refine wpAnyH_take (i := 25) (v := ?_) rfl (by kernel_rfl) (by kernel_rfl) (by kernel_rfl) (fun _ _ _ h => h) (Or.inl ⟨by rfl, ?_⟩) (by assumption) ?_
      rotate_left
      focus ((intro w' hSw; (try dsimp only at hSw); go_simp); first | done | with_reducible rfl)
      try simp only [Act.put, List.setIfInBounds_toArray, List.set_cons_zero, List.set_cons_succ]
      refine wpAnyH_take (i := 26) (v := ?_) rfl (by kernel_rfl) (by kernel_rfl) (by kernel_rfl) (fun _ _ _ h => h) (Or.inl ⟨by rfl, ?_⟩) (by assumption) ?_
      rotate_left
      focus ((intro w' hSw; (try dsimp only at hSw); go_simp); first | done | with_reducible rfl)
      try simp only [Act.put, List.setIfInBounds_toArray, List.set_cons_zero, List.set_cons_succ]
      refine wpAnyH_take (i := 27) (v := ?_) rfl (by kernel_rfl) (by kernel_rfl) (by kernel_rfl) (fun _ _ _ h => h) (Or.inl ⟨by rfl, ?_⟩) (by assumption) ?_
      rotate_left
      focus ((intro w' hSw; (try dsimp only at hSw); go_simp); first | done | with_reducible rfl)
      try simp only [Act.put, List.setIfInBounds_toArray, List.set_cons_zero, List.set_cons_succ]
      refine wpAnyH_take (i := 29) (v := ?_) rfl (by kernel_rfl) (by kernel_rfl) (by kernel_rfl) (fun _ _ _ h => h) (Or.inl ⟨by rfl, ?_⟩) (by assumption) ?_
      rotate_left
      focus ((intro w' hSw; (try dsimp only at hSw); go_simp); first | done | with_reducible rfl)
      try simp only [Act.put, List.setIfInBounds_toArray, List.set_cons_zero, List.set_cons_succ]
      refine wpAnyH_take (i := 30) (v := ?_) rfl (by kernel_rfl) (by kernel_rfl) (by kernel_rfl) (fun _ _ _ h => h) (Or.inl ⟨by rfl, ?_⟩) (by assumption) ?_
      rotate_left
      focus ((intro w' hSw; (try dsimp only at hSw); go_simp); first | done | with_reducible rfl)
      try simp only [Act.put, List.setIfInBounds_toArray, List.set_cons_zero, List.set_cons_succ]
      refine wpAnyH_ready (rs := [28]) (by kernel_rfl) (by simp) ?_
      refine AllReadyH.cons rfl (fun K hK => ?_) AllReadyH.nil
      go_simp
      refine (most_S (by assumption)).mono ?_; rintro e w20 ⟨rfl, hK20⟩; have hO20 := Old.keep (by assumption) hK20; have hc20 := hO20.cell hc; have hR20 := RecS.keep (by assumption) hK20; have hQ20 := RefS.keep (by assumption) hK20; clear hK20; dsimp only
      refine hK.out _ _ ?_ (fun hHeld => ?_)
      · exact s2_of (by assumption) (by assumption)
      clear hK K
      try simp only [Act.put, List.setIfInBounds_toArray, List.set_cons_zero, List.set_cons_succ]
      refine wpAnyH_take (i := 31) (v := ?_) rfl (by kernel_rfl) (by kernel_rfl) (by kernel_rfl) (fun _ _ _ h => h) (Or.inl ⟨by rfl, ?_⟩) (by assumption) ?_
      rotate_left
      focus ((intro w' hSw; (try dsimp only at hSw); go_simp); first | done | with_reducible rfl)
      try simp only [Act.put, List.setIfInBounds_toArray, List.set_cons_zero, List.set_cons_succ]
      refine wpAnyH_take (i := 32) (v := ?_) rfl (by kernel_rfl) (by kernel_rfl) (by kernel_rfl) (fun _ _ _ h => h) (Or.inl ⟨by rfl, ?_⟩) (by assumption) ?_
      rotate_left
      focus ((intro w' hSw; (try dsimp only at hSw); go_simp); first | done | with_reducible rfl)
      try simp only [Act.put, List.setIfInBounds_toArray, List.set_cons_zero, List.set_cons_succ]
      refine wpAnyH_take (i := 33) (v := ?_) rfl (by kernel_rfl) (by kernel_rfl) (by kernel_rfl) (fun _ _ _ h => h) (Or.inl ⟨by rfl, ?_⟩) (by assumption) ?_
      rotate_left
      focus ((intro w' hSw; (try dsimp only at hSw); go_simp); first | done | with_reducible rfl)
      try simp only [Act.put, List.setIfInBounds_toArray, List.set_cons_zero, List.set_cons_succ]
      refine wpAnyH_take (i := 34) (v := ?_) rfl (by kernel_rfl) (by kernel_rfl) (by kernel_rfl) (fun _ _ _ h => h) (Or.inl ⟨by rfl, ?_⟩) (by assumption) ?_
      rotate_left
      focus ((intro w' hSw; (try dsimp only at hSw); go_simp); first | done | with_reducible rfl)
      try simp only [Act.put, List.setIfInBounds_toArray, List.set_cons_zero, List.set_cons_succ]
      refine wpAnyH_take (i := 36) (v := ?_) rfl (by kernel_rfl) (by kernel_rfl) (by kernel_rfl) (fun _ _ _ h => h) (Or.inl ⟨by rfl, ?_⟩) (by assumption) ?_
      rotate_left
      focus ((intro w' hSw; (try dsimp only at hSw); go_simp); first | done | with_reducible rfl)
      try simp only [Act.put, List.setIfInBounds_toArray, List.set_cons_zero, List.set_cons_succ]
      refine wpAnyH_take (i := 37) (v := ?_) rfl (by kernel_rfl) (by kernel_rfl) (by kernel_rfl) (fun _ _ _ h => h) (Or.inl ⟨by rfl, ?_⟩) (by assumption) ?_
      rotate_left
      focus ((intro w' hSw; (try dsimp only at hSw); go_simp); first | done | with_reducible rfl)
      try simp only [Act.put, List.setIfInBounds_toArray, List.set_cons_zero, List.set_cons_succ]
      refine wpAnyH_ready (rs := [35]) (by kernel_rfl) (by simp) ?_
      refine AllReadyH.cons rfl (fun K hK => ?_) AllReadyH.nil
      go_simp
      refine (mean_S (by assumption)).mono ?_; rintro e w21 ⟨rfl, hK21⟩; have hO21 := Old.keep (by assumption) hK21; have hc21 := hO21.cell hc; have hR21 := RecS.keep (by assumption) hK21; have hQ21 := RefS.keep (by assumption) hK21; clear hK21; dsimp only
      refine hK.out _ _ ?_ (fun hHeld => ?_)
      · exact s2_of (by assumption) (by assumption)
      clear hK K
      try simp only [Act.put, List.setIfInBounds_toArray, List.set_cons_zero, List.set_cons_succ]
      refine wpAnyH_take (i := 38) (v := ?_) rfl (by kernel_rfl) (by kernel_rfl) (by kernel_rfl) (fun _ _ _ h => h) (Or.inl ⟨by rfl, ?_⟩) (by assumption) ?_
      rotate_left
      focus ((intro w' hSw; (try dsimp only at hSw); go_simp); first | done | with_reducible rfl)
      try simp only [Act.put, List.setIfInBounds_toArray, List.set_cons_zero, List.set_cons_succ]
      refine wpAnyH_take (i := 39) (v := ?_) rfl (by kernel_rfl) (by kernel_rfl) (by kernel_rfl) (fun _ _ _ h => h) (Or.inl ⟨by rfl, ?_⟩) (by assumption) ?_
      rotate_left
      focus ((intro w' hSw; (try dsimp only at hSw); go_simp); first | done | with_reducible rfl)
      try simp only [Act.put, List.setIfInBounds_toArray, List.set_cons_zero, List.set_cons_succ]
      refine wpAnyH_done (by kernel_rfl) ?_ _

      go_wp2_with fail
      all_goals try go_roundw
      case rel => exact ⟨k + 1, stp (zs[k]?.getD 0) s, by omega, by go_num, by assumption, by assumption, hGn, by assumption⟩
      case measure => simp [intOf]; omega
    · have hge : ¬ (k : Int) < (len : Int) := by omega
      go_wp2_with (go_at_call 16; refine (awake_ok _).mono ?_; rintro e w' ⟨rfl, hK⟩)
      go_ret
      exact ⟨rfl, (hO.keep (by assumption)).below⟩

theorem lags_walk (a0 : Option Addr) (len0 cap0 : Nat) (z0 : List Int) (W : World)
    (w0 : (a0 = none ∧ len0 = 0 ∧ cap0 = 0 ∧ z0 = []) ∨ ∃ x, a0 = some x ∧ len0 ≤ cap0 ∧ cap0 ≤ maxLen ∧ z0.length = cap0 ∧ (∀ i, i < z0.length → W.cell? (x.add i) = some (.int .i64 (z0.getD i 0))) ∧ ∀ n ∈ z0, (Lit.int .i64 n).wf = true)
    (y0 : len0 * 8 ≤ 140737488351232) :
    Calls Try.prog 5 #[.slice a0 len0 cap0] W fun e w' => e = .returned (.bool true) ∧ Below W.heap.size W w' :=
  lags_core a0 len0 cap0 z0 W (ints_of w0) (by omega)

end Go.Proofs.Ytfjdooloikofoaa.StampA
