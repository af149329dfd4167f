/- snap: Find. No conditions. -/
import Derived.Test.YtagakcnhhhlolaaSnG
namespace Go.Proofs.Ytagakcnhhhlolaa.Base
open Go.RowKit
set_option linter.unusedVariables false
set_option linter.unusedSimpArgs false

/-- Is the k-th place later? -/
def laterV (ms : List Mrk) (t : Int) (k : Nat) : Bool := decide (t < (ms.getD k ⟨⟨0, [], [], false, 0, 0⟩, trc0⟩).b.t)
structure LaterAt (B : Nat) (W : World) (p : Nat) (v : Value) (M : Mdl) (ms : List Mrk) (b1 b2 : Nat) (t : Int) : Prop where
  pm : PM B W p v M ms
  c1 : Blk W b1 #[.pointer (some ⟨p, 0, none⟩)] 109
  c2 : Blk W b2 #[.int .i64 t] 3
theorem LaterAt.drewN {B : Nat} {W : World} {p : Nat} {v : Value} {M : Mdl} {ms : List Mrk} {b1 b2 : Nat} {t : Int} (h : LaterAt B W p v M ms b1 b2 t) (n : Nat) : LaterAt B (W.drewN n) p v M ms b1 b2 t :=
  ⟨h.pm.keep (below_drewN _ n), h.c1.keep (below_drewN _ n), h.c2.keep (below_drewN _ n)⟩
set_option maxHeartbeats 1000000 in
theorem later1_is {B : Nat} {W : World} {p : Nat} {v : Value} {M : Mdl} {ms : List Mrk} {b1 b2 : Nat} {t : Int} (h : LaterAt B W p v M ms b1 b2 t) (k : Nat) (hk : k < ms.length) :
    Calls Try.prog 89 #[.int .i64 k, .pointer (some ⟨b1, 0, none⟩), .pointer (some ⟨b2, 0, none⟩)] W fun e w' => e = .returned (.bool (laterV ms t k)) ∧ ∃ n, w' = W.drewN n := by
  have hg : ms.getD k ⟨⟨0, [], [], false, 0, 0⟩, trc0⟩ = ms[k] := by simp [List.getD, hk]
  unfold laterV
  rw [hg]
  obtain ⟨g, c, cs, hv, hkv, hcell⟩ := h.pm.rows.at_ k hk
  obtain ⟨g2, c2, aA, cA, aQ, cQ, aR, cR, hv2, hc, hcm, _, hb, hM⟩ := h.pm.box
  rw [hv] at hv2
  injection hv2 with e1 _ e2
  injection e1 with e1
  injection e1 with e1
  subst e1 e2
  obtain ⟨aX, cX, aP, cP, aH, cH, aR', cR', rfl, _⟩ := hkv
  have d0 := hcell 0 (by omega)
  have x1 := h.c1.cell 0
  have x2 := h.c2.cell 0
  have x3 := hb.cell 0
  simp at d0 x1 x2 x3
  have hl := h.pm.len
  have hk1 : (k : Int) < (ms.length : Int) := by omega
  have hk0 : (0 : Int) ≤ (k : Int) := by omega
  generalize ms[k] = m at *
  clear hcell hM hg hv h hb
  go_enter Try.func89, Try.ntmps89
  go_wp2_with fail
  go_quiet (fail)
  go_wp2_with fail
  go_ret
  exact ⟨rfl, _, rfl⟩
set_option maxHeartbeats 2000000 in
theorem search_is {B : Nat} {W : World} {p : Nat} {v : Value} {M : Mdl} {ms : List Mrk} {b1 b2 : Nat} {t : Int} (h : LaterAt B W p v M ms b1 b2 t) :
    Calls Try.prog 88 #[.int .i64 ms.length, .func (.func 89) #[] #[.pointer (some ⟨b1, 0, none⟩), .pointer (some ⟨b2, 0, none⟩)]] W fun e w' => ∃ r : Nat, e = .returned (.int .i64 r) ∧ (r ≤ ms.length ∧ (r = 0 ∨ laterV ms t (r - 1) = false) ∧ (r = ms.length ∨ laterV ms t r = true)) ∧ ∃ n, w' = W.drewN n := by
  have hl := h.pm.len
  obtain ⟨n, hn⟩ : ∃ n, ms.length = n := ⟨_, rfl⟩
  have HN := Lib.hid hn
  rw [hn] at hl ⊢
  clear hn
  go_enter Try.func88, Try.ntmps88
  go_wp2_with fail
  go_loopw [5, 6] (fun x y wr => ∃ i j m : Nat, i ≤ j ∧ j ≤ n ∧ x = .int .i64 i ∧ y = .int .i64 j ∧ Hid (i = 0 ∨ laterV ms t (i - 1) = false) ∧ Hid (j = n ∨ laterV ms t j = true) ∧ wr = W.drewN m) (fun x y _ => (intOf y - intOf x).toNat)
  case atStart => exact ⟨0, n, 0, by omega, by omega, rfl, rfl, .inl rfl, .inl rfl, rfl⟩
  case round =>
    obtain ⟨i, j, m, hij, hj, rfl, rfl, hi1, hj1, rfl⟩ := hrel
    by_cases hlt : i < j
    · have h1 : (i : Int) < (j : Int) := by omega
      have h2 : IntKind.i64.wrap ((i : Int) + (j : Int)) = (i : Int) + (j : Int) := IntWalk.i64_in _ (by omega)
      obtain ⟨q, hq⟩ : ∃ q, (i + j) / 2 = q := ⟨_, rfl⟩
      have hq1 : ((i : Int) + (j : Int)) / 2 = (q : Int) := by omega
      have hq2 : i ≤ q ∧ q < j := by omega
      have hq3 : IntKind.i64.wrap (q : Int) = (q : Int) := IntWalk.i64_in _ (by omega)
      have hq4 : IntKind.i64.wrap ((q : Int) + 1) = (q : Int) + 1 := IntWalk.i64_in _ (by omega)
      have hq5 : IntKind.u64.wrap ((i : Int) + (j : Int)) = (i : Int) + (j : Int) := IntWalk.u64_in _ (by omega)
      clear hq
      go_wp2_with fail
      refine (later1_is (h.drewN m) q (by rw [HN.out]; omega)).mono ?_
      rintro e w' ⟨rfl, nq, rfl⟩
      cases hb : laterV ms t q with
      | true =>
        have HB := Lib.hid hb
        clear hb
        go_wp2_with fail
        go_roundw
        case rel => exact ⟨i, q, m + nq, by omega, by omega, rfl, rfl, hi1, .inr HB.out, by first | rfl | trivial | simp [World.drewN_drewN]⟩
        case measure => simp [intOf]; omega
      | false =>
        have HB := Lib.hid hb
        clear hb
        go_wp2_with fail
        go_roundw
        case rel => exact ⟨q + 1, j, m + nq, by omega, by omega, by go_num, rfl, .inr HB.out, hj1, by first | rfl | trivial | simp [World.drewN_drewN]⟩
        case measure => simp [intOf]; omega
    · have h1 : ¬ (i : Int) < (j : Int) := by omega
      go_wp2_with fail
      go_ret
      refine ⟨i, rfl, ⟨by omega, hi1.out, ?_⟩, m, rfl⟩
      have := hj1.out
      obtain rfl : i = j := by omega
      exact this

def Srch (ms : List Mrk) (t : Int) (r : Nat) : Prop := r ≤ ms.length ∧ (r = 0 ∨ laterV ms t (r - 1) = false) ∧ (r = ms.length ∨ laterV ms t r = true)
set_option maxHeartbeats 1000000 in
theorem later_is {B : Nat} {W : World} {p : Nat} {v : Value} {M : Mdl} {ms : List Mrk} (h : PM B W p v M ms) (t : Int) :
    Calls Try.prog 70 #[.pointer (some ⟨p, 0, none⟩), .int .i64 t] W fun e w' => (∃ r : Nat, e = .returned (.int .i64 r) ∧ Srch ms t r) ∧ Below W.heap.size W w' := by
  have HH := Lib.hid h
  obtain ⟨g2, c2, aA, cA, aQ, cQ, aR, cR, rfl, hc, hcm, _, hb, hM⟩ := h.box
  clear h hM
  go_enter Try.func70, Try.ntmps70
  go_wp2_with (first | ((with_reducible refine at_dst (N := 2) rfl ?_); refine ev_new rfl (cs := #[.pointer (some ⟨p, 0, none⟩)]) (t := 109) (by go_simp) ?_; intro w1 b1 hB1 hz1) | ((with_reducible refine at_dst (N := 3) rfl ?_); refine ev_new rfl (cs := #[.int .i64 t]) (t := 3) (by go_simp) ?_; intro w2 b2 hB2 hz2; replace b1 := b1.keep hB2; replace hB1 := more hB1 hB2; rw [hz1] at b2; try rw [hz1]; have hb2 := hb.keep hB1; have x1 := b1.cell 0; have x2 := hb2.cell 0; simp at x1 x2))
  refine (search_is ⟨HH.out.keep hB1, b1, b2⟩).mono ?_
  rintro e w' ⟨r, rfl, hr, nq, rfl⟩
  go_wp2_with fail
  go_ret
  exact ⟨⟨r, rfl, hr⟩, more hB1 (below_drewN _ nq)⟩
def Found (ms : List Mrk) (t : Int) (e : Ending) : Prop := ∃ r : Nat, e = .returned (.tuple #[.int .i64 r, .int .i64 0]) ∧ Srch ms t (r + 1)
set_option maxHeartbeats 1000000 in
theorem find_no {B : Nat} {W : World} {p : Nat} {v : Value} {M : Mdl} {ms : List Mrk} (h : PM B W p v M ms) (t : Int) (ht : laterV ms t 0 = true) :
    Calls Try.prog 34 #[.pointer (some ⟨p, 0, none⟩), .int .i64 t] W fun e w' => e = .returned (.tuple #[.int .i64 0, .int .i64 4]) ∧ W = w' := by
  have hk := h.pos
  have HN := Lib.hid (none_is h)
  obtain ⟨g, c, cs, hv, hkv, hcell⟩ := h.rows.at_ 0 hk
  obtain ⟨g2, c2, aA, cA, aQ, cQ, aR, cR, hv2, hc, hcm, _, hb, hM⟩ := h.box
  rw [hv] at hv2
  injection hv2 with e1 _ e2
  injection e1 with e1
  injection e1 with e1
  subst e1 e2
  obtain ⟨aX, cX, aP, cP, aH, cH, aR', cR', rfl, _⟩ := hkv
  have d0 := hcell 0 (by omega)
  have x3 := hb.cell 0
  simp at d0 x3
  have hlt : t < (ms[0]).b.t := by unfold laterV at ht; simpa [List.getD, hk] using ht
  have hk1 : (0 : Int) < (ms.length : Int) := by omega
  generalize ms[0] = m at *
  clear hcell hM hv h hb ht
  go_enter Try.func34, Try.ntmps34
  go_wp2_with fail
  refine HN.out.mono ?_
  rintro e w' ⟨rfl, rfl⟩
  go_wp2_with fail
  go_ret2
  exact ⟨rfl, rfl⟩
set_option maxHeartbeats 1000000 in
theorem find_ok {B : Nat} {W : World} {p : Nat} {v : Value} {M : Mdl} {ms : List Mrk} (h : PM B W p v M ms) (t : Int) (ht : laterV ms t 0 = false) :
    Calls Try.prog 34 #[.pointer (some ⟨p, 0, none⟩), .int .i64 t] W fun e w' => Found ms t e ∧ Below W.heap.size W w' := by
  have hk := h.pos
  have HN := Lib.hid (none_is h)
  have HL := Lib.hid (later_is h t)
  have HT := Lib.hid ht
  have hl := h.len
  obtain ⟨g, c, cs, hv, hkv, hcell⟩ := h.rows.at_ 0 hk
  obtain ⟨g2, c2, aA, cA, aQ, cQ, aR, cR, hv2, hc, hcm, _, hb, hM⟩ := h.box
  rw [hv] at hv2
  injection hv2 with e1 _ e2
  injection e1 with e1
  injection e1 with e1
  subst e1 e2
  obtain ⟨aX, cX, aP, cP, aH, cH, aR', cR', rfl, _⟩ := hkv
  have d0 := hcell 0 (by omega)
  have x3 := hb.cell 0
  simp at d0 x3
  have hlt : ¬ t < (ms[0]).b.t := by unfold laterV at ht; simpa [List.getD, hk] using ht
  have hk1 : (0 : Int) < (ms.length : Int) := by omega
  generalize ms[0] = m at *
  clear hcell hM hv h hb ht
  go_enter Try.func34, Try.ntmps34
  go_wp2_with fail
  refine HN.out.mono ?_
  rintro e w' ⟨rfl, rfl⟩
  go_wp2_with fail
  refine HL.out.mono ?_
  rintro e w' ⟨⟨r, rfl, hr⟩, hB⟩
  have hr0 : r ≠ 0 := by
    rintro rfl
    rcases hr.2.2 with h | h
    · omega
    · rw [HT.out] at h; cases h
  obtain ⟨q, rfl⟩ : ∃ q, r = q + 1 := ⟨r - 1, by omega⟩
  have hq := hr.1
  have hw1 : IntKind.i64.wrap ((q : Int) + 1 - 1) = (q : Int) := by rw [show (q : Int) + 1 - 1 = (q : Int) by omega]; exact IntWalk.i64_in _ (by omega)
  have hw2 : (q : Int) + 1 - 1 = (q : Int) := by omega
  have hw3 : IntKind.i64.wrap (q : Int) = (q : Int) := IntWalk.i64_in _ (by omega)
  have HR := Lib.hid hr
  clear hr
  go_wp2_with fail
  go_ret2
  exact ⟨⟨q, rfl, HR.out⟩, hB⟩

end Go.Proofs.Ytagakcnhhhlolaa.Base
