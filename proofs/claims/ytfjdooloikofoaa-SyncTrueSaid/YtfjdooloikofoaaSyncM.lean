/- SyncRefused: an exchange that is refused changes nothing; no conditions. -/
import Derived.Test.YtfjdooloikofoaaSyncL
namespace Go.Proofs.Ytfjdooloikofoaa.SyncA
open Go.RowKit Go.Shelf Go.Proofs.Ytfjdooloikofoaa.StampA Go.Proofs.Ytfjdooloikofoaa.Base
set_option linter.unusedVariables false

theorem But.refl' (b : Nat) (w : World) : But b w w := StampA.But.refl b w

theorem add_whatever {w : World} {b : Nat} {win : Int} {l : List TSw} (h : CK w b win l) (x1 x2 x3 x4 : Int) :
    Calls Try.prog 27 #[.pointer (some ⟨b, 0, none⟩), .agg #[.int .i64 x1, .int .i64 x2, .int .i64 x3, .int .i64 x4]] w fun e w' => ∃ r l', e = .returned (.int .i64 r) ∧ CK w' b win l' ∧ But b w w' := by
  by_cases hx : okS ⟨x1, x2, x3, x4⟩
  · exact (add_ok h ⟨x1, x2, x3, x4⟩ hx).mono fun _ _ ⟨he, hc, hb⟩ => ⟨_, _, he, hc, hb⟩
  · exact (add_bad b w win ⟨x1, x2, x3, x4⟩ h.w1 h.cell0 hx).mono fun _ _ ⟨he, hb⟩ => ⟨_, l, he, h.below hb, SyncA.But.of_below hb h.lt⟩

set_option maxHeartbeats 2000000 in
set_option maxRecDepth 100000 in
theorem refused_core (win : Int) (a : Option Addr) (len cap : Nat) (g : Nat → Four) (x1 x2 x3 x4 : Int) (w : World) (hw0 : -9223372036854775808 ≤ win) (hw1 : win ≤ 9223372036854775807) (hF : Fours w a len g) :
    Calls Try.prog 13 #[.int .i64 win, .slice a len cap, .agg #[.int .i64 x1, .int .i64 x2, .int .i64 x3, .int .i64 x4]] w fun e w' => e = .returned (.bool true) ∧ Below w.heap.size w w' := by
  have hml := hF.len
  unfold maxLen at hml
  go_enter Try.func13, Try.ntmps13
  go_wp2_with fail
  obtain ⟨W, hW⟩ : ∃ W : World, w.alloc (.cells #[.int .i64 x1, .int .i64 x2, .int .i64 x3, .int .i64 x4] 48) = W := ⟨_, rfl⟩
  have hB : Below w.heap.size w W := by rw [← hW]; exact (Below.refl _ _).alloc (Nat.le_refl _) _
  have hX : Blk W w.heap.size #[.int .i64 x1, .int .i64 x2, .int .i64 x3, .int .i64 x4] 48 := by rw [← hW]; exact Blk.new w _ _
  have hO : Old w W := ⟨hB⟩
  rw [hW]
  clear hW hB
  obtain ⟨bx, hbx⟩ : ∃ bx, w.heap.size = bx := ⟨_, rfl⟩
  have hle : w.heap.size ≤ bx := by omega
  rw [hbx] at hX ⊢
  clear hbx
  refine (awake16 _).mono ?_
  rintro e w1 ⟨rfl, hK⟩
  replace hO := hO.keep hK
  replace hX := hX.keep hK
  clear hK
  go_wp2_with fail
  refine (pick_some _ _ _ (by omega) (by omega) (by omega) (by omega)).mono ?_
  rintro e w' ⟨p, rfl, hp, hp2, rfl⟩
  go_wp2_with fail
  refine (new_ck (1 + p) _ (by omega) (by omega)).mono ?_
  rintro e w2 ⟨b, rfl, hb, hC, hK⟩
  have hbo : w.heap.size ≤ b := Nat.le_trans hO.below.size hb
  have hne : bx ≠ b := by have := hX.lt; omega
  replace hO := hO.keep hK
  replace hX := hX.keep hK
  clear hK
  by_cases h40 : 40 < len
  · have h40' : (40 : Int) < (len : Int) := by omega
    go_wp2_with fail
    go_ret
    exact ⟨rfl, hO.below⟩
  have h40' : (len : Int) ≤ 40 := by omega
  go_wp2_with fail
  go_loopw [10] (fun i wr => ∃ (k : Nat) (l : List TSw), k ≤ len ∧ i = .int .i64 k ∧ CK wr b (1 + p) l ∧ Blk wr bx #[.int .i64 x1, .int .i64 x2, .int .i64 x3, .int .i64 x4] 48 ∧ Old w wr) (fun i _ => len - (intOf i).toNat)
  case atStart => exact ⟨0, [], Nat.zero_le _, rfl, hC, hX, hO⟩
  case round =>
    clear hC hX hO
    obtain ⟨k, l, hk, rfl, hC, hX, hO⟩ := hrel
    by_cases hkl : k < len
    · have hkl' : (k : Int) < (len : Int) := by omega
      have hk0 : (0 : Int) ≤ (k : Int) := by omega
      obtain ⟨ad, rfl, c0, c1, c2, c3, _⟩ := (hF.old hO.below).at_ k hkl
      have HX := Lib.hid hX
      clear hX
      go_wp2_with fail
      refine (add_whatever hC _ _ _ _).mono ?_
      rintro e w4 ⟨r, l', rfl, hC', hK⟩
      have hO4 := hO.but hK hbo
      have hX4 : Blk w4 bx #[.int .i64 x1, .int .i64 x2, .int .i64 x3, .int .i64 x4] 48 := (hK.block bx HX.out.lt hne).trans HX.out
      clear c0 c1 c2 c3 hK hC hO
      go_wp2_with fail
      go_roundw
      case rel => exact ⟨k + 1, l', by omega, by go_num, hC', hX4, hO4⟩
      case measure => simp [intOf]; omega
    · have hge : ¬ (k : Int) < (len : Int) := by omega
      have q0 := hX.cell 0
      have q1 := hX.cell 1
      have q2 := hX.cell 2
      have q3 := hX.cell 3
      simp at q0 q1 q2 q3
      go_wp2_with fail
      refine (Best_ck hC).mono ?_
      rintro e w3 ⟨rfl, hK⟩
      replace hO := hO.keep hK
      replace hX := hX.keep hK
      replace hC := hC.below hK
      clear hK q0 q1 q2 q3
      have q0 := hX.cell 0
      have q1 := hX.cell 1
      have q2 := hX.cell 2
      have q3 := hX.cell 3
      simp at q0 q1 q2 q3
      go_wp2_with fail
      refine (len_ck hC).mono ?_
      rintro e w' ⟨rfl, rfl⟩
      go_wp2_with fail
      by_cases hx : okS ⟨x1, x2, x3, x4⟩
      · refine (add_ok hC ⟨x1, x2, x3, x4⟩ hx).mono ?_
        rintro e w4 ⟨rfl, hC4, hK⟩
        replace hO := hO.but hK hbo
        have hge2 : (l.length : Int) ≤ ((pushL (1 + p) l ⟨⟨x1, x2, x3, x4⟩, hx.1⟩).length : Int) := by
          rw [pushL_len _ _ _ hC.len hC.w1]; have := hC.len; split <;> omega
        clear hK hX q0 q1 q2 q3 hC
        go_wp2_with fail
        refine (len_ck hC4).mono ?_
        rintro e w' ⟨rfl, rfl⟩
        generalize (pushL (1 + p) l ⟨⟨x1, x2, x3, x4⟩, hx.1⟩).length = m at *
        go_wp2_with fail
        go_ret
        exact ⟨by rfl, hO.below⟩
      · refine (add_bad b _ (1 + p) ⟨x1, x2, x3, x4⟩ hC.w1 hC.cell0 hx).mono ?_
        rintro e w4 ⟨rfl, hK⟩
        replace hO := hO.keep hK
        replace hC := hC.below hK
        clear hK hX q0 q1 q2 q3
        go_wp2_with fail
        refine (Best_ck hC).mono ?_
        rintro e w5 ⟨rfl, hK⟩
        replace hO := hO.keep hK
        replace hC := hC.below hK
        clear hK
        go_wp2_with fail
        refine (len_ck hC).mono ?_
        rintro e w' ⟨rfl, rfl⟩
        go_wp2_with fail
        go_ret
        exact ⟨by rfl, hO.below⟩

theorem refused_walk (win : Int) (a : Option Addr) (len cap : Nat) (g : Nat → Four) (x1 x2 x3 x4 : Int) (w : World) (hw : (Lit.int .i64 win).wf = true) (hF : Fours w a len g) (_ : In64 ⟨x1, x2, x3, x4⟩) :
    Calls Try.prog 13 #[.int .i64 win, .slice a len cap, .agg #[.int .i64 x1, .int .i64 x2, .int .i64 x3, .int .i64 x4]] w fun e w' => e = .returned (.bool true) ∧ Below w.heap.size w w' :=
  refused_core win a len cap g x1 x2 x3 x4 w (bounds_i64 hw).1 (bounds_i64 hw).2 hF

end Go.Proofs.Ytfjdooloikofoaa.SyncA
