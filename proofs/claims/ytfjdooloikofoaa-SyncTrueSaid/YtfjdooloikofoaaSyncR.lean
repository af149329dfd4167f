/- SyncScript: which exchanges a clock takes, and which one is the best; no conditions. -/
import Derived.Test.YtfjdooloikofoaaSyncM
import Derived.Test.YtfjdooloikofoaaSyncP
import Derived.Test.YtfjdooloikofoaaSyncQ
namespace Go.Proofs.Ytfjdooloikofoaa.SyncA
open Go.RowKit Go.Shelf Go.Proofs.Ytfjdooloikofoaa.StampA Go.Proofs.Ytfjdooloikofoaa.Base
set_option linter.unusedVariables false

/-- What an exchange makes of the list, and what is answered. -/
def ADD (win : Int) (l : List TSw) (x : Sw) (r : Int) (l' : List TSw) : Prop :=
  (∃ hx : okS x, r = 0 ∧ l' = pushL win l ⟨x, hx.1⟩) ∨ (¬ okS x ∧ r = 2 ∧ l' = l)
theorem ADD.ex (win : Int) (l : List TSw) (x : Sw) : ∃ r l', ADD win l x r l' := by
  by_cases hx : okS x
  · exact ⟨_, _, .inl ⟨hx, rfl, rfl⟩⟩
  · exact ⟨_, _, .inr ⟨hx, rfl, rfl⟩⟩
theorem add_is {w : World} {b : Nat} {win r : Int} {l l' : List TSw} {x1 x2 x3 x4 : Int} (hA : ADD win l ⟨x1, x2, x3, x4⟩ r l') (h : CK w b win l) :
    Calls Try.prog 27 #[.pointer (some ⟨b, 0, none⟩), .agg #[.int .i64 x1, .int .i64 x2, .int .i64 x3, .int .i64 x4]] w fun e w' => e = .returned (.int .i64 r) ∧ CK w' b win l' ∧ But b w w' := by
  rcases hA with ⟨hx, rfl, rfl⟩ | ⟨hx, rfl, rfl⟩
  · exact add_ok h ⟨x1, x2, x3, x4⟩ hx
  · exact (add_bad b w win ⟨x1, x2, x3, x4⟩ h.w1 h.cell0 hx).mono fun _ _ ⟨he, hb⟩ => ⟨he, h.below hb, SyncA.But.of_below hb h.lt⟩
theorem radd_is {w : World} {b av : Nat} {win r : Int} {l l' : List TSw} {x1 x2 x3 x4 : Int} (hA : ADD win l ⟨x1, x2, x3, x4⟩ r l') (h : RK w b av win l) (hav : av < w.heap.size) :
    Calls Try.prog 33 #[.pointer (some ⟨b, 0, none⟩), .agg #[.int .i64 x1, .int .i64 x2, .int .i64 x3, .int .i64 x4]] w fun e w' => e = .returned (.int .i64 r) ∧ RK w' b av win l' ∧ But b w w' := by
  rcases hA with ⟨hx, rfl, rfl⟩ | ⟨hx, rfl, rfl⟩
  · exact radd_ok h hav ⟨x1, x2, x3, x4⟩ hx
  · exact (radd_bad b w ⟨x1, x2, x3, x4⟩ hx).mono fun _ _ ⟨he, hb⟩ => ⟨he, h.keep hb, SyncA.But.of_below hb h.lt⟩

theorem old_cell {w0 w : World} {a : Addr} {v : Value} (h : Old w0 w) (hc : w0.cell? a = some v) : w.cell? a = some v :=
  (h.below.cell (World.block_lt_of_cell? w0 _ hc)).trans hc
theorem old_drew {w0 w : World} (h : Old w0 w) : Old w0 w.drew := ⟨h.below.drew⟩
/-- Within the round: the memory that came in. -/
structure SI (w : World) (ad : Addr) (k : Nat) (x1 x2 x3 x4 : Int) (W : World) : Prop where
  old : Old w W
  c0 : w.cell? (ad.add (k * 4)) = some (.int .i64 x1)
  c1 : w.cell? ⟨(ad.add (k * 4)).block, (ad.add (k * 4)).off + 1, none⟩ = some (.int .i64 x2)
  c2 : w.cell? ⟨(ad.add (k * 4)).block, (ad.add (k * 4)).off + 2, none⟩ = some (.int .i64 x3)
  c3 : w.cell? ⟨(ad.add (k * 4)).block, (ad.add (k * 4)).off + 3, none⟩ = some (.int .i64 x4)
theorem SI.cells {w : World} {ad : Addr} {k : Nat} {x1 x2 x3 x4 : Int} {W : World} (h : SI w ad k x1 x2 x3 x4 W) : SI w ad k x1 x2 x3 x4 W ∧
    (W.cell? (ad.add (k * 4)) = some (.int .i64 x1) ∧ W.cell? ⟨(ad.add (k * 4)).block, (ad.add (k * 4)).off + 1, none⟩ = some (.int .i64 x2) ∧ W.cell? ⟨(ad.add (k * 4)).block, (ad.add (k * 4)).off + 2, none⟩ = some (.int .i64 x3) ∧ W.cell? ⟨(ad.add (k * 4)).block, (ad.add (k * 4)).off + 3, none⟩ = some (.int .i64 x4)) :=
  ⟨h, old_cell h.old h.c0, old_cell h.old h.c1, old_cell h.old h.c2, old_cell h.old h.c3⟩
theorem SI.drew {w : World} {ad : Addr} {k : Nat} {x1 x2 x3 x4 : Int} {W : World} (h : SI w ad k x1 x2 x3 x4 W) : SI w ad k x1 x2 x3 x4 W.drew := ⟨old_drew h.old, h.c0, h.c1, h.c2, h.c3⟩
theorem SI.but {w : World} {ad : Addr} {k b : Nat} {x1 x2 x3 x4 : Int} {W W' : World} (h : SI w ad k x1 x2 x3 x4 W) (hb : But b W W') (hbo : w.heap.size ≤ b) : SI w ad k x1 x2 x3 x4 W' := ⟨h.old.but hb hbo, h.c0, h.c1, h.c2, h.c3⟩

theorem SI.keep {w : World} {ad : Addr} {k : Nat} {x1 x2 x3 x4 : Int} {W W' : World} (h : SI w ad k x1 x2 x3 x4 W) (hb : Below W.heap.size W W') : SI w ad k x1 x2 x3 x4 W' := ⟨h.old.keep hb, h.c0, h.c1, h.c2, h.c3⟩

set_option maxHeartbeats 4000000 in
set_option maxRecDepth 100000 in
theorem script_core (win : Int) (a : Option Addr) (len cap : Nat) (g : Nat → Four) (w : World) (hw0 : -9223372036854775808 ≤ win) (hw1 : win ≤ 9223372036854775807) (hF : Fours w a len g) :
    Calls Try.prog 10 #[.int .i64 win, .slice a len cap] w fun e w' => e = .returned (.bool true) ∧ Below w.heap.size w w' := by
  have hml := hF.len
  unfold maxLen at hml
  have hO : Old w w := ⟨Below.refl _ _⟩
  by_cases hwin : win < 1 ∨ 32 < win
  · go_enter Try.func10, Try.ntmps10
    go_wp2_with fail
    refine (new_bad win _ hwin).mono ?_
    rintro e w' ⟨rfl, rfl⟩
    go_wp2_with fail
    refine (rnew_bad win _ hwin).mono ?_
    rintro e w' ⟨rfl, rfl⟩
    go_wp2_with fail
    refine (awake16 _).mono ?_
    rintro e w1 ⟨rfl, hK⟩
    go_wp2_with fail
    go_ret
    exact ⟨rfl, hK⟩
  have hwa : 1 ≤ win := by omega
  have hwb : win ≤ 32 := by omega
  go_enter Try.func10, Try.ntmps10
  go_wp2_with fail
  refine (new_ck win _ hwa hwb).mono ?_
  rintro e w1 ⟨b, rfl, hbo, hC, hK⟩
  replace hO := hO.keep hK
  clear hK
  go_wp2_with fail
  refine (rnew_ok b win _ hwa hwb).mono ?_
  rintro e w2 ⟨rfl, hR, hK⟩
  have hcl := hC.lt
  have hne : w1.heap.size ≠ b := by omega
  have hro : w.heap.size ≤ w1.heap.size := hO.below.size
  replace hO := hO.keep hK
  replace hC := hC.below hK
  clear hK hcl
  generalize w1.heap.size = rb at *
  by_cases h100 : 100 < len
  · have h100' : (100 : Int) < (len : Int) := by omega
    go_wp2_with fail
    refine (awake16 _).mono ?_
    rintro e w3 ⟨rfl, hK⟩
    go_wp2_with fail
    go_ret
    exact ⟨rfl, (hO.keep hK).below⟩
  have h100' : (len : Int) ≤ 100 := by omega
  go_wp2_with fail
  go_loopw [9] (fun i wr => ∃ (k : Nat) (l : List TSw), k ≤ len ∧ i = .int .i64 k ∧ CK wr b win l ∧ RK wr rb b win l ∧ Old w wr) (fun i _ => len - (intOf i).toNat)
  case atStart => exact ⟨0, [], Nat.zero_le _, rfl, hC, hR, hO⟩
  case round =>
    clear hC hR hO
    obtain ⟨k, l, hk, rfl, hC, hR, hO⟩ := hrel
    by_cases hkl : k < len
    · have hkl' : (k : Int) < (len : Int) := by omega
      have hk0 : (0 : Int) ≤ (k : Int) := by omega
      obtain ⟨ad, rfl, c0, c1, c2, c3, _⟩ := hF.at_ k hkl
      generalize (g k).a = x1 at *
      generalize (g k).b = x2 at *
      generalize (g k).c = x3 at *
      generalize (g k).d = x4 at *
      obtain ⟨r, l', hA⟩ := ADD.ex win l ⟨x1, x2, x3, x4⟩
      have hS : SI w ad k x1 x2 x3 x4 wr.drew := ⟨old_drew hO, c0, c1, c2, c3⟩
      have hC1 : CK wr.drew b win l := hC.below (Below.refl _ _).drew
      have hR1 : RK wr.drew rb b win l := hR.keep (Below.refl _ _).drew
      clear hC hR hO c0 c1 c2 c3
      go_wp2_with fail
      go_region_held3 (fun W => SI w ad k x1 x2 x3 x4 W ∧
          (W.cell? (ad.add (k * 4)) = some (.int .i64 x1) ∧ W.cell? ⟨(ad.add (k * 4)).block, (ad.add (k * 4)).off + 1, none⟩ = some (.int .i64 x2) ∧ W.cell? ⟨(ad.add (k * 4)).block, (ad.add (k * 4)).off + 2, none⟩ = some (.int .i64 x3) ∧ W.cell? ⟨(ad.add (k * 4)).block, (ad.add (k * 4)).off + 3, none⟩ = some (.int .i64 x4)))
        (exact SI.cells (by assumption))
        (first
          | (go_at_call 27; refine (add_is hA (by assumption)).mono ?_; rintro e w5 ⟨rfl, hC5, hK⟩; have hS5 := SI.but (by assumption) hK hbo; have hR5 := RK.but (by assumption) hne hK; clear hK)
          | (go_at_call 33; refine (radd_is hA (by assumption) (CK.lt (by assumption))).mono ?_; rintro e w6 ⟨rfl, hR6, hK⟩; have hS6 := SI.but (by assumption) hK hro; have hC6 := CK.but (by assumption) hne.symm hK; clear hK))
      go_wp2_with (first
        | (go_at_call 34; refine (Best_ck (by assumption)).mono ?_; rintro e w7 ⟨rfl, hK7⟩; have hS7 := SI.keep (by assumption) hK7; have hC7 := CK.below (by assumption) hK7; have hR7 := RK.keep (by assumption) hK7; clear hK7)
        | (go_at_call 35; refine (rBest (by assumption)).mono ?_; rintro e w8 ⟨rfl, hK8⟩; have hS8 := SI.keep (by assumption) hK8; have hC8 := CK.below (by assumption) hK8; have hR8 := RK.keep (by assumption) hK8; clear hK8)
        | (go_at_call 36; refine (len_ck (by assumption)).mono ?_; rintro e w9 ⟨rfl, rfl⟩)
        | (go_at_call 37; refine (rlen (by assumption)).mono ?_; rintro e w10 ⟨rfl, rfl⟩))
      all_goals try go_roundw
      case rel => exact ⟨k + 1, l', by omega, by go_num, by assumption, by assumption, SI.old (by assumption)⟩
      case measure => simp [intOf]; omega
    · have hge : ¬ (k : Int) < (len : Int) := by omega
      go_wp2_with fail
      refine (Best_ck hC).mono ?_
      rintro e w3 ⟨rfl, hK⟩
      replace hO := hO.keep hK
      replace hR := hR.keep hK
      replace hC := hC.below hK
      clear hK
      go_wp2_with fail
      refine (rBest hR).mono ?_
      rintro e w4 ⟨rfl, hK⟩
      replace hO := hO.keep hK
      clear hK
      go_wp2_with fail
      refine (awake16 _).mono ?_
      rintro e w5 ⟨rfl, hK⟩
      go_wp2_with fail
      go_ret
      exact ⟨rfl, (hO.keep hK).below⟩

theorem script_walk (win : Int) (a : Option Addr) (len cap : Nat) (g : Nat → Four) (w : World) (hw : (Lit.int .i64 win).wf = true) (hF : Fours w a len g) :
    Calls Try.prog 10 #[.int .i64 win, .slice a len cap] w fun e w' => e = .returned (.bool true) ∧ Below w.heap.size w w' :=
  script_core win a len cap g w (bounds_i64 hw).1 (bounds_i64 hw).2 hF

end Go.Proofs.Ytfjdooloikofoaa.SyncA
