/- StampTrue: a stamp is as near to the truth as its offset; no conditions. -/
import Derived.Test.YtfjdooloikofoaaStampC
import Derived.OpenShut
namespace Go.Proofs.Ytfjdooloikofoaa.StampA
open Go.RowKit
set_option linter.unusedVariables false

theorem tmod_emod (x n : Int) (hn : 0 < n) : (if x.tmod n < 0 then x.tmod n + n else x.tmod n) = x % n := by
  have h1 := Int.tmod_eq_emod (a := x) (b := n)
  have h2 := Int.emod_nonneg x (by omega : n ≠ 0)
  have h3 := Int.emod_lt_of_pos x hn
  rw [h1]
  by_cases h : 0 ≤ x ∨ n ∣ x
  · rw [if_pos h]
    have : ¬ (x % n - ((0 : Nat) : Int) < 0) := by omega
    rw [if_neg this]; omega
  · rw [if_neg h]
    have hna : (n.natAbs : Int) = n := by omega
    rw [hna, if_pos (by omega)]; omega

theorem pick_any (x n : Int) (w : World) (hn : 0 < n) (hn2 : n ≤ 1099511627777) (h0 : -9223372036854775808 ≤ x) (h1 : x ≤ 9223372036854775807) :
    Calls Try.prog 25 #[.int .i64 x, .int .i64 n] w fun e w' => e = .returned (.int .i64 (x % n)) ∧ w = w' := by
  have hz : ¬ n ≤ 0 := by omega
  have hb : -n < x.tmod n ∧ x.tmod n < n := by
    have := Int.tmod_lt_of_pos x hn
    have h2 := Int.tmod_eq_emod (a := x) (b := n)
    have h3 := Int.emod_nonneg x (by omega : n ≠ 0)
    constructor
    · rw [h2]; split <;> omega
    · exact this
  obtain ⟨hb0, hb1⟩ := hb
  have HT := Lib.hid (tmod_emod x n hn)
  go_enter Try.func25, Try.ntmps25
  go_wp2
  · have hlt : x.tmod n < 0 := by assumption
    go_ret
    exact ⟨by rw [← HT.out, if_pos hlt]; rfl, rfl⟩
  · have hge : 0 ≤ x.tmod n := by assumption
    go_ret
    exact ⟨by rw [← HT.out, if_neg (by omega)]; rfl, rfl⟩

theorem pick_some (x n : Int) (w : World) (hn : 0 < n) (hn2 : n ≤ 1099511627777) (h0 : -9223372036854775808 ≤ x) (h1 : x ≤ 9223372036854775807) :
    Calls Try.prog 25 #[.int .i64 x, .int .i64 n] w fun e w' => ∃ r, e = .returned (.int .i64 r) ∧ 0 ≤ r ∧ r < n ∧ w = w' :=
  (pick_any x n w hn hn2 h0 h1).mono fun _ _ ⟨he, hw⟩ => ⟨_, he, Int.emod_nonneg x (by omega), Int.emod_lt_of_pos x hn, hw⟩

theorem At_ok (a0 a1 : Int) (a2 : Bool) (a3 a4 r1 r2 : Int) (w : World) (h : Pure.ans a0 a1 a2 a3 a4 = (r1, r2)) :
    Calls Try.prog 14 #[.int .i64 a0, .int .i64 a1, .bool a2, .int .i64 a3, .int .i64 a4] w fun e w' => e = .returned (.tuple #[.int .i64 r1, .int .i64 r2]) ∧ Below w.heap.size w w' :=
  PStampTells.stamp_At.calls 4 a0 a1 a2 a3 a4 r1 r2 w (by
    have := Pure.at_f 0 a0 a1 a2 a3 a4
    rw [Nat.zero_add] at this
    rw [this, h])

theorem ans_neg (a b c d : Int) (ha : 0 ≤ a) (ha2 : a < 549755813888) (hb : 0 ≤ b) (hb2 : b < 549755813888) (hc : 0 ≤ c) (hc2 : c < 2097152) (hd : 0 ≤ d) (hd2 : d < 274877906944) (h : a + (c - 1048576) < 0) :
    Pure.ans (a - (b - 274877906944)) (b - 274877906944 + (c - 1048576)) true (a + d) 2097152 = (0, 4) := by
  unfold Pure.ans Pure.odd
  rw [if_neg (by simp; omega), if_neg (by simp), if_pos (by omega)]

theorem ans_pos (a b c d : Int) (ha : 0 ≤ a) (ha2 : a < 549755813888) (hb : 0 ≤ b) (hb2 : b < 549755813888) (hc : 0 ≤ c) (hc2 : c < 2097152) (hd : 0 ≤ d) (hd2 : d < 274877906944) (h : 0 ≤ a + (c - 1048576)) :
    Pure.ans (a - (b - 274877906944)) (b - 274877906944 + (c - 1048576)) true (a + d) 2097152 = (if a + (c - 1048576) ≤ a + d then a + (c - 1048576) else a + d, 0) := by
  unfold Pure.ans Pure.odd
  rw [if_neg (by simp; omega), if_neg (by simp), if_neg (by omega), if_neg (by omega), Go.Proofs.YtfjdooloikofoaaW.PrintWords.mn]
  rw [show a - (b - 274877906944) + (b - 274877906944 + (c - 1048576)) = a + (c - 1048576) from by omega]
  by_cases h2 : a + (c - 1048576) ≤ a + d
  · rw [if_pos h2, if_neg (by omega)]
  · rw [if_neg h2, if_pos (by omega)]

theorem true_walk (a0 a1 a2 a3 : Int) (w : World) (w0 : (Lit.int .i64 a0).wf = true) (w1 : (Lit.int .i64 a1).wf = true) (w2 : (Lit.int .i64 a2).wf = true) (w3 : (Lit.int .i64 a3).wf = true) :
    Calls Try.prog 7 #[.int .i64 a0, .int .i64 a1, .int .i64 a2, .int .i64 a3] w fun e w' => e = .returned (.bool true) ∧ Below w.heap.size w w' := by
  have hO : Old w w := ⟨Below.refl _ _⟩
  have b0 := bounds_i64 w0
  have b1 := bounds_i64 w1
  have b2 := bounds_i64 w2
  have b3 := bounds_i64 w3
  clear w0 w1 w2 w3
  go_enter Try.func7, Try.ntmps7
  go_wp2_with fail
  refine (known_walk _).mono ?_
  rintro e w1 ⟨rfl, hK⟩
  replace hO := hO.keep hK
  clear hK
  go_wp2_with fail
  refine (pick_some _ _ _ (by omega) (by omega) (by omega) (by omega)).mono ?_
  rintro e w' ⟨a, rfl, ha, ha2, rfl⟩
  go_wp2_with fail
  refine (pick_some _ _ _ (by omega) (by omega) (by omega) (by omega)).mono ?_
  rintro e w' ⟨d, rfl, hd, hd2, rfl⟩
  go_wp2_with fail
  refine (pick_some _ _ _ (by omega) (by omega) (by omega) (by omega)).mono ?_
  rintro e w' ⟨b, rfl, hb, hb2, rfl⟩
  go_wp2_with fail
  refine (pick_some _ _ _ (by omega) (by omega) (by omega) (by omega)).mono ?_
  rintro e w' ⟨c, rfl, hc, hc2, rfl⟩
  clear b0 b1 b2 b3
  go_wp2_with fail
  by_cases h : a + (c - 1048576) < 0
  · refine (At_ok _ _ _ _ _ _ _ _ (ans_neg a b c d ha ha2 hb hb2 hc hc2 hd hd2 h)).mono ?_
    rintro e w2 ⟨rfl, hK⟩
    replace hO := hO.keep hK
    clear hK
    go_wp2_with fail
    go_ret
    exact ⟨rfl, hO.below⟩
  · replace h : 0 ≤ a + (c - 1048576) := by omega
    by_cases h2 : a + (c - 1048576) ≤ a + d
    · refine (At_ok _ _ _ _ _ _ _ _ ((ans_pos a b c d ha ha2 hb hb2 hc hc2 hd hd2 h).trans (by rw [if_pos h2]))).mono ?_
      rintro e w2 ⟨rfl, hK⟩
      replace hO := hO.keep hK
      clear hK
      go_wp2
      all_goals go_ret
      all_goals exact ⟨by rfl, hO.below⟩
    · refine (At_ok _ _ _ _ _ _ _ _ ((ans_pos a b c d ha ha2 hb hb2 hc hc2 hd hd2 h).trans (by rw [if_neg h2]))).mono ?_
      replace h2 : a + d < a + (c - 1048576) := by omega
      rintro e w2 ⟨rfl, hK⟩
      replace hO := hO.keep hK
      clear hK
      go_wp2
      all_goals go_ret
      all_goals exact ⟨by rfl, hO.below⟩

end Go.Proofs.Ytfjdooloikofoaa.StampA
