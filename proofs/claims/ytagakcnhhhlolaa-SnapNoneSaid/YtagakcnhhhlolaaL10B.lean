/- The chapter's examples (law 10): awake. -/
import Derived.Test.YtagakcnhhhlolaaL10A
import Derived.Test.YtagakcnhhhlolaaKitE
namespace Go.Proofs.Ytagakcnhhhlolaa.Base
open Go.RowKit
set_option linter.unusedVariables false
set_option linter.unusedSimpArgs false

theorem ok_two : okM twoM := by
  refine ⟨by decide, ⟨?_, by decide⟩, ⟨by decide, ?_⟩, by decide, ⟨?_, by decide⟩⟩
  · rintro j ⟨hj, h1, h2⟩
    have : j = 0 ∨ j = 1 ∨ j = 2 ∨ j = 3 := by simp [twoM] at hj; omega
    rcases this with rfl | rfl | rfl | rfl
    · exact h1 rfl
    · rcases h2 with h2 | h2
      · exact absurd h2 (by decide)
      · unfold farP at h2; simp [twoM] at h2
    · exact h1 rfl
    · exact h1 rfl
  · rintro ⟨z, hz, ho⟩
    simp [twoM] at hz
    unfold offP at ho
    rcases hz with rfl | rfl <;> omega
  · rintro j ⟨hj, h⟩
    have : j = 0 ∨ j = 1 ∨ j = 2 := by simp [twoM] at hj; omega
    rcases this with rfl | rfl | rfl
    · rcases h with h | h | ⟨z, hz, h⟩ | h
      · simp [twoM, row0, row1, row2, lastS] at h
      · simp [twoM, row0, row1, row2] at h
      · simp [twoM, row0, row1, row2] at hz; unfold farP at h; rcases hz with rfl | rfl <;> omega
      · simp [twoM, row0, row1, row2] at h
    · rcases h with h | h | ⟨z, hz, h⟩ | h
      · simp [twoM, row0, row1, row2, lastS] at h
      · simp [twoM, row0, row1, row2] at h
      · simp [twoM, row0, row1, row2] at hz; unfold farP at h; rcases hz with rfl | rfl <;> omega
      · simp [twoM, row0, row1, row2] at h
    · rcases h with h | h | ⟨z, hz, h⟩ | h
      · simp [twoM, row0, row1, row2, lastS] at h
      · simp [twoM, row0, row1, row2] at h
      · simp [twoM, row0, row1, row2] at hz; unfold farP at h; subst hz; omega
      · simp [twoM, row0, row1, row2] at h
theorem chk_two : chkV twoM = 0 := chkV_0.2 ok_two
theorem rows_3 : rowsS 3 twoM.rows = [row0, row1] := by rfl
theorem rows_1 : rowsS 1 twoM.rows = [] := by rfl
theorem rows_7 : rowsS 7 twoM.rows = [row2] := by rfl
theorem fits_two (p : Int) : okBL twoM (beliefB p) ∧ okBT (beliefB p) := ⟨⟨by simp [beliefB, twoM], by simp [beliefB, twoM]⟩, ⟨by simp [beliefB], by simp [beliefB], by simp [beliefB]⟩⟩
theorem fits_two5 : fitsV twoM (beliefB 2) = 5 := fitsV_5 ok_two (fits_two 2).1 (fits_two 2).2 (fun h => by
  have := ((h 0 (by decide)).2.2 1 (by decide)).2
  exact absurd this (by decide))
theorem fits_two0 : fitsV twoM (beliefB 1) = 0 := fitsV_0 ok_two (fits_two 1).1 (fits_two 1).2 (fun i hi => by
  have hi : i < 2 := hi
  have : i = 0 ∨ i = 1 := by omega
  have hk : ∀ k, k < 2 → k = 0 ∨ k = 1 := fun k hk => by omega
  rcases this with rfl | rfl
  · refine ⟨by decide, by decide, fun k h => ?_⟩
    rcases hk k h with rfl | rfl
    · exact ⟨by decide, by decide⟩
    · exact ⟨by decide, by decide⟩
  · refine ⟨by decide, by decide, fun k h => ?_⟩
    rcases hk k h with rfl | rfl
    · exact ⟨by decide, by decide⟩
    · exact ⟨by decide, by decide⟩)
theorem two_len : twoM.rows.length ≤ 1000 := by decide
theorem two_h : ∀ q ∈ twoM.rows, q.h.length ≤ 100000 := by intro q hq; simp [twoM] at hq; rcases hq with rfl | rfl | rfl <;> decide

theorem chk_two_is {B : Nat} {w : World} {v : Value} {b : Nat} (h : Two B w v b) : Calls Try.prog 20 #[v] w fun e w' => e = .returned (.int .i64 0) ∧ Below w.heap.size w w' :=
  (chk_val h.mm two_len).mono fun _ _ ⟨he, hb⟩ => ⟨by rw [he, chk_two], hb⟩
theorem dim_two_is {B : Nat} {w : World} {v : Value} {b : Nat} (h : Two B w v b) (s : Int) (n : Nat) (hs : (rowsS s twoM.rows).length = n) : Calls Try.prog 24 #[v, .int .i64 s] w fun e w' => e = .returned (.int .i64 n) ∧ Below w.heap.size w w' :=
  (dim_is h.mm two_len two_h).mono fun _ _ ⟨he, hb⟩ => ⟨by rw [he, hs], hb⟩
theorem rows_two_is {B : Nat} {w : World} {v : Value} {b : Nat} (h : Two B w v b) : Calls Try.prog 18 #[v, .int .i64 7] w fun e w' => ∃ a c, e = .returned (.slice a 1 c) ∧ MR w.heap.size w' a c [row2] ∧ Below w.heap.size w w' :=
  (rows_is h.mm two_len two_h).mono fun _ _ ⟨u, he, hO, hb⟩ => by
    rw [rows_7] at hO
    obtain ⟨a, c, hu, hm⟩ := hO.mr (by simp)
    exact ⟨a, c, by rw [he, hu]; rfl, hm, hb⟩

theorem MM.mono {B B' : Nat} {W : World} {v : Value} {M : Mdl} (h : MM B W v M) (hB : B' ≤ B) : MM B' W v M := by
  obtain ⟨aA, cA, aQ, cQ, aR, cR, hv, h1, h2, h3⟩ := h.ex
  exact ⟨⟨aA, cA, aQ, cQ, aR, cR, hv, h1.mono hB, h2.mono hB, h3.mono hB⟩, h.n, h.tick, h.gate, h.rmin⟩
theorem MB.mono {B B' : Nat} {W : World} {v : Value} {b : Blf} (h : MB B W v b) (hB : B' ≤ B) : MB B' W v b := by
  obtain ⟨aX, cX, aP, cP, hv, h1, h2⟩ := h.ex
  exact ⟨⟨aX, cX, aP, cP, hv, h1.mono hB, h2.mono hB⟩, h.t, h.pass, h.fail⟩
theorem fits_val {B B' : Nat} {w0 : World} {v u : Value} {M : Mdl} {b : Blf} {r : Int} (hM : MM B w0 v M) (hb : MB B' w0 u b) (hlen : M.rows.length ≤ 1000) (hr : fitsV M b = r) :
    Calls Try.prog 22 #[v, u] w0 fun e w' => e = .returned (.int .i64 r) ∧ Below w0.heap.size w0 w' :=
  (fits_is (hM.mono (Nat.zero_le _)) (hb.mono (Nat.zero_le _)) hlen).mono fun _ _ ⟨he, hb⟩ => ⟨by rw [he, hr], hb⟩

set_option maxHeartbeats 8000000 in
set_option maxRecDepth 100000 in
theorem awake_is (w : World) : Calls Try.prog 15 #[] w fun e w' => e = .returned (.bool true) ∧ Below w.heap.size w w' := by
  have hfld : ∀ (w : World) (x0 x1 x2 x3 x4 x5 x6 : Value), (Instr.field 25 (.agg #[x0, x1, x2, x3, x4, x5, x6]) 6).run Try.prog w = .ok x6 w := fun w x0 x1 x2 x3 x4 x5 x6 => by kernel_rfl
  go_enter Try.func15, Try.ntmps15
  go_wp2_with fail
  refine (two_is _).mono ?_
  rintro e w1 ⟨v1, b1, rfl, h1, hB⟩
  go_wp2_with fail
  refine (chk_two_is h1).mono ?_
  rintro e w2 ⟨rfl, hK⟩
  replace hB := more hB hK
  clear hK h1
  go_wp2_with fail
  refine (two_is _).mono ?_
  rintro e w3 ⟨v3, b3, rfl, h3, hK⟩
  replace hB := more hB hK
  clear hK
  go_wp2_with fail
  refine (dim_two_is h3 3 2 (by rw [rows_3]; rfl)).mono ?_
  rintro e w4 ⟨rfl, hK⟩
  replace hB := more hB hK
  clear hK h3
  go_wp2_with fail
  refine (two_is _).mono ?_
  rintro e w5 ⟨v5, b5, rfl, h5, hK⟩
  replace hB := more hB hK
  clear hK
  go_wp2_with fail
  refine (dim_two_is h5 1 0 (by rw [rows_1]; rfl)).mono ?_
  rintro e w6 ⟨rfl, hK⟩
  replace hB := more hB hK
  clear hK h5
  go_wp2_with fail
  refine (two_is _).mono ?_
  rintro e w7 ⟨v7, b7, rfl, h7, hK⟩
  replace hB := more hB hK
  clear hK
  go_wp2_with fail
  refine (rows_two_is h7).mono ?_
  rintro e w8 ⟨a8, c8, rfl, h8, hK⟩
  replace hB := more hB hK
  clear hK h7
  go_wp2_with fail
  refine (two_is _).mono ?_
  rintro e w9 ⟨v9, b9, rfl, h9, hK⟩
  replace hB := more hB hK
  replace h8 := h8.keep hK
  clear hK
  have h9r := h9.rows
  obtain ⟨gA, gQ, rfl, _, _⟩ := h9.ex
  clear h9
  go_wp2_with fail
  refine (sameRows_same h8 h9r.mr2).mono ?_
  rintro e w10 ⟨rfl, hK⟩
  replace hB := more hB hK
  clear hK h8 h9r
  go_wp2_with fail
  refine (two_is _).mono ?_
  rintro e w11 ⟨v11, b11, rfl, h11, hK⟩
  replace hB := more hB hK
  clear hK
  go_wp2_with fail
  refine (belief_is _ 2 (i64_lit rfl)).mono ?_
  rintro e w12 ⟨v12, rfl, h12, hK⟩
  replace hB := more hB hK
  replace h11 := h11.keep hK
  clear hK
  go_wp2_with fail
  refine (fits_val h11.mm h12 two_len fits_two5).mono ?_
  rintro e w13 ⟨rfl, hK⟩
  replace hB := more hB hK
  clear hK h11 h12
  go_wp2_with fail
  go_ret
  exact ⟨rfl, hB⟩

end Go.Proofs.Ytagakcnhhhlolaa.Base
