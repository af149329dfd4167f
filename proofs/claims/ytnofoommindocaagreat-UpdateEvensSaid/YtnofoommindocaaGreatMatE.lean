/- mat: Eye. -/
import Derived.Test.YtnofoommindocaaGreatMatD
namespace Go.Proofs.YtnofoommindocaaGreat.Base
open Go.RowKit
set_option linter.unusedVariables false
set_option linter.unusedSimpArgs false

theorem onesA_zero2 (n : Nat) : onesA n 0 = Array.replicate n (Value.int .i64 0) := by
  rw [onesA_zero]
  simp
def eyeM (n : Nat) : Mt := diagM (List.replicate n 4294967296)

theorem eye_diag {W : World} {b n : Nat} (hb : Blk W b (onesA n n) 3) (h1 : 1 ≤ n) (h12 : n ≤ 12) :
    Calls Tryz.prog 154 #[.slice (some ⟨b, 0, none⟩) n n] W fun e w' => ∃ v, e = .returned (.tuple #[v, .int .i64 0]) ∧ MO W.heap.size w' v (eyeM n) ∧ Below W.heap.size W w' := by
  have hl : (List.replicate n (4294967296 : Int)).length = n := List.length_replicate
  rw [onesA_all] at hb
  have hmi := MI.of_blk (B := 0) hb (Nat.zero_le _) (fun z hz => by rw [List.eq_of_mem_replicate hz]; exact ⟨by decide, by decide⟩) (Nat.le_trans (Nat.le_of_eq hl) (Nat.le_trans h12 (by decide)))
  have hdg := diag_is hmi (Nat.le_trans h1 (Nat.le_of_eq hl.symm)) (Nat.le_trans (Nat.le_of_eq hl) h12)
  rw [hl] at hdg
  exact hdg
set_option maxHeartbeats 1000000 in
set_option maxRecDepth 100000 in
theorem eye_is (n : Nat) (h1 : 1 ≤ n) (h12 : n ≤ 12) (W : World) :
    Calls Tryz.prog 100 #[.int .i64 n] W fun e w' => ∃ v, e = .returned (.tuple #[v, .int .i64 0]) ∧ MO W.heap.size w' v (eyeM n) ∧ Below W.heap.size W w' := by
  have hd := decide_eq_true (show okD (n : Int) from ⟨by omega, by omega⟩)
  go_enter Tryz.func100, Tryz.ntmps100
  go_wp2_with fail
  refine (sized_is n _).mono ?_
  rintro e w1 ⟨rfl, hw⟩
  rw [hd]
  have hB := upA (upR W) (Obj.cells #[Value.int .i64 0, .int .i64 0, .slice none 0 0] 78)
  have g1 := Blk.new W #[Value.int .i64 0, .int .i64 0, .slice none 0 0] 78
  rw [hw] at hB g1
  clear hw hd
  go_wp2_with (at_make; refine make_ints _ rfl _ _ rfl n rfl rfl (by omega) ?_)
  intro w2 hb hK
  rw [← onesA_zero2] at hb
  have hlo := hB.size
  replace hB := more hB hK
  replace g1 := g1.keep hK
  clear hK
  obtain ⟨bl, hbl⟩ : ∃ bl, w1.heap.size = bl := ⟨_, rfl⟩
  rw [hbl] at hb hlo ⊢
  have hne : bl ≠ W.heap.size := blk_ne hb g1 (by decide)
  clear hbl
  go_wp2_with fail
  go_loopw [14] (fun i wr => ∃ j : Nat, j ≤ n ∧ i = .int .i64 j ∧ Blk wr bl (onesA n j) 3 ∧ Blk wr W.heap.size #[.int .i64 0, .int .i64 0, .slice none 0 0] 78 ∧ Below W.heap.size W wr) (fun i _ => n - (intOf i).toNat)
  case atStart => exact ⟨0, Nat.zero_le _, rfl, hb, g1, hB⟩
  case round =>
    clear hb g1 hB
    obtain ⟨j, hj, rfl, hb, g1, hB⟩ := hrel
    by_cases hlt : j < n
    · have hlt' : (j : Int) < (n : Int) := by omega
      have hj0 : (0 : Int) ≤ (j : Int) := by omega
      have hb2 := hb.set j (.int .i64 4294967296)
      rw [onesA_set n j hlt] at hb2
      have g2 := g1.other (c := bl) (Ne.symm hne) j (.int .i64 4294967296)
      have hB2 := hB.setCell (p := ⟨bl, j, none⟩) hlo (.int .i64 4294967296)
      have c0 : wr.cell? ⟨bl, j, none⟩ = some (.int .i64 0) := by rw [hb.cell]; simp [onesA, hlt]
      have f0 := hb.frozen j
      clear hb g1 hB
      go_wp2_with fail
      go_roundw
      case rel => exact ⟨j + 1, by omega, by go_num, hb2, g2, hB2⟩
      case measure => simp [intOf]; omega
    · have hge : ¬ (j : Int) < (n : Int) := by omega
      have HJ := Lib.hid (show j = n by omega)
      have hb' : Blk wr bl (onesA n n) 3 := by rw [HJ.out] at hb; exact hb
      have hdg := eye_diag hb' h1 h12
      clear hb hb'
      go_wp2_with fail
      refine hdg.mono ?_
      rintro e w3 ⟨v, rfl, hmo, hK⟩
      have hB3 := more hB hK
      have g3 := g1.keep hK
      have hsz := hB.size
      obtain ⟨em, hem⟩ : ∃ em, eyeM n = em := ⟨_, rfl⟩
      rw [hem] at hmo
      have HEM := Lib.hid hem
      obtain ⟨av, kv, rfl, hLI⟩ := hmo.ex
      have HM := Lib.hid hmo
      clear hLI hK hdg g1 hmo hem
      obtain ⟨rr, cc, vv⟩ := em
      dsimp only at *
      generalize vv.length = ll at *
      go_wp2_with ((with_reducible refine at_st (p := 2) (q := 23) rfl ?_); refine ev_store rfl 78 _ _ rfl rfl g3 0 rfl rfl [.int .i64 rr, .int .i64 cc, .slice av ll kv] rfl (by kernel_rfl) rfl rfl #[.int .i64 rr, .int .i64 cc, .slice av ll kv] rfl ?_; intro w4 g4 ef hz4)
      have hmo4 := (HM.out.eff ef (fun k hk ht => by subst hk; exact absurd (ht.inj g3.ty) (by decide))).mono hsz
      have hB4 := ef.below hB3 (by rintro k rfl; omega)
      refine bodyPost_ret (results_ct (g := W.heap.size) (cs := #[.int .i64 rr, .int .i64 cc, .slice av ll kv]) rfl _ _ rfl g4 Tryz.underlying78 rfl (by kernel_rfl)) rfl ?_
      exact ⟨_, rfl, by rw [HEM.out]; exact hmo4, hB4⟩

end Go.Proofs.YtnofoommindocaaGreat.Base
