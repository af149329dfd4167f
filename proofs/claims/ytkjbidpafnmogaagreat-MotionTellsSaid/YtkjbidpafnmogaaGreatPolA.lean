/- poly: none, square, Upper. -/
import Derived.Test.YtkjbidpafnmogaaGreatMatI
namespace Go.Proofs.YtkjbidpafnmogaaGreat.Base
open Go.RowKit
set_option linter.unusedVariables false
set_option linter.unusedSimpArgs false

theorem pnone_ok {W : World} {b : Nat} {c : Bool} (h : UP W b c) : Calls Tryz.prog 48 #[.pointer (some ⟨b, 0, none⟩)] W fun e w' => e = .returned (.bool false) ∧ W = w' := by
  go_enter Tryz.func48, Tryz.ntmps48
  go_wp2_with fail
  refine (uDot_ok h _ _ _ _).mono ?_
  rintro e w1 ⟨rfl, rfl⟩
  go_wp2_with fail
  go_ret
  exact ⟨rfl, rfl⟩
theorem pnone_un {W : World} {p : Value} (hp : Calls Tryz.prog 114 #[p] W fun e w' => e = .returned (.bool true) ∧ W = w') : Calls Tryz.prog 48 #[p] W fun e w' => e = .returned (.bool true) ∧ W = w' := by
  go_enter Tryz.func48, Tryz.ntmps48
  go_wp2_with fail
  refine (uDot_none hp _ _).mono ?_
  rintro e w1 ⟨rfl, rfl⟩
  go_wp2_with fail
  go_ret
  exact ⟨rfl, rfl⟩

def sqM (m : Mt) : Prop := okMt m ∧ m.r = m.c
instance (m : Mt) : Decidable (sqM m) := by unfold sqM; infer_instance
theorem square_is (m : Mt) (a : Option Addr) (k : Nat) (W : World) : Calls Tryz.prog 49 #[.agg #[.int .i64 m.r, .int .i64 m.c, .slice a m.v.length k]] W fun e w' => e = .returned (.bool (decide (sqM m))) ∧ Below W.heap.size W w' := by
  obtain ⟨ans, hans⟩ : ∃ ans, decide (sqM m) = ans := ⟨_, rfl⟩
  rw [hans]
  have hCh := fun w => mcheck_is m a k w
  by_cases hok : okMt m
  · have hc0 : chkMt m = 0 := if_pos hok
    rw [hc0] at hCh
    by_cases hsq : m.r = m.c
    · have HA := Lib.hid (show ans = true from hans ▸ decide_eq_true ⟨hok, hsq⟩)
      clear hans hok hc0
      obtain ⟨r, c, v⟩ := m
      dsimp only at *
      subst hsq
      generalize v.length = n at *
      go_enter Tryz.func49, Tryz.ntmps49
      go_wp2_with fail
      have hB := upA (upR W) (Obj.cells #[Value.int .i64 r, .int .i64 r, .slice a n k] 24)
      have g0 := Blk.new W #[Value.int .i64 r, .int .i64 r, .slice a n k] 24
      refine (hCh _).mono ?_
      rintro e w1 ⟨rfl, hK⟩
      replace hB := more hB hK
      replace g0 := g0.keep hK
      have d0 := g0.cell
      clear hCh hK
      go_wp2_with fail
      go_ret
      exact ⟨by rw [HA.out]; rfl, hB⟩
    · have HA := Lib.hid (show ans = false from hans ▸ decide_eq_false (fun h => hsq h.2))
      clear hans hok hc0
      obtain ⟨r, c, v⟩ := m
      dsimp only at *
      generalize v.length = n at *
      have hb1 : (r == c) = false := by simpa using hsq
      go_enter Tryz.func49, Tryz.ntmps49
      go_wp2_with fail
      have hB := upA (upR W) (Obj.cells #[Value.int .i64 r, .int .i64 c, .slice a n k] 24)
      have g0 := Blk.new W #[Value.int .i64 r, .int .i64 c, .slice a n k] 24
      refine (hCh _).mono ?_
      rintro e w1 ⟨rfl, hK⟩
      replace hB := more hB hK
      replace g0 := g0.keep hK
      have d0 := g0.cell
      clear hCh hK
      go_wp2_with fail
      go_ret
      exact ⟨by rw [HA.out]; rfl, hB⟩
  · have hc0 : chkMt m = 3 := if_neg hok
    rw [hc0] at hCh
    have HA := Lib.hid (show ans = false from hans ▸ decide_eq_false (fun h => hok h.1))
    clear hans hok hc0
    obtain ⟨r, c, v⟩ := m
    dsimp only at *
    generalize v.length = n at *
    go_enter Tryz.func49, Tryz.ntmps49
    go_wp2_with fail
    have hB := upA (upR W) (Obj.cells #[Value.int .i64 r, .int .i64 c, .slice a n k] 24)
    have g0 := Blk.new W #[Value.int .i64 r, .int .i64 c, .slice a n k] 24
    refine (hCh _).mono ?_
    rintro e w1 ⟨rfl, hK⟩
    replace hB := more hB hK
    replace g0 := g0.keep hK
    have d0 := g0.cell
    clear hCh hK
    go_wp2_with fail
    go_ret
    exact ⟨by rw [HA.out]; rfl, hB⟩

def upAt (m : Mt) (i : Nat) : Prop := i % m.c.toNat ≤ i / m.c.toNat → m.v.getD i 0 = 0
instance (m : Mt) (i : Nat) : Decidable (upAt m i) := by unfold upAt; infer_instance
def upM (m : Mt) : Prop := sqM m ∧ ∀ i, i < m.v.length → upAt m i
instance (m : Mt) : Decidable (upM m) := by unfold upM; infer_instance
theorem up_small {k c q e : Nat} (hc : 1 ≤ c) (hc2 : c ≤ 1000) (hk : k ≤ 1000) (hq : k / c = q) (he : k % c = e) :
    IntKind.i64.wrap ((k : Int).tdiv (c : Int)) = (q : Int) ∧ (k : Int) / (c : Int) = (q : Int) ∧ (k : Int) % (c : Int) = (e : Int) ∧ (k : Int).tmod (c : Int) = (e : Int) ∧ ¬ ((c : Int) = 0) ∧ ¬ (c = 0) ∧ IntKind.i64.wrap (e : Int) = (e : Int) ∧ IntKind.i64.wrap (q : Int) = (q : Int) ∧ (k : Int).tdiv (c : Int) = (q : Int) := by
  have hk0 : (0 : Int) ≤ (k : Int) := by omega
  have h1 : k / c ≤ k := Nat.div_le_self k c
  have h2 : k % c < c := Nat.mod_lt k (by omega)
  have h3 : (k : Int).tdiv (c : Int) = (q : Int) := by rw [Int.tdiv_eq_ediv_of_nonneg hk0, ← Int.natCast_ediv, hq]
  have h4 : (k : Int).tmod (c : Int) = (e : Int) := by rw [Int.tmod_eq_emod_of_nonneg hk0, ← Int.natCast_emod, he]
  rw [hq] at h1
  rw [he] at h2
  refine ⟨by rw [h3]; exact IntWalk.i64_in _ (by omega), by rw [← hq]; exact (Int.natCast_ediv _ _).symm, by rw [← he]; exact (Int.natCast_emod _ _).symm, h4, by omega, by omega, IntWalk.i64_in _ (by omega), IntWalk.i64_in _ (by omega), h3⟩
set_option maxHeartbeats 4000000 in
set_option maxRecDepth 100000 in
theorem upper_is {W : World} {m : Mt} {a : Option Addr} {k : Nat} (h : MI 0 W a k m.v) : Calls Tryz.prog 22 #[.agg #[.int .i64 m.r, .int .i64 m.c, .slice a m.v.length k]] W fun e w' => e = .returned (.bool (decide (upM m))) ∧ Below W.heap.size W w' := by
  obtain ⟨ans, hans⟩ : ∃ ans, decide (upM m) = ans := ⟨_, rfl⟩
  rw [hans]
  have hSq := fun w => square_is m a k w
  by_cases hsq : sqM m
  · obtain ⟨r, c, hr, hc, hr1, hr2, hc1, hc2, hlen⟩ := hsq.1.nat
    have hmul := Nat.mul_le_mul hr2 hc2
    have HUP := Lib.hid (show ans = true ↔ (∀ i, i < m.v.length → upAt m i) by rw [← hans]; exact ⟨fun h => (of_decide_eq_true h).2, fun h => decide_eq_true ⟨hsq, h⟩⟩)
    have HAT := Lib.hid (show ∀ i, upAt m i ↔ (i % c ≤ i / c → m.v.getD i 0 = 0) from fun i => by unfold upAt; rw [hc]; exact Iff.rfl)
    rw [decide_eq_true hsq] at hSq
    clear hans hsq
    generalize upAt m = UA at *
    obtain ⟨mr, mc, v⟩ := m
    dsimp only at *
    subst hr hc
    obtain ⟨n, hn⟩ : ∃ n, v.length = n := ⟨_, rfl⟩
    rw [hn] at hSq HUP hlen ⊢
    have hn9 : n ≤ 1000 := by omega
    clear hlen hmul
    go_enter Tryz.func22, Tryz.ntmps22
    go_wp2_with fail
    have hB := upA (upR W) (Obj.cells #[Value.int .i64 r, .int .i64 c, .slice a n k] 24)
    have g0 := Blk.new W #[Value.int .i64 r, .int .i64 c, .slice a n k] 24
    refine (hSq _).mono ?_
    rintro e w1 ⟨rfl, hK⟩
    replace hB := more hB hK
    replace g0 := g0.keep hK
    have d0 := g0.cell
    clear hSq hK
    go_wp2_with fail
    go_loopw [11] (fun i wr => ∃ j : Nat, j ≤ n ∧ i = .int .i64 j ∧ (∀ i, i < j → UA i) ∧ Blk wr W.heap.size #[Value.int .i64 r, .int .i64 c, .slice a n k] 24 ∧ Below W.heap.size W wr) (fun i _ => n - (intOf i).toNat)
    case atStart => exact ⟨0, Nat.zero_le _, rfl, fun i hi => absurd hi (Nat.not_lt_zero i), g0, hB⟩
    case round =>
      clear d0 g0 hB
      obtain ⟨j, hj, rfl, hall, g0, hB⟩ := hrel
      by_cases hlt : j < n
      · have hlt' : (j : Int) < (n : Int) := by omega
        have hj0 : (0 : Int) ≤ (j : Int) := by omega
        have hx := (h.keep hB).at j (by rw [hn]; exact hlt)
        obtain ⟨x, rfl, hx1, hx2⟩ := hx
        have HG := Lib.hid (show v.getD j 0 = v[j]'(by rw [hn]; exact hlt) by rw [List.getD_eq_getElem?_getD, List.getElem?_eq_getElem (by rw [hn]; exact hlt)]; rfl)
        obtain ⟨z, hz⟩ : ∃ z, v[j]'(by rw [hn]; exact hlt) = z := ⟨_, rfl⟩
        rw [hz] at hx1 hx2 HG
        clear hz
        obtain ⟨q, hq⟩ : ∃ q, j / c = q := ⟨_, rfl⟩
        obtain ⟨e, he⟩ : ∃ e, j % c = e := ⟨_, rfl⟩
        obtain ⟨f1, f2, f3, f4, f5, f6, f7, f8, f9⟩ := up_small (k := j) hc1 (Nat.le_trans hc2 (by decide)) (by omega) hq he
        have HJ := Lib.hid (show UA j ↔ (e ≤ q → z = 0) by have := HAT.out j; rw [HG.out, hq, he] at this; exact this)
        have HALL := Lib.hid hall
        have d0 := g0.cell
        have d1 := d0 1
        simp at d1
        clear hall hq he HG
        by_cases hle : e ≤ q
        · have hle' : (e : Int) ≤ (q : Int) := by omega
          by_cases hz : z = 0
          · have hbz : (z != 0) = false := by simp [hz]
            have HJ2 := Lib.hid (HJ.out.2 fun _ => hz)
            clear HJ hz
            go_wp2_with fail
            go_quiet (fail)
            go_wp2_with fail
            go_roundw
            case rel => exact ⟨j + 1, by omega, by go_num, fun i hi => if h : i < j then HALL.out i h else (show i = j by omega) ▸ HJ2.out, g0.keep (below_drewN _ _), more hB (below_drewN _ _)⟩
            case measure => simp [intOf]; omega
          · have hbz : (z != 0) = true := by simp [hz]
            have HF := Lib.hid (show ans = false from Bool.eq_false_iff.2 fun hh => hz (HJ.out.1 (HUP.out.1 hh j hlt) hle))
            clear HJ hz
            go_wp2_with fail
            go_quiet (fail)
            go_wp2_with fail
            go_ret
            exact ⟨by rw [HF.out]; rfl, more hB (below_drewN _ _)⟩
        · have hle' : ¬ (e : Int) ≤ (q : Int) := by omega
          have HJ2 := Lib.hid (HJ.out.2 fun h => absurd h hle)
          clear HJ
          go_wp2_with fail
          go_quiet (fail)
          go_wp2_with fail
          go_roundw
          case rel => exact ⟨j + 1, by omega, by go_num, fun i hi => if h : i < j then HALL.out i h else (show i = j by omega) ▸ HJ2.out, g0.keep (below_drewN _ _), more hB (below_drewN _ _)⟩
          case measure => simp [intOf]; omega
      · have hge : ¬ (j : Int) < (n : Int) := by omega
        have HT := Lib.hid (show ans = true from HUP.out.2 fun i hi => hall i (by omega))
        go_wp2_with fail
        go_ret
        exact ⟨by rw [HT.out]; rfl, hB⟩
  · have HF := Lib.hid (show ans = false from hans ▸ decide_eq_false fun hh => hsq hh.1)
    rw [decide_eq_false hsq] at hSq
    clear hans hsq h
    obtain ⟨r, c, v⟩ := m
    dsimp only at *
    generalize v.length = n at *
    go_enter Tryz.func22, Tryz.ntmps22
    go_wp2_with fail
    have hB := upA (upR W) (Obj.cells #[Value.int .i64 r, .int .i64 c, .slice a n k] 24)
    refine (hSq _).mono ?_
    rintro e w1 ⟨rfl, hK⟩
    replace hB := more hB hK
    clear hSq hK
    go_wp2_with fail
    go_ret
    exact ⟨by rw [HF.out]; rfl, hB⟩

end Go.Proofs.YtkjbidpafnmogaaGreat.Base
