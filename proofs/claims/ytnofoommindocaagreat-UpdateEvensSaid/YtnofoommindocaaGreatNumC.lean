/- wide: of, nearer, Mul, Cmp; bits.Mul64. -/
import Derived.Test.YtnofoommindocaaGreatNumB
import Derived.Lib.Mul64
import Derived.Laws.Bits64b
namespace Go.Proofs.YtnofoommindocaaGreat.Base
open Go.RowKit Go.Lib
set_option linter.unusedVariables false
set_option linter.unusedSimpArgs false

theorem upS {w w' : World} (h : Below w.heap.size w w') {p : Addr} (hp : w.heap.size ≤ p.block) (v : Value) : Below w.heap.size w (w'.setCell p v) := h.setCell hp v
theorem hiW_neg {a : Int} (h : W127 a) : hiW a < 0 ↔ a < 0 := by rw [hiW_of h]; unfold W127 at h; omega

set_option maxRecDepth 100000 in
theorem wof_is (a : Int) (h : W127 a) (W : World) : Calls Tryz.prog 211 #[wv a] W fun e w' => e = .returned (.tuple #[sv (absI a), .bool (decide (a < 0))]) ∧ Below W.heap.size W w' := by
  have hn := hiW_neg h
  by_cases ha : a < 0
  · have h0 : hiW a < 0 := hn.2 ha
    clear hn
    rw [show absI a = -a by unfold absI; rw [if_pos ha], show decide (a < 0) = true from decide_eq_true ha]
    rw [wvU a]
    go_enter Tryz.func211, Tryz.ntmps211
    go_wp2_with fail
    have hB := below_allocs W [Obj.cells #[Value.int IntKind.i64 (hiW a), Value.int IntKind.u64 (loW a)] 146, Obj.cells #[Value.int IntKind.u64 0, Value.int IntKind.u64 0] 182]
    have g0 := blk_at W [Obj.cells #[Value.int IntKind.i64 (hiW a), Value.int IntKind.u64 (loW a)] 146, Obj.cells #[Value.int IntKind.u64 0, Value.int IntKind.u64 0] 182] 0 _ _ rfl
    have g1 := blk_at W [Obj.cells #[Value.int IntKind.i64 (hiW a), Value.int IntKind.u64 (loW a)] 146, Obj.cells #[Value.int IntKind.u64 0, Value.int IntKind.u64 0] 182] 1 _ _ rfl
    simp only [List.foldl_cons, List.foldl_nil, Nat.add_zero] at hB g0 g1
    rw [← wvU]
    refine (wNeg_is a _).mono ?_
    rintro e w1 ⟨rfl, hK⟩
    replace g0 := g0.keep hK
    replace g1 := g1.keep hK
    replace hB := more hB.1 hK
    have c0 := g0.cell
    have f0 := g0.frozen
    have c1 := g1.cell
    have f1 := g1.frozen
    clear hK
    rw [wvU]
    go_wp2_with fail
    simp [bodyPost, results, Tryz.results211, go_sem, c0, c1]
    refine ⟨sv_is ?_ rfl, ?_⟩
    · exact wrap_hiW (-a)
    · exact upS (upS (upS (upS hB (p := ⟨_, _, _⟩) (Nat.le_refl _) _) (p := ⟨_, _, _⟩) (Nat.le_refl _) _) (p := ⟨_, _, _⟩) (Nat.le_succ _) _) (p := ⟨_, _, _⟩) (Nat.le_succ _) _
  · have h0 : ¬ hiW a < 0 := fun h => ha (hn.1 h)
    clear hn
    rw [show absI a = a by unfold absI; rw [if_neg ha], show decide (a < 0) = false from decide_eq_false ha]
    rw [wvU a]
    go_enter Tryz.func211, Tryz.ntmps211
    go_wp2_with fail
    simp [bodyPost, results, Tryz.results211, go_sem]
    refine ⟨sv_is ?_ rfl, ?_⟩
    · exact wrap_hiW a
    · (repeat (first | refine upA ?_ _ | refine upD ?_)); exact upR _

theorem and1 (n : Int) (h : 0 ≤ n ∧ n < 18446744073709551616) : bits .and .u64 n 1 = n % 2 := by
  obtain ⟨k, rfl⟩ := Int.eq_ofNat_of_zero_le h.1
  have h := bits_and_u64_nat k 1 (by omega) (by omega)
  have e : k &&& 1 = k % 2 := Nat.and_two_pow_sub_one_eq_mod k 1
  rw [e] at h
  rw [show ((1 : Nat) : Int) = 1 from rfl] at h
  rw [h]
  omega
/-- Is what is left of a whole nearer to the next one? -/
def nearP (q rest whole : Int) : Prop := whole - rest < rest ∨ whole - rest = rest ∧ q % 2 = 1
instance (q rest whole : Int) : Decidable (nearP q rest whole) := by unfold nearP; infer_instance

set_option maxRecDepth 100000 in
theorem nearer_is (q r t : Int) (hr : U128 r) (ht : U128 t) (hle : r ≤ t) (W : World) : Calls Tryz.prog 215 #[sv q, sv r, sv t] W fun e w' => e = .returned (.bool (decide (nearP q r t))) ∧ Below W.heap.size W w' := by
  have lq := loW_rng q
  have hd : U128 (t - r) := by unfold U128 at *; omega
  have hq : loW q % 2 = q % 2 := by unfold loW; omega
  obtain ⟨ans, hans⟩ : ∃ ans, decide (nearP q r t) = ans := ⟨_, rfl⟩
  rw [hans]
  have HA := Lib.hid hans
  clear hans
  rw [svU q, svU r, svU t]
  go_enter Tryz.func215, Tryz.ntmps215
  go_wp2_with fail
  have os := below_allocs W [Obj.cells #[Value.int IntKind.u64 (hiS q), Value.int IntKind.u64 (loW q)] 182, Obj.cells #[Value.int IntKind.u64 (hiS r), Value.int IntKind.u64 (loW r)] 182, Obj.cells #[Value.int IntKind.u64 (hiS t), Value.int IntKind.u64 (loW t)] 182]
  have g0 := blk_at W [Obj.cells #[Value.int IntKind.u64 (hiS q), Value.int IntKind.u64 (loW q)] 182, Obj.cells #[Value.int IntKind.u64 (hiS r), Value.int IntKind.u64 (loW r)] 182, Obj.cells #[Value.int IntKind.u64 (hiS t), Value.int IntKind.u64 (loW t)] 182] 0 _ _ rfl
  have g1 := blk_at W [Obj.cells #[Value.int IntKind.u64 (hiS q), Value.int IntKind.u64 (loW q)] 182, Obj.cells #[Value.int IntKind.u64 (hiS r), Value.int IntKind.u64 (loW r)] 182, Obj.cells #[Value.int IntKind.u64 (hiS t), Value.int IntKind.u64 (loW t)] 182] 1 _ _ rfl
  simp only [List.foldl_cons, List.foldl_nil, Nat.add_zero] at os g0 g1
  rw [← svU, ← svU]
  refine (without_is t r _).mono ?_
  rintro e w1 ⟨rfl, hK⟩
  have hsz := hK.size
  have hB := more os.1 hK
  replace g0 := g0.keep hK
  replace g1 := g1.keep hK
  have c0 := g0.cell
  have c1 := g1.cell
  rw [svU, svU]
  have l0 : W.heap.size < w1.heap.size := g0.lt
  have l1 : W.heap.size + 1 < w1.heap.size := g1.lt
  clear hK os
  go_wp2_with fail
  have g3 := Blk.new w1 #[Value.int IntKind.u64 (hiS (t - r)), Value.int IntKind.u64 (loW (t - r))] 182
  have k0 := g0.alloc (Obj.cells #[Value.int IntKind.u64 (hiS (t - r)), Value.int IntKind.u64 (loW (t - r))] 182)
  have k1 := g1.alloc (Obj.cells #[Value.int IntKind.u64 (hiS (t - r)), Value.int IntKind.u64 (loW (t - r))] 182)
  have hB2 := upA hB (Obj.cells #[Value.int IntKind.u64 (hiS (t - r)), Value.int IntKind.u64 (loW (t - r))] 182)
  clear g0 g1 c0 c1 hB hsz
  refine (less_is (t - r) r hd hr _).mono ?_
  rintro e w2 ⟨rfl, hK⟩
  have hB3 := more hB2 hK
  have c0 := (k0.keep hK).cell
  have c1 := (k1.keep hK).cell
  have c3 := (g3.keep hK).cell
  clear hK hB2 k0 k1 g3
  by_cases h1 : t - r < r
  · have hP : decide (nearP q r t) = true := decide_eq_true (.inl h1)
    rw [decide_eq_true h1]
    have HP := Lib.hid hP
    clear hP
    go_wp2_with fail
    go_ret
    exact ⟨by rw [← HA.out, HP.out]; rfl, hB3⟩
  · rw [decide_eq_false h1]
    have hcell := sv_cells hd hr
    by_cases h2 : t - r = r
    · have hP : decide (nearP q r t) = decide (q % 2 = 1) := by simp [nearP, h1, h2]
      have HP := Lib.hid hP
      clear hP
      have hA := and1 _ lq
      rw [h2] at c3 ⊢
      clear hcell h2
      by_cases h4 : q % 2 = 1
      · rw [hq, h4] at hA
        replace HP := Lib.hid (HP.out.trans (decide_eq_true h4))
        clear h4
        go_wp2_with fail
        go_ret
        exact ⟨by rw [← HA.out, HP.out]; rfl, hB3⟩
      · rw [hq, show q % 2 = 0 by omega] at hA
        replace HP := Lib.hid (HP.out.trans (decide_eq_false h4))
        clear h4
        go_wp2_with fail
        go_ret
        exact ⟨by rw [← HA.out, HP.out]; rfl, hB3⟩
    · have hP : decide (nearP q r t) = false := by simp [nearP, h1, h2]
      have HP := Lib.hid hP
      have hne : ¬ (hiS (t - r) = hiS r ∧ loW (t - r) = loW r) := fun h => h2 (hcell.1 h)
      clear hcell h2 hP
      by_cases h5 : hiS (t - r) = hiS r
      · have h6 : ¬ (loW (t - r) = loW r) := fun h => hne ⟨h5, h⟩
        clear hne
        rw [h5] at c3 ⊢
        have h7 : (loW (t - r) == loW r) = false := by simp [h6]
        go_wp2_with fail
        go_ret
        exact ⟨by rw [← HA.out, HP.out]; rfl, hB3⟩
      · have h7 : (hiS (t - r) == hiS r) = false := by simp [h5]
        clear hne
        go_wp2_with fail
        go_ret
        exact ⟨by rw [← HA.out, HP.out]; rfl, hB3⟩

end Go.Proofs.YtnofoommindocaaGreat.Base
