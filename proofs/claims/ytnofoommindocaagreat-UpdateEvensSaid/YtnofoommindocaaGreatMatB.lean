/- mat.places: the iterator's contract. -/
import Derived.Test.YtnofoommindocaaGreatMatA
namespace Go.Proofs.YtnofoommindocaaGreat.Base
open Go.RowKit Go.Shelf Go.ChangeShapes Go.WideShapes Go.Deep
set_option linter.unusedVariables false
set_option linter.unusedSimpArgs false
attribute [local go_sem] Oper.semAt_some

/-- All places of so many, one by one. -/
def plL (N : Nat) : List (Fin N) := List.ofFn id
theorem plL_len (N : Nat) : (plL N).length = N := by simp [plL]
theorem plL_at (N k : Nat) (h : k < (plL N).length) : (plL N)[k] = ⟨k, by simpa [plL] using h⟩ := by simp [plL]
theorem plL_val (N : Nat) : (plL N).map (fun x => x.1) = List.range N := by
  refine List.ext_getElem (by simp [plL]) fun k h1 h2 => ?_
  simp [plL]
theorem takeP (N k : Nat) (h : k < N) : (plL N).take (k + 1) = (plL N).take k ++ [⟨k, h⟩] := by
  rw [List.take_succ_eq_append_getElem (by rw [plL_len]; exact h), plL_at]
def encP (c : Nat) {N : Nat} (x : Fin N) : Array Value := #[.int .i64 ((x.1 / c : Nat) : Int), .int .i64 ((x.1 % c : Nat) : Int)]

set_option maxHeartbeats 4000000 in
set_option maxRecDepth 100000 in
theorem places1_in (ex : Nat → Prop) (F : Fence) (hF : Base.Free F) (n : Nat) (hro : F.round = none) (hn : 1 ≤ n) (l b1 b2 n₀ r c N : Nat) (hrc : (r : Int) * (c : Int) = (N : Int)) (hc : 1 ≤ c) (hN : N ≤ 1000) (hc2 : c ≤ 1000) (J Jx : List (Fin N) → World → Prop)
    (hY : ∀ pre x W, J pre W → pre.length < N → YieldAt F (n - 1) Tryz.prog l (encP c x) W fun e W' =>
      (e = .returned (.bool true) ∧ J (pre ++ [x]) W' ∧ BelowX n₀ ex W W') ∨ (e = .returned (.bool false) ∧ Jx (pre ++ [x]) W'))
    (hJd : ∀ pre W, J pre W → J pre W.drew) (W : World) (hb1 : W.cell? ⟨b1, 0, none⟩ = some (.int .i64 r)) (hl1 : b1 < n₀ ∧ ¬ ex b1) (hb2 : W.cell? ⟨b2, 0, none⟩ = some (.int .i64 c)) (hl2 : b2 < n₀ ∧ ¬ ex b2) (hn0 : n₀ ≤ W.heap.size) (h0 : J [] W) :
    CallsIn F n Tryz.prog 241 #[.func (.yield l) #[] #[], .pointer (some ⟨b1, 0, none⟩), .pointer (some ⟨b2, 0, none⟩)] W fun e W' => (∃ v, e = .returned v) ∧
      ((∃ ys, ys = plL N ∧ J ys W') ∨ (∃ pre, pre <+: plL N ∧ Jx pre W')) := by
  refine callsIn_of_wp Tryz.func241 rfl (hF.fn 241) ?_ hro
  simp only [Tryz.ntmps241, List.size_toArray, List.length_cons, List.length_nil, Nat.reduceAdd, Nat.reduceSub, Array.replicate_succ, Array.replicate_zero, List.push_toArray, List.append_toArray, List.nil_append, List.cons_append]
  have hw : wrap64 (N : Int) = (N : Int) := by unfold wrap64; omega
  gi_wp2
  gi_loopw [8] (fun v wr => ∃ k : Nat, k ≤ N ∧ v = .int .i64 k ∧ J ((plL N).take k) wr ∧ BelowX n₀ ex W wr) (fun v wr => N - (intOf v).toNat)
  case atStart => exact ⟨0, Nat.zero_le _, rfl, h0, .refl _ _ _⟩
  case round =>
    obtain ⟨k, hk, rfl, hJ, hB⟩ := hrel
    by_cases hlt : k < N
    · have hlt' : (k : Int) < (N : Int) := by omega
      have hk0 : (0 : Int) ≤ (k : Int) := by omega
      have hkk : k ≤ 1000 := by omega
      obtain ⟨fn, tmps, assign, body, hy, hR⟩ := hY ((plL N).take k) ⟨k, hlt⟩ wr.drew (hJd _ _ hJ) (by rw [List.length_take, plL_len]; omega)
      have c2 := (hB.cell (p := ⟨b2, 0, none⟩) hl2.1 hl2.2).trans hb2
      have HT := Lib.hid (takeP N k hlt)
      have hD : k / c ≤ k := Nat.div_le_self k c
      have hM : k % c < c := Nat.mod_lt k (by omega)
      have u1' : (k : Int).tdiv (c : Int) = ((k / c : Nat) : Int) := by rw [Int.tdiv_eq_ediv_of_nonneg hk0, ← Int.natCast_ediv]
      have u6 : (k : Int) / (c : Int) = ((k / c : Nat) : Int) := (Int.natCast_ediv _ _).symm
      have u7 : (k : Int) % (c : Int) = ((k % c : Nat) : Int) := (Int.natCast_emod _ _).symm
      have u2 : (k : Int).tmod (c : Int) = ((k % c : Nat) : Int) := by rw [Int.tmod_eq_emod_of_nonneg hk0, ← Int.natCast_emod]
      have u4 : ¬ ((c : Int) = 0) := by omega
      have u5 : ¬ (c = 0) := by omega
      have HB := Lib.hid hB
      unfold encP at hy
      dsimp only at hy
      clear hY hJ hB
      generalize k / c = i at *
      generalize k % c = j at *
      have u1 : IntKind.i64.wrap ((k : Int).tdiv (c : Int)) = (i : Int) := by rw [u1']; exact IntWalk.i64_in _ (by omega)
      have u3 : IntKind.i64.wrap (j : Int) = (j : Int) := IntWalk.i64_in _ (by omega)
      have u8 : IntKind.i64.wrap (i : Int) = (i : Int) := IntWalk.i64_in _ (by omega)
      clear u1'
      gi_wp2
      refine Base.wpIn_region_tail hF 7 (by kernel_rfl) (by kernel_rfl) (by kernel_rfl) ?_
      simp only [List.take_succ_cons, List.take_zero, List.drop_succ_cons, List.drop_zero]
      repeat still_step
      refine wpStill_nil ?_
      clear u1 u2 u3 u4 u5 u6 u7 u8
      gi_wp2
      refine hR.mono ?_
      rintro e W3 (⟨rfl, hJ3, hk3⟩ | ⟨rfl, hJx3⟩)
      · gi_wp2
        go_roundw
        case rel => exact ⟨k + 1, by omega, by go_num, by rw [HT.out]; exact hJ3, (HB.out.trans (below_x (Below.refl _ _).drew _)).trans hk3⟩
        case measure => simp [intOf]; omega
      · gi_wp2
        refine bodyPost_ret (results_none rfl _ _ _) rfl ?_
        exact ⟨⟨_, rfl⟩, .inr ⟨_, ⟨(plL N).drop (k + 1), by rw [← HT.out]; exact List.take_append_drop _ _⟩, hJx3⟩⟩
    · have hge : ¬ (k : Int) < (N : Int) := by omega
      have hTT := Lib.hid (show (plL N).take k = plL N from List.take_of_length_le (by rw [plL_len]; omega))
      gi_wp2
      go_end0
      rw [hTT.out] at hJ
      exact ⟨⟨_, rfl⟩, .inl hJ⟩

end Go.Proofs.YtnofoommindocaaGreat.Base
