/- binnacleref01: Of, Add, Neg, twice. binnacleref01: Mul. binnacleref01: below, whole, rounded. binnacleref01: rounded. binnacleref01: quotient. binnacleref01: Round. binnacleref01: Div, Cmp. binnacleref01: Cmp, Fit; binnacleref02: taken, fits. binnacleref02: Add, Mul, Whole, Div. binnacleref04: a unit, its operations. -/
import Derived.Test.YtnofoommindocaaGreatNumK
import Derived.Test.YtnofoommindocaaGreatEv
import Derived.Deep.RegionHeld3
namespace Go.Proofs.YtnofoommindocaaGreat.Base
open Go.RowKit Go.Shelf
set_option linter.unusedVariables false
set_option linter.unusedSimpArgs false

theorem rOf_is (z : Int) (hz : I64 z) (W : World) : Calls Tryz.prog 164 #[.int .i64 z] W fun e w' => e = .returned (wv z) ∧ Below W.heap.size W w' := by
  unfold I64 at hz
  by_cases hn : z < 0
  · go_enter Tryz.func164, Tryz.ntmps164
    go_wp2_with fail
    simp [bodyPost, results, Tryz.results164, go_sem]
    refine ⟨wv_is ?_ ?_, ?_⟩
    · unfold hiW; omega
    · rw [IntKind.wrap_u64]; unfold loW; omega
    · (repeat (first | refine upA ?_ _ | refine upD ?_)); exact upR _
  · go_enter Tryz.func164, Tryz.ntmps164
    go_wp2_with fail
    simp [bodyPost, results, Tryz.results164, go_sem]
    refine ⟨wv_is ?_ ?_, ?_⟩
    · unfold hiW; omega
    · unfold loW; omega
    · (repeat (first | refine upA ?_ _ | refine upD ?_)); exact upR _

set_option maxRecDepth 100000 in
theorem rAdd_is (a b : Int) (W : World) : Calls Tryz.prog 163 #[wv a, wv b] W fun e w' => e = .returned (wv (a + b)) ∧ Below W.heap.size W w' := by
  have la := loW_rng a
  have lb := loW_rng b
  have ha := hiS_rng a
  have hb := hiS_rng b
  have w1 := wrap_hiW a
  have w2 := wrap_hiW b
  obtain ⟨lw, hlw⟩ : ∃ l, IntKind.u64.wrap (loW a + loW b) = l := ⟨_, rfl⟩
  have hlw' : lw = (loW a + loW b) % 18446744073709551616 := by rw [← hlw, IntKind.wrap_u64]
  obtain ⟨hh, hhh⟩ : ∃ l, IntKind.u64.wrap (hiS a + hiS b) = l := ⟨_, rfl⟩
  have hhh' : hh = (hiS a + hiS b) % 18446744073709551616 := by rw [← hhh, IntKind.wrap_u64]
  obtain ⟨h1, hh1⟩ : ∃ l, IntKind.u64.wrap (hh + 1) = l := ⟨_, rfl⟩
  have hh1' : h1 = (hh + 1) % 18446744073709551616 := by rw [← hh1, IntKind.wrap_u64]
  have HL := Lib.hid hlw'
  have HH := Lib.hid hhh'
  have H1 := Lib.hid hh1'
  clear hhh' hh1'
  rw [wvU a, wvU b]
  by_cases hc : lw < loW a
  · have HC := Lib.hid hc
    clear hlw' la lb ha hb
    go_enter Tryz.func163, Tryz.ntmps163
    go_wp2_with fail
    simp [bodyPost, results, Tryz.results163, go_sem]
    have la := loW_rng a
    have lb := loW_rng b
    refine ⟨wv_is ?_ ?_, ?_⟩
    · have e1 := HL.out
      have e2 := HH.out
      have e3 := H1.out
      have e4 := HC.out
      clear hc hlw hhh hh1 w1 w2 HL HH H1 HC
      subst e3 e2 e1
      unfold wrap64 hiW hiS loW at *; omega
    · rw [HL.out]; unfold loW; omega
    · (repeat (first | refine upA ?_ _ | refine upD ?_)); exact upR _
  · have HC := Lib.hid hc
    clear hlw' la lb ha hb
    go_enter Tryz.func163, Tryz.ntmps163
    go_wp2_with fail
    simp [bodyPost, results, Tryz.results163, go_sem]
    have la := loW_rng a
    have lb := loW_rng b
    refine ⟨wv_is ?_ ?_, ?_⟩
    · have e1 := HL.out
      have e2 := HH.out
      have e4 := HC.out
      clear hc hlw hhh hh1 w1 w2 HL HH H1 HC
      subst e2 e1
      unfold wrap64 hiW hiS loW at *; omega
    · rw [HL.out]; unfold loW; omega
    · (repeat (first | refine upA ?_ _ | refine upD ?_)); exact upR _

set_option maxRecDepth 100000 in
theorem rNeg_is (a : Int) (W : World) : Calls Tryz.prog 165 #[wv a] W fun e w' => e = .returned (wv (-a)) ∧ Below W.heap.size W w' := by
  have la := loW_rng a
  have ha := hiS_rng a
  have w1 := wrap_hiW a
  obtain ⟨p, hp⟩ : ∃ l, hiW (-a - 1) = l := ⟨_, rfl⟩
  obtain ⟨q, hq⟩ : ∃ l, loW (-a - 1) = l := ⟨_, rfl⟩
  have w2 : IntKind.u64.wrap (18446744073709551615 - hiS a) = 18446744073709551615 - hiS a := by rw [IntKind.wrap_u64]; omega
  have w3 : wrap64 (18446744073709551615 - hiS a) = p := by rw [← hp]; unfold wrap64 hiS hiW; omega
  have w4 : IntKind.u64.wrap (18446744073709551615 - loW a) = q := by rw [← hq, IntKind.wrap_u64]; unfold loW; omega
  have hC := fun W => rAdd_is (-a - 1) 1 W
  rw [show wv (-a - 1) = .agg #[.int .i64 p, .int .u64 q] by rw [wvU, hp, hq], show wv 1 = .agg #[.int .i64 0, .int .u64 1] by kernel_rfl, show -a - 1 + 1 = -a by omega] at hC
  have HC := Lib.hid hC
  rw [wvU a]
  clear hC hp hq la ha
  go_enter Tryz.func165, Tryz.ntmps165
  go_wp2_with fail
  have hB := below_allocs W [Obj.cells #[Value.int .i64 (hiW a), .int .u64 (loW a)] 146, Obj.cells #[Value.int .i64 0, .int .u64 0] 146]
  have g1 := blk_at W [Obj.cells #[Value.int .i64 (hiW a), .int .u64 (loW a)] 146, Obj.cells #[Value.int .i64 0, .int .u64 0] 146] 1 _ _ rfl
  simp only [List.foldl_cons, List.foldl_nil] at hB g1
  replace hB := hB.1
  refine (HC.out _).mono ?_
  rintro e w2 ⟨rfl, hK⟩
  rw [wvU (-a)]
  replace hB := more hB hK
  replace g1 := g1.keep hK
  have c0 := g1.cell
  have f0 := g1.frozen
  go_wp2_with fail
  have g3 := (g1.set 0 (.int .i64 (hiW (-a)))).set 1 (.int .u64 (loW (-a)))
  refine bodyPost_ret (results_cell_row rfl _ _ _ 146 #[.int .i64 (hiW (-a)), .int .u64 (loW (-a))] (0, 0) _ rfl g3 Tryz.underlying146 rfl (by kernel_rfl)) rfl ?_
  exact ⟨rfl, (hB.setCell (by show W.heap.size ≤ W.heap.size + 1; omega) _).setCell (by show W.heap.size ≤ W.heap.size + 1; omega) _⟩

theorem pow_split {n m : Nat} (h : n < m) : (2 : Int) ^ m = 2 ^ n * (2 * 2 ^ (m - 1 - n)) := by
  rw [← Int.pow_succ', ← Int.pow_add]
  congr 1
  omega
theorem bit_mod (a : Int) {n m : Nat} (h : n < m) : a % 2 ^ m / 2 ^ n % 2 = a / 2 ^ n % 2 := by
  have hp : (2 : Int) ^ n ≠ 0 := Int.ne_of_gt (Int.pow_pos (by decide))
  have e1 : a % 2 ^ m = a + 2 ^ n * (-(2 * 2 ^ (m - 1 - n) * (a / 2 ^ m))) := by
    rw [Int.emod_def]
    have e := pow_split h
    generalize a / 2 ^ m = q at *
    rw [e, Int.mul_neg, Int.mul_assoc]
    rfl
  rw [e1, Int.add_mul_ediv_left _ _ hp, Int.mul_assoc]
  generalize a / 2 ^ n = x
  generalize 2 ^ (m - 1 - n) * (a / 2 ^ m) = y
  omega
theorem bit_lo (a : Int) {n : Nat} (h : n < 64) : loW a / 2 ^ n % 2 = a / 2 ^ n % 2 := by
  have := bit_mod a h
  rwa [show (2 : Int) ^ 64 = 18446744073709551616 by decide] at this
theorem bit_hi (a : Int) {n : Nat} (h : 64 ≤ n) (h2 : n < 128) : hiS a / 2 ^ (n - 64) % 2 = a / 2 ^ n % 2 := by
  have h1 := bit_mod (a / 18446744073709551616) (n := n - 64) (m := 64) (by omega)
  rw [show (2 : Int) ^ 64 = 18446744073709551616 by decide] at h1
  have e : a / 18446744073709551616 / 2 ^ (n - 64) = a / 2 ^ n := by
    rw [Int.ediv_ediv_of_nonneg (by decide), show (18446744073709551616 : Int) = 2 ^ 64 by decide, ← Int.pow_add, show 64 + (n - 64) = n by omega]
  rw [e] at h1
  exact h1
theorem tmod_bit {x : Int} (h : 0 ≤ x) : (x.tmod 2 == 1) = decide (x % 2 = 1) := by
  rw [Int.tmod_eq_emod_of_nonneg h]
  exact Bool.eq_iff_iff.2 (by simp)

set_option maxRecDepth 100000 in
theorem rBit_is (a : Int) (n : Nat) (hn : n < 128) (W : World) : Calls Tryz.prog 208 #[wv a, .int .i64 n] W fun e w' => e = .returned (.bool (decide (a / 2 ^ n % 2 = 1))) ∧ Below W.heap.size W w' := by
  have la := loW_rng a
  have ha := hiS_rng a
  have w1 := wrap_hiW a
  rw [wvU a]
  by_cases h64 : n < 64
  · have h64' : (n : Int) < 64 := by omega
    have h0 : (0 : Int) ≤ (n : Int) := by omega
    have hw : IntKind.u64.wrap (n : Int) = (n : Int) := by rw [IntKind.wrap_u64]; omega
    go_enter Tryz.func208, Tryz.ntmps208
    go_wp2_with fail
    go_ret
    refine ⟨?_, by (repeat (first | refine upA ?_ _ | refine upD ?_)); exact upR _⟩
    exact congrArg (fun b => Ending.returned (Value.bool b)) ((tmod_bit (Int.ediv_nonneg la.1 (Int.le_of_lt (Int.pow_pos (by decide))))).trans (by rw [bit_lo a h64]))
  · have h64' : ¬ (n : Int) < 64 := by omega
    have hw1 : IntKind.i64.wrap ((n : Int) - 64) = ((n - 64 : Nat) : Int) := by rw [IntWalk.i64_in _ (by omega)]; omega
    have hw : IntKind.u64.wrap ((n - 64 : Nat) : Int) = ((n - 64 : Nat) : Int) := by rw [IntKind.wrap_u64]; omega
    have hb := bit_hi a (by omega) hn
    have h65 : n - 64 < 64 := by omega
    obtain ⟨k, hk⟩ : ∃ k, n - 64 = k := ⟨_, rfl⟩
    rw [hk] at hw1 hw hb h65
    have h0 : (0 : Int) ≤ (k : Int) := by omega
    have HB := Lib.hid hb
    clear hb hk
    go_enter Tryz.func208, Tryz.ntmps208
    go_wp2_with fail
    go_ret
    refine ⟨?_, by (repeat (first | refine upA ?_ _ | refine upD ?_)); exact upR _⟩
    exact congrArg (fun b => Ending.returned (Value.bool b)) ((tmod_bit (Int.ediv_nonneg ha.1 (Int.le_of_lt (Int.pow_pos (by decide))))).trans (by rw [HB.out]))

set_option maxRecDepth 100000 in
theorem rTwice_is (a : Int) (one : Bool) (W : World) : Calls Tryz.prog 207 #[wv a, .bool one] W fun e w' => e = .returned (wv (if one then 2 * a + 1 else 2 * a)) ∧ Below W.heap.size W w' := by
  have hC := fun W => rAdd_is a a W
  have HC := Lib.hid hC
  rw [wvU a] at HC ⊢
  have e2 : a + a = 2 * a := by omega
  rw [e2] at HC
  have ll := loW_rng (2 * a)
  have w1 : IntKind.u64.wrap (loW (2 * a) + 1) = loW (2 * a) + 1 := by rw [IntKind.wrap_u64]; unfold loW at *; omega
  have hB := below_allocs W [Obj.cells #[Value.int .i64 (hiW a), .int .u64 (loW a)] 146, Obj.cells #[Value.int .i64 0, .int .u64 0] 146]
  have g0 := blk_at W [Obj.cells #[Value.int .i64 (hiW a), .int .u64 (loW a)] 146, Obj.cells #[Value.int .i64 0, .int .u64 0] 146] 0 _ _ rfl
  have g1 := blk_at W [Obj.cells #[Value.int .i64 (hiW a), .int .u64 (loW a)] 146, Obj.cells #[Value.int .i64 0, .int .u64 0] 146] 1 _ _ rfl
  simp only [List.foldl_cons, List.foldl_nil, Nat.add_zero] at hB g0 g1
  replace hB := hB.1
  have d0 := g0.cell
  clear hC e2 ll
  cases one with
  | false =>
    go_enter Tryz.func207, Tryz.ntmps207
    go_wp2_with fail
    refine (HC.out _).mono ?_
    rintro e w2 ⟨rfl, hK⟩
    rw [wvU (2 * a)]
    have hBA := upA (upR w2) (Obj.cells #[Value.int .i64 (hiW (2 * a)), .int .u64 (loW (2 * a))] 146)
    have g5 := Blk.new w2 #[Value.int .i64 (hiW (2 * a)), .int .u64 (loW (2 * a))] 146
    replace hB := more (more hB hK) hBA
    replace g1 := (g1.keep hK).keep hBA
    have c5 := g5.cell
    clear d0 hK hBA g0
    go_wp2_with ((with_reducible refine at_st (p := 4) (q := 14) rfl ?_); refine ev_store rfl 146 _ _ rfl rfl g1 0 rfl rfl [.int .i64 (hiW (2 * a)), .int .u64 (loW (2 * a))] rfl (by kernel_rfl) rfl rfl #[.int .i64 (hiW (2 * a)), .int .u64 (loW (2 * a))] rfl ?_; intro w6 g6 ef hz6)
    refine bodyPost_ret (results_cell_row rfl _ _ _ 146 #[.int .i64 (hiW (2 * a)), .int .u64 (loW (2 * a))] (0, 0) _ rfl g6 Tryz.underlying146 rfl (by kernel_rfl)) rfl ?_
    exact ⟨rfl, ef.below hB (fun k hk => by omega)⟩
  | true =>
    go_enter Tryz.func207, Tryz.ntmps207
    go_wp2_with fail
    refine (HC.out _).mono ?_
    rintro e w2 ⟨rfl, hK⟩
    rw [wvU (2 * a)]
    have hBA := upA (upR w2) (Obj.cells #[Value.int .i64 (hiW (2 * a)), .int .u64 (loW (2 * a))] 146)
    have g5 := Blk.new w2 #[Value.int .i64 (hiW (2 * a)), .int .u64 (loW (2 * a))] 146
    have hsz := hB.size
    replace hB := more hB hK
    have hs2 := hB.size
    have hlt := (g1.keep hK).lt
    replace hB := more hB hBA
    replace g1 := (g1.keep hK).keep hBA
    have c5 := g5.cell
    have HG := Lib.hid (fun (w6 : World) (ef : Eff (fun k => k = w2.heap.size) _ w6) => ef.blk g1 (Nat.ne_of_lt hlt))
    clear d0 hK hBA g0
    go_wp2_with (first
      | ((with_reducible refine at_st (p := 13) (q := 12) rfl ?_); refine ev_store rfl 144 _ _ rfl rfl g5 1 rfl rfl [.int .u64 (loW (2 * a) + 1)] rfl (by kernel_rfl) rfl rfl #[.int .i64 (hiW (2 * a)), .int .u64 (loW (2 * a) + 1)] rfl ?_; intro w6 g6 ef hz6; have c6 := g6.cell; have g7 := HG.out w6 ef)
      | ((with_reducible refine at_st (p := 4) (q := 14) rfl ?_); refine ev_store rfl 146 _ _ rfl rfl g7 0 rfl rfl [.int .i64 (hiW (2 * a)), .int .u64 (loW (2 * a) + 1)] rfl (by kernel_rfl) rfl rfl #[.int .i64 (hiW (2 * a)), .int .u64 (loW (2 * a) + 1)] rfl ?_; intro w8 g8 ef8 hz8))
    refine bodyPost_ret (results_cell_row rfl _ _ _ 146 #[.int .i64 (hiW (2 * a)), .int .u64 (loW (2 * a) + 1)] (0, 0) _ rfl g8 Tryz.underlying146 rfl (by kernel_rfl)) rfl ?_
    refine ⟨?_, ef8.below (ef.below hB (fun k hk => by omega)) (fun k hk => by omega)⟩
    rw [wvU (2 * a + 1), show hiW (2 * a + 1) = hiW (2 * a) by unfold hiW; omega, show loW (2 * a + 1) = loW (2 * a) + 1 by unfold loW; omega]

end Go.Proofs.YtnofoommindocaaGreat.Base
namespace Go.Proofs.YtnofoommindocaaGreat.Base
open Go.RowKit Go Go.Shelf Go.Deep
set_option linter.unusedVariables false
set_option linter.unusedSimpArgs false

/-- What is there when the j highest bits have been gone through. -/
def outM (a b : Int) (j : Nat) : Int := if j = 0 then 0 else b / 2 ^ (64 - j) * a
theorem pow_half (b : Int) {k : Nat} (h : 1 ≤ k) : b / 2 ^ (k - 1) / 2 = b / 2 ^ k := by
  rw [Int.ediv_ediv_of_nonneg (Int.le_of_lt (Int.pow_pos (by decide))), ← Int.pow_succ]
  congr 2
  omega
theorem out_step (a b : Int) (hb : I64 b) {j : Nat} (hj : j < 64) :
    outM a b (j + 1) = (if b / 2 ^ (63 - j) % 2 = 1 then (if j = 0 then -a else 2 * outM a b j + a) else 2 * outM a b j) := by
  unfold outM
  rw [if_neg (show ¬ j + 1 = 0 by omega), show 64 - (j + 1) = 63 - j by omega]
  by_cases h0 : j = 0
  · subst h0
    rw [if_pos rfl, if_pos rfl, show 63 - 0 = 63 by omega, show (2 : Int) ^ 63 = 9223372036854775808 by decide]
    unfold I64 at hb
    have hq : b / 9223372036854775808 = -1 ∨ b / 9223372036854775808 = 0 := by omega
    rcases hq with e | e
    · rw [e, if_pos (by decide)]; omega
    · rw [e, if_neg (by decide)]; omega
  · rw [if_neg h0, if_neg h0]
    have h1 := pow_half b (k := 64 - j) (by omega)
    rw [show 64 - j - 1 = 63 - j by omega] at h1
    generalize b / 2 ^ (63 - j) = q' at *
    rw [← h1]
    have h2 : q' = 2 * (q' / 2) + q' % 2 := by omega
    have h3 : q' % 2 = 0 ∨ q' % 2 = 1 := by omega
    generalize q' / 2 = q at *
    rcases h3 with e | e
    · rw [e] at h2
      rw [e, if_neg (by decide), h2, Int.add_zero, Int.mul_assoc]
    · rw [e] at h2
      rw [e, if_pos rfl, h2, Int.add_mul, Int.one_mul, Int.mul_assoc]
theorem out_all (a b : Int) : outM a b 64 = b * a := by
  unfold outM
  rw [if_neg (by decide), show 64 - 64 = 0 by omega, Int.pow_zero, Int.ediv_one]

structure MuS (w0 : World) (a b : Int) (rb xb yb ob : Nat) (o : Int) (W : World) : Prop where
  r : Blk W rb #[.int .i64 0, .int .u64 0] 146
  x : Blk W xb #[.int .i64 (hiW a), .int .u64 (loW a)] 146
  y : Blk W yb #[.int .i64 (hiW b), .int .u64 (loW b)] 146
  o : Blk W ob #[.int .i64 (hiW o), .int .u64 (loW o)] 146
  bel : Below w0.heap.size w0 W
theorem MuS.keep {w0 : World} {a b : Int} {rb xb yb ob : Nat} {o : Int} {W W' : World} (h : MuS w0 a b rb xb yb ob o W) (k : Below W.heap.size W W') : MuS w0 a b rb xb yb ob o W' := ⟨h.r.keep k, h.x.keep k, h.y.keep k, h.o.keep k, more h.bel k⟩
theorem MuS.put {w0 : World} {a b : Int} {rb xb yb ob : Nat} {o o' : Int} {W W' : World} (h : MuS w0 a b rb xb yb ob o W) (h1 : rb ≠ ob) (h2 : xb ≠ ob) (h3 : yb ≠ ob) (h4 : w0.heap.size ≤ ob) (g : Blk W' ob #[.int .i64 (hiW o'), .int .u64 (loW o')] 146) (e : Eff (fun k => k = ob) W W') : MuS w0 a b rb xb yb ob o' W' :=
  ⟨e.blk h.r h1, e.blk h.x h2, e.blk h.y h3, g, e.below h.bel (fun k hk => by omega)⟩

abbrev wA (n : Int) : Value := .agg #[.int .i64 (hiW n), .int .u64 (loW n)]
theorem rTwice0_is (a : Int) (W : World) : Calls Tryz.prog 207 #[.agg #[.int .i64 (hiW a), .int .u64 (loW a)], .bool false] W fun e w' => e = .returned (.agg #[.int .i64 (hiW (2 * a)), .int .u64 (loW (2 * a))]) ∧ Below W.heap.size W w' := rTwice_is a false W
theorem rNegA_is (a : Int) (W : World) : Calls Tryz.prog 165 #[.agg #[.int .i64 (hiW a), .int .u64 (loW a)]] W fun e w' => e = .returned (.agg #[.int .i64 (hiW (-a)), .int .u64 (loW (-a))]) ∧ Below W.heap.size W w' := rNeg_is a W
theorem rAddA_is (a b : Int) (W : World) : Calls Tryz.prog 163 #[.agg #[.int .i64 (hiW a), .int .u64 (loW a)], .agg #[.int .i64 (hiW b), .int .u64 (loW b)]] W fun e w' => e = .returned (.agg #[.int .i64 (hiW (a + b)), .int .u64 (loW (a + b))]) ∧ Below W.heap.size W w' := rAdd_is a b W
theorem rBitA_is (a : Int) (n : Nat) (hn : n < 128) (W : World) : Calls Tryz.prog 208 #[.agg #[.int .i64 (hiW a), .int .u64 (loW a)], .int .i64 n] W fun e w' => e = .returned (.bool (decide (a / 2 ^ n % 2 = 1))) ∧ Below W.heap.size W w' := rBit_is a n hn W

set_option maxHeartbeats 4000000 in
set_option maxRecDepth 100000 in
theorem rMul_is (a b : Int) (ha : I64 a) (hb : I64 b) (w0 : World) : Calls Tryz.prog 167 #[.int .i64 a, .int .i64 b] w0 fun e w' => e = .returned (wv (a * b)) ∧ Below w0.heap.size w0 w' := by
  go_enter Tryz.func167, Tryz.ntmps167
  have g0 := Blk.new w0 #[Value.int .i64 0, .int .u64 0] 146
  have hB := upA (upR w0) (Obj.cells #[Value.int .i64 0, .int .u64 0] 146)
  go_wp2_with fail
  refine (rOf_is a ha _).mono ?_
  rintro e w1 ⟨rfl, hK⟩
  replace g0 := g0.keep hK
  replace hB := more hB hK
  clear hK
  go_wp2_with fail
  refine (rOf_is b hb _).mono ?_
  rintro e w2 ⟨rfl, hK⟩
  replace g0 := g0.keep hK
  replace hB := more hB hK
  clear hK
  rw [wvU a, wvU b]
  go_wp2_with fail
  have hC := below_allocs w2 [Obj.cells #[Value.int .i64 (hiW a), .int .u64 (loW a)] 146, Obj.cells #[Value.int .i64 (hiW b), .int .u64 (loW b)] 146, Obj.cells #[Value.int .i64 0, .int .u64 0] 146]
  have q0 := blk_at w2 [Obj.cells #[Value.int .i64 (hiW a), .int .u64 (loW a)] 146, Obj.cells #[Value.int .i64 (hiW b), .int .u64 (loW b)] 146, Obj.cells #[Value.int .i64 0, .int .u64 0] 146] 0 _ _ rfl
  have q1 := blk_at w2 [Obj.cells #[Value.int .i64 (hiW a), .int .u64 (loW a)] 146, Obj.cells #[Value.int .i64 (hiW b), .int .u64 (loW b)] 146, Obj.cells #[Value.int .i64 0, .int .u64 0] 146] 1 _ _ rfl
  have q2 := blk_at w2 [Obj.cells #[Value.int .i64 (hiW a), .int .u64 (loW a)] 146, Obj.cells #[Value.int .i64 (hiW b), .int .u64 (loW b)] 146, Obj.cells #[Value.int .i64 0, .int .u64 0] 146] 2 _ _ rfl
  simp only [List.foldl_cons, List.foldl_nil, Nat.add_zero] at hC q0 q1 q2
  replace hC := hC.1
  have hS : MuS w0 a b w0.heap.size w2.heap.size (w2.heap.size + 1) (w2.heap.size + 2) (outM a b 0) _ := ⟨g0.keep hC, q0, q1, by show Blk _ _ #[.int .i64 (hiW 0), .int .u64 (loW 0)] _; rw [show hiW 0 = 0 by kernel_rfl, show loW 0 = 0 by kernel_rfl]; exact q2, more hB hC⟩
  have h2 : w0.heap.size < w2.heap.size := g0.lt
  have h0 : w0.heap.size ≤ w0.heap.size := Nat.le_refl _
  clear g0 q0 q1 q2 hC hB
  generalize ((w2.alloc (Obj.cells #[Value.int .i64 (hiW a), .int .u64 (loW a)] 146)).alloc (Obj.cells #[Value.int .i64 (hiW b), .int .u64 (loW b)] 146)).alloc (Obj.cells #[Value.int .i64 0, .int .u64 0] 146) = w3 at *
  obtain ⟨ob, hob⟩ : ∃ g, w2.heap.size + 2 = g := ⟨_, rfl⟩
  obtain ⟨yb, hyb⟩ : ∃ g, w2.heap.size + 1 = g := ⟨_, rfl⟩
  obtain ⟨xb, hxb⟩ : ∃ g, w2.heap.size = g := ⟨_, rfl⟩
  have n1 : w0.heap.size ≠ ob := by omega
  have n2 : xb ≠ ob := by omega
  have n3 : yb ≠ ob := by omega
  have n4 : w0.heap.size ≤ ob := by omega
  rw [hob, hyb, hxb] at hS
  rw [show w2.heap.size + 1 + 1 = ob from hob, hyb, hxb]
  clear hob hyb hxb h2
  go_loopw [8] (fun v8 wr => ∃ j : Nat, j ≤ 64 ∧ v8 = .int .i64 ((63 : Int) - (j : Int)) ∧ MuS w0 a b w0.heap.size xb yb ob (outM a b j) wr) (fun v _ => (intOf v + 1).toNat)
  case atStart => exact ⟨0, by omega, rfl, hS⟩
  case round =>
    clear hS
    obtain ⟨j, hj, rfl, hS⟩ := hrel
    by_cases hlt : j < 64
    · obtain ⟨k, hk⟩ : ∃ k : Nat, (63 : Int) - (j : Int) = (k : Int) := ⟨63 - j, by omega⟩
      have hk63 : k < 128 := by omega
      have hk0 : (0 : Int) ≤ (k : Int) := by omega
      have hwk : IntKind.i64.wrap ((k : Int) - 1) = (63 : Int) - ((j + 1 : Nat) : Int) := by rw [IntWalk.i64_in _ (by omega)]; omega
      have hkn : 63 - j = k := by omega
      have hos := out_step a b hb hlt
      rw [hkn] at hos
      have HJ := Lib.hid hk
      rw [hk]
      obtain ⟨o, ho⟩ : ∃ o, outM a b j = o := ⟨_, rfl⟩
      rw [ho] at hS hos
      have HOS := Lib.hid hos
      obtain ⟨nx, hnx⟩ : ∃ n, outM a b (j + 1) = n := ⟨_, rfl⟩
      rw [hnx] at HOS
      have HNX := Lib.hid hnx
      clear hk hos ho hnx hkn
      have d0 := hS.o.cell
      go_wp2_with fail
      clear d0
      refine (rTwice0_is o _).mono ?_
      rintro e w4 ⟨rfl, hK⟩
      replace hS := hS.keep hK
      have HP := Lib.hid (fun (w5 : World) (g : Blk w5 ob #[.int .i64 (hiW (2 * o)), .int .u64 (loW (2 * o))] 146) (e : Eff (fun k => k = ob) w4 w5) => hS.put n1 n2 n3 n4 g e)
      have go := hS.o
      clear hK
      go_wp2_with ((with_reducible refine at_st (p := 7) (q := 18) rfl ?_); refine ev_store rfl 146 _ _ rfl rfl go 0 rfl rfl [.int .i64 (hiW (2 * o)), .int .u64 (loW (2 * o))] rfl (by kernel_rfl) rfl rfl #[.int .i64 (hiW (2 * o)), .int .u64 (loW (2 * o))] rfl ?_; intro w5 g5 ef hz5; have d1 := (HP.out w5 g5 ef).y.cell)
      replace hS := HP.out w5 g5 ef
      clear d1 HP go g5 ef hz5
      refine (rBitA_is b k hk63 _).mono ?_
      rintro e w6 ⟨rfl, hK⟩
      replace hS := hS.keep hK
      clear hK
      by_cases hbit : b / 2 ^ k % 2 = 1
      · rw [decide_eq_true hbit]
        have HO := HOS.out
        rw [if_pos hbit] at HO
        by_cases hj0 : j = 0
        · rw [if_pos hj0] at HO
          have HO2 := Lib.hid HO
          have hk3 : ((k : Int) == 63) = true := by have := HJ.out; simp; omega
          have d0 := hS.x.cell
          clear hbit HOS HO
          go_wp2_with fail
          clear d0
          refine (rNegA_is a _).mono ?_
          rintro e w7 ⟨rfl, hK⟩
          replace hS := hS.keep hK
          have go := hS.o
          clear hK
          go_wp2_with ((with_reducible refine at_st (p := 7) (q := 31) rfl ?_); refine ev_store rfl 146 _ _ rfl rfl go 0 rfl rfl [.int .i64 (hiW (-a)), .int .u64 (loW (-a))] rfl (by kernel_rfl) rfl rfl #[.int .i64 (hiW (-a)), .int .u64 (loW (-a))] rfl ?_; intro w8 g8 ef hz8)
          replace hS := hS.put n1 n2 n3 n4 g8 ef
          rw [← HO2.out] at hS
          go_roundw
          case rel => exact ⟨j + 1, by omega, by subst hj0; rfl, by rw [HNX.out]; exact hS⟩
          case measure => have := HJ.out; simp [intOf]; omega
        · rw [if_neg hj0] at HO
          have HO2 := Lib.hid HO
          have hk3 : ((k : Int) == 63) = false := by have := HJ.out; simp; omega
          have d0 := hS.x.cell
          have d1 := hS.o.cell
          clear hbit HOS HO
          go_wp2_with fail
          clear d0 d1
          refine (rAddA_is (2 * o) a _).mono ?_
          rintro e w7 ⟨rfl, hK⟩
          replace hS := hS.keep hK
          have go := hS.o
          clear hK
          go_wp2_with ((with_reducible refine at_st (p := 7) (q := 21) rfl ?_); refine ev_store rfl 146 _ _ rfl rfl go 0 rfl rfl [.int .i64 (hiW (2 * o + a)), .int .u64 (loW (2 * o + a))] rfl (by kernel_rfl) rfl rfl #[.int .i64 (hiW (2 * o + a)), .int .u64 (loW (2 * o + a))] rfl ?_; intro w8 g8 ef hz8)
          replace hS := hS.put n1 n2 n3 n4 g8 ef
          rw [← HO2.out] at hS
          go_roundw
          case rel => exact ⟨j + 1, by omega, rfl, by rw [HNX.out]; exact hS⟩
          case measure => have := HJ.out; simp [intOf]; omega
      · rw [decide_eq_false hbit]
        have HO := HOS.out
        rw [if_neg hbit] at HO
        have HO2 := Lib.hid HO
        clear hbit HOS HO
        go_wp2_with fail
        rw [← HO2.out] at hS
        go_roundw
        case rel => exact ⟨j + 1, by omega, rfl, by rw [HNX.out]; exact hS⟩
        case measure => have := HJ.out; simp [intOf]; omega
    · have hj64 : j = 64 := by omega
      subst hj64
      rw [out_all, Int.mul_comm] at hS
      have hge : ¬ (0 : Int) ≤ (63 : Int) - ((64 : Nat) : Int) := by omega
      have gr := hS.r
      have hB := hS.bel
      have d0 := hS.o.cell
      go_wp2_with ((with_reducible refine at_st (p := 4) (q := 32) rfl ?_); refine ev_store rfl 146 _ _ rfl rfl gr 0 rfl rfl [.int .i64 (hiW (a * b)), .int .u64 (loW (a * b))] rfl (by kernel_rfl) rfl rfl #[.int .i64 (hiW (a * b)), .int .u64 (loW (a * b))] rfl ?_; intro w8 g8 ef hz8)
      refine bodyPost_ret (results_cell_row rfl _ _ _ 146 #[.int .i64 (hiW (a * b)), .int .u64 (loW (a * b))] (0, 0) _ rfl g8 Tryz.underlying146 rfl (by kernel_rfl)) rfl ?_
      exact ⟨rfl, ef.below hB (fun k hk => by omega)⟩

end Go.Proofs.YtnofoommindocaaGreat.Base
namespace Go.Proofs.YtnofoommindocaaGreat.Base
open Go.RowKit Go Go.Shelf Go.Deep
set_option linter.unusedVariables false
set_option linter.unusedSimpArgs false

set_option maxRecDepth 100000 in
theorem rBelow_is (s t : Int) (hs : U128 s) (ht : U128 t) (W : World) : Calls Tryz.prog 244 #[.agg #[.int .i64 (hiW s), .int .u64 (loW s)], .agg #[.int .i64 (hiW t), .int .u64 (loW t)]] W fun e w' => e = .returned (.bool (decide (s < t))) ∧ Below W.heap.size W w' := by
  unfold U128 at hs ht
  have e1 : hiS s = s / 18446744073709551616 := by unfold hiS; omega
  have e2 : hiS t = t / 18446744073709551616 := by unfold hiS; omega
  have l1 : loW s = s % 18446744073709551616 := rfl
  have l2 : loW t = t % 18446744073709551616 := rfl
  have w1 := wrap_hiW s
  have w2 := wrap_hiW t
  have q1 := hiW_s s
  have q2 := hiW_s t
  have r1 := hiW_rng s
  have r2 := hiW_rng t
  by_cases h1 : hiS s < hiS t
  · have hr : s < t := by omega
    clear e1 e2 l1 l2 q1 q2 r1 r2
    go_enter Tryz.func244, Tryz.ntmps244
    go_wp2_with fail
    go_ret
    refine ⟨by simp [hr], ?_⟩
    (repeat (first | refine upA ?_ _ | refine upD ?_)); exact upR _
  · by_cases h2 : hiW s = hiW t
    · have hr : (s < t) = (loW s < loW t) := by apply propext; rw [h2] at q1; omega
      simp only [hr]
      rw [h2] at w1
      have h1' : ¬ hiS t < hiS t := by omega
      have e3 : hiS s = hiS t := by rw [h2] at q1; omega
      clear e1 e2 l1 l2 hr q1 q2 r1 r2 h1 w1 e3
      rw [h2]
      go_enter Tryz.func244, Tryz.ntmps244
      go_wp2_with fail
      go_ret
      refine ⟨by simp, ?_⟩
      (repeat (first | refine upA ?_ _ | refine upD ?_)); exact upR _
    · have hr : ¬ (s < t) := by omega
      clear e1 e2 l1 l2 q1 q2 r1 r2
      have h3 : (hiW s == hiW t) = false := by simp [h2]
      go_enter Tryz.func244, Tryz.ntmps244
      go_wp2_with fail
      go_ret
      refine ⟨by simp [hr], ?_⟩
      (repeat (first | refine upA ?_ _ | refine upD ?_)); exact upR _

set_option maxRecDepth 100000 in
theorem rWhole_is (a : Int) (h : W127 a) (W : World) : Calls Tryz.prog 233 #[.agg #[.int .i64 (hiW a), .int .u64 (loW a)]] W fun e w' => e = .returned (.agg #[.int .i64 (hiW (absI a)), .int .u64 (loW (absI a))]) ∧ Below W.heap.size W w' := by
  have hn := hiW_neg h
  have hB := below_allocs W [Obj.cells #[Value.int .i64 (hiW a), .int .u64 (loW a)] 146, Obj.cells #[Value.int .i64 0, .int .u64 0] 146]
  have g0 := blk_at W [Obj.cells #[Value.int .i64 (hiW a), .int .u64 (loW a)] 146, Obj.cells #[Value.int .i64 0, .int .u64 0] 146] 0 _ _ rfl
  have g1 := blk_at W [Obj.cells #[Value.int .i64 (hiW a), .int .u64 (loW a)] 146, Obj.cells #[Value.int .i64 0, .int .u64 0] 146] 1 _ _ rfl
  simp only [List.foldl_cons, List.foldl_nil, Nat.add_zero] at hB g0 g1
  replace hB := hB.1
  have d0 := g0.cell
  by_cases ha : a < 0
  · have h1 : hiW a < 0 := hn.2 ha
    have e1 : absI a = -a := if_pos ha
    rw [e1]
    clear hn e1
    go_enter Tryz.func233, Tryz.ntmps233
    go_wp2_with fail
    refine (rNegA_is a _).mono ?_
    rintro e w2 ⟨rfl, hK⟩
    replace hB := more hB hK
    replace g1 := g1.keep hK
    clear d0 g0 hK
    go_wp2_with ((with_reducible refine at_st (p := 2) (q := 7) rfl ?_); refine ev_store rfl 146 _ _ rfl rfl g1 0 rfl rfl [.int .i64 (hiW (-a)), .int .u64 (loW (-a))] rfl (by kernel_rfl) rfl rfl #[.int .i64 (hiW (-a)), .int .u64 (loW (-a))] rfl ?_; intro w6 g6 ef hz6)
    refine bodyPost_ret (results_cell_row rfl _ _ _ 146 #[.int .i64 (hiW (-a)), .int .u64 (loW (-a))] (0, 0) _ rfl g6 Tryz.underlying146 rfl (by kernel_rfl)) rfl ?_
    exact ⟨rfl, ef.below hB (fun k hk => by omega)⟩
  · have h1 : ¬ hiW a < 0 := fun h => ha (hn.1 h)
    have e1 : absI a = a := if_neg ha
    rw [e1]
    clear hn e1
    go_enter Tryz.func233, Tryz.ntmps233
    go_wp2_with ((with_reducible refine at_st (p := 2) (q := 8) rfl ?_); refine ev_store rfl 146 _ _ rfl rfl g1 0 rfl rfl [.int .i64 (hiW a), .int .u64 (loW a)] rfl (by kernel_rfl) rfl rfl #[.int .i64 (hiW a), .int .u64 (loW a)] rfl ?_; intro w6 g6 ef hz6)
    refine bodyPost_ret (results_cell_row rfl _ _ _ 146 #[.int .i64 (hiW a), .int .u64 (loW a)] (0, 0) _ rfl g6 Tryz.underlying146 rfl (by kernel_rfl)) rfl ?_
    exact ⟨rfl, ef.below hB (fun k hk => by omega)⟩

end Go.Proofs.YtnofoommindocaaGreat.Base
namespace Go.Proofs.YtnofoommindocaaGreat.Base
open Go.RowKit Go Go.Shelf Go.Deep
set_option linter.unusedVariables false
set_option linter.unusedSimpArgs false

def pbR : Value → Nat
  | .pointer (some x) => x.block
  | _ => 0
theorem div_step (p D : Int) (hD : 0 < D) :
    (2 * (p / 2 % D) + p % 2 < D → p / D = 2 * (p / 2 / D) ∧ p % D = 2 * (p / 2 % D) + p % 2) ∧ (¬ 2 * (p / 2 % D) + p % 2 < D → p / D = 2 * (p / 2 / D) + 1 ∧ p % D = 2 * (p / 2 % D) + p % 2 - D) := by
  have h1 := Int.emod_nonneg (p / 2) (show D ≠ 0 by omega)
  have h2 := Int.emod_lt_of_pos (p / 2) hD
  have h3 := Int.mul_ediv_add_emod (p / 2) D
  have h4 : p = 2 * (p / 2) + p % 2 := by omega
  have h5 : 0 ≤ p % 2 ∧ p % 2 < 2 := by omega
  generalize p / 2 = x at *
  generalize p % 2 = e at *
  generalize x / D = q at *
  generalize x % D = r at *
  have h6 : p = (2 * r + e) + D * (2 * q) := by rw [h4, ← h3, Int.mul_left_comm]; omega
  have key : ∀ z : Int, p / D = (2 * r + e - z * D) / D + (2 * q + z) ∧ p % D = (2 * r + e - z * D) % D := fun z => by
    have h7 : p = (2 * r + e - z * D) + D * (2 * q + z) := by rw [h6, Int.mul_add, Int.mul_comm D z]; omega
    constructor
    · conv => lhs; rw [h7]
      exact Int.add_mul_ediv_left _ _ (by omega)
    · conv => lhs; rw [h7]
      exact Int.add_mul_emod_self_left _ _ _
  constructor
  · intro hlt
    obtain ⟨k1, k2⟩ := key 0
    rw [Int.zero_mul, Int.sub_zero, Int.add_zero] at k1
    rw [Int.zero_mul, Int.sub_zero] at k2
    rw [k1, k2, Int.ediv_eq_zero_of_lt (by omega) hlt, Int.emod_eq_of_lt (by omega) hlt, Int.zero_add]
    exact ⟨rfl, rfl⟩
  · intro hlt
    obtain ⟨k1, k2⟩ := key 1
    rw [Int.one_mul] at k1 k2
    rw [k1, k2, Int.ediv_eq_zero_of_lt (by omega) (by omega), Int.emod_eq_of_lt (by omega) (by omega), Int.zero_add]
    exact ⟨rfl, rfl⟩
structure RoS (w0 : World) (A D : Int) (rb ab db qb tb : Nat) (q r : Int) (W : World) : Prop where
  z : Blk W rb #[.int .i64 0, .int .u64 0] 146
  a : Blk W ab #[.int .i64 (hiW A), .int .u64 (loW A)] 146
  d : Blk W db #[.int .i64 (hiW D), .int .u64 (loW D)] 146
  q : Blk W qb #[.int .i64 (hiW q), .int .u64 (loW q)] 146
  r : Blk W tb #[.int .i64 (hiW r), .int .u64 (loW r)] 146
  bel : Below w0.heap.size w0 W
structure RoN (w0 : World) (rb ab db qb tb : Nat) : Prop where
  a : ab = w0.heap.size
  d : db = w0.heap.size + 1
  z : rb = w0.heap.size + 2
  q : qb = w0.heap.size + 3
  r : tb = w0.heap.size + 4
theorem RoS.keep {w0 : World} {A D : Int} {rb ab db qb tb : Nat} {q r : Int} {W W' : World} (h : RoS w0 A D rb ab db qb tb q r W) (k : Below W.heap.size W W') : RoS w0 A D rb ab db qb tb q r W' := ⟨h.z.keep k, h.a.keep k, h.d.keep k, h.q.keep k, h.r.keep k, more h.bel k⟩
theorem RoS.putr {w0 : World} {A D : Int} {rb ab db qb tb : Nat} {q r r' : Int} {W W' : World} (h : RoS w0 A D rb ab db qb tb q r W) (hN : RoN w0 rb ab db qb tb) (g : Blk W' tb #[.int .i64 (hiW r'), .int .u64 (loW r')] 146) (e : Eff (fun k => k = tb) W W') : RoS w0 A D rb ab db qb tb q r' W' := by
  obtain ⟨n1, n2, n3, n4, n5⟩ := hN
  exact ⟨e.blk h.z (by omega), e.blk h.a (by omega), e.blk h.d (by omega), e.blk h.q (by omega), g, e.below h.bel (fun k hk => by omega)⟩
theorem RoS.putq {w0 : World} {A D : Int} {rb ab db qb tb : Nat} {q q' r : Int} {W W' : World} (h : RoS w0 A D rb ab db qb tb q r W) (hN : RoN w0 rb ab db qb tb) (g : Blk W' qb #[.int .i64 (hiW q'), .int .u64 (loW q')] 146) (e : Eff (fun k => k = qb) W W') : RoS w0 A D rb ab db qb tb q' r W' := by
  obtain ⟨n1, n2, n3, n4, n5⟩ := hN
  exact ⟨e.blk h.z (by omega), e.blk h.a (by omega), e.blk h.d (by omega), g, e.blk h.r (by omega), e.below h.bel (fun k hk => by omega)⟩
theorem RoS.far {w0 : World} {A D : Int} {rb ab db qb tb x : Nat} {q r : Int} {W W' : World} (h : RoS w0 A D rb ab db qb tb q r W) (hN : RoN w0 rb ab db qb tb) (hx : w0.heap.size + 5 ≤ x) (e : Eff (fun k => k = x) W W') : RoS w0 A D rb ab db qb tb q r W' := by
  obtain ⟨n1, n2, n3, n4, n5⟩ := hN
  exact ⟨e.blk h.z (by omega), e.blk h.a (by omega), e.blk h.d (by omega), e.blk h.q (by omega), e.blk h.r (by omega), e.below h.bel (fun k hk => by omega)⟩

set_option maxHeartbeats 8000000 in
set_option maxRecDepth 100000 in
theorem rounded_is (A D : Int) (hA : U128 A) (hD : 1 ≤ D) (hD2 : D ≤ 170141183460469231731687303715884105728) (w0 : World) :
    Calls Tryz.prog 232 #[.agg #[.int .i64 (hiW A), .int .u64 (loW A)], .agg #[.int .i64 (hiW D), .int .u64 (loW D)]] w0 fun e w' => e = .returned (.agg #[.int .i64 (hiW (rheI A D)), .int .u64 (loW (rheI A D))]) ∧ Below w0.heap.size w0 w' := by
  have hB := below_allocs w0 [Obj.cells #[Value.int .i64 (hiW A), .int .u64 (loW A)] 146, Obj.cells #[Value.int .i64 (hiW D), .int .u64 (loW D)] 146, Obj.cells #[Value.int .i64 0, .int .u64 0] 146, Obj.cells #[Value.int .i64 0, .int .u64 0] 146, Obj.cells #[Value.int .i64 0, .int .u64 0] 146]
  have g0 := blk_at w0 [Obj.cells #[Value.int .i64 (hiW A), .int .u64 (loW A)] 146, Obj.cells #[Value.int .i64 (hiW D), .int .u64 (loW D)] 146, Obj.cells #[Value.int .i64 0, .int .u64 0] 146, Obj.cells #[Value.int .i64 0, .int .u64 0] 146, Obj.cells #[Value.int .i64 0, .int .u64 0] 146] 0 _ _ rfl
  have g1 := blk_at w0 [Obj.cells #[Value.int .i64 (hiW A), .int .u64 (loW A)] 146, Obj.cells #[Value.int .i64 (hiW D), .int .u64 (loW D)] 146, Obj.cells #[Value.int .i64 0, .int .u64 0] 146, Obj.cells #[Value.int .i64 0, .int .u64 0] 146, Obj.cells #[Value.int .i64 0, .int .u64 0] 146] 1 _ _ rfl
  have g2 := blk_at w0 [Obj.cells #[Value.int .i64 (hiW A), .int .u64 (loW A)] 146, Obj.cells #[Value.int .i64 (hiW D), .int .u64 (loW D)] 146, Obj.cells #[Value.int .i64 0, .int .u64 0] 146, Obj.cells #[Value.int .i64 0, .int .u64 0] 146, Obj.cells #[Value.int .i64 0, .int .u64 0] 146] 2 _ _ rfl
  have g3 := blk_at w0 [Obj.cells #[Value.int .i64 (hiW A), .int .u64 (loW A)] 146, Obj.cells #[Value.int .i64 (hiW D), .int .u64 (loW D)] 146, Obj.cells #[Value.int .i64 0, .int .u64 0] 146, Obj.cells #[Value.int .i64 0, .int .u64 0] 146, Obj.cells #[Value.int .i64 0, .int .u64 0] 146] 3 _ _ rfl
  have g4 := blk_at w0 [Obj.cells #[Value.int .i64 (hiW A), .int .u64 (loW A)] 146, Obj.cells #[Value.int .i64 (hiW D), .int .u64 (loW D)] 146, Obj.cells #[Value.int .i64 0, .int .u64 0] 146, Obj.cells #[Value.int .i64 0, .int .u64 0] 146, Obj.cells #[Value.int .i64 0, .int .u64 0] 146] 4 _ _ rfl
  simp only [List.foldl_cons, List.foldl_nil, Nat.add_zero] at hB g0 g1 g2 g3 g4
  replace hB := hB.1
  have hS : RoS w0 A D (w0.heap.size + 2) w0.heap.size (w0.heap.size + 1) (w0.heap.size + 3) (w0.heap.size + 4) 0 0 _ := ⟨g2, g0, g1, by show Blk _ _ #[.int .i64 (hiW 0), .int .u64 (loW 0)] _; rw [show hiW 0 = 0 by kernel_rfl, show loW 0 = 0 by kernel_rfl]; exact g3, by show Blk _ _ #[.int .i64 (hiW 0), .int .u64 (loW 0)] _; rw [show hiW 0 = 0 by kernel_rfl, show loW 0 = 0 by kernel_rfl]; exact g4, hB⟩
  have hNN : RoN w0 (w0.heap.size + 2) w0.heap.size (w0.heap.size + 1) (w0.heap.size + 3) (w0.heap.size + 4) := ⟨rfl, rfl, rfl, rfl, rfl⟩
  clear g0 g1 g2 g3 g4 hB
  go_enter Tryz.func232, Tryz.ntmps232
  go_wp2_with fail
  have hs5 : w0.heap.size + 5 ≤ (((((w0.alloc (Obj.cells #[Value.int .i64 (hiW A), .int .u64 (loW A)] 146)).alloc (Obj.cells #[Value.int .i64 (hiW D), .int .u64 (loW D)] 146)).alloc (Obj.cells #[Value.int .i64 0, .int .u64 0] 146)).alloc (Obj.cells #[Value.int .i64 0, .int .u64 0] 146)).alloc (Obj.cells #[Value.int .i64 0, .int .u64 0] 146)).heap.size := by simp
  generalize (((((w0.alloc (Obj.cells #[Value.int .i64 (hiW A), .int .u64 (loW A)] 146)).alloc (Obj.cells #[Value.int .i64 (hiW D), .int .u64 (loW D)] 146)).alloc (Obj.cells #[Value.int .i64 0, .int .u64 0] 146)).alloc (Obj.cells #[Value.int .i64 0, .int .u64 0] 146)).alloc (Obj.cells #[Value.int .i64 0, .int .u64 0] 146)) = w1 at *
  obtain ⟨tb, htb⟩ : ∃ g, w0.heap.size + 4 = g := ⟨_, rfl⟩
  obtain ⟨qb, hqb⟩ : ∃ g, w0.heap.size + 3 = g := ⟨_, rfl⟩
  obtain ⟨rb, hrb⟩ : ∃ g, w0.heap.size + 2 = g := ⟨_, rfl⟩
  obtain ⟨db, hdb⟩ : ∃ g, w0.heap.size + 1 = g := ⟨_, rfl⟩
  obtain ⟨ab, hab⟩ : ∃ g, w0.heap.size = g := ⟨_, rfl⟩
  rw [show w0.heap.size + 1 + 1 + 1 + 1 = tb from htb, show w0.heap.size + 1 + 1 + 1 = qb from hqb, show w0.heap.size + 1 + 1 = rb from hrb, hdb, show (⟨w0.heap.size, 0, none⟩ : Addr) = ⟨ab, 0, none⟩ by rw [hab]]
  rw [htb, hqb, hrb, hdb] at hS hNN
  have hS' : RoS w0 A D rb ab db qb tb 0 0 w1 := by rw [hab] at hS; exact hS
  have hN' : RoN w0 rb ab db qb tb := by rw [hab] at hNN; exact hNN
  have HN := Lib.hid hN'
  clear hS hNN hN' htb hqb hrb hdb hab
  unfold U128 at hA
  go_loopw [7] (fun v7 wr => ∃ j : Nat, j ≤ 128 ∧ v7 = .int .i64 ((127 : Int) - (j : Int)) ∧ RoS w0 A D rb ab db qb tb (A / 2 ^ (128 - j) / D) (A / 2 ^ (128 - j) % D) wr ∧ w0.heap.size + 5 ≤ wr.heap.size) (fun v _ => (intOf v + 1).toNat)
  case atStart =>
    refine ⟨0, by omega, rfl, ?_, hs5⟩
    rw [show A / 2 ^ (128 - 0) = 0 from Int.ediv_eq_zero_of_lt hA.1 (by rw [show (2 : Int) ^ (128 - 0) = 340282366920938463463374607431768211456 by decide]; exact hA.2), Int.zero_ediv, Int.zero_emod]
    exact hS'
  case round =>
    clear hS' hs5
    obtain ⟨j, hj, rfl, hS, hsz⟩ := hrel
    by_cases hlt : j < 128
    · obtain ⟨k, hk⟩ : ∃ k : Nat, (127 : Int) - (j : Int) = (k : Int) := ⟨127 - j, by omega⟩
      have hk128 : k < 128 := by omega
      have hk0 : (0 : Int) ≤ (k : Int) := by omega
      have hwk : IntKind.i64.wrap ((k : Int) - 1) = (127 : Int) - ((j + 1 : Nat) : Int) := by rw [IntWalk.i64_in _ (by omega)]; omega
      have hpp : A / 2 ^ (128 - j) = A / 2 ^ k / 2 := by
        have := pow_half A (k := 128 - j) (by omega)
        rw [show 128 - j - 1 = k by omega] at this
        exact this.symm
      have hnx : 128 - (j + 1) = k := by omega
      rw [hpp] at hS
      have HNX := Lib.hid hnx
      have HJ := Lib.hid hk
      rw [hk]
      have hds := div_step (A / 2 ^ k) D (by omega)
      have hb0 := Int.emod_nonneg (A / 2 ^ k / 2) (show D ≠ 0 by omega)
      have hb1 := Int.emod_lt_of_pos (A / 2 ^ k / 2) (show 0 < D by omega)
      have hBT := fun W => rBitA_is A k hk128 W
      obtain ⟨pp, hpp'⟩ : ∃ p, A / 2 ^ k = p := ⟨_, rfl⟩
      rw [hpp'] at hds hb0 hb1 hBT hS
      have HPP := Lib.hid hpp'
      clear hk hpp hnx hpp'
      obtain ⟨q, hq⟩ : ∃ q, pp / 2 / D = q := ⟨_, rfl⟩
      obtain ⟨r, hr⟩ : ∃ r, pp / 2 % D = r := ⟨_, rfl⟩
      rw [hq, hr] at hds hS
      rw [hr] at hb0 hb1
      have hTW : ∀ W, Calls Tryz.prog 207 #[.agg #[.int .i64 (hiW r), .int .u64 (loW r)], .bool (decide (pp % 2 = 1))] W fun e w' => e = .returned (.agg #[.int .i64 (hiW (2 * r + pp % 2)), .int .u64 (loW (2 * r + pp % 2))]) ∧ Below W.heap.size W w' := fun W => by
        have h2 : pp % 2 = 0 ∨ pp % 2 = 1 := by omega
        rcases h2 with e | e
        · rw [e, Int.add_zero]; exact rTwice_is r false W
        · rw [e]; exact rTwice_is r true W
      have he2 : 0 ≤ pp % 2 ∧ pp % 2 < 2 := by omega
      obtain ⟨bb, hbb⟩ : ∃ b, decide (pp % 2 = 1) = b := ⟨_, rfl⟩
      rw [hbb] at hTW hBT
      obtain ⟨r1, hr1⟩ : ∃ x, 2 * r + pp % 2 = x := ⟨_, rfl⟩
      rw [hr1] at hTW hds
      have hr1b : 0 ≤ r1 ∧ r1 < 340282366920938463463374607431768211456 := by omega
      have HDS := Lib.hid hds
      have HTW := Lib.hid hTW
      have HBT := Lib.hid hBT
      clear hds hTW hBT hbb hq hr hb0 hb1 he2 hr1
      go_wp2_with fail
      have HS0 : ((fun _ : Nat => false) 5 = false → RoS w0 A D rb ab db qb tb q r wr.drew) ∧ ((fun _ : Nat => false) 5 = true → RoS w0 A D rb ab db qb tb q r1 wr.drew) ∧ w0.heap.size + 5 ≤ wr.drew.heap.size := ⟨fun _ => hS.keep (upD (upR _)), fun h => (by cases h), hsz⟩
      clear hS hsz
      refine region_fp [some 13, some 14, some 15, some 16, some 17, none] [5] [some (Value.agg #[.int .i64 (hiW (r)), .int .u64 (loW (r))]), some (Value.agg #[.int .i64 (hiW (A)), .int .u64 (loW (A))]), some (Value.int .i64 (k : Int)), some (Value.bool bb), some (Value.agg #[.int .i64 (hiW (r1)), .int .u64 (loW (r1))]), none]
        (fun _ _ _ => True) (fun _ _ => True) (fun L f W => (L 5 = false → RoS w0 A D rb ab db qb tb (q) (r) W) ∧ (L 5 = true → RoS w0 A D rb ab db qb tb (q) (r1) W) ∧ w0.heap.size + 5 ≤ W.heap.size)
        (by kernel_rfl) (by kernel_rfl) (by kernel_rfl) (by kernel_rfl) (by kernel_rfl) (fun _ => trivial) (fun _ _ _ _ _ _ => trivial) (fun L L' f f' W h hs => by have q := (h 5 (by decide)).1; (try dsimp only at hs ⊢); rw [← q]; exact hs) HS0 ?_ ?_
      · intro i hi b' L f W hSW hL hdep hsh he hsv hsl hFF K hK1 hK2
        replace hi : i < 6 := hi
        have hcs : i = 0 ∨ i = 1 ∨ i = 2 ∨ i = 3 ∨ i = 4 ∨ i = 5 := by omega
        clear hi
        rcases hcs with rfl | rfl | rfl | rfl | rfl | rfl
        · refine wpOpS_go rfl rfl ?_
          have t6 : b'.tmps[6]?.getD undef = Value.pointer (some ⟨tb, 0, none⟩) := he 6 (by kernel_rfl)
          obtain ⟨s0, s1, s2⟩ := hSW
          have c0 := (s0 (hsh 5 (by kernel_rfl))).r.cell
          have HK := Lib.hid hK1
          clear hK1 hK2 hdep hsh he hsv hsl hFF hL
          clear s0 s1 s2
          go_simp
          exact HK.out rfl _ (fp_mk rfl rfl trivial)
        · refine wpOpS_go rfl rfl ?_
          have t2 : b'.tmps[2]?.getD undef = Value.pointer (some ⟨ab, 0, none⟩) := he 2 (by kernel_rfl)
          obtain ⟨s0, s1, s2⟩ := hSW
          have c0 := (s0 (hsh 5 (by kernel_rfl))).a.cell
          have HK := Lib.hid hK1
          clear hK1 hK2 hdep hsh he hsv hsl hFF hL
          clear s0 s1 s2
          go_simp
          exact HK.out rfl _ (fp_mk rfl rfl trivial)
        · refine wpOpS_go rfl rfl ?_
          have t7 : b'.tmps[7]?.getD undef = Value.int .i64 (k : Int) := he 7 (by kernel_rfl)
          have HK := Lib.hid hK1
          clear hK1 hK2 hdep hsh he hsv hsl hFF hL hSW
          go_simp
          exact HK.out rfl _ (fp_mk rfl rfl trivial)
        · refine wpOpS_go rfl rfl ?_
          have t14 : b'.tmps[14]?.getD undef = Value.agg #[.int .i64 (hiW (A)), .int .u64 (loW (A))] := hsv 1 14 _ (by kernel_rfl) (by kernel_rfl) rfl
          have t15 : b'.tmps[15]?.getD undef = Value.int .i64 (k : Int) := hsv 2 15 _ (by kernel_rfl) (by kernel_rfl) rfl
          obtain ⟨s0, s1, s2⟩ := hSW
          have HK := Lib.hid hK2
          clear hK1 hK2 hdep hsh he hsv hsl hFF hL
          go_simp
          refine (HBT.out W).mono ?_
          rintro e w6 ⟨rfl, hK⟩
          exact HK.out _ _ (fp_mk rfl rfl trivial) trivial ⟨fun h => (s0 h).keep hK, fun h => (s1 h).keep hK, Nat.le_trans s2 hK.size⟩
        · refine wpOpS_go rfl rfl ?_
          have t13 : b'.tmps[13]?.getD undef = Value.agg #[.int .i64 (hiW (r)), .int .u64 (loW (r))] := hsv 0 13 _ (by kernel_rfl) (by kernel_rfl) rfl
          have t16 : b'.tmps[16]?.getD undef = Value.bool bb := hsv 3 16 _ (by kernel_rfl) (by kernel_rfl) rfl
          obtain ⟨s0, s1, s2⟩ := hSW
          have HK := Lib.hid hK2
          clear hK1 hK2 hdep hsh he hsv hsl hFF hL
          go_simp
          refine (HTW.out W).mono ?_
          rintro e w6 ⟨rfl, hK⟩
          exact HK.out _ _ (fp_mk rfl rfl trivial) trivial ⟨fun h => (s0 h).keep hK, fun h => (s1 h).keep hK, Nat.le_trans s2 hK.size⟩
        · refine wpOpS_go rfl rfl ?_
          have t6 : b'.tmps[6]?.getD undef = Value.pointer (some ⟨tb, 0, none⟩) := he 6 (by kernel_rfl)
          have t17 : b'.tmps[17]?.getD undef = Value.agg #[.int .i64 (hiW (r1)), .int .u64 (loW (r1))] := hsv 4 17 _ (by kernel_rfl) (by kernel_rfl) rfl
          obtain ⟨s0, s1, s2⟩ := hSW
          have hs := s0 hL
          have HK := Lib.hid hK2
          clear hK1 hK2 hdep hsh he hsv hsl hFF
          refine op_store 146 _ _ rfl rfl hs.r 0 (eval_tmp t6) (eval_tmp t17) [.int .i64 (hiW (r1)), .int .u64 (loW (r1))] rfl (by kernel_rfl) rfl rfl #[.int .i64 (hiW (r1)), .int .u64 (loW (r1))] rfl ?_
          intro w' h1 h2 h3
          exact HK.out undef _ (fp_x (v := undef) rfl trivial) trivial ⟨fun h => absurd h (by rw [updF_same]; decide), fun _ => hs.putr HN.out h1 h2, Nat.le_trans s2 h2.size⟩
      · intro f W hf L hL hS
        obtain ⟨_, s1, hsz⟩ := (hS : _ ∧ _ ∧ _)
        have hS := s1 (hL 5 (by decide))
        clear hf hL s1
        simp only [puts2, Act.put]
        generalize f 0 = y0, f 1 = y1, f 2 = y2, f 3 = y3, f 4 = y4
        try simp only [List.setIfInBounds_toArray, List.set_cons_zero, List.set_cons_succ]
        have d0 := hS.q.cell
        go_wp2_with fail
        clear d0
        refine (rTwice0_is q _).mono ?_
        rintro e w4 ⟨rfl, hK⟩
        replace hS := hS.keep hK
        have HP := Lib.hid (fun (w5 : World) (g : Blk w5 qb #[.int .i64 (hiW (2 * q)), .int .u64 (loW (2 * q))] 146) (e : Eff (fun k => k = qb) w4 w5) => hS.putq HN.out g e)
        have gq := hS.q
        replace hsz := Nat.le_trans hsz hK.size
        clear hK
        go_wp2_with ((with_reducible refine at_st (p := 5) (q := 19) rfl ?_); refine ev_store rfl 146 _ _ rfl rfl gq 0 rfl rfl [.int .i64 (hiW (2 * q)), .int .u64 (loW (2 * q))] rfl (by kernel_rfl) rfl rfl #[.int .i64 (hiW (2 * q)), .int .u64 (loW (2 * q))] rfl ?_; intro w5 g5 ef hz5; have d1 := (HP.out w5 g5 ef).r.cell; have d2 := (HP.out w5 g5 ef).d.cell)
        replace hS := HP.out w5 g5 ef
        replace hsz := Nat.le_trans hsz ef.size
        clear d1 d2 HP gq g5 ef hz5
        refine (rBelow_is r1 D hr1b ⟨by omega, by omega⟩ _).mono ?_
        rintro e w6 ⟨rfl, hK⟩
        replace hS := hS.keep hK
        replace hsz := Nat.le_trans hsz hK.size
        clear hK
        by_cases hlo : r1 < D
        · rw [decide_eq_true hlo]
          obtain ⟨E1, E2⟩ := HDS.out.1 hlo
          have HE1 := Lib.hid E1
          have HE2 := Lib.hid E2
          clear E1 E2 HDS HTW HBT hlo
          go_wp2_with fail
          go_roundw
          case rel => exact ⟨j + 1, by omega, rfl, by rw [HNX.out, HPP.out, HE1.out, HE2.out]; exact hS, hsz⟩
          case measure => have := HJ.out; simp [intOf]; omega
        · rw [decide_eq_false hlo]
          go_wp2_with fail
          have HS0 : ((fun _ : Nat => false) 4 = false → RoS w0 A D rb ab db qb tb (2 * q) r1 w6.drew) ∧ ((fun _ : Nat => false) 4 = true → RoS w0 A D rb ab db qb tb (2 * q) (r1 + -D) w6.drew) ∧ w0.heap.size + 5 ≤ w6.drew.heap.size := ⟨fun _ => hS.keep (upD (upR _)), fun h => (by cases h), hsz⟩
          clear hS hsz
          refine region_fp [some 24, some 25, some 26, some 27, none] [4] [some (Value.agg #[.int .i64 (hiW (r1)), .int .u64 (loW (r1))]), some (Value.agg #[.int .i64 (hiW (D)), .int .u64 (loW (D))]), some (Value.agg #[.int .i64 (hiW (-D)), .int .u64 (loW (-D))]), some (Value.agg #[.int .i64 (hiW (r1 + -D)), .int .u64 (loW (r1 + -D))]), none]
            (fun _ _ _ => True) (fun _ _ => True) (fun L f W => (L 4 = false → RoS w0 A D rb ab db qb tb (2 * q) (r1) W) ∧ (L 4 = true → RoS w0 A D rb ab db qb tb (2 * q) (r1 + -D) W) ∧ w0.heap.size + 5 ≤ W.heap.size)
            (by kernel_rfl) (by kernel_rfl) (by kernel_rfl) (by kernel_rfl) (by kernel_rfl) (fun _ => trivial) (fun _ _ _ _ _ _ => trivial) (fun L L' f f' W h hs => by have q := (h 4 (by decide)).1; (try dsimp only at hs ⊢); rw [← q]; exact hs) HS0 ?_ ?_
          · intro i hi b' L f W hSW hL hdep hsh he hsv hsl hFF K hK1 hK2
            replace hi : i < 5 := hi
            have hcs : i = 0 ∨ i = 1 ∨ i = 2 ∨ i = 3 ∨ i = 4 := by omega
            clear hi
            rcases hcs with rfl | rfl | rfl | rfl | rfl
            · refine wpOpS_go rfl rfl ?_
              have t6 : b'.tmps[6]?.getD undef = Value.pointer (some ⟨tb, 0, none⟩) := he 6 (by kernel_rfl)
              obtain ⟨s0, s1, s2⟩ := hSW
              have c0 := (s0 (hsh 4 (by kernel_rfl))).r.cell
              have HK := Lib.hid hK1
              clear hK1 hK2 hdep hsh he hsv hsl hFF hL
              clear s0 s1 s2
              go_simp
              exact HK.out rfl _ (fp_mk rfl rfl trivial)
            · refine wpOpS_go rfl rfl ?_
              have t3 : b'.tmps[3]?.getD undef = Value.pointer (some ⟨db, 0, none⟩) := he 3 (by kernel_rfl)
              obtain ⟨s0, s1, s2⟩ := hSW
              have c0 := (s0 (hsh 4 (by kernel_rfl))).d.cell
              have HK := Lib.hid hK1
              clear hK1 hK2 hdep hsh he hsv hsl hFF hL
              clear s0 s1 s2
              go_simp
              exact HK.out rfl _ (fp_mk rfl rfl trivial)
            · refine wpOpS_go rfl rfl ?_
              have t25 : b'.tmps[25]?.getD undef = Value.agg #[.int .i64 (hiW (D)), .int .u64 (loW (D))] := hsv 1 25 _ (by kernel_rfl) (by kernel_rfl) rfl
              obtain ⟨s0, s1, s2⟩ := hSW
              have HK := Lib.hid hK2
              clear hK1 hK2 hdep hsh he hsv hsl hFF hL
              go_simp
              refine (rNegA_is D W).mono ?_
              rintro e w6 ⟨rfl, hK⟩
              exact HK.out _ _ (fp_mk rfl rfl trivial) trivial ⟨fun h => (s0 h).keep hK, fun h => (s1 h).keep hK, Nat.le_trans s2 hK.size⟩
            · refine wpOpS_go rfl rfl ?_
              have t24 : b'.tmps[24]?.getD undef = Value.agg #[.int .i64 (hiW (r1)), .int .u64 (loW (r1))] := hsv 0 24 _ (by kernel_rfl) (by kernel_rfl) rfl
              have t26 : b'.tmps[26]?.getD undef = Value.agg #[.int .i64 (hiW (-D)), .int .u64 (loW (-D))] := hsv 2 26 _ (by kernel_rfl) (by kernel_rfl) rfl
              obtain ⟨s0, s1, s2⟩ := hSW
              have HK := Lib.hid hK2
              clear hK1 hK2 hdep hsh he hsv hsl hFF hL
              go_simp
              refine (rAddA_is r1 (-D) W).mono ?_
              rintro e w6 ⟨rfl, hK⟩
              exact HK.out _ _ (fp_mk rfl rfl trivial) trivial ⟨fun h => (s0 h).keep hK, fun h => (s1 h).keep hK, Nat.le_trans s2 hK.size⟩
            · refine wpOpS_go rfl rfl ?_
              have t6 : b'.tmps[6]?.getD undef = Value.pointer (some ⟨tb, 0, none⟩) := he 6 (by kernel_rfl)
              have t27 : b'.tmps[27]?.getD undef = Value.agg #[.int .i64 (hiW (r1 + -D)), .int .u64 (loW (r1 + -D))] := hsv 3 27 _ (by kernel_rfl) (by kernel_rfl) rfl
              obtain ⟨s0, s1, s2⟩ := hSW
              have hs := s0 hL
              have HK := Lib.hid hK2
              clear hK1 hK2 hdep hsh he hsv hsl hFF
              refine op_store 146 _ _ rfl rfl hs.r 0 (eval_tmp t6) (eval_tmp t27) [.int .i64 (hiW (r1 + -D)), .int .u64 (loW (r1 + -D))] rfl (by kernel_rfl) rfl rfl #[.int .i64 (hiW (r1 + -D)), .int .u64 (loW (r1 + -D))] rfl ?_
              intro w' h1 h2 h3
              exact HK.out undef _ (fp_x (v := undef) rfl trivial) trivial ⟨fun h => absurd h (by rw [updF_same]; decide), fun _ => hs.putr HN.out h1 h2, Nat.le_trans s2 h2.size⟩
          · intro f W hf L hL hS
            obtain ⟨_, s1, hsz⟩ := (hS : _ ∧ _ ∧ _)
            have hS := s1 (hL 4 (by decide))
            clear hf hL s1
            simp only [puts2, Act.put]
            generalize f 0 = y0, f 1 = y1, f 2 = y2, f 3 = y3
            try simp only [List.setIfInBounds_toArray, List.set_cons_zero, List.set_cons_succ]
            obtain ⟨E1, E2⟩ := HDS.out.2 hlo
            have HE1 := Lib.hid E1
            have HE2 := Lib.hid E2
            have w1 : IntKind.u64.wrap (loW (2 * q) + 1) = loW (2 * q) + 1 := by have := loW_rng (2 * q); rw [IntKind.wrap_u64]; unfold loW at *; omega
            have d0 := hS.q.cell
            have gq := hS.q
            clear E1 E2 HDS HTW HBT
            go_wp2_with ((with_reducible refine at_st (p := 31) (q := 30) rfl ?_); refine ev_store rfl 144 _ _ rfl rfl gq 1 rfl rfl [.int .u64 (loW (2 * q) + 1)] rfl (by kernel_rfl) rfl rfl #[.int .i64 (hiW (2 * q)), .int .u64 (loW (2 * q) + 1)] rfl ?_; intro w8 g8 ef hz8)
            have g9 : Blk w8 qb #[.int .i64 (hiW (2 * q + 1)), .int .u64 (loW (2 * q + 1))] 146 := by
              rw [show hiW (2 * q + 1) = hiW (2 * q) by unfold hiW; omega, show loW (2 * q + 1) = loW (2 * q) + 1 by unfold loW; omega]
              exact g8
            replace hS := hS.putq HN.out g9 ef
            have hsz' := Nat.le_trans hsz ef.size
            go_roundw
            case rel => exact ⟨j + 1, by omega, rfl, by rw [HNX.out, HPP.out, HE1.out, HE2.out, Int.sub_eq_add_neg]; exact hS, hsz'⟩
            case measure => have := HJ.out; simp [intOf]; omega
    · have hj128 : j = 128 := by omega
      subst hj128
      rw [show A / 2 ^ (128 - 128) = A by rw [show 128 - 128 = 0 by omega, Int.pow_zero, Int.ediv_one]] at hS
      have hr0 := Int.emod_nonneg A (show D ≠ 0 by omega)
      have hr1 := Int.emod_lt_of_pos A (show 0 < D by omega)
      obtain ⟨q, hq⟩ : ∃ x, A / D = x := ⟨_, rfl⟩
      obtain ⟨r, hr⟩ : ∃ x, A % D = x := ⟨_, rfl⟩
      rw [hq, hr] at hS
      rw [hr] at hr0 hr1
      have HQ := Lib.hid hq
      have HR := Lib.hid hr
      have hge : ¬ (0 : Int) ≤ (127 : Int) - ((128 : Nat) : Int) := by omega
      clear hq hr
      go_wp2_with fail
      have HS0 : RoS w0 A D rb ab db qb tb q r wr.drew ∧ w0.heap.size + 5 ≤ wr.drew.heap.size ∧ ((fun _ : Nat => false) 4 = true → w0.heap.size + 5 ≤ pbR ((fun _ : Nat => undef) 4)) ∧ ((fun _ : Nat => false) 4 = true → (fun _ : Nat => false) 5 = false → Blk wr.drew (pbR ((fun _ : Nat => undef) 4)) #[.int .i64 0, .int .u64 0] 146) ∧ ((fun _ : Nat => false) 5 = true → Blk wr.drew (pbR ((fun _ : Nat => undef) 4)) #[.int .i64 (hiW (D + -r)), .int .u64 (loW (D + -r))] 146) := ⟨hS.keep (upD (upR _)), hsz, fun h => (by cases h), fun h => (by cases h), fun h => (by cases h)⟩
      clear hS hsz
      refine region_fp [some 32, some 33, some 34, some 35, some 8, none] [4, 5] [some (Value.agg #[.int .i64 (hiW (D)), .int .u64 (loW (D))]), some (Value.agg #[.int .i64 (hiW (r)), .int .u64 (loW (r))]), some (Value.agg #[.int .i64 (hiW (-r)), .int .u64 (loW (-r))]), some (Value.agg #[.int .i64 (hiW (D + -r)), .int .u64 (loW (D + -r))]), none, none]
        (fun i v W => match i with | 4 => ∃ e, v = Value.pointer (some ⟨e, 0, none⟩) | _ => True) (fun _ _ => True) (fun L f W => RoS w0 A D rb ab db qb tb q r W ∧ w0.heap.size + 5 ≤ W.heap.size ∧ (L 4 = true → w0.heap.size + 5 ≤ pbR (f 4)) ∧ (L 4 = true → L 5 = false → Blk W (pbR (f 4)) #[.int .i64 0, .int .u64 0] 146) ∧ (L 5 = true → Blk W (pbR (f 4)) #[.int .i64 (hiW (D + -r)), .int .u64 (loW (D + -r))] 146))
        (by kernel_rfl) (by kernel_rfl) (by kernel_rfl) (by kernel_rfl) (by kernel_rfl) (fun _ => trivial) (fun i v W W' h hb => by
          match i, h with
          | 4, h => exact h
          | 0, _ | 1, _ | 2, _ | 3, _ | 5, _ => trivial
          | (n + 6), _ => trivial) (fun L L' f f' W h hs => by have q4 := h 4 (by decide); have q5 := (h 5 (by decide)).1; (try dsimp only at hs ⊢); rw [← q4.1, ← q4.2, ← q5]; exact hs) HS0 ?_ ?_
      · intro i hi b' L f W hSW hL hdep hsh he hsv hsl hFF K hK1 hK2
        replace hi : i < 6 := hi
        have hcs : i = 0 ∨ i = 1 ∨ i = 2 ∨ i = 3 ∨ i = 4 ∨ i = 5 := by omega
        clear hi
        rcases hcs with rfl | rfl | rfl | rfl | rfl | rfl
        · refine wpOpS_go rfl rfl ?_
          have t3 : b'.tmps[3]?.getD undef = Value.pointer (some ⟨db, 0, none⟩) := he 3 (by kernel_rfl)
          obtain ⟨s0, s1, s2, s3, s4⟩ := hSW
          have c0 := s0.d.cell
          have HK := Lib.hid hK1
          clear hK1 hK2 hdep hsh he hsv hsl hFF hL
          clear s0 s1 s2 s3 s4
          go_simp
          exact HK.out rfl _ (fp_mk rfl rfl trivial)
        · refine wpOpS_go rfl rfl ?_
          have t6 : b'.tmps[6]?.getD undef = Value.pointer (some ⟨tb, 0, none⟩) := he 6 (by kernel_rfl)
          obtain ⟨s0, s1, s2, s3, s4⟩ := hSW
          have c0 := s0.r.cell
          have HK := Lib.hid hK1
          clear hK1 hK2 hdep hsh he hsv hsl hFF hL
          clear s0 s1 s2 s3 s4
          go_simp
          exact HK.out rfl _ (fp_mk rfl rfl trivial)
        · refine wpOpS_go rfl rfl ?_
          have t33 : b'.tmps[33]?.getD undef = Value.agg #[.int .i64 (hiW (r)), .int .u64 (loW (r))] := hsv 1 33 _ (by kernel_rfl) (by kernel_rfl) rfl
          obtain ⟨s0, s1, s2, s3, s4⟩ := hSW
          have HK := Lib.hid hK2
          clear hK1 hK2 hdep hsh he hsv hsl hFF hL
          go_simp
          refine (rNegA_is r W).mono ?_
          rintro e w6 ⟨rfl, hK⟩
          exact HK.out _ _ (fp_mk rfl rfl trivial) trivial ⟨s0.keep hK, Nat.le_trans s1 hK.size, s2, fun h h' => (s3 h h').keep hK, fun h => (s4 h).keep hK⟩
        · refine wpOpS_go rfl rfl ?_
          have t32 : b'.tmps[32]?.getD undef = Value.agg #[.int .i64 (hiW (D)), .int .u64 (loW (D))] := hsv 0 32 _ (by kernel_rfl) (by kernel_rfl) rfl
          have t34 : b'.tmps[34]?.getD undef = Value.agg #[.int .i64 (hiW (-r)), .int .u64 (loW (-r))] := hsv 2 34 _ (by kernel_rfl) (by kernel_rfl) rfl
          obtain ⟨s0, s1, s2, s3, s4⟩ := hSW
          have HK := Lib.hid hK2
          clear hK1 hK2 hdep hsh he hsv hsl hFF hL
          go_simp
          refine (rAddA_is D (-r) W).mono ?_
          rintro e w6 ⟨rfl, hK⟩
          exact HK.out _ _ (fp_mk rfl rfl trivial) trivial ⟨s0.keep hK, Nat.le_trans s1 hK.size, s2, fun h h' => (s3 h h').keep hK, fun h => (s4 h).keep hK⟩
        · refine wpOpS_go rfl rfl ?_
          obtain ⟨s0, s1, s2, s3, s4⟩ := hSW
          have h5 := hsh 5 (by kernel_rfl)
          have HK := Lib.hid hK2
          clear hK1 hK2 hdep hsh he hsv hsl hFF hL
          refine op_new (cs := #[.int .i64 0, .int .u64 0]) (t := 146) (by go_simp) ?_
          intro w6 hb6 hK hz6
          exact HK.out _ _ (fp_x rfl ⟨_, rfl⟩) trivial ⟨s0.keep hK, Nat.le_trans s1 hK.size, fun _ => (by rw [updF_same]; exact s1), fun _ _ => (by rw [updF_same]; exact hb6), fun h => absurd h (by show ¬ L 5 = true; rw [h5]; decide)⟩
        · refine wpOpS_go rfl rfl ?_
          have t35 : b'.tmps[35]?.getD undef = Value.agg #[.int .i64 (hiW (D + -r)), .int .u64 (loW (D + -r))] := hsv 3 35 _ (by kernel_rfl) (by kernel_rfl) rfl
          obtain ⟨t8, hx8⟩ := hsl 4 8 (by kernel_rfl) (by kernel_rfl)
          obtain ⟨e8, e9⟩ := hx8
          have tv : b'.tmps[35]?.getD undef = Value.agg #[.int .i64 (hiW (D + -r)), .int .u64 (loW (D + -r))] := hsv 3 35 _ (by kernel_rfl) (by kernel_rfl) rfl
          obtain ⟨s0, s1, s2, s3, s4⟩ := hSW
          have h4 := hdep 4 (by kernel_rfl)
          have hxb := s3 h4 hL
          have hxn := s2 h4
          rw [e9] at hxb t8 hxn
          have HE9 := Lib.hid e9
          have HK := Lib.hid hK2
          clear hK1 hK2 hdep hsh he hsv hsl hFF e9
          change Blk W e8 #[.int .i64 0, .int .u64 0] 146 at hxb
          change w0.heap.size + 5 ≤ e8 at hxn
          refine op_store 146 _ _ rfl rfl hxb 0 (eval_tmp t8) (eval_tmp tv) [.int .i64 (hiW (D + -r)), .int .u64 (loW (D + -r))] rfl (by kernel_rfl) rfl rfl #[.int .i64 (hiW (D + -r)), .int .u64 (loW (D + -r))] rfl ?_
          intro w' h1 h2 h3
          exact HK.out undef _ (fp_x (v := undef) rfl trivial) trivial ⟨s0.far HN.out hxn h2, Nat.le_trans s1 h2.size, s2, fun _ h => absurd h (by rw [updF_same]; decide), fun _ => (by show Blk w' (pbR (f 4)) _ _; rw [HE9.out]; exact h1)⟩
      · intro f W hf L hL hS
        obtain ⟨hS, hsz, _, _, s4⟩ := (hS : _ ∧ _ ∧ _ ∧ _ ∧ _)
        have hX := s4 (hL 5 (by decide))
        obtain ⟨e8, e8e⟩ : ∃ e, f 4 = Value.pointer (some ⟨e, 0, none⟩) := (hf 4 (by decide)).2
        rw [e8e] at hX
        change Blk W e8 #[.int .i64 (hiW (D + -r)), .int .u64 (loW (D + -r))] 146 at hX
        clear hf hL s4
        simp only [puts2, Act.put]
        generalize f 0 = y0, f 1 = y1, f 2 = y2, f 3 = y3, f 5 = y5
        rw [e8e]
        try simp only [List.setIfInBounds_toArray, List.set_cons_zero, List.set_cons_succ]
        clear e8e
        have d0 := hX.cell
        have d1 := hS.r.cell
        go_wp2_with fail
        clear d0 d1
        refine (rBelow_is (D + -r) r ⟨by omega, by omega⟩ ⟨by omega, by omega⟩ _).mono ?_
        rintro e w5 ⟨rfl, hK⟩
        replace hS := hS.keep hK
        replace hX := hX.keep hK
        have HX := Lib.hid hX
        clear hK hsz
        by_cases hlo : D + -r < r
        · rw [decide_eq_true hlo]
          have hnear : nearP q r D := .inl (by omega)
          have d0 := hX.cell
          have d1 := hS.r.cell
          have HRH := Lib.hid (show rheI A D = q + 1 by unfold rheI; rw [HQ.out, HR.out, if_pos hnear])
          have hAD := fun W => rAddA_is q 1 W
          rw [show hiW 1 = 0 by kernel_rfl, show loW 1 = 1 by kernel_rfl] at hAD
          have HAD := Lib.hid hAD
          have d2 := hS.q.cell
          clear hAD hnear
          go_wp2_with fail
          clear d0 d1 d2
          refine (HAD.out _).mono ?_
          rintro e w6 ⟨rfl, hK⟩
          replace hS := hS.keep hK
          have gq := hS.q
          have gz := hS.z
          have hB := hS.bel
          have HZ := Lib.hid (fun (w7 : World) (g : Blk w7 qb #[.int .i64 (hiW (q + 1)), .int .u64 (loW (q + 1))] 146) (ef : Eff (fun k => k = qb) w6 w7) => (hS.putq HN.out g ef))
          clear hK HX hX
          go_wp2_with (first
            | ((with_reducible refine at_st (p := 5) (q := 52) rfl ?_); refine ev_store rfl 146 _ _ rfl rfl gq 0 rfl rfl [.int .i64 (hiW (q + 1)), .int .u64 (loW (q + 1))] rfl (by kernel_rfl) rfl rfl #[.int .i64 (hiW (q + 1)), .int .u64 (loW (q + 1))] rfl ?_; intro w7 g7 ef7 hz7; have c7 := g7.cell; have gz7 := (HZ.out w7 g7 ef7).z; have hB7 := (HZ.out w7 g7 ef7).bel)
            | ((with_reducible refine at_st (p := 4) (q := 53) rfl ?_); refine ev_store rfl 146 _ _ rfl rfl gz7 0 rfl rfl [.int .i64 (hiW (q + 1)), .int .u64 (loW (q + 1))] rfl (by kernel_rfl) rfl rfl #[.int .i64 (hiW (q + 1)), .int .u64 (loW (q + 1))] rfl ?_; intro w8 g8 ef8 hz8))
          refine bodyPost_ret (results_cell_row rfl _ _ _ 146 #[.int .i64 (hiW (q + 1)), .int .u64 (loW (q + 1))] (0, 0) _ rfl g8 Tryz.underlying146 rfl (by kernel_rfl)) rfl ?_
          exact ⟨by rw [HRH.out], ef8.below hB7 (fun k hk => by have := HN.out.z; omega)⟩
        · rw [decide_eq_false hlo]
          have htm : ((loW q).tmod 2 == 1) = decide (q % 2 = 1) := by
            rw [tmod_bit (loW_rng q).1, show loW q % 2 = q % 2 by unfold loW; omega]
          by_cases heq : D + -r = r
          · rw [heq] at hX
            by_cases hod : q % 2 = 1
            · rw [decide_eq_true hod] at htm
              have hnear : nearP q r D := .inr ⟨by omega, hod⟩
              have d0 := hX.cell
              have d1 := hS.r.cell
              have HRH := Lib.hid (show rheI A D = q + 1 by unfold rheI; rw [HQ.out, HR.out, if_pos hnear])
              have hAD := fun W => rAddA_is q 1 W
              rw [show hiW 1 = 0 by kernel_rfl, show loW 1 = 1 by kernel_rfl] at hAD
              have HAD := Lib.hid hAD
              have d2 := hS.q.cell
              clear hAD hnear
              go_wp2_with fail
              clear d0 d1 d2
              refine (HAD.out _).mono ?_
              rintro e w6 ⟨rfl, hK⟩
              replace hS := hS.keep hK
              have gq := hS.q
              have gz := hS.z
              have hB := hS.bel
              have HZ := Lib.hid (fun (w7 : World) (g : Blk w7 qb #[.int .i64 (hiW (q + 1)), .int .u64 (loW (q + 1))] 146) (ef : Eff (fun k => k = qb) w6 w7) => (hS.putq HN.out g ef))
              clear hK HX hX
              go_wp2_with (first
                | ((with_reducible refine at_st (p := 5) (q := 52) rfl ?_); refine ev_store rfl 146 _ _ rfl rfl gq 0 rfl rfl [.int .i64 (hiW (q + 1)), .int .u64 (loW (q + 1))] rfl (by kernel_rfl) rfl rfl #[.int .i64 (hiW (q + 1)), .int .u64 (loW (q + 1))] rfl ?_; intro w7 g7 ef7 hz7; have c7 := g7.cell; have gz7 := (HZ.out w7 g7 ef7).z; have hB7 := (HZ.out w7 g7 ef7).bel)
                | ((with_reducible refine at_st (p := 4) (q := 53) rfl ?_); refine ev_store rfl 146 _ _ rfl rfl gz7 0 rfl rfl [.int .i64 (hiW (q + 1)), .int .u64 (loW (q + 1))] rfl (by kernel_rfl) rfl rfl #[.int .i64 (hiW (q + 1)), .int .u64 (loW (q + 1))] rfl ?_; intro w8 g8 ef8 hz8))
              refine bodyPost_ret (results_cell_row rfl _ _ _ 146 #[.int .i64 (hiW (q + 1)), .int .u64 (loW (q + 1))] (0, 0) _ rfl g8 Tryz.underlying146 rfl (by kernel_rfl)) rfl ?_
              exact ⟨by rw [HRH.out], ef8.below hB7 (fun k hk => by have := HN.out.z; omega)⟩
            · rw [decide_eq_false hod] at htm
              have hnear : ¬ nearP q r D := fun h => by rcases h with h | h; omega; exact hod h.2
              have d0 := hX.cell
              have d1 := hS.r.cell
              have HRH := Lib.hid (show rheI A D = q by unfold rheI; rw [HQ.out, HR.out, if_neg hnear])
              have d2 := hS.q.cell
              have gz := hS.z
              have hB := hS.bel
              clear hnear
              go_wp2_with ((with_reducible refine at_st (p := 4) (q := 53) rfl ?_); refine ev_store rfl 146 _ _ rfl rfl gz 0 rfl rfl [.int .i64 (hiW (q)), .int .u64 (loW (q))] rfl (by kernel_rfl) rfl rfl #[.int .i64 (hiW (q)), .int .u64 (loW (q))] rfl ?_; intro w8 g8 ef8 hz8)
              refine bodyPost_ret (results_cell_row rfl _ _ _ 146 #[.int .i64 (hiW q), .int .u64 (loW q)] (0, 0) _ rfl g8 Tryz.underlying146 rfl (by kernel_rfl)) rfl ?_
              exact ⟨by rw [HRH.out], ef8.below hB (fun k hk => by have := HN.out.z; omega)⟩
          · have hnear : ¬ nearP q r D := fun h => by rcases h with h | h <;> omega
            by_cases hh : hiW (D + -r) = hiW r
            · have hl : ¬ loW (D + -r) = loW r := fun h => heq (by have h1 := hiW_s (D + -r); have h2 := hiW_s r; rw [hh] at h1; exact (sv_cells ⟨by omega, by omega⟩ ⟨by omega, by omega⟩).1 ⟨h1.symm.trans h2, h⟩)
              have hl' : (loW (D + -r) == loW r) = false := by simp [hl]
              rw [hh] at hX
              have d0 := hX.cell
              have d1 := hS.r.cell
              clear hl hh heq
              have HRH := Lib.hid (show rheI A D = q by unfold rheI; rw [HQ.out, HR.out, if_neg hnear])
              have d2 := hS.q.cell
              have gz := hS.z
              have hB := hS.bel
              clear hnear
              go_wp2_with ((with_reducible refine at_st (p := 4) (q := 53) rfl ?_); refine ev_store rfl 146 _ _ rfl rfl gz 0 rfl rfl [.int .i64 (hiW (q)), .int .u64 (loW (q))] rfl (by kernel_rfl) rfl rfl #[.int .i64 (hiW (q)), .int .u64 (loW (q))] rfl ?_; intro w8 g8 ef8 hz8)
              refine bodyPost_ret (results_cell_row rfl _ _ _ 146 #[.int .i64 (hiW q), .int .u64 (loW q)] (0, 0) _ rfl g8 Tryz.underlying146 rfl (by kernel_rfl)) rfl ?_
              exact ⟨by rw [HRH.out], ef8.below hB (fun k hk => by have := HN.out.z; omega)⟩
            · have hl' : (hiW (D + -r) == hiW r) = false := by simp [hh]
              have d0 := hX.cell
              have d1 := hS.r.cell
              clear hh heq
              have HRH := Lib.hid (show rheI A D = q by unfold rheI; rw [HQ.out, HR.out, if_neg hnear])
              have d2 := hS.q.cell
              have gz := hS.z
              have hB := hS.bel
              clear hnear
              go_wp2_with ((with_reducible refine at_st (p := 4) (q := 53) rfl ?_); refine ev_store rfl 146 _ _ rfl rfl gz 0 rfl rfl [.int .i64 (hiW (q)), .int .u64 (loW (q))] rfl (by kernel_rfl) rfl rfl #[.int .i64 (hiW (q)), .int .u64 (loW (q))] rfl ?_; intro w8 g8 ef8 hz8)
              refine bodyPost_ret (results_cell_row rfl _ _ _ 146 #[.int .i64 (hiW q), .int .u64 (loW q)] (0, 0) _ rfl g8 Tryz.underlying146 rfl (by kernel_rfl)) rfl ?_
              exact ⟨by rw [HRH.out], ef8.below hB (fun k hk => by have := HN.out.z; omega)⟩

end Go.Proofs.YtnofoommindocaaGreat.Base
namespace Go.Proofs.YtnofoommindocaaGreat.Base
open Go.RowKit Go Go.Shelf Go.Deep
set_option linter.unusedVariables false
set_option linter.unusedSimpArgs false

structure QtS (w0 : World) (a d : Int) (rb ab db : Nat) (W : World) : Prop where
  a : Blk W ab #[.int .i64 (hiW (a)), .int .u64 (loW (a))] 146
  d : Blk W db #[.int .i64 (hiW (d)), .int .u64 (loW (d))] 146
  z : Blk W rb #[.int .i64 0, .int .u64 0] 146
  bel : Below w0.heap.size w0 W
theorem QtS.keep {w0 : World} {a d : Int} {rb ab db : Nat} {W W' : World} (h : QtS w0 a d rb ab db W) (k : Below W.heap.size W W') : QtS w0 a d rb ab db W' := ⟨h.a.keep k, h.d.keep k, h.z.keep k, more h.bel k⟩
theorem QtS.far {w0 : World} {a d : Int} {rb ab db x : Nat} {W W' : World} (h : QtS w0 a d rb ab db W) (hx : w0.heap.size + 3 ≤ x) (hn : ab = w0.heap.size ∧ db = w0.heap.size + 1 ∧ rb = w0.heap.size + 2) (e : Eff (fun k => k = x) W W') : QtS w0 a d rb ab db W' :=
  ⟨e.blk h.a (by omega), e.blk h.d (by omega), e.blk h.z (by omega), e.below h.bel (fun k hk => by omega)⟩

set_option maxHeartbeats 8000000 in
set_option maxRecDepth 100000 in
theorem quotR_is (a d : Int) (ha : W127 a) (hd : W127 d) (h0 : d ≠ 0) (w0 : World) :
    Calls Tryz.prog 206 #[.agg #[.int .i64 (hiW a), .int .u64 (loW a)], .agg #[.int .i64 (hiW d), .int .u64 (loW d)]] w0 fun e w' => e = .returned (.agg #[.int .i64 (hiW (divI a d)), .int .u64 (loW (divI a d))]) ∧ Below w0.heap.size w0 w' := by
  have hRD := fun W => rounded_is (absI a) (absI d) (by unfold W127 at ha; unfold U128 absI; split <;> omega) (by unfold absI; split <;> omega) (by unfold W127 at hd; unfold absI; split <;> omega) W
  have HDV := Lib.hid (show divI a d = sgnI (rheI (absI a) (absI d)) (decide (a < 0) != decide (d < 0)) from rfl)
  generalize rheI (absI a) (absI d) = Q at hRD HDV
  have HRD := Lib.hid hRD
  have HWA := Lib.hid ha
  have HWD := Lib.hid hd
  clear hRD ha hd h0
  have hB := below_allocs w0 [Obj.cells #[Value.int .i64 (hiW a), .int .u64 (loW a)] 146, Obj.cells #[Value.int .i64 (hiW d), .int .u64 (loW d)] 146, Obj.cells #[Value.int .i64 0, .int .u64 0] 146]
  have g0 := blk_at w0 [Obj.cells #[Value.int .i64 (hiW a), .int .u64 (loW a)] 146, Obj.cells #[Value.int .i64 (hiW d), .int .u64 (loW d)] 146, Obj.cells #[Value.int .i64 0, .int .u64 0] 146] 0 _ _ rfl
  have g1 := blk_at w0 [Obj.cells #[Value.int .i64 (hiW a), .int .u64 (loW a)] 146, Obj.cells #[Value.int .i64 (hiW d), .int .u64 (loW d)] 146, Obj.cells #[Value.int .i64 0, .int .u64 0] 146] 1 _ _ rfl
  have g2 := blk_at w0 [Obj.cells #[Value.int .i64 (hiW a), .int .u64 (loW a)] 146, Obj.cells #[Value.int .i64 (hiW d), .int .u64 (loW d)] 146, Obj.cells #[Value.int .i64 0, .int .u64 0] 146] 2 _ _ rfl
  simp only [List.foldl_cons, List.foldl_nil, Nat.add_zero] at hB g0 g1 g2
  replace hB := hB.1
  have hS : QtS w0 a d (w0.heap.size + 2) w0.heap.size (w0.heap.size + 1) _ := ⟨g0, g1, g2, hB⟩
  have hs3 : w0.heap.size + 3 ≤ (((w0.alloc (Obj.cells #[Value.int .i64 (hiW a), .int .u64 (loW a)] 146)).alloc (Obj.cells #[Value.int .i64 (hiW d), .int .u64 (loW d)] 146)).alloc (Obj.cells #[Value.int .i64 0, .int .u64 0] 146)).heap.size := by simp
  clear g0 g1 g2 hB
  go_enter Tryz.func206, Tryz.ntmps206
  go_wp2_with fail
  generalize ((w0.alloc (Obj.cells #[Value.int .i64 (hiW a), .int .u64 (loW a)] 146)).alloc (Obj.cells #[Value.int .i64 (hiW d), .int .u64 (loW d)] 146)).alloc (Obj.cells #[Value.int .i64 0, .int .u64 0] 146) = w1 at *
  obtain ⟨rb, hrb⟩ : ∃ g, w0.heap.size + 2 = g := ⟨_, rfl⟩
  obtain ⟨db, hdb⟩ : ∃ g, w0.heap.size + 1 = g := ⟨_, rfl⟩
  obtain ⟨ab, hab⟩ : ∃ g, w0.heap.size = g := ⟨_, rfl⟩
  have HAB := Lib.hid (show ab = w0.heap.size ∧ db = w0.heap.size + 1 ∧ rb = w0.heap.size + 2 from ⟨hab.symm, hdb.symm, hrb.symm⟩)
  rw [show w0.heap.size + 1 + 1 = rb from hrb, hdb, show (⟨w0.heap.size, 0, none⟩ : Addr) = ⟨ab, 0, none⟩ by rw [hab]]
  rw [hrb, hdb] at hS
  have hS' : QtS w0 a d rb ab db w1 := by rw [hab] at hS; exact hS
  clear hS hrb hdb hab
  have HS0 : QtS w0 a d rb ab db w1.drew ∧ w0.heap.size + 3 ≤ w1.drew.heap.size ∧ ((fun _ : Nat => false) 5 = true → w0.heap.size + 3 ≤ pbR ((fun _ : Nat => undef) 5)) ∧ ((fun _ : Nat => false) 5 = true → (fun _ : Nat => false) 6 = false → Blk w1.drew (pbR ((fun _ : Nat => undef) 5)) #[.int .i64 0, .int .u64 0] 146) ∧ ((fun _ : Nat => false) 6 = true → Blk w1.drew (pbR ((fun _ : Nat => undef) 5)) #[.int .i64 (hiW (Q)), .int .u64 (loW (Q))] 146) := ⟨hS'.keep (upD (upR _)), hs3, fun h => (by cases h), fun h => (by cases h), fun h => (by cases h)⟩
  clear hS' hs3
  refine region_fp [some 6, some 7, some 8, some 9, some 10, some 5, none] [5, 6] [some (Value.agg #[.int .i64 (hiW (a)), .int .u64 (loW (a))]), some (Value.agg #[.int .i64 (hiW (absI a)), .int .u64 (loW (absI a))]), some (Value.agg #[.int .i64 (hiW (d)), .int .u64 (loW (d))]), some (Value.agg #[.int .i64 (hiW (absI d)), .int .u64 (loW (absI d))]), some (Value.agg #[.int .i64 (hiW (Q)), .int .u64 (loW (Q))]), none, none]
    (fun i v W => match i with | 5 => ∃ e, v = Value.pointer (some ⟨e, 0, none⟩) | _ => True) (fun _ _ => True) (fun L f W => QtS w0 a d rb ab db W ∧ w0.heap.size + 3 ≤ W.heap.size ∧ (L 5 = true → w0.heap.size + 3 ≤ pbR (f 5)) ∧ (L 5 = true → L 6 = false → Blk W (pbR (f 5)) #[.int .i64 0, .int .u64 0] 146) ∧ (L 6 = true → Blk W (pbR (f 5)) #[.int .i64 (hiW (Q)), .int .u64 (loW (Q))] 146))
    (by kernel_rfl) (by kernel_rfl) (by kernel_rfl) (by kernel_rfl) (by kernel_rfl) (fun _ => trivial) (fun i v W W' h hb => by
      match i, h with
      | 5, h => exact h
      | 0, _ | 1, _ | 2, _ | 3, _ | 4, _ | 6, _ => trivial
      | (n + 7), _ => trivial) (fun L L' f f' W h hs => by have q5 := h 5 (by decide); have q6 := (h 6 (by decide)).1; (try dsimp only at hs ⊢); rw [← q5.1, ← q5.2, ← q6]; exact hs) HS0 ?_ ?_
  · intro i hi b' L f W hSW hL hdep hsh he hsv hsl hFF K hK1 hK2
    replace hi : i < 7 := hi
    have hcs : i = 0 ∨ i = 1 ∨ i = 2 ∨ i = 3 ∨ i = 4 ∨ i = 5 ∨ i = 6 := by omega
    clear hi
    rcases hcs with rfl | rfl | rfl | rfl | rfl | rfl | rfl
    · refine wpOpS_go rfl rfl ?_
      have t2 : b'.tmps[2]?.getD undef = Value.pointer (some ⟨ab, 0, none⟩) := he 2 (by kernel_rfl)
      obtain ⟨s0, s1, s2, s3, s4⟩ := hSW
      have c0 := s0.a.cell
      have HK := Lib.hid hK1
      clear hK1 hK2 hdep hsh he hsv hsl hFF hL
      clear s0 s1 s2 s3 s4
      go_simp
      exact HK.out rfl _ (fp_mk rfl rfl trivial)
    · refine wpOpS_go rfl rfl ?_
      have t6 : b'.tmps[6]?.getD undef = Value.agg #[.int .i64 (hiW (a)), .int .u64 (loW (a))] := hsv 0 6 _ (by kernel_rfl) (by kernel_rfl) rfl
      obtain ⟨s0, s1, s2, s3, s4⟩ := hSW
      have HK := Lib.hid hK2
      clear hK1 hK2 hdep hsh he hsv hsl hFF hL
      go_simp
      refine (rWhole_is a HWA.out W).mono ?_
      rintro e w6 ⟨rfl, hK⟩
      exact HK.out _ _ (fp_mk rfl rfl trivial) trivial ⟨s0.keep hK, Nat.le_trans s1 hK.size, s2, fun h h' => (s3 h h').keep hK, fun h => (s4 h).keep hK⟩
    · refine wpOpS_go rfl rfl ?_
      have t3 : b'.tmps[3]?.getD undef = Value.pointer (some ⟨db, 0, none⟩) := he 3 (by kernel_rfl)
      obtain ⟨s0, s1, s2, s3, s4⟩ := hSW
      have c0 := s0.d.cell
      have HK := Lib.hid hK1
      clear hK1 hK2 hdep hsh he hsv hsl hFF hL
      clear s0 s1 s2 s3 s4
      go_simp
      exact HK.out rfl _ (fp_mk rfl rfl trivial)
    · refine wpOpS_go rfl rfl ?_
      have t8 : b'.tmps[8]?.getD undef = Value.agg #[.int .i64 (hiW (d)), .int .u64 (loW (d))] := hsv 2 8 _ (by kernel_rfl) (by kernel_rfl) rfl
      obtain ⟨s0, s1, s2, s3, s4⟩ := hSW
      have HK := Lib.hid hK2
      clear hK1 hK2 hdep hsh he hsv hsl hFF hL
      go_simp
      refine (rWhole_is d HWD.out W).mono ?_
      rintro e w6 ⟨rfl, hK⟩
      exact HK.out _ _ (fp_mk rfl rfl trivial) trivial ⟨s0.keep hK, Nat.le_trans s1 hK.size, s2, fun h h' => (s3 h h').keep hK, fun h => (s4 h).keep hK⟩
    · refine wpOpS_go rfl rfl ?_
      have t7 : b'.tmps[7]?.getD undef = Value.agg #[.int .i64 (hiW (absI a)), .int .u64 (loW (absI a))] := hsv 1 7 _ (by kernel_rfl) (by kernel_rfl) rfl
      have t9 : b'.tmps[9]?.getD undef = Value.agg #[.int .i64 (hiW (absI d)), .int .u64 (loW (absI d))] := hsv 3 9 _ (by kernel_rfl) (by kernel_rfl) rfl
      obtain ⟨s0, s1, s2, s3, s4⟩ := hSW
      have HK := Lib.hid hK2
      clear hK1 hK2 hdep hsh he hsv hsl hFF hL
      go_simp
      refine (HRD.out W).mono ?_
      rintro e w6 ⟨rfl, hK⟩
      exact HK.out _ _ (fp_mk rfl rfl trivial) trivial ⟨s0.keep hK, Nat.le_trans s1 hK.size, s2, fun h h' => (s3 h h').keep hK, fun h => (s4 h).keep hK⟩
    · refine wpOpS_go rfl rfl ?_
      obtain ⟨s0, s1, s2, s3, s4⟩ := hSW
      have h6 := hsh 6 (by kernel_rfl)
      have HK := Lib.hid hK2
      clear hK1 hK2 hdep hsh he hsv hsl hFF hL
      refine op_new (cs := #[.int .i64 0, .int .u64 0]) (t := 146) (by go_simp) ?_
      intro w6 hb6 hK hz6
      exact HK.out _ _ (fp_x rfl ⟨_, rfl⟩) trivial ⟨s0.keep hK, Nat.le_trans s1 hK.size, fun _ => (by rw [updF_same]; exact s1), fun _ _ => (by rw [updF_same]; exact hb6), fun h => absurd h (by show ¬ L 6 = true; rw [h6]; decide)⟩
    · refine wpOpS_go rfl rfl ?_
      have t10 : b'.tmps[10]?.getD undef = Value.agg #[.int .i64 (hiW (Q)), .int .u64 (loW (Q))] := hsv 4 10 _ (by kernel_rfl) (by kernel_rfl) rfl
      obtain ⟨t5, hx8⟩ := hsl 5 5 (by kernel_rfl) (by kernel_rfl)
      obtain ⟨e8, e9⟩ := hx8
      have tv : b'.tmps[10]?.getD undef = Value.agg #[.int .i64 (hiW (Q)), .int .u64 (loW (Q))] := hsv 4 10 _ (by kernel_rfl) (by kernel_rfl) rfl
      obtain ⟨s0, s1, s2, s3, s4⟩ := hSW
      have h5 := hdep 5 (by kernel_rfl)
      have hxb := s3 h5 hL
      have hxn := s2 h5
      rw [e9] at hxb t5 hxn
      have HE9 := Lib.hid e9
      have HK := Lib.hid hK2
      clear hK1 hK2 hdep hsh he hsv hsl hFF e9
      change Blk W e8 #[.int .i64 0, .int .u64 0] 146 at hxb
      change w0.heap.size + 3 ≤ e8 at hxn
      refine op_store 146 _ _ rfl rfl hxb 0 (eval_tmp t5) (eval_tmp tv) [.int .i64 (hiW (Q)), .int .u64 (loW (Q))] rfl (by kernel_rfl) rfl rfl #[.int .i64 (hiW (Q)), .int .u64 (loW (Q))] rfl ?_
      intro w' h1 h2 h3
      exact HK.out undef _ (fp_x (v := undef) rfl trivial) trivial ⟨s0.far hxn HAB.out h2, Nat.le_trans s1 h2.size, s2, fun _ h => absurd h (by rw [updF_same]; decide), fun _ => (by show Blk w' (pbR (f 5)) _ _; rw [HE9.out]; exact h1)⟩
  · intro f W hf L hL hS
    obtain ⟨hS, _, _, _, s4⟩ := (hS : _ ∧ _ ∧ _ ∧ _ ∧ _)
    have hX := s4 (hL 6 (by decide))
    obtain ⟨e8, e8e⟩ : ∃ e, f 5 = Value.pointer (some ⟨e, 0, none⟩) := (hf 5 (by decide)).2
    rw [e8e] at hX
    change Blk W e8 #[.int .i64 (hiW (Q)), .int .u64 (loW (Q))] 146 at hX
    clear hf hL s4
    simp only [puts2, Act.put]
    generalize f 0 = y0, f 1 = y1, f 2 = y2, f 3 = y3, f 4 = y4, f 6 = y6
    rw [e8e]
    try simp only [List.setIfInBounds_toArray, List.set_cons_zero, List.set_cons_succ]
    clear e8e
    have hn1 := hiW_neg HWA.out
    have hn2 := hiW_neg HWD.out
    have d0 := hX.cell
    have d1 := hS.a.cell
    have d2 := hS.d.cell
    by_cases ha : a < 0
    · by_cases hd : d < 0
      · have f1 : hiW a < 0 := hn1.2 ha
        have f2 : hiW d < 0 := hn2.2 hd
        have HDI := Lib.hid (show divI a d = Q by rw [HDV.out, decide_eq_true ha, decide_eq_true hd]; rfl)
        have gz := hS.z
        have hB := hS.bel
        clear hn1 hn2
        go_wp2_with ((with_reducible refine at_st (p := 4) (q := 20) rfl ?_); refine ev_store rfl 146 _ _ rfl rfl gz 0 rfl rfl [.int .i64 (hiW (Q)), .int .u64 (loW (Q))] rfl (by kernel_rfl) rfl rfl #[.int .i64 (hiW (Q)), .int .u64 (loW (Q))] rfl ?_; intro w8 g8 ef8 hz8)
        refine bodyPost_ret (results_cell_row rfl _ _ _ 146 #[.int .i64 (hiW Q), .int .u64 (loW Q)] (0, 0) _ rfl g8 Tryz.underlying146 rfl (by kernel_rfl)) rfl ?_
        exact ⟨by rw [HDI.out], ef8.below hB (fun k hk => by have := HAB.out.2.2; omega)⟩
      · have f1 : hiW a < 0 := hn1.2 ha
        have f2 : ¬ hiW d < 0 := fun h => hd (hn2.1 h)
        have HDI := Lib.hid (show divI a d = -Q by rw [HDV.out, decide_eq_true ha, decide_eq_false hd]; rfl)
        clear hn1 hn2
        go_wp2_with fail
        clear d0 d1 d2
        refine (rNegA_is Q _).mono ?_
        rintro e w6 ⟨rfl, hK⟩
        replace hS := hS.keep hK
        have gz := hS.z
        have hB := hS.bel
        go_wp2_with ((with_reducible refine at_st (p := 4) (q := 19) rfl ?_); refine ev_store rfl 146 _ _ rfl rfl gz 0 rfl rfl [.int .i64 (hiW (-Q)), .int .u64 (loW (-Q))] rfl (by kernel_rfl) rfl rfl #[.int .i64 (hiW (-Q)), .int .u64 (loW (-Q))] rfl ?_; intro w8 g8 ef8 hz8)
        refine bodyPost_ret (results_cell_row rfl _ _ _ 146 #[.int .i64 (hiW (-Q)), .int .u64 (loW (-Q))] (0, 0) _ rfl g8 Tryz.underlying146 rfl (by kernel_rfl)) rfl ?_
        exact ⟨by rw [HDI.out], ef8.below hB (fun k hk => by have := HAB.out.2.2; omega)⟩
    · by_cases hd : d < 0
      · have f1 : ¬ hiW a < 0 := fun h => ha (hn1.1 h)
        have f2 : hiW d < 0 := hn2.2 hd
        have HDI := Lib.hid (show divI a d = -Q by rw [HDV.out, decide_eq_false ha, decide_eq_true hd]; rfl)
        clear hn1 hn2
        go_wp2_with fail
        clear d0 d1 d2
        refine (rNegA_is Q _).mono ?_
        rintro e w6 ⟨rfl, hK⟩
        replace hS := hS.keep hK
        have gz := hS.z
        have hB := hS.bel
        go_wp2_with ((with_reducible refine at_st (p := 4) (q := 19) rfl ?_); refine ev_store rfl 146 _ _ rfl rfl gz 0 rfl rfl [.int .i64 (hiW (-Q)), .int .u64 (loW (-Q))] rfl (by kernel_rfl) rfl rfl #[.int .i64 (hiW (-Q)), .int .u64 (loW (-Q))] rfl ?_; intro w8 g8 ef8 hz8)
        refine bodyPost_ret (results_cell_row rfl _ _ _ 146 #[.int .i64 (hiW (-Q)), .int .u64 (loW (-Q))] (0, 0) _ rfl g8 Tryz.underlying146 rfl (by kernel_rfl)) rfl ?_
        exact ⟨by rw [HDI.out], ef8.below hB (fun k hk => by have := HAB.out.2.2; omega)⟩
      · have f1 : ¬ hiW a < 0 := fun h => ha (hn1.1 h)
        have f2 : ¬ hiW d < 0 := fun h => hd (hn2.1 h)
        have HDI := Lib.hid (show divI a d = Q by rw [HDV.out, decide_eq_false ha, decide_eq_false hd]; rfl)
        have gz := hS.z
        have hB := hS.bel
        clear hn1 hn2
        go_wp2_with ((with_reducible refine at_st (p := 4) (q := 20) rfl ?_); refine ev_store rfl 146 _ _ rfl rfl gz 0 rfl rfl [.int .i64 (hiW (Q)), .int .u64 (loW (Q))] rfl (by kernel_rfl) rfl rfl #[.int .i64 (hiW (Q)), .int .u64 (loW (Q))] rfl ?_; intro w8 g8 ef8 hz8)
        refine bodyPost_ret (results_cell_row rfl _ _ _ 146 #[.int .i64 (hiW Q), .int .u64 (loW Q)] (0, 0) _ rfl g8 Tryz.underlying146 rfl (by kernel_rfl)) rfl ?_
        exact ⟨by rw [HDI.out], ef8.below hB (fun k hk => by have := HAB.out.2.2; omega)⟩

end Go.Proofs.YtnofoommindocaaGreat.Base
namespace Go.Proofs.YtnofoommindocaaGreat.Base
open Go.RowKit Go Go.Shelf Go.Deep
set_option linter.unusedVariables false
set_option linter.unusedSimpArgs false

theorem QtS.far2 {w0 : World} {a d : Int} {rb ab db x : Nat} {W W' : World} (h : QtS w0 a d rb ab db W) (hx : w0.heap.size + 3 ≤ x) (hn : ab = w0.heap.size ∧ db = w0.heap.size + 2 ∧ rb = w0.heap.size + 1) (e : Eff (fun k => k = x) W W') : QtS w0 a d rb ab db W' :=
  ⟨e.blk h.a (by omega), e.blk h.d (by omega), e.blk h.z (by omega), e.below h.bel (fun k hk => by omega)⟩
theorem QtS.putd {w0 : World} {a d d' : Int} {rb ab db : Nat} {W W' : World} (h : QtS w0 a d rb ab db W) (hn : ab = w0.heap.size ∧ db = w0.heap.size + 2 ∧ rb = w0.heap.size + 1) (g : Blk W' db #[.int .i64 (hiW d'), .int .u64 (loW d')] 146) (e : Eff (fun k => k = db) W W') : QtS w0 a d' rb ab db W' :=
  ⟨e.blk h.a (by omega), g, e.blk h.z (by omega), e.below h.bel (fun k hk => by omega)⟩

set_option maxHeartbeats 8000000 in
set_option maxRecDepth 100000 in
theorem roundR_is (a : Int) (ha : W127 a) (bits : Nat) (hb : bits ≤ 127) (w0 : World) :
    Calls Tryz.prog 204 #[.agg #[.int .i64 (hiW a), .int .u64 (loW a)], .int .i64 bits] w0 fun e w' => e = .returned (.tuple #[.agg #[.int .i64 (hiW (rndI a (2 ^ bits))), .int .u64 (loW (rndI a (2 ^ bits)))], .int .i64 0]) ∧ Below w0.heap.size w0 w' := by
  have hpw : (1 : Int) ≤ 2 ^ bits ∧ (2 : Int) ^ bits ≤ 170141183460469231731687303715884105728 := by
    have h1 : (2 : Nat) ^ bits ≤ 2 ^ 127 := Nat.pow_le_pow_right (by decide) hb
    have h2 : 1 ≤ (2 : Nat) ^ bits := Nat.one_le_two_pow
    have h3 : ((2 ^ bits : Nat) : Int) = (2 : Int) ^ bits := by rw [Int.natCast_pow]; rfl
    have h4 : (2 : Nat) ^ 127 = 170141183460469231731687303715884105728 := by decide
    rw [h4] at h1
    omega
  have hRD := fun W => rounded_is (absI a) (2 ^ bits) (by unfold W127 at ha; unfold U128 absI; split <;> omega) hpw.1 hpw.2 W
  have HDV := Lib.hid (show rndI a (2 ^ bits) = if a < 0 then -rheI (absI a) (2 ^ bits) else rheI (absI a) (2 ^ bits) from rfl)
  generalize rheI (absI a) (2 ^ bits) = Q at hRD HDV
  have HRD0 := Lib.hid hRD
  have HWA := Lib.hid ha
  clear hRD ha hpw
  have q1 : ¬ (bits : Int) < 0 := by omega
  have q2 : ¬ (127 : Int) < (bits : Int) := by omega
  have hB := below_allocs w0 [Obj.cells #[Value.int .i64 (hiW a), .int .u64 (loW a)] 146, Obj.cells #[Value.int .i64 0, .int .u64 0] 146, Obj.cells #[Value.int .i64 0, .int .u64 1] 146]
  have g0 := blk_at w0 [Obj.cells #[Value.int .i64 (hiW a), .int .u64 (loW a)] 146, Obj.cells #[Value.int .i64 0, .int .u64 0] 146, Obj.cells #[Value.int .i64 0, .int .u64 1] 146] 0 _ _ rfl
  have g1 := blk_at w0 [Obj.cells #[Value.int .i64 (hiW a), .int .u64 (loW a)] 146, Obj.cells #[Value.int .i64 0, .int .u64 0] 146, Obj.cells #[Value.int .i64 0, .int .u64 1] 146] 1 _ _ rfl
  have g2 := blk_at w0 [Obj.cells #[Value.int .i64 (hiW a), .int .u64 (loW a)] 146, Obj.cells #[Value.int .i64 0, .int .u64 0] 146, Obj.cells #[Value.int .i64 0, .int .u64 1] 146] 2 _ _ rfl
  simp only [List.foldl_cons, List.foldl_nil, Nat.add_zero] at hB g0 g1 g2
  replace hB := hB.1
  have hS : QtS w0 a (2 ^ 0) (w0.heap.size + 1) w0.heap.size (w0.heap.size + 2) _ := ⟨g0, by rw [show (2 : Int) ^ 0 = 1 by decide, show hiW 1 = 0 by kernel_rfl, show loW 1 = 1 by kernel_rfl]; exact g2, g1, hB⟩
  have hs3 : w0.heap.size + 3 ≤ (((w0.alloc (Obj.cells #[Value.int .i64 (hiW a), .int .u64 (loW a)] 146)).alloc (Obj.cells #[Value.int .i64 0, .int .u64 0] 146)).alloc (Obj.cells #[Value.int .i64 0, .int .u64 1] 146)).heap.size := by simp
  clear g0 g1 g2 hB
  go_enter Tryz.func204, Tryz.ntmps204
  go_wp2_with fail
  generalize ((w0.alloc (Obj.cells #[Value.int .i64 (hiW a), .int .u64 (loW a)] 146)).alloc (Obj.cells #[Value.int .i64 0, .int .u64 0] 146)).alloc (Obj.cells #[Value.int .i64 0, .int .u64 1] 146) = w1 at *
  obtain ⟨db, hdb⟩ : ∃ g, w0.heap.size + 2 = g := ⟨_, rfl⟩
  obtain ⟨rb, hrb⟩ : ∃ g, w0.heap.size + 1 = g := ⟨_, rfl⟩
  obtain ⟨ab, hab⟩ : ∃ g, w0.heap.size = g := ⟨_, rfl⟩
  have HAB := Lib.hid (show ab = w0.heap.size ∧ db = w0.heap.size + 2 ∧ rb = w0.heap.size + 1 from ⟨hab.symm, hdb.symm, hrb.symm⟩)
  rw [show w0.heap.size + 1 + 1 = db from hdb, hrb, show (⟨w0.heap.size, 0, none⟩ : Addr) = ⟨ab, 0, none⟩ by rw [hab]]
  rw [hrb, hdb] at hS
  have hS' : QtS w0 a (2 ^ 0) rb ab db w1 := by rw [hab] at hS; exact hS
  clear hS hrb hdb hab
  go_loopw [7] (fun v7 wr => ∃ j : Nat, j ≤ bits ∧ v7 = .int .i64 (j : Int) ∧ QtS w0 a (2 ^ j) rb ab db wr ∧ w0.heap.size + 3 ≤ wr.heap.size) (fun v _ => bits - (intOf v).toNat)
  case atStart => exact ⟨0, Nat.zero_le _, rfl, hS', hs3⟩
  case round =>
    clear hS' hs3
    obtain ⟨j, hj, rfl, hS, hsz⟩ := hrel
    by_cases hlt : j < bits
    · have hlt' : (j : Int) < (bits : Int) := by omega
      have hj0 : (0 : Int) ≤ (j : Int) := by omega
      have hwj : IntKind.i64.wrap ((j : Int) + 1) = (j : Int) + 1 := IntWalk.i64_in _ (by omega)
      have HPW := Lib.hid (show (2 : Int) ^ (j + 1) = 2 * 2 ^ j by rw [Int.pow_succ, Int.mul_comm])
      generalize (2 : Int) ^ j = dj at *
      have d0 := hS.d.cell
      go_wp2_with fail
      clear d0
      refine (rTwice0_is dj _).mono ?_
      rintro e w4 ⟨rfl, hK⟩
      replace hS := hS.keep hK
      replace hsz := Nat.le_trans hsz hK.size
      have gd := hS.d
      clear hK
      go_wp2_with ((with_reducible refine at_st (p := 6) (q := 23) rfl ?_); refine ev_store rfl 146 _ _ rfl rfl gd 0 rfl rfl [.int .i64 (hiW (2 * dj)), .int .u64 (loW (2 * dj))] rfl (by kernel_rfl) rfl rfl #[.int .i64 (hiW (2 * dj)), .int .u64 (loW (2 * dj))] rfl ?_; intro w5 g5 ef hz5)
      replace hS := hS.putd HAB.out g5 ef
      rw [← HPW.out] at hS
      replace hsz := Nat.le_trans hsz ef.size
      go_roundw
      case rel => exact ⟨j + 1, by omega, by go_num, hS, hsz⟩
      case measure => simp [intOf]; omega
    · have hge : ¬ (j : Int) < (bits : Int) := by omega
      have hjb : j = bits := by omega
      subst hjb
      have HRD := HRD0
      generalize hDD : (2 : Int) ^ j = D at hS HRD
      have HDD := Lib.hid hDD
      clear hDD hlt hge hj
      have hge2 : ¬ (j : Int) < (j : Int) := by omega
      go_wp2_with fail
      have HS0 : QtS w0 a D rb ab db wr.drew ∧ w0.heap.size + 3 ≤ wr.drew.heap.size ∧ ((fun _ : Nat => false) 4 = true → w0.heap.size + 3 ≤ pbR ((fun _ : Nat => undef) 4)) ∧ ((fun _ : Nat => false) 4 = true → (fun _ : Nat => false) 5 = false → Blk wr.drew (pbR ((fun _ : Nat => undef) 4)) #[.int .i64 0, .int .u64 0] 146) ∧ ((fun _ : Nat => false) 5 = true → Blk wr.drew (pbR ((fun _ : Nat => undef) 4)) #[.int .i64 (hiW (Q)), .int .u64 (loW (Q))] 146) := ⟨hS.keep (upD (upR _)), hsz, fun h => (by cases h), fun h => (by cases h), fun h => (by cases h)⟩
      clear hS hsz
      refine region_fp [some 24, some 25, some 26, some 27, some 8, none] [4, 5] [some (Value.agg #[.int .i64 (hiW (a)), .int .u64 (loW (a))]), some (Value.agg #[.int .i64 (hiW (absI a)), .int .u64 (loW (absI a))]), some (Value.agg #[.int .i64 (hiW (D)), .int .u64 (loW (D))]), some (Value.agg #[.int .i64 (hiW (Q)), .int .u64 (loW (Q))]), none, none]
        (fun i v W => match i with | 4 => ∃ e, v = Value.pointer (some ⟨e, 0, none⟩) | _ => True) (fun _ _ => True) (fun L f W => QtS w0 a D rb ab db W ∧ w0.heap.size + 3 ≤ W.heap.size ∧ (L 4 = true → w0.heap.size + 3 ≤ pbR (f 4)) ∧ (L 4 = true → L 5 = false → Blk W (pbR (f 4)) #[.int .i64 0, .int .u64 0] 146) ∧ (L 5 = true → Blk W (pbR (f 4)) #[.int .i64 (hiW (Q)), .int .u64 (loW (Q))] 146))
        (by kernel_rfl) (by kernel_rfl) (by kernel_rfl) (by kernel_rfl) (by kernel_rfl) (fun _ => trivial) (fun i v W W' h hb => by
          match i, h with
          | 4, h => exact h
          | 0, _ | 1, _ | 2, _ | 3, _ | 5, _ => trivial
          | (n + 6), _ => trivial) (fun L L' f f' W h hs => by have q5 := h 4 (by decide); have q6 := (h 5 (by decide)).1; (try dsimp only at hs ⊢); rw [← q5.1, ← q5.2, ← q6]; exact hs) HS0 ?_ ?_
      · intro i hi b' L f W hSW hL hdep hsh he hsv hsl hFF K hK1 hK2
        replace hi : i < 6 := hi
        have hcs : i = 0 ∨ i = 1 ∨ i = 2 ∨ i = 3 ∨ i = 4 ∨ i = 5 := by omega
        clear hi
        rcases hcs with rfl | rfl | rfl | rfl | rfl | rfl
        · refine wpOpS_go rfl rfl ?_
          have t2 : b'.tmps[2]?.getD undef = Value.pointer (some ⟨ab, 0, none⟩) := he 2 (by kernel_rfl)
          obtain ⟨s0, s1, s2, s3, s4⟩ := hSW
          have c0 := s0.a.cell
          have HK := Lib.hid hK1
          clear hK1 hK2 hdep hsh he hsv hsl hFF hL
          clear s0 s1 s2 s3 s4
          go_simp
          exact HK.out rfl _ (fp_mk rfl rfl trivial)
        · refine wpOpS_go rfl rfl ?_
          have t24 : b'.tmps[24]?.getD undef = Value.agg #[.int .i64 (hiW (a)), .int .u64 (loW (a))] := hsv 0 24 _ (by kernel_rfl) (by kernel_rfl) rfl
          obtain ⟨s0, s1, s2, s3, s4⟩ := hSW
          have HK := Lib.hid hK2
          clear hK1 hK2 hdep hsh he hsv hsl hFF hL
          go_simp
          refine (rWhole_is a HWA.out W).mono ?_
          rintro e w6 ⟨rfl, hK⟩
          exact HK.out _ _ (fp_mk rfl rfl trivial) trivial ⟨s0.keep hK, Nat.le_trans s1 hK.size, s2, fun h h' => (s3 h h').keep hK, fun h => (s4 h).keep hK⟩
        · refine wpOpS_go rfl rfl ?_
          have t6 : b'.tmps[6]?.getD undef = Value.pointer (some ⟨db, 0, none⟩) := he 6 (by kernel_rfl)
          obtain ⟨s0, s1, s2, s3, s4⟩ := hSW
          have c0 := s0.d.cell
          have HK := Lib.hid hK1
          clear hK1 hK2 hdep hsh he hsv hsl hFF hL
          clear s0 s1 s2 s3 s4
          go_simp
          exact HK.out rfl _ (fp_mk rfl rfl trivial)
        · refine wpOpS_go rfl rfl ?_
          have t25 : b'.tmps[25]?.getD undef = Value.agg #[.int .i64 (hiW (absI a)), .int .u64 (loW (absI a))] := hsv 1 25 _ (by kernel_rfl) (by kernel_rfl) rfl
          have t26 : b'.tmps[26]?.getD undef = Value.agg #[.int .i64 (hiW (D)), .int .u64 (loW (D))] := hsv 2 26 _ (by kernel_rfl) (by kernel_rfl) rfl
          obtain ⟨s0, s1, s2, s3, s4⟩ := hSW
          have HK := Lib.hid hK2
          clear hK1 hK2 hdep hsh he hsv hsl hFF hL
          go_simp
          refine (HRD.out W).mono ?_
          rintro e w6 ⟨rfl, hK⟩
          exact HK.out _ _ (fp_mk rfl rfl trivial) trivial ⟨s0.keep hK, Nat.le_trans s1 hK.size, s2, fun h h' => (s3 h h').keep hK, fun h => (s4 h).keep hK⟩
        · refine wpOpS_go rfl rfl ?_
          obtain ⟨s0, s1, s2, s3, s4⟩ := hSW
          have h6 := hsh 5 (by kernel_rfl)
          have HK := Lib.hid hK2
          clear hK1 hK2 hdep hsh he hsv hsl hFF hL
          refine op_new (cs := #[.int .i64 0, .int .u64 0]) (t := 146) (by go_simp) ?_
          intro w6 hb6 hK hz6
          exact HK.out _ _ (fp_x rfl ⟨_, rfl⟩) trivial ⟨s0.keep hK, Nat.le_trans s1 hK.size, fun _ => (by rw [updF_same]; exact s1), fun _ _ => (by rw [updF_same]; exact hb6), fun h => absurd h (by show ¬ L 5 = true; rw [h6]; decide)⟩
        · refine wpOpS_go rfl rfl ?_
          have t27 : b'.tmps[27]?.getD undef = Value.agg #[.int .i64 (hiW (Q)), .int .u64 (loW (Q))] := hsv 3 27 _ (by kernel_rfl) (by kernel_rfl) rfl
          obtain ⟨t8, hx8⟩ := hsl 4 8 (by kernel_rfl) (by kernel_rfl)
          obtain ⟨e8, e9⟩ := hx8
          have tv : b'.tmps[27]?.getD undef = Value.agg #[.int .i64 (hiW (Q)), .int .u64 (loW (Q))] := hsv 3 27 _ (by kernel_rfl) (by kernel_rfl) rfl
          obtain ⟨s0, s1, s2, s3, s4⟩ := hSW
          have h5 := hdep 4 (by kernel_rfl)
          have hxb := s3 h5 hL
          have hxn := s2 h5
          rw [e9] at hxb t8 hxn
          have HE9 := Lib.hid e9
          have HK := Lib.hid hK2
          clear hK1 hK2 hdep hsh he hsv hsl hFF e9
          change Blk W e8 #[.int .i64 0, .int .u64 0] 146 at hxb
          change w0.heap.size + 3 ≤ e8 at hxn
          refine op_store 146 _ _ rfl rfl hxb 0 (eval_tmp t8) (eval_tmp tv) [.int .i64 (hiW (Q)), .int .u64 (loW (Q))] rfl (by kernel_rfl) rfl rfl #[.int .i64 (hiW (Q)), .int .u64 (loW (Q))] rfl ?_
          intro w' h1 h2 h3
          exact HK.out undef _ (fp_x (v := undef) rfl trivial) trivial ⟨s0.far2 hxn HAB.out h2, Nat.le_trans s1 h2.size, s2, fun _ h => absurd h (by rw [updF_same]; decide), fun _ => (by show Blk w' (pbR (f 4)) _ _; rw [HE9.out]; exact h1)⟩
      · intro f W hf L hL hS
        obtain ⟨hS, _, _, _, s4⟩ := (hS : _ ∧ _ ∧ _ ∧ _ ∧ _)
        have hX := s4 (hL 5 (by decide))
        obtain ⟨e8, e8e⟩ : ∃ e, f 4 = Value.pointer (some ⟨e, 0, none⟩) := (hf 4 (by decide)).2
        rw [e8e] at hX
        change Blk W e8 #[.int .i64 (hiW (Q)), .int .u64 (loW (Q))] 146 at hX
        clear hf hL s4
        simp only [puts2, Act.put]
        generalize f 0 = y0, f 1 = y1, f 2 = y2, f 3 = y3, f 5 = y5
        rw [e8e]
        try simp only [List.setIfInBounds_toArray, List.set_cons_zero, List.set_cons_succ]
        clear e8e
        have hn1 := hiW_neg HWA.out
        have d0 := hX.cell
        have d1 := hS.a.cell
        by_cases ha : a < 0
        · have f1 : hiW a < 0 := hn1.2 ha
          have HDI := Lib.hid (show rndI a (2 ^ j) = -Q by rw [HDV.out, if_pos ha])
          clear hn1
          go_wp2_with fail
          clear d0 d1
          refine (rNegA_is Q _).mono ?_
          rintro e w6 ⟨rfl, hK⟩
          replace hS := hS.keep hK
          have gz := hS.z
          have hB := hS.bel
          go_wp2_with ((with_reducible refine at_st (p := 4) (q := 32) rfl ?_); refine ev_store rfl 146 _ _ rfl rfl gz 0 rfl rfl [.int .i64 (hiW (-Q)), .int .u64 (loW (-Q))] rfl (by kernel_rfl) rfl rfl #[.int .i64 (hiW (-Q)), .int .u64 (loW (-Q))] rfl ?_; intro w8 g8 ef8 hz8)
          refine bodyPost_ret (results_ct (g := rb) (cs := #[.int .i64 (hiW (-Q)), .int .u64 (loW (-Q))]) rfl _ _ rfl g8 Tryz.underlying146 rfl (by kernel_rfl)) rfl ?_
          exact ⟨by rw [HDI.out]; rfl, ef8.below hB (fun k hk => by have := HAB.out.2.2; omega)⟩
        · have f1 : ¬ hiW a < 0 := fun h => ha (hn1.1 h)
          have HDI := Lib.hid (show rndI a (2 ^ j) = Q by rw [HDV.out, if_neg ha])
          have gz := hS.z
          have hB := hS.bel
          clear hn1
          go_wp2_with ((with_reducible refine at_st (p := 4) (q := 33) rfl ?_); refine ev_store rfl 146 _ _ rfl rfl gz 0 rfl rfl [.int .i64 (hiW (Q)), .int .u64 (loW (Q))] rfl (by kernel_rfl) rfl rfl #[.int .i64 (hiW (Q)), .int .u64 (loW (Q))] rfl ?_; intro w8 g8 ef8 hz8)
          refine bodyPost_ret (results_ct (g := rb) (cs := #[.int .i64 (hiW Q), .int .u64 (loW Q)]) rfl _ _ rfl g8 Tryz.underlying146 rfl (by kernel_rfl)) rfl ?_
          exact ⟨by rw [HDI.out]; rfl, ef8.below hB (fun k hk => by have := HAB.out.2.2; omega)⟩

end Go.Proofs.YtnofoommindocaaGreat.Base
namespace Go.Proofs.YtnofoommindocaaGreat.Base
open Go.RowKit Go Go.Shelf Go.Deep
set_option linter.unusedVariables false
set_option linter.unusedSimpArgs false

set_option maxHeartbeats 8000000 in
set_option maxRecDepth 100000 in
theorem divR_is (a d : Int) (ha : W127 a) (hd : I64 d) (h0 : d ≠ 0) (w0 : World) :
    Calls Tryz.prog 166 #[.agg #[.int .i64 (hiW a), .int .u64 (loW a)], .int .i64 d] w0 fun e w' => e = .returned (.tuple #[.agg #[.int .i64 (hiW (divI a d)), .int .u64 (loW (divI a d))], .int .i64 0]) ∧ Below w0.heap.size w0 w' := by
  have hQU := fun W => quotR_is a d ha (by unfold I64 at hd; unfold W127; omega) h0 W
  have hOF : ∀ W, Calls Tryz.prog 164 #[.int .i64 d] W fun e w' => e = .returned (.agg #[.int .i64 (hiW d), .int .u64 (loW d)]) ∧ Below W.heap.size W w' := fun W => rOf_is d hd W
  obtain ⟨Q, hQ⟩ : ∃ Q, divI a d = Q := ⟨_, rfl⟩
  rw [hQ] at hQU
  have HQ := Lib.hid hQ
  have HQU := Lib.hid hQU
  have HOF := Lib.hid hOF
  have hd0 : (d == 0) = false := beq_false_of_ne h0
  clear hQ hQU hOF ha hd
  have hB := below_allocs w0 [Obj.cells #[Value.int .i64 (hiW a), .int .u64 (loW a)] 146, Obj.cells #[Value.int .i64 0, .int .u64 0] 146]
  have g0 := blk_at w0 [Obj.cells #[Value.int .i64 (hiW a), .int .u64 (loW a)] 146, Obj.cells #[Value.int .i64 0, .int .u64 0] 146] 0 _ _ rfl
  have g1 := blk_at w0 [Obj.cells #[Value.int .i64 (hiW a), .int .u64 (loW a)] 146, Obj.cells #[Value.int .i64 0, .int .u64 0] 146] 1 _ _ rfl
  simp only [List.foldl_cons, List.foldl_nil, Nat.add_zero] at hB g0 g1
  replace hB := hB.1
  go_enter Tryz.func166, Tryz.ntmps166
  go_wp2_with fail
  generalize (w0.alloc (Obj.cells #[Value.int .i64 (hiW a), .int .u64 (loW a)] 146)).alloc (Obj.cells #[Value.int .i64 0, .int .u64 0] 146) = w1 at *
  obtain ⟨rb, hrb⟩ : ∃ g, w0.heap.size + 1 = g := ⟨_, rfl⟩
  obtain ⟨ab, hab⟩ : ∃ g, w0.heap.size = g := ⟨_, rfl⟩
  have hne : ab ≠ rb := by omega
  have hle : w0.heap.size ≤ rb := by omega
  rw [hrb, show (⟨w0.heap.size, 0, none⟩ : Addr) = ⟨ab, 0, none⟩ by rw [hab]]
  rw [hrb] at g1
  have g0' : Blk w1 ab #[.int .i64 (hiW a), .int .u64 (loW a)] 146 := by rw [hab] at g0; exact g0
  clear g0 hrb hab
  have HS0 : ((fun _ : Nat => false) 4 = false → Blk w1.drew rb #[.int .i64 0, .int .u64 0] 146) ∧ ((fun _ : Nat => false) 4 = true → Blk w1.drew rb #[.int .i64 (hiW Q), .int .u64 (loW Q)] 146) ∧ Blk w1.drew ab #[.int .i64 (hiW a), .int .u64 (loW a)] 146 ∧ Below w0.heap.size w0 w1.drew := ⟨fun _ => g1.drew, fun h => (by cases h), g0'.drew, more hB (upD (upR _))⟩
  clear g0' g1 hB
  refine region_fp [some 9, some 10, some 11, some 12, none, some 5] [4] [some (Value.agg #[.int .i64 (hiW (a)), .int .u64 (loW (a))]), some (Value.int .i64 d), some (Value.agg #[.int .i64 (hiW (d)), .int .u64 (loW (d))]), some (Value.agg #[.int .i64 (hiW (Q)), .int .u64 (loW (Q))]), none, some (Value.int .i64 0)]
    (fun _ _ _ => True) (fun _ _ => True) (fun L f W => (L 4 = false → Blk W rb #[.int .i64 0, .int .u64 0] 146) ∧ (L 4 = true → Blk W rb #[.int .i64 (hiW Q), .int .u64 (loW Q)] 146) ∧ Blk W ab #[.int .i64 (hiW a), .int .u64 (loW a)] 146 ∧ Below w0.heap.size w0 W)
    (by kernel_rfl) (by kernel_rfl) (by kernel_rfl) (by kernel_rfl) (by kernel_rfl) (fun _ => trivial) (fun _ _ _ _ _ _ => trivial) (fun L L' f f' W h hs => by have q := (h 4 (by decide)).1; (try dsimp only at hs ⊢); rw [← q]; exact hs) HS0 ?_ ?_
  · intro i hi b' L f W hSW hL hdep hsh he hsv hsl hFF K hK1 hK2
    replace hi : i < 6 := hi
    have hcs : i = 0 ∨ i = 1 ∨ i = 2 ∨ i = 3 ∨ i = 4 ∨ i = 5 := by omega
    clear hi
    rcases hcs with rfl | rfl | rfl | rfl | rfl | rfl
    · refine wpOpS_go rfl rfl ?_
      have t2 : b'.tmps[2]?.getD undef = Value.pointer (some ⟨ab, 0, none⟩) := he 2 (by kernel_rfl)
      obtain ⟨s0, s1, s2, s3⟩ := hSW
      have c0 := s2.cell
      have HK := Lib.hid hK1
      clear hK1 hK2 hdep hsh he hsv hsl hFF hL
      clear s0 s1 s2 s3
      go_simp
      exact HK.out rfl _ (fp_mk rfl rfl trivial)
    · refine wpOpS_go rfl rfl ?_
      have t1 : b'.tmps[1]?.getD undef = Value.int .i64 d := he 1 (by kernel_rfl)
      have HK := Lib.hid hK1
      clear hK1 hK2 hdep hsh he hsv hsl hFF hL hSW
      go_simp
      exact HK.out rfl _ (fp_mk rfl rfl trivial)
    · refine wpOpS_go rfl rfl ?_
      have t10 : b'.tmps[10]?.getD undef = Value.int .i64 d := hsv 1 10 _ (by kernel_rfl) (by kernel_rfl) rfl
      obtain ⟨s0, s1, s2, s3⟩ := hSW
      have HK := Lib.hid hK2
      clear hK1 hK2 hdep hsh he hsv hsl hFF hL
      go_simp
      refine (HOF.out W).mono ?_
      rintro e w6 ⟨rfl, hK⟩
      exact HK.out _ _ (fp_mk rfl rfl trivial) trivial ⟨fun h => (s0 h).keep hK, fun h => (s1 h).keep hK, s2.keep hK, more s3 hK⟩
    · refine wpOpS_go rfl rfl ?_
      have t9 : b'.tmps[9]?.getD undef = Value.agg #[.int .i64 (hiW (a)), .int .u64 (loW (a))] := hsv 0 9 _ (by kernel_rfl) (by kernel_rfl) rfl
      have t11 : b'.tmps[11]?.getD undef = Value.agg #[.int .i64 (hiW (d)), .int .u64 (loW (d))] := hsv 2 11 _ (by kernel_rfl) (by kernel_rfl) rfl
      obtain ⟨s0, s1, s2, s3⟩ := hSW
      have HK := Lib.hid hK2
      clear hK1 hK2 hdep hsh he hsv hsl hFF hL
      go_simp
      refine (HQU.out W).mono ?_
      rintro e w6 ⟨rfl, hK⟩
      exact HK.out _ _ (fp_mk rfl rfl trivial) trivial ⟨fun h => (s0 h).keep hK, fun h => (s1 h).keep hK, s2.keep hK, more s3 hK⟩
    · refine wpOpS_go rfl rfl ?_
      have t4 : b'.tmps[4]?.getD undef = Value.pointer (some ⟨rb, 0, none⟩) := he 4 (by kernel_rfl)
      have t12 : b'.tmps[12]?.getD undef = Value.agg #[.int .i64 (hiW (Q)), .int .u64 (loW (Q))] := hsv 3 12 _ (by kernel_rfl) (by kernel_rfl) rfl
      obtain ⟨s0, s1, s2, s3⟩ := hSW
      have hxb := s0 hL
      have HK := Lib.hid hK2
      clear hK1 hK2 hdep hsh he hsv hsl hFF
      refine op_store 146 _ _ rfl rfl hxb 0 (eval_tmp t4) (eval_tmp t12) [.int .i64 (hiW Q), .int .u64 (loW Q)] rfl (by kernel_rfl) rfl rfl #[.int .i64 (hiW Q), .int .u64 (loW Q)] rfl ?_
      intro w' h1 h2 h3
      exact HK.out undef _ (fp_x (v := undef) rfl trivial) trivial ⟨fun h => absurd h (by rw [updF_same]; decide), fun _ => h1, h2.blk s2 hne, h2.below s3 (fun k hk => by omega)⟩
    · refine wpOpS_go rfl rfl ?_
      have HK := Lib.hid hK1
      clear hK1 hK2 hdep hsh he hsv hsl hFF hL hSW
      go_simp
      exact HK.out rfl _ (fp_mk rfl rfl trivial)
  · intro f W hf L hL hS
    obtain ⟨_, s1, _, hB⟩ := (hS : _ ∧ _ ∧ _ ∧ _)
    have g8 := s1 (hL 4 (by decide))
    have e5 : f 5 = Value.int .i64 0 := (hf 5 (by decide)).1 _ rfl
    clear hf hL s1
    simp only [puts2, Act.put]
    generalize f 0 = y0, f 1 = y1, f 2 = y2, f 3 = y3, f 4 = y4
    rw [e5]
    try simp only [List.setIfInBounds_toArray, List.set_cons_zero, List.set_cons_succ]
    go_wp2_with fail
    refine bodyPost_ret (results_ct (g := rb) (cs := #[.int .i64 (hiW Q), .int .u64 (loW Q)]) rfl _ _ rfl g8 Tryz.underlying146 rfl (by kernel_rfl)) rfl ?_
    exact ⟨by rw [HQ.out]; rfl, hB⟩

end Go.Proofs.YtnofoommindocaaGreat.Base
namespace Go.Proofs.YtnofoommindocaaGreat.Base
open Go.RowKit Go Go.Shelf Go.Deep
set_option linter.unusedVariables false
set_option linter.unusedSimpArgs false

set_option maxRecDepth 100000 in
theorem cmpR_is (a b : Int) (ha : W127 a) (hb : W127 b) (W : World) : Calls Tryz.prog 234 #[.agg #[.int .i64 (hiW a), .int .u64 (loW a)], .agg #[.int .i64 (hiW b), .int .u64 (loW b)]] W fun e w' => e = .returned (.int .i64 (cmpI a b)) ∧ Below W.heap.size W w' := by
  have e1 := hiW_of ha
  have e2 := hiW_of hb
  have l1 : loW a = a % 18446744073709551616 := rfl
  have l2 : loW b = b % 18446744073709551616 := rfl
  obtain ⟨ans, hans⟩ : ∃ ans, cmpI a b = ans := ⟨_, rfl⟩
  rw [hans]
  by_cases h1 : hiW a < hiW b
  · have hv := Lib.hid (show ans = -1 by rw [← hans]; unfold cmpI; rw [if_neg (by omega), if_pos (by omega)])
    clear e1 e2 l1 l2 hans
    go_enter Tryz.func234, Tryz.ntmps234
    go_wp2_with fail
    go_ret
    rw [hv.out]
    exact ⟨rfl, upA (upA (upR _) _) _⟩
  · by_cases h2 : hiW a = hiW b
    · have hq1 : (hiW a == hiW b) = true := by simp [h2]
      by_cases h3 : loW a < loW b
      · have hv := Lib.hid (show ans = -1 by rw [← hans]; unfold cmpI; rw [if_neg (by omega), if_pos (by omega)])
        clear e1 e2 l1 l2 hans h2
        go_enter Tryz.func234, Tryz.ntmps234
        go_wp2_with fail
        go_ret
        rw [hv.out]
        exact ⟨rfl, upA (upA (upR _) _) _⟩
      · by_cases h4 : loW a = loW b
        · have hq2 : (loW a == loW b) = true := by simp [h4]
          have hv := Lib.hid (show ans = 0 by rw [← hans]; unfold cmpI; rw [if_pos (by omega)])
          clear e1 e2 l1 l2 hans h2 h4
          go_enter Tryz.func234, Tryz.ntmps234
          go_wp2_with fail
          go_ret
          rw [hv.out]
          exact ⟨rfl, upA (upA (upR _) _) _⟩
        · have hq2 : (loW a == loW b) = false := by simp [h4]
          have hv := Lib.hid (show ans = 1 by rw [← hans]; unfold cmpI; rw [if_neg (by omega), if_neg (by omega)])
          clear e1 e2 l1 l2 hans h2 h4
          go_enter Tryz.func234, Tryz.ntmps234
          go_wp2_with fail
          go_ret
          rw [hv.out]
          exact ⟨rfl, upA (upA (upR _) _) _⟩
    · have hq1 : (hiW a == hiW b) = false := by simp [h2]
      have hv := Lib.hid (show ans = 1 by rw [← hans]; unfold cmpI; rw [if_neg (by omega), if_neg (by omega)])
      clear e1 e2 l1 l2 hans h2
      go_enter Tryz.func234, Tryz.ntmps234
      go_wp2_with fail
      go_ret
      rw [hv.out]
      exact ⟨rfl, upA (upA (upR _) _) _⟩

set_option maxHeartbeats 1000000 in
set_option maxRecDepth 100000 in
theorem fitR_is (a : Int) (h : W127 a) (W : World) : Calls Tryz.prog 205 #[.agg #[.int .i64 (hiW a), .int .u64 (loW a)]] W fun e w' => e = .returned (.tuple #[.int .i64 (fitN a), .bool (fitC a)]) ∧ Below W.heap.size W w' := by
  have hM : W127 9223372036854775807 := by unfold W127; omega
  have hm : W127 (-9223372036854775807) := by unfold W127; omega
  have hl := loW_rng a
  have hO : ∀ z W, I64 z → Calls Tryz.prog 164 #[.int .i64 z] W fun e w' => e = .returned (.agg #[.int .i64 (hiW z), .int .u64 (loW z)]) ∧ Below W.heap.size W w' := fun z W hz => rOf_is z hz W
  have hS0 : FitS W a (W.alloc (Obj.cells #[Value.int .i64 (hiW a), .int .u64 (loW a)] 146)) := ⟨Blk.new W _ _, upA (upR W) _⟩
  go_enter Tryz.func205, Tryz.ntmps205
  go_wp2_with fail
  generalize W.alloc (Obj.cells #[Value.int .i64 (hiW a), .int .u64 (loW a)] 146) = w1 at *
  have hS1 := hS0.drew
  clear hS0
  go_region_held3 (fun W' => FitS W a W' ∧ (W'.cell? ⟨W.heap.size, 0, none⟩ = some (.int .i64 (hiW a)) ∧ W'.cell? ⟨W.heap.size, 1, none⟩ = some (.int .u64 (loW a))))
    (exact FitS.cells (by assumption))
    (first
      | (go_at_call 164; refine (hO (9223372036854775807) _ (by unfold I64; omega)).mono ?_; rintro e w5 ⟨rfl, hK⟩; have hS5 := FitS.keep (by assumption) hK; clear hK)
      | (go_at_call 234; refine (cmpR_is a (9223372036854775807) h hM _).mono ?_; rintro e w6 ⟨rfl, hK⟩; have hS6 := FitS.keep (by assumption) hK; clear hK))
  have hc : (cmpI a (9223372036854775807) = 1 ∧ (9223372036854775807) < a) ∨ (cmpI a (9223372036854775807) ≤ 0 ∧ a ≤ (9223372036854775807)) := by
    unfold cmpI
    by_cases e1 : a = (9223372036854775807)
    · exact .inr ⟨by rw [if_pos e1]; decide, by omega⟩
    · by_cases e2 : a < (9223372036854775807)
      · exact .inr ⟨by rw [if_neg e1, if_pos e2]; decide, by omega⟩
      · exact .inl ⟨by rw [if_neg e1, if_neg e2], by omega⟩
  clear hS1
  rcases hc with ⟨hc, ha⟩ | ⟨hc, ha⟩
  · have HN := Lib.hid (show fitN a = (9223372036854775807) by unfold fitN; rw [if_pos (by omega)])
    have HC := Lib.hid (show fitC a = true by unfold fitC; simp; omega)
    have HB := hS6.h
    rw [hc]
    clear hS6 hc ha
    go_wp2_with fail
    go_ret2
    rw [HN.out, HC.out]
    exact ⟨rfl, HB⟩
  · have hc' : ¬ cmpI a 9223372036854775807 > 0 := by omega
    have hc2 : ¬ (0 : Int) < cmpI a 9223372036854775807 := by omega
    have HA := Lib.hid ha
    clear hc ha
    go_wp2_with fail
    have hS7 := hS6.drew
    clear hS6 hc' hc2 hS5
    go_region_held3 (fun W' => FitS W a W' ∧ (W'.cell? ⟨W.heap.size, 0, none⟩ = some (.int .i64 (hiW a)) ∧ W'.cell? ⟨W.heap.size, 1, none⟩ = some (.int .u64 (loW a))))
      (exact FitS.cells (by assumption))
      (first
        | (go_at_call 164; refine (hO (-9223372036854775807) _ (by unfold I64; omega)).mono ?_; rintro e w8 ⟨rfl, hK⟩; have hS8 := FitS.keep (by assumption) hK; clear hK)
        | (go_at_call 234; refine (cmpR_is a (-9223372036854775807) h hm _).mono ?_; rintro e w9 ⟨rfl, hK⟩; have hS9 := FitS.keep (by assumption) hK; clear hK))
    have hc : (cmpI a (-9223372036854775807) = -1 ∧ a < (-9223372036854775807)) ∨ (0 ≤ cmpI a (-9223372036854775807) ∧ (-9223372036854775807) ≤ a) := by
      unfold cmpI
      by_cases e1 : a = (-9223372036854775807)
      · exact .inr ⟨by rw [if_pos e1]; decide, by omega⟩
      · by_cases e2 : a < (-9223372036854775807)
        · exact .inl ⟨by rw [if_neg e1, if_pos e2], e2⟩
        · exact .inr ⟨by rw [if_neg e1, if_neg e2]; decide, by omega⟩
    clear hS7
    rcases hc with ⟨hc, ha⟩ | ⟨hc, ha⟩
    · have HN := Lib.hid (show fitN a = (-9223372036854775807) by unfold fitN; rw [if_neg (by omega), if_pos (by omega)])
      have HC := Lib.hid (show fitC a = true by unfold fitC; simp; omega)
      have HB := hS9.h
      rw [hc]
      clear hS9 hc ha
      go_wp2_with fail
      go_ret2
      rw [HN.out, HC.out]
      exact ⟨rfl, HB⟩
    · have hc' : ¬ cmpI a (-9223372036854775807) < 0 := by omega
      have h1' := HA.out
      have HN := Lib.hid (show fitN a = a by unfold fitN; rw [if_neg (by omega), if_neg (by omega)])
      have HC := Lib.hid (show fitC a = false by unfold fitC; simp; omega)
      have HB := hS9.h
      have c0 := hS9.b.cell
      have e1 : IntKind.i64.wrap (loW a) = a := by rw [IntKind.wrap_i64]; unfold loW; omega
      clear h1' ha hc
      go_wp2_with fail
      go_ret2
      rw [HN.out, HC.out]
      first | exact ⟨rfl, HB⟩ | exact ⟨by simp [wrap64] at e1 ⊢; omega, HB⟩

theorem taken_is (a : Int) (W : World) : Calls Tryz.prog 161 #[.int .i64 a] W fun e w' => e = .returned (.tuple #[.int .i64 (heldI a), .bool (oddI a)]) ∧ W = w' := by
  unfold heldI oddI
  by_cases h : a < -9223372036854775807
  · rw [if_pos h, decide_eq_true h]
    go_enter Tryz.func161, Tryz.ntmps161
    go_wp2_with fail
    go_ret2
    exact ⟨rfl, rfl⟩
  · rw [if_neg h, decide_eq_false h]
    go_enter Tryz.func161, Tryz.ntmps161
    go_wp2_with fail
    go_ret2
    exact ⟨rfl, rfl⟩

theorem rfits_fx (a : Int) (h : W127 a) (k : Bool) (W : World) : Calls Tryz.prog 162 #[.agg #[.int .i64 (hiW a), .int .u64 (loW a)], .bool k] W fun e w' => e = .returned (.tuple #[.int .i64 (fitN a), .bool (fitC a || k)]) ∧ Below W.heap.size W w' := by
  have g0 := Blk.new W #[Value.int .i64 (hiW a), .int .u64 (loW a)] 146
  have hB := upA (upR W) (Obj.cells #[Value.int .i64 (hiW a), .int .u64 (loW a)] 146)
  have c0 := g0.cell
  go_enter Tryz.func162, Tryz.ntmps162
  go_wp2_with fail
  refine (fitR_is a h _).mono ?_
  rintro e w1 ⟨rfl, hK⟩
  replace hB := more hB hK
  clear g0 c0 hK
  obtain ⟨F, hF⟩ : ∃ F, fitC a = F := ⟨_, rfl⟩
  rw [hF]
  have HF := Lib.hid hF
  clear hF
  cases F
  · go_wp2_with fail
    go_ret2
    exact ⟨by rw [HF.out]; simp, hB⟩
  · go_wp2_with fail
    go_ret2
    exact ⟨by rw [HF.out]; simp, hB⟩

end Go.Proofs.YtnofoommindocaaGreat.Base
namespace Go.Proofs.YtnofoommindocaaGreat.Base
open Go.RowKit Go Go.Shelf Go.Deep
set_option linter.unusedVariables false
set_option linter.unusedSimpArgs false

/-- A sum, rounded by so many bits. -/
def sumF (bits : Nat) : Int → Int → Int × Bool := opF fun a b => rndI (a + b) (2 ^ bits)
theorem rnd_w {a : Int} (h1 : a < 170141183460469231731687303715884105727) (h2 : -170141183460469231731687303715884105727 < a) (k : Nat) : W127 (rndI a (2 ^ k)) := by
  have hd : (1 : Int) ≤ 2 ^ k := by have := Int.pow_pos (n := (2 : Int)) (m := k) (by omega); omega
  exact rndI_w (by unfold W127; omega) h1 h2 hd
theorem rnd_one (a : Int) : rndI a (2 ^ 0) = a := by
  have e : ∀ s : Int, rheI s 1 = s := fun s => by
    unfold rheI
    rw [show s / 1 = s by omega, show s % 1 = 0 by omega, if_neg (show ¬ nearP s 0 1 by unfold nearP; omega)]
  unfold rndI absI
  rw [show (2 : Int) ^ 0 = 1 from rfl, e]
  split <;> omega
theorem sumF_add (a b : Int) : sumF 0 a b = addF a b := by unfold sumF addF opF; simp only [rnd_one]
theorem sumF_half (a b : Int) : sumF 1 a b = halfF a b := rfl

set_option maxHeartbeats 1000000 in
set_option maxRecDepth 100000 in
theorem rsum_is (a b : Int) (bits : Nat) (hbits : bits ≤ 127) (ha : I64 a) (hb : I64 b) (W : World) : Calls Tryz.prog 203 #[.int .i64 a, .int .i64 b, .int .i64 bits] W fun e w' => e = .returned (RetF (sumF bits a b)) ∧ Below W.heap.size W w' := by
  have fa := heldI_fx ha
  have fb := heldI_fx hb
  have hO : ∀ z W, I64 z → Calls Tryz.prog 164 #[.int .i64 z] W fun e w' => e = .returned (.agg #[.int .i64 (hiW z), .int .u64 (loW z)]) ∧ Below W.heap.size W w' := fun z W hz => rOf_is z hz W
  have hs : heldI a + heldI b < 170141183460469231731687303715884105727 ∧ -170141183460469231731687303715884105727 < heldI a + heldI b := by unfold Fx at fa fb; omega
  go_enter Tryz.func203, Tryz.ntmps203
  go_wp2_with fail
  refine (taken_is a _).mono ?_
  rintro e w1 ⟨rfl, rfl⟩
  go_wp2_with fail
  refine (taken_is b _).mono ?_
  rintro e w1 ⟨rfl, rfl⟩
  go_wp2_with fail
  refine (hO (heldI a) _ fa.i64).mono ?_
  rintro e w2 ⟨rfl, hB⟩
  go_wp2_with fail
  refine (hO (heldI b) _ fb.i64).mono ?_
  rintro e w3 ⟨rfl, hK⟩
  replace hB := more hB hK
  clear hK
  go_wp2_with fail
  refine (rAddA_is (heldI a) (heldI b) _).mono ?_
  rintro e w4 ⟨rfl, hK⟩
  replace hB := more hB hK
  clear hK
  go_wp2_with fail
  refine (roundR_is (heldI a + heldI b) (by unfold W127; omega) bits hbits _).mono ?_
  rintro e w5 ⟨rfl, hK⟩
  replace hB := more hB hK
  have hsz := hB.size
  have hv := rnd_w hs.1 hs.2 bits
  clear hK fa fb hO hs hbits
  have g0 := Blk.new w5 #[Value.int .i64 0, .int .u64 0] 146
  replace hB := upA hB (Obj.cells #[Value.int .i64 0, .int .u64 0] 146)
  obtain ⟨V, hV⟩ : ∃ V, rndI (heldI a + heldI b) (2 ^ bits) = V := ⟨_, rfl⟩
  obtain ⟨oa, hoa⟩ : ∃ o, oddI a = o := ⟨_, rfl⟩
  obtain ⟨ob, hob⟩ : ∃ o, oddI b = o := ⟨_, rfl⟩
  rw [hV] at hv ⊢
  rw [hoa, hob]
  have HR := Lib.hid (show sumF bits a b = (fitN V, (fitC V || oa) || ob) by rw [← hV, ← hoa, ← hob]; rfl)
  have HS := Lib.hid hsz
  clear hV hoa hob hsz
  cases oa <;>
  · go_wp2_with ((with_reducible refine at_st (p := 12) (q := 32) rfl ?_); refine ev_store rfl 146 _ _ rfl rfl g0 0 rfl rfl [.int .i64 (hiW V), .int .u64 (loW V)] rfl (by kernel_rfl) rfl rfl #[.int .i64 (hiW V), .int .u64 (loW V)] rfl ?_; intro w6 g6 ef hz6; have d6 := g6.cell)
    refine (rfits_fx V hv _ _).mono ?_
    rintro e w7 ⟨rfl, hK⟩
    have hE := more (ef.below hB (fun k hk => by have := HS.out; omega)) hK
    clear d6 g6 ef hz6 hB hK g0
    go_wp2_with fail
    go_ret2
    refine ⟨?_, hE⟩
    rw [HR.out]
    unfold RetF
    simp

theorem rAdd2_is (a b : Int) (ha : I64 a) (hb : I64 b) (W : World) : Calls Tryz.prog 159 #[.int .i64 a, .int .i64 b] W fun e w' => e = .returned (RetF (addF a b)) ∧ Below W.heap.size W w' := by
  go_enter Tryz.func159, Tryz.ntmps159
  go_wp2_with fail
  refine (rsum_is a b 0 (by decide) ha hb _).mono ?_
  rintro e w1 ⟨rfl, hK⟩
  rw [sumF_add]
  unfold RetF
  go_wp2_with fail
  go_ret2
  exact ⟨rfl, hK⟩

set_option maxHeartbeats 1000000 in
set_option maxRecDepth 100000 in
theorem rMul2_is (a b : Int) (ha : I64 a) (hb : I64 b) (W : World) : Calls Tryz.prog 160 #[.int .i64 a, .int .i64 b] W fun e w' => e = .returned (RetF (mulF a b)) ∧ Below W.heap.size W w' := by
  have fa := heldI_fx ha
  have fb := heldI_fx hb
  have hm := mul_w fa fb
  have hv := prod_w fa fb
  have hMU : ∀ W, Calls Tryz.prog 167 #[.int .i64 (heldI a), .int .i64 (heldI b)] W fun e w' => e = .returned (.agg #[.int .i64 (hiW (heldI a * heldI b)), .int .u64 (loW (heldI a * heldI b))]) ∧ Below W.heap.size W w' := fun W => rMul_is _ _ fa.i64 fb.i64 W
  go_enter Tryz.func160, Tryz.ntmps160
  go_wp2_with fail
  refine (taken_is a _).mono ?_
  rintro e w1 ⟨rfl, rfl⟩
  go_wp2_with fail
  refine (taken_is b _).mono ?_
  rintro e w1 ⟨rfl, rfl⟩
  go_wp2_with fail
  refine (hMU _).mono ?_
  rintro e w2 ⟨rfl, hB⟩
  clear hMU
  obtain ⟨M, hM⟩ : ∃ M, heldI a * heldI b = M := ⟨_, rfl⟩
  rw [hM] at hm hv ⊢
  have HM := Lib.hid hM
  clear hM
  go_wp2_with fail
  have hR := roundR_is M hm 32 (by decide) w2
  rw [show (2 : Int) ^ 32 = 4294967296 from rfl] at hR
  refine hR.mono ?_
  clear hR
  rintro e w5 ⟨rfl, hK⟩
  replace hB := more hB hK
  have hsz := hB.size
  clear hK fa fb hm
  have g0 := Blk.new w5 #[Value.int .i64 0, .int .u64 0] 146
  replace hB := upA hB (Obj.cells #[Value.int .i64 0, .int .u64 0] 146)
  obtain ⟨V, hV⟩ : ∃ V, rndI M 4294967296 = V := ⟨_, rfl⟩
  obtain ⟨oa, hoa⟩ : ∃ o, oddI a = o := ⟨_, rfl⟩
  obtain ⟨ob, hob⟩ : ∃ o, oddI b = o := ⟨_, rfl⟩
  rw [hV] at hv ⊢
  rw [hoa, hob]
  have HR := Lib.hid (show mulF a b = (fitN V, (fitC V || oa) || ob) by rw [← hV, ← HM.out, ← hoa, ← hob]; rfl)
  have HS := Lib.hid hsz
  clear hV hoa hob hsz
  cases oa <;>
  · go_wp2_with ((with_reducible refine at_st (p := 10) (q := 27) rfl ?_); refine ev_store rfl 146 _ _ rfl rfl g0 0 rfl rfl [.int .i64 (hiW V), .int .u64 (loW V)] rfl (by kernel_rfl) rfl rfl #[.int .i64 (hiW V), .int .u64 (loW V)] rfl ?_; intro w6 g6 ef hz6; have d6 := g6.cell)
    refine (rfits_fx V hv _ _).mono ?_
    rintro e w7 ⟨rfl, hK⟩
    have hE := more (ef.below hB (fun k hk => by have := HS.out; omega)) hK
    clear d6 g6 ef hz6 hB hK g0
    go_wp2_with fail
    go_ret2
    refine ⟨?_, hE⟩
    rw [HR.out]
    unfold RetF
    simp

theorem rWhole2_is (n : Int) (hn : I64 n) (W : World) : Calls Tryz.prog 228 #[.int .i64 n] W fun e w' => e = .returned (RetF (wholeF n)) ∧ Below W.heap.size W w' := by
  have hMU : ∀ W, Calls Tryz.prog 167 #[.int .i64 n, .int .i64 4294967296] W fun e w' => e = .returned (.agg #[.int .i64 (hiW (n * 4294967296)), .int .u64 (loW (n * 4294967296))]) ∧ Below W.heap.size W w' := fun W => rMul_is _ _ hn (by unfold I64; omega) W
  go_enter Tryz.func228, Tryz.ntmps228
  go_wp2_with fail
  refine (hMU _).mono ?_
  rintro e w2 ⟨rfl, hB⟩
  clear hMU
  go_wp2_with fail
  refine (fitR_is (n * 4294967296) (by unfold I64 at hn; unfold W127; omega) _).mono ?_
  rintro e w3 ⟨rfl, hK⟩
  go_wp2_with fail
  go_ret2
  exact ⟨rfl, more hB hK⟩

set_option maxHeartbeats 2000000 in
set_option maxRecDepth 100000 in
theorem rDiv2_is (a b : Int) (ha : I64 a) (hb : I64 b) (W : World) : Calls Tryz.prog 107 #[.int .i64 a, .int .i64 b] W fun e w' => e = .returned (RetF (divF a b)) ∧ Below W.heap.size W w' := by
  have fa := heldI_fx ha
  have fb := heldI_fx hb
  obtain ⟨X, hX⟩ : ∃ X, heldI a = X := ⟨_, rfl⟩
  obtain ⟨Y, hY⟩ : ∃ Y, heldI b = Y := ⟨_, rfl⟩
  have hT1 := taken_is a
  have hT2 := taken_is b
  rw [hX] at fa hT1
  rw [hY] at fb hT2
  have hXz : a = 0 ↔ X = 0 := by rw [← hX]; unfold heldI; split <;> omega
  have hXn : a < 0 ↔ X < 0 := by rw [← hX]; unfold heldI; split <;> omega
  have hYz : b = 0 ↔ Y = 0 := by rw [← hY]; unfold heldI; split <;> omega
  obtain ⟨r, hr⟩ : ∃ r, divF a b = r := ⟨_, rfl⟩
  rw [hr]
  have HT1 := Lib.hid hT1
  have HT2 := Lib.hid hT2
  clear hT1 hT2
  by_cases h0 : Y = 0
  · by_cases h1 : X = 0
    · have HR := Lib.hid (show r = (0, true) by rw [← hr]; unfold divF; rw [if_pos (hYz.2 h0), if_pos (hXz.2 h1)])
      have hy : (Y == 0) = true := by simp [h0]
      have hx : (X == 0) = true := by simp [h1]
      clear hr hX hY hXz hXn hYz h0 h1 fa fb
      go_enter Tryz.func107, Tryz.ntmps107
      go_wp2_with fail
      refine (HT1.out _).mono ?_
      rintro e w1 ⟨rfl, rfl⟩
      go_wp2_with fail
      refine (HT2.out _).mono ?_
      rintro e w1 ⟨rfl, rfl⟩
      go_wp2_with fail
      go_ret2
      rw [HR.out]
      exact ⟨rfl, upR _⟩
    · by_cases h2 : X < 0
      · have HR := Lib.hid (show r = (-9223372036854775807, true) by rw [← hr]; unfold divF; rw [if_pos (hYz.2 h0), if_neg (fun h => h1 (hXz.1 h)), if_pos (hXn.2 h2)])
        have hy : (Y == 0) = true := by simp [h0]
        have hx : (X == 0) = false := by simp [h1]
        clear hr hX hY hXz hXn hYz h0 h1 fa fb
        go_enter Tryz.func107, Tryz.ntmps107
        go_wp2_with fail
        refine (HT1.out _).mono ?_
        rintro e w1 ⟨rfl, rfl⟩
        go_wp2_with fail
        refine (HT2.out _).mono ?_
        rintro e w1 ⟨rfl, rfl⟩
        go_wp2_with fail
        go_ret2
        rw [HR.out]
        exact ⟨rfl, upR _⟩
      · have HR := Lib.hid (show r = (9223372036854775807, true) by rw [← hr]; unfold divF; rw [if_pos (hYz.2 h0), if_neg (fun h => h1 (hXz.1 h)), if_neg (fun h => h2 (hXn.1 h))])
        have hy : (Y == 0) = true := by simp [h0]
        have hx : (X == 0) = false := by simp [h1]
        clear hr hX hY hXz hXn hYz h0 h1 fa fb
        go_enter Tryz.func107, Tryz.ntmps107
        go_wp2_with fail
        refine (HT1.out _).mono ?_
        rintro e w1 ⟨rfl, rfl⟩
        go_wp2_with fail
        refine (HT2.out _).mono ?_
        rintro e w1 ⟨rfl, rfl⟩
        go_wp2_with fail
        go_ret2
        rw [HR.out]
        exact ⟨rfl, upR _⟩
  · have HR := Lib.hid (show r = (fitN (divI (X * 4294967296) Y), (fitC (divI (X * 4294967296) Y) || oddI a) || oddI b) by
      rw [← hr]
      unfold divF
      rw [if_neg (fun h => h0 (hYz.1 h))]
      unfold opF
      rw [hX, hY])
    have hy : (Y == 0) = false := by simp [h0]
    have hv : W127 (divI (X * 4294967296) Y) := divI_w fa h0
    have hw := shift_w fa
    have hMU : ∀ W, Calls Tryz.prog 167 #[.int .i64 X, .int .i64 4294967296] W fun e w' => e = .returned (.agg #[.int .i64 (hiW (X * 4294967296)), .int .u64 (loW (X * 4294967296))]) ∧ Below W.heap.size W w' := fun W => rMul_is _ _ fa.i64 (by unfold I64; omega) W
    have hDI := fun W => divR_is (X * 4294967296) Y hw fb.i64 h0 W
    have HMU := Lib.hid hMU
    have HDI := Lib.hid hDI
    clear hr hX hY hXz hXn hYz h0 fa fb hMU hDI hw
    go_enter Tryz.func107, Tryz.ntmps107
    go_wp2_with fail
    refine (HT1.out _).mono ?_
    rintro e w1 ⟨rfl, rfl⟩
    go_wp2_with fail
    refine (HT2.out _).mono ?_
    rintro e w1 ⟨rfl, rfl⟩
    go_wp2_with fail
    refine (HMU.out _).mono ?_
    rintro e w2 ⟨rfl, hB⟩
    go_wp2_with fail
    refine (HDI.out _).mono ?_
    rintro e w5 ⟨rfl, hK⟩
    replace hB := more hB hK
    have hsz := hB.size
    clear hK HMU HDI HT1 HT2
    have g0 := Blk.new w5 #[Value.int .i64 0, .int .u64 0] 146
    replace hB := upA hB (Obj.cells #[Value.int .i64 0, .int .u64 0] 146)
    obtain ⟨V, hV⟩ : ∃ V, divI (X * 4294967296) Y = V := ⟨_, rfl⟩
    obtain ⟨oa, hoa⟩ : ∃ o, oddI a = o := ⟨_, rfl⟩
    obtain ⟨ob, hob⟩ : ∃ o, oddI b = o := ⟨_, rfl⟩
    rw [hV] at hv ⊢
    rw [hoa, hob]
    have HR := Lib.hid (show r = (fitN V, (fitC V || oa) || ob) by rw [HR.out, hV, hoa, hob])
    have HS := Lib.hid hsz
    clear hV hoa hob hsz
    cases oa <;>
    · go_wp2_with ((with_reducible refine at_st (p := 10) (q := 44) rfl ?_); refine ev_store rfl 146 _ _ rfl rfl g0 0 rfl rfl [.int .i64 (hiW V), .int .u64 (loW V)] rfl (by kernel_rfl) rfl rfl #[.int .i64 (hiW V), .int .u64 (loW V)] rfl ?_; intro w6 g6 ef hz6; have d6 := g6.cell)
      refine (rfits_fx V hv _ _).mono ?_
      rintro e w7 ⟨rfl, hK⟩
      have hE := more (ef.below hB (fun k hk => by have := HS.out; omega)) hK
      clear d6 g6 ef hz6 hB hK g0
      go_wp2_with fail
      go_ret2
      refine ⟨?_, hE⟩
      rw [HR.out]
      unfold RetF
      simp

end Go.Proofs.YtnofoommindocaaGreat.Base
namespace Go.Proofs.YtnofoommindocaaGreat.Base
open Go.RowKit Go
set_option linter.unusedVariables false
set_option linter.unusedSimpArgs false

/-- A unit of the reference's: whether something was cut. -/
def UR (W : World) (b : Nat) (c : Bool) : Prop := ∃ n : Int, Blk W b #[.bool c, .int .i64 n] 75
theorem UR.keep {W W' : World} {b : Nat} {c : Bool} (h : UR W b c) (k : Below W.heap.size W W') : UR W' b c := by
  obtain ⟨n, h⟩ := h
  exact ⟨n, h.keep k⟩
theorem UR.drew {W : World} {b : Nat} {c : Bool} (h : UR W b c) : UR W.drew b c := by
  obtain ⟨n, h⟩ := h
  exact ⟨n, h.drew⟩
theorem UR.lt {W : World} {b : Nat} {c : Bool} (h : UR W b c) : b < W.heap.size := by
  obtain ⟨n, h⟩ := h
  exact h.lt
theorem UR.but {W W' : World} {b x : Nat} {c : Bool} (h : UR W b c) (k : But x W W') (hn : b ≠ x) : UR W' b c := by
  obtain ⟨n, h⟩ := h
  exact ⟨n, k.blk h hn⟩
theorem UP.but {W W' : World} {b x : Nat} {c : Bool} (h : UP W b c) (k : But x W W') (hn : b ≠ x) : UP W' b c := by
  obtain ⟨n, h⟩ := h
  exact ⟨n, k.blk h hn⟩
theorem LI.mlR {B : Nat} {W : World} {b : Nat} {c : Bool} {a : Option Addr} {k : Nat} {zs : List Int} (h : LI B W a k zs) (hu : UR W b c) : ML b W a k zs := by
  obtain ⟨n, hb⟩ := hu
  refine ⟨h.mi.mono (Nat.zero_le _), fun x hx hn e => ?_⟩
  have := h.wj.ty x hx hn
  rw [e] at this
  exact noInts_of hb (by decide) this
theorem LI.butR {B : Nat} {W W' : World} {b : Nat} {c : Bool} {a : Option Addr} {k : Nat} {zs : List Int} (h : LI B W a k zs) (hu : UR W b c) (hk : But b W W') : LI B W' a k zs := by
  refine h.same fun x hx hn => ?_
  have hlt : x.block < W.heap.size := by
    obtain ⟨cs, q, hc⟩ := h.wj.ty x hx hn
    exact (Array.getElem?_eq_some_iff.1 hc).1
  exact hk.block _ hlt ((h.mlR hu).ne x hx hn)

theorem uNewR_is (W : World) : Calls Tryz.prog 15 #[] W fun e w' => e = .returned (.pointer (some ⟨W.heap.size, 0, none⟩)) ∧ UR w' W.heap.size false ∧ Below W.heap.size W w' := by
  go_enter Tryz.func15, Tryz.ntmps15
  go_wp2_with fail
  go_ret
  exact ⟨rfl, ⟨0, Blk.new _ _ _⟩, upA (upR W) _⟩
theorem uCutR_is {W : World} {b : Nat} {c : Bool} (h : UR W b c) : Calls Tryz.prog 29 #[.pointer (some ⟨b, 0, none⟩)] W fun e w' => e = .returned (.bool c) ∧ W = w' := by
  obtain ⟨m, hm⟩ := h
  have c0 := hm.cell
  clear hm
  go_enter Tryz.func29, Tryz.ntmps29
  go_wp2_with fail
  go_ret
  exact ⟨rfl, rfl⟩

set_option maxHeartbeats 1000000 in
theorem didR_is {W : World} {b : Nat} {c : Bool} (h : UR W b c) (n : Int) (k : Bool) : Calls Tryz.prog 106 #[.pointer (some ⟨b, 0, none⟩), .int .i64 n, .bool k] W fun e w' => e = .returned (.int .i64 n) ∧ UR w' b (c || k) ∧ But b W w' := by
  obtain ⟨m, hb⟩ := h
  have c0 := hb.cell
  have f0 := hb.frozen
  have h1 := hb.set 1 (.int .i64 (wrap64 (m + 1)))
  have c1 := h1.cell
  have f1 := h1.frozen
  have hB := ((But.refl b W).set 1 (.int .i64 (wrap64 (m + 1))))
  clear hb
  cases c with
  | true =>
    rw [Bool.true_or]
    have h2 := h1.set 0 (.bool true)
    have hB2 := hB.set 0 (.bool true)
    clear h1 hB
    go_enter Tryz.func106, Tryz.ntmps106
    go_wp2_with fail
    go_ret
    exact ⟨rfl, ⟨_, h2⟩, hB2⟩
  | false =>
    rw [Bool.false_or]
    have h2 := h1.set 0 (.bool k)
    have hB2 := hB.set 0 (.bool k)
    clear h1 hB
    go_enter Tryz.func106, Tryz.ntmps106
    go_wp2_with fail
    go_ret
    exact ⟨rfl, ⟨_, h2⟩, hB2⟩

theorem plusR_is {W : World} {b : Nat} {c : Bool} (h : UR W b c) (x y : Int) (hx : I64 x) (hy : I64 y) :
    Calls Tryz.prog 103 #[.pointer (some ⟨b, 0, none⟩), .int .i64 x, .int .i64 y] W fun e w' => e = .returned (.int .i64 (addF x y).1) ∧ UR w' b (c || (addF x y).2) ∧ But b W w' := by
  have hC := fun W => rAdd2_is x y hx hy W
  obtain ⟨p, hp⟩ : ∃ p, addF x y = p := ⟨_, rfl⟩
  rw [hp] at hC ⊢
  clear hp
  go_enter Tryz.func103, Tryz.ntmps103
  go_wp2_with fail
  refine (hC _).mono ?_
  rintro e w1 ⟨rfl, hK⟩
  unfold RetF
  have h1 := h.keep hK
  go_wp2_with fail
  refine (didR_is h1 p.1 p.2).mono ?_
  rintro e w2 ⟨rfl, h2, hB⟩
  have hB2 := (But.of (b := b) hK).trans hB
  clear hB hK h h1
  go_wp2_with fail
  go_ret
  exact ⟨rfl, h2, hB2⟩
theorem timesR_is {W : World} {b : Nat} {c : Bool} (h : UR W b c) (x y : Int) (hx : I64 x) (hy : I64 y) :
    Calls Tryz.prog 104 #[.pointer (some ⟨b, 0, none⟩), .int .i64 x, .int .i64 y] W fun e w' => e = .returned (.int .i64 (mulF x y).1) ∧ UR w' b (c || (mulF x y).2) ∧ But b W w' := by
  have hC := fun W => rMul2_is x y hx hy W
  obtain ⟨p, hp⟩ : ∃ p, mulF x y = p := ⟨_, rfl⟩
  rw [hp] at hC ⊢
  clear hp
  go_enter Tryz.func104, Tryz.ntmps104
  go_wp2_with fail
  refine (hC _).mono ?_
  rintro e w1 ⟨rfl, hK⟩
  unfold RetF
  have h1 := h.keep hK
  go_wp2_with fail
  refine (didR_is h1 p.1 p.2).mono ?_
  rintro e w2 ⟨rfl, h2, hB⟩
  have hB2 := (But.of (b := b) hK).trans hB
  clear hB hK h h1
  go_wp2_with fail
  go_ret
  exact ⟨rfl, h2, hB2⟩
theorem uDivR_is {W : World} {b : Nat} {c : Bool} (h : UR W b c) (x y : Int) (hx : I64 x) (hy : I64 y) :
    Calls Tryz.prog 64 #[.pointer (some ⟨b, 0, none⟩), .int .i64 x, .int .i64 y] W fun e w' => e = .returned (.int .i64 (divF x y).1) ∧ UR w' b (c || (divF x y).2) ∧ But b W w' := by
  have hC := fun W => rDiv2_is x y hx hy W
  obtain ⟨p, hp⟩ : ∃ p, divF x y = p := ⟨_, rfl⟩
  rw [hp] at hC ⊢
  clear hp
  go_enter Tryz.func64, Tryz.ntmps64
  go_wp2_with fail
  refine (hC _).mono ?_
  rintro e w1 ⟨rfl, hK⟩
  unfold RetF
  have h1 := h.keep hK
  go_wp2_with fail
  refine (didR_is h1 p.1 p.2).mono ?_
  rintro e w2 ⟨rfl, h2, hB⟩
  have hB2 := (But.of (b := b) hK).trans hB
  clear hB hK h h1
  go_wp2_with fail
  go_ret
  exact ⟨rfl, h2, hB2⟩
theorem uWholeR_is {W : World} {b : Nat} {c : Bool} (h : UR W b c) (x : Int) (hx : I64 x) :
    Calls Tryz.prog 191 #[.pointer (some ⟨b, 0, none⟩), .int .i64 x] W fun e w' => e = .returned (.int .i64 (wholeF x).1) ∧ UR w' b (c || (wholeF x).2) ∧ But b W w' := by
  have hC := fun W => rWhole2_is x hx W
  obtain ⟨p, hp⟩ : ∃ p, wholeF x = p := ⟨_, rfl⟩
  rw [hp] at hC ⊢
  clear hp
  go_enter Tryz.func191, Tryz.ntmps191
  go_wp2_with fail
  refine (hC _).mono ?_
  rintro e w1 ⟨rfl, hK⟩
  unfold RetF
  have h1 := h.keep hK
  go_wp2_with fail
  refine (didR_is h1 p.1 p.2).mono ?_
  rintro e w2 ⟨rfl, h2, hB⟩
  have hB2 := (But.of (b := b) hK).trans hB
  clear hB hK h h1
  go_wp2_with fail
  go_ret
  exact ⟨rfl, h2, hB2⟩


set_option maxHeartbeats 1000000 in
theorem uAddR_is {W : World} {b : Nat} {c : Bool} (h : UR W b c) {a : Option Addr} {k : Nat} {zs : List Int} (hz : ML b W a k zs) :
    Calls Tryz.prog 61 #[.pointer (some ⟨b, 0, none⟩), .slice a zs.length k] W fun e w' => e = .returned (.int .i64 (plusL zs).1) ∧ UR w' b (c || (plusL zs).2) ∧ But b W w' := by
  have hl := hz.mi.len
  unfold maxLen at hl
  obtain ⟨n, hn⟩ : ∃ n, zs.length = n := ⟨_, rfl⟩
  rw [hn] at hl ⊢
  unfold plusL
  go_enter Tryz.func61, Tryz.ntmps61
  go_wp2_with fail
  go_loopw [5, 6] (fun v i wr => ∃ (j : Nat), j ≤ n ∧ i = .int .i64 j ∧ v = .int .i64 (foldF addF 0 (zs.take j)).1 ∧ UR wr b (c || (foldF addF 0 (zs.take j)).2) ∧ But b W wr) (fun _ i _ => n - (intOf i).toNat)
  case atStart => exact ⟨0, Nat.zero_le _, rfl, rfl, by simpa [foldF] using h, But.refl _ _⟩
  case round =>
    obtain ⟨j, hj, rfl, rfl, hU, hB⟩ := hrel
    by_cases hjl : j < n
    · have hjl' : (j : Int) < (n : Int) := by omega
      have hj0 : (0 : Int) ≤ (j : Int) := by omega
      have hjz : j < zs.length := by omega
      obtain ⟨x, rfl, hx, hxr⟩ := (hz.but hB).at j hjz
      have hT := Lib.hid (List.take_succ_eq_append_getElem hjz)
      obtain ⟨z, hzj⟩ : ∃ z, zs[j] = z := ⟨_, rfl⟩
      rw [hzj] at hx hxr hT
      clear hzj
      have hS : I64 (foldF addF 0 (zs.take j)).1 := (foldF_fx addF addF_fx 0 (by unfold Fx; omega) _).i64
      have hN := foldF_snoc addF 0 (zs.take j) z
      generalize foldF addF 0 (zs.take j) = q at *
      have HN := Lib.hid hN
      clear hN
      go_wp2_with fail
      refine (plusR_is hU q.1 z hS hxr).mono ?_
      rintro e w2 ⟨rfl, h2, hB2⟩
      have hB3 := hB.trans hB2
      clear hB hB2 hU
      go_wp2_with fail
      go_roundw
      case rel => exact ⟨j + 1, by omega, by go_num, by rw [hT.out, HN.out], by rw [hT.out, HN.out, ← Bool.or_assoc]; exact h2, hB3⟩
      case measure => simp [intOf]; omega
    · have hge : ¬ (j : Int) < (n : Int) := by omega
      have hT := Lib.hid (show zs.take j = zs from List.take_of_length_le (by omega))
      go_wp2_with fail
      go_ret
      rw [hT.out] at hU ⊢
      exact ⟨rfl, hU, hB⟩

set_option maxHeartbeats 1000000 in
theorem uMulR_is {W : World} {b : Nat} {c : Bool} (h : UR W b c) {a : Option Addr} {k : Nat} {zs : List Int} (hz : ML b W a k zs) :
    Calls Tryz.prog 65 #[.pointer (some ⟨b, 0, none⟩), .slice a zs.length k] W fun e w' => e = .returned (.int .i64 (timesL zs).1) ∧ UR w' b (c || (timesL zs).2) ∧ But b W w' := by
  have hl := hz.mi.len
  unfold maxLen at hl
  obtain ⟨n, hn⟩ : ∃ n, zs.length = n := ⟨_, rfl⟩
  rw [hn] at hl ⊢
  unfold timesL
  go_enter Tryz.func65, Tryz.ntmps65
  go_wp2_with fail
  go_loopw [5, 6] (fun v i wr => ∃ (j : Nat), j ≤ n ∧ i = .int .i64 j ∧ v = .int .i64 (foldF mulF 4294967296 (zs.take j)).1 ∧ UR wr b (c || (foldF mulF 4294967296 (zs.take j)).2) ∧ But b W wr) (fun _ i _ => n - (intOf i).toNat)
  case atStart => exact ⟨0, Nat.zero_le _, rfl, rfl, by simpa [foldF] using h, But.refl _ _⟩
  case round =>
    obtain ⟨j, hj, rfl, rfl, hU, hB⟩ := hrel
    by_cases hjl : j < n
    · have hjl' : (j : Int) < (n : Int) := by omega
      have hj0 : (0 : Int) ≤ (j : Int) := by omega
      have hjz : j < zs.length := by omega
      obtain ⟨x, rfl, hx, hxr⟩ := (hz.but hB).at j hjz
      have hT := Lib.hid (List.take_succ_eq_append_getElem hjz)
      obtain ⟨z, hzj⟩ : ∃ z, zs[j] = z := ⟨_, rfl⟩
      rw [hzj] at hx hxr hT
      clear hzj
      have hS : I64 (foldF mulF 4294967296 (zs.take j)).1 := (foldF_fx mulF mulF_fx 4294967296 (by unfold Fx; omega) _).i64
      have hN := foldF_snoc mulF 4294967296 (zs.take j) z
      generalize foldF mulF 4294967296 (zs.take j) = q at *
      have HN := Lib.hid hN
      clear hN
      go_wp2_with fail
      refine (timesR_is hU q.1 z hS hxr).mono ?_
      rintro e w2 ⟨rfl, h2, hB2⟩
      have hB3 := hB.trans hB2
      clear hB hB2 hU
      go_wp2_with fail
      go_roundw
      case rel => exact ⟨j + 1, by omega, by go_num, by rw [hT.out, HN.out], by rw [hT.out, HN.out, ← Bool.or_assoc]; exact h2, hB3⟩
      case measure => simp [intOf]; omega
    · have hge : ¬ (j : Int) < (n : Int) := by omega
      have hT := Lib.hid (show zs.take j = zs from List.take_of_length_le (by omega))
      go_wp2_with fail
      go_ret
      rw [hT.out] at hU ⊢
      exact ⟨rfl, hU, hB⟩

set_option maxHeartbeats 2000000 in
set_option maxRecDepth 100000 in
theorem dotR_is {W : World} {b : Nat} {c : Bool} (h : UR W b c) {a1 a2 : Option Addr} {k1 k2 : Nat} {xs ys : List Int} (h1 : ML b W a1 k1 xs) (h2 : ML b W a2 k2 ys) (hl : xs.length = ys.length) :
    Calls Tryz.prog 62 #[.pointer (some ⟨b, 0, none⟩), .slice a1 xs.length k1, .slice a2 ys.length k2] W fun e w' => e = .returned (.tuple #[.int .i64 (dotF xs ys).1, .int .i64 0]) ∧ UR w' b (c || (dotF xs ys).2) ∧ But b W w' := by
  have hm := h1.mi.len
  unfold maxLen at hm
  obtain ⟨n, hn⟩ : ∃ n, xs.length = n := ⟨_, rfl⟩
  have hn2 : ys.length = n := by omega
  rw [hn] at hm
  rw [hn, hn2]
  clear hl
  go_enter Tryz.func62, Tryz.ntmps62
  go_wp2_with fail
  go_loopw [8, 9] (fun v i wr => ∃ (j : Nat), j ≤ n ∧ i = .int .i64 j ∧ v = .int .i64 (dotF (xs.take j) (ys.take j)).1 ∧ UR wr b (c || (dotF (xs.take j) (ys.take j)).2) ∧ But b W wr) (fun _ i _ => n - (intOf i).toNat)
  case atStart => exact ⟨0, Nat.zero_le _, rfl, rfl, by simpa [dotF] using h, But.refl _ _⟩
  case round =>
    obtain ⟨j, hj, rfl, rfl, hU, hB⟩ := hrel
    by_cases hjl : j < n
    · have hjl' : (j : Int) < (n : Int) := by omega
      have hj0 : (0 : Int) ≤ (j : Int) := by omega
      have hx1 : j < xs.length := by omega
      have hx2 : j < ys.length := by omega
      obtain ⟨p1, rfl, hx, hxr⟩ := (h1.but hB).at j hx1
      obtain ⟨p2, rfl, hy, hyr⟩ := (h2.but hB).at j hx2
      have HN := Lib.hid (dot_take xs ys j hx1 hx2)
      have hq := (dotF_fx (xs.take j) (ys.take j)).i64
      obtain ⟨z, hz⟩ : ∃ z, xs[j] = z := ⟨_, rfl⟩
      obtain ⟨y, hyj⟩ : ∃ y, ys[j] = y := ⟨_, rfl⟩
      rw [hz] at hx hxr HN
      rw [hyj] at hy hyr HN
      clear hz hyj
      generalize dotF (xs.take j) (ys.take j) = q at *
      have n1 := (h1.ne _ rfl (by omega))
      have n2 := (h2.ne _ rfl (by omega))
      go_wp2_with fail
      have hU1 : UR wr.drew b (c || q.2) := hU.drew
      have hS : DotS wr b p1 p2 j z y wr.drew := ⟨hx, hy, (But.refl _ _).drew, n1, n2⟩
      clear hx hy hU n1 n2
      go_region_held3 (fun W' => DotS wr b p1 p2 j z y W' ∧ W'.cell? (p1.add j) = some (.int .i64 z) ∧ W'.cell? (p2.add j) = some (.int .i64 y))
        (exact DotS.cells (by assumption))
        (first
          | (go_at_call 104; refine (timesR_is hU1 z y hxr hyr).mono ?_; rintro e w3 ⟨rfl, hU3, hB3⟩; have hS3 := DotS.but (by assumption) hB3; clear hB3)
          | (go_at_call 103; refine (plusR_is (by assumption) q.1 (mulF z y).1 hq (mulF_fx z y).i64).mono ?_; rintro e w4 ⟨rfl, hU4, hB4⟩; have hS4 := DotS.but (by assumption) hB4; clear hB4))
      have hB5 := hB.trans hS4.bt
      clear hS hS3 hS4 hU1 hU3
      go_wp2_with fail
      go_roundw
      case rel => exact ⟨j + 1, by omega, by go_num, by rw [HN.out]; rfl, by rw [HN.out]; simpa [dotS, Bool.or_assoc] using hU4, hB5⟩
      case measure => simp [intOf]; omega
    · have hge : ¬ (j : Int) < (n : Int) := by omega
      have hT := Lib.hid (show xs.take j = xs from List.take_of_length_le (by omega))
      have hT2 := Lib.hid (show ys.take j = ys from List.take_of_length_le (by omega))
      go_wp2_with fail
      go_ret2
      rw [hT.out, hT2.out] at hU
      rw [hT.out, hT2.out]
      exact ⟨rfl, hU, hB⟩

end Go.Proofs.YtnofoommindocaaGreat.Base
