/- sym: what is refused; the iterator of pairs. -/
import Derived.Test.YtnofoommindocaaGreatSymP
namespace Go.Proofs.YtnofoommindocaaGreat.Base
open Go.RowKit Go.Shelf Go.ChangeShapes Go.WideShapes Go.Deep
set_option linter.unusedVariables false
set_option linter.unusedSimpArgs false
attribute [local go_sem] Oper.semAt_some

/-- Why no square matrix. -/
def sqV (m : Mt) : Int := if okMt m ∧ m.r = m.c then 0 else 3
set_option maxHeartbeats 1000000 in
set_option maxRecDepth 100000 in
theorem srefuses_is {W : World} {b : Nat} {c0 : Bool} (hU : UP W b c0) (m : Mt) (a : Option Addr) (k : Nat) :
    Calls Tryz.prog 130 #[.pointer (some ⟨b, 0, none⟩), .agg #[.int .i64 m.r, .int .i64 m.c, .slice a m.v.length k]] W fun e w' => e = .returned (.int .i64 (sqV m)) ∧ Below W.heap.size W w' := by
  have hchk := mcheck_is m a k
  obtain ⟨ans, hans⟩ : ∃ ans, sqV m = ans := ⟨_, rfl⟩
  rw [hans]
  have hB0 := upA (upR W) (Obj.cells #[.int .i64 m.r, .int .i64 m.c, .slice a m.v.length k] 78)
  have g0 := Blk.new W #[.int .i64 m.r, .int .i64 m.c, .slice a m.v.length k] 78
  have hD := uDot_ok (hU.keep hB0) none none 0 0
  go_enter Tryz.func130, Tryz.ntmps130
  go_wp2_with fail
  generalize W.alloc (Obj.cells #[.int .i64 m.r, .int .i64 m.c, .slice a m.v.length k] 78) = W1 at *
  refine hD.mono ?_
  rintro e w1 ⟨rfl, rfl⟩
  clear hD
  have c0 := g0.cell
  go_wp2_with fail
  refine (hchk _).mono ?_
  rintro e w2 ⟨rfl, hK⟩
  have g2 := g0.keep hK
  have hB := more hB0 hK
  have c1 := g2.cell
  clear c0 g0 hB0 hK hchk
  by_cases hok : okMt m
  · have h0 : chkMt m = 0 := if_pos hok
    rw [h0]
    by_cases hrc : m.r = m.c
    · have HA := Lib.hid (show ans = 0 by rw [← hans]; exact if_pos ⟨hok, hrc⟩)
      have hb : (m.r == m.c) = true := by simp [hrc]
      clear hans h0
      go_wp2_with fail
      go_ret
      exact ⟨by rw [HA.out]; rfl, hB⟩
    · have HA := Lib.hid (show ans = 3 by rw [← hans]; exact if_neg (fun h => hrc h.2))
      have hb : (m.r == m.c) = false := by simp [hrc]
      clear hans h0
      go_wp2_with fail
      go_ret
      exact ⟨by rw [HA.out]; rfl, hB⟩
  · have HA := Lib.hid (show ans = 3 by rw [← hans]; exact if_neg (fun h => hok h.1))
    rw [chk_ne hok]
    clear hans
    go_wp2_with fail
    go_ret
    exact ⟨by rw [HA.out]; rfl, hB⟩

/-- Pairs, as they are handed on. -/
abbrev Pr (n d : Nat) := {p : Nat × Nat // p.1 + d ≤ p.2 ∧ p.2 < n}
def encQ (n : Nat) {d : Nat} (x : Pr n d) : Array Value := #[.int .i64 ((x.1.1 * n + x.1.2 : Nat) : Int), .int .i64 ((x.1.2 * n + x.1.1 : Nat) : Int)]
theorem pr_small {n i k : Nat} (hn : n ≤ 12) (hi : i < n) (hk : k < n) : ∃ p q a c : Nat, i * n = p ∧ k * n = q ∧ i * n + k = a ∧ k * n + i = c ∧ (i : Int) * (n : Int) = (p : Int) ∧ wrap64 (p : Int) = (p : Int) ∧ (p : Int) + (k : Int) = (a : Int) ∧ wrap64 (a : Int) = (a : Int) ∧
    (k : Int) * (n : Int) = (q : Int) ∧ wrap64 (q : Int) = (q : Int) ∧ (q : Int) + (i : Int) = (c : Int) ∧ wrap64 (c : Int) = (c : Int) := by
  have h1 : i * n ≤ 12 * 12 := Nat.mul_le_mul (by omega) hn
  have h2 : k * n ≤ 12 * 12 := Nat.mul_le_mul (by omega) hn
  refine ⟨i * n, k * n, i * n + k, k * n + i, rfl, rfl, rfl, rfl, by rw [Int.natCast_mul], wrap_small (by omega), by rw [Int.natCast_add], wrap_small (by omega), by rw [Int.natCast_mul], wrap_small (by omega), by rw [Int.natCast_add], wrap_small (by omega)⟩

set_option maxHeartbeats 4000000 in
set_option maxRecDepth 100000 in
theorem pairs1_in (ex : Nat → Prop) (F : Fence) (hF : Base.Free F) (fn : Nat) (hro : F.round = none) (hfn : 1 ≤ fn) (l b1 b2 n₀ n d : Nat) (hn : n ≤ 12) (hd : d ≤ 1) (J Jx : List (Pr n d) → World → Prop)
    (hY : ∀ pre x W, J pre W → pre.length < (prU n d n).length → YieldAt F (fn - 1) Tryz.prog l (encQ n x) W fun e W' =>
      (e = .returned (.bool true) ∧ J (pre ++ [x]) W' ∧ BelowX n₀ ex W W') ∨ (e = .returned (.bool false) ∧ Jx (pre ++ [x]) W'))
    (W : World) (hb1 : W.cell? ⟨b1, 0, none⟩ = some (.int .i64 n)) (hl1 : b1 < n₀ ∧ ¬ ex b1) (hb2 : W.cell? ⟨b2, 0, none⟩ = some (.int .i64 d)) (hl2 : b2 < n₀ ∧ ¬ ex b2) (hn0 : n₀ ≤ W.heap.size) (h0 : J [] W) :
    CallsIn F fn Tryz.prog 231 #[.func (.yield l) #[] #[], .pointer (some ⟨b1, 0, none⟩), .pointer (some ⟨b2, 0, none⟩)] W fun e W' => (∃ v, e = .returned v) ∧
      ((∃ ys : List (Pr n d), ys.map (fun x => x.1) = prU n d n ∧ J ys W') ∨ (∃ pre, True ∧ Jx pre W')) := by
  refine callsIn_of_wp Tryz.func231 rfl (hF.fn 231) ?_ hro
  simp only [Tryz.ntmps231, List.size_toArray, List.length_cons, List.length_nil, Nat.reduceAdd, Nat.reduceSub, Array.replicate_succ, Array.replicate_zero, List.push_toArray, List.append_toArray, List.nil_append, List.cons_append]
  gi_wp2
  gi_loopw [7] (fun v wr => ∃ i : Nat, i ≤ n ∧ v = .int .i64 i ∧ (∃ pre, pre.map (fun x => x.1) = prU n d i ∧ J pre wr) ∧ BelowX n₀ ex W wr) (fun v wr => n - (intOf v).toNat)
  case atStart => exact ⟨0, Nat.zero_le _, rfl, ⟨[], rfl, h0⟩, .refl _ _ _⟩
  case round =>
    obtain ⟨i, hi, rfl, ⟨pre, hpre, hJ⟩, hB⟩ := hrel
    by_cases hlt : i < n
    · have hlt' : (i : Int) < (n : Int) := by omega
      have hi0 : (0 : Int) ≤ (i : Int) := by omega
      obtain ⟨wo, rfl⟩ : ∃ wo : World, wo = wr := ⟨_, rfl⟩
      have c1 := (hB.cell (p := ⟨b1, 0, none⟩) hl1.1 hl1.2).trans hb1
      have c2 := (hB.cell (p := ⟨b2, 0, none⟩) hl2.1 hl2.2).trans hb2
      obtain ⟨s, hs⟩ : ∃ s, i + d = s := ⟨_, rfl⟩
      have e1 : (i : Int) + (d : Int) = (s : Int) := by omega
      have e2 : wrap64 (s : Int) = (s : Int) := wrap_small (by omega)
      have hsn : s ≤ n := by omega
      have HPRE := Lib.hid (show pre.map (fun x => x.1) = prA n d i s by rw [← hs, prA_zero]; exact hpre)
      have HS := Lib.hid hs
      clear hpre hs
      gi_wp2
      gi_loopw [5] (fun v wr => ∃ k : Nat, s ≤ k ∧ k ≤ n ∧ v = .int .i64 k ∧ (∃ pre, Hid (pre.map (fun x => x.1) = prA n d i k) ∧ J pre wr) ∧ BelowX n₀ ex W wr) (fun v wr => n - (intOf v).toNat)
      case atStart => exact ⟨s, Nat.le_refl _, hsn, rfl, ⟨pre, HPRE, hJ⟩, hB⟩
      case round =>
        clear c1 c2 hB hJ HPRE
        obtain ⟨k, hsk, hk, rfl, ⟨pre, hpre, hJ⟩, hB⟩ := hrel
        have c1 := (hB.cell (p := ⟨b1, 0, none⟩) hl1.1 hl1.2).trans hb1
        have c2 := (hB.cell (p := ⟨b2, 0, none⟩) hl2.1 hl2.2).trans hb2
        by_cases hkn : k < n
        · have hkn' : (k : Int) < (n : Int) := by omega
          have hk0 : (0 : Int) ≤ (k : Int) := by omega
          have hik : i + d ≤ k := by have := HS.out; omega
          obtain ⟨p, q, a, c, hp, hq, ha, hc, f1, f2, f3, f4, f5, f6, f7, f8⟩ := pr_small hn hlt hkn
          obtain ⟨fn', tmps, assign, body, hy, hR⟩ := hY pre ⟨(i, k), hik, hkn⟩ wr hJ (by have := congrArg List.length hpre.out; rw [List.length_map] at this; rw [this]; exact prA_lt hlt hkn hik)
          have HT := Lib.hid (prA_step n hik)
          unfold encQ at hy
          dsimp only at hy
          rw [ha, hc] at hy
          have HB := Lib.hid hB
          clear hY hJ hB hp hq ha hc hb1 hb2 e1 e2 hi0
          gi_wp2
          refine hR.mono ?_
          rintro e W3 (⟨rfl, hJ3, hk3⟩ | ⟨rfl, hJx3⟩)
          · clear f1 f2 f3 f4 f5 f6 f7 f8
            gi_wp2
            go_roundw
            case rel => exact ⟨k + 1, by omega, by omega, by go_num, ⟨_, Lib.hid (by rw [List.map_append, hpre.out, HT.out]; rfl), hJ3⟩, HB.out.trans hk3⟩
            case measure => simp [intOf]; omega
          · gi_wp2
            refine bodyPost_ret (results_none rfl _ _ _) rfl ?_
            exact ⟨⟨_, rfl⟩, .inr ⟨_, trivial, hJx3⟩⟩
        · have hge : ¬ (k : Int) < (n : Int) := by omega
          have HK := Lib.hid (show k = n by omega)
          gi_wp2
          go_roundw
          case rel => exact ⟨i + 1, by omega, by go_num, ⟨pre, by rw [hpre.out, HK.out, prA_full], hJ⟩, hB⟩
          case measure => simp [intOf]; omega
    · have hge : ¬ (i : Int) < (n : Int) := by omega
      have HI := Lib.hid (show i = n by omega)
      gi_wp2
      go_end0
      rw [HI.out] at hpre
      exact ⟨⟨_, rfl⟩, .inl ⟨pre, hpre, hJ⟩⟩

theorem pairs_is (n d : Nat) (w : World) :
    Calls Tryz.prog 201 #[.int .i64 n, .int .i64 d] w fun e w' => e = .returned (.func (.func 231) #[] #[.pointer (some ⟨w.heap.size, 0, none⟩), .pointer (some ⟨w.heap.size + 1, 0, none⟩)]) ∧ (w.alloc (.cells #[.int .i64 n] 3)).alloc (.cells #[.int .i64 d] 3) = w' := by
  go_enter Tryz.func201, Tryz.ntmps201
  go_wp2
  go_ret
  exact ⟨rfl, rfl⟩
theorem pairs_stops (ex : Nat → Prop) (F : Fence) (hF : Base.Free F) (fn : Nat) (hro : F.round = none) (hfn : 1 ≤ fn) (b1 b2 n₀ n d : Nat) (hn : n ≤ 12) (hd : d ≤ 1) (w : World)
    (hb1 : w.cell? ⟨b1, 0, none⟩ = some (.int .i64 n)) (hl1 : b1 < n₀ ∧ ¬ ex b1) (hb2 : w.cell? ⟨b2, 0, none⟩ = some (.int .i64 d)) (hl2 : b2 < n₀ ∧ ¬ ex b2) (hn0 : n₀ ≤ w.heap.size) :
    SeqStopsK F fn Tryz.prog 231 #[.pointer (some ⟨b1, 0, none⟩), .pointer (some ⟨b2, 0, none⟩)] (fun x : Pr n d => encQ n x) (BelowX n₀ ex) (fun ys => ys.map (fun x => x.1) = prU n d n) (fun _ => True) (prU n d n).length w := fun l J Jx W hW hJ _ hY h0 =>
  pairs1_in ex F hF fn hro hfn l b1 b2 n₀ n d hn hd J Jx hY W ((hW.cell (p := ⟨b1, 0, none⟩) (Nat.lt_of_lt_of_le hl1.1 hn0)).trans hb1) hl1
    ((hW.cell (p := ⟨b2, 0, none⟩) (Nat.lt_of_lt_of_le hl2.1 hn0)).trans hb2) hl2 (Nat.le_trans hn0 hW.size) h0

end Go.Proofs.YtnofoommindocaaGreat.Base
