/- snap: whether acts are more than are gone through. No conditions. -/
import Derived.Test.YtagakcnhhhlolaaSnP
namespace Go.Proofs.Ytagakcnhhhlolaa.Base
open Go.RowKit
set_option linter.unusedVariables false
set_option linter.unusedSimpArgs false

/-- What long looks at in an act. -/
structure AcB (W : World) (y : Addr) (m : Mrk) (aX : Option Addr) (cX : Nat) (aP : Option Addr) (cP : Nat) (aH : Option Addr) (cH : Nat) (aR : Option Addr) (cR : Nat) : Prop where
  rg : W.rangeAt y.block (y.off + 2) [Value.int .i64 m.b.t, Value.slice aX m.b.X.length cX, Value.slice aP m.b.P.length cP, Value.bool m.b.flag, Value.int .i64 m.b.pass, Value.int .i64 m.b.fail]
  h : W.cell? ⟨y.block, y.off + 8 + 1, none⟩ = some (Value.slice aH m.t.H.length cH)
  r : W.cell? ⟨y.block, y.off + 8 + 2, none⟩ = some (Value.slice aR m.t.R.length cR)
  mb : MB 0 W (Value.agg #[Value.int .i64 m.b.t, Value.slice aX m.b.X.length cX, Value.slice aP m.b.P.length cP, Value.bool m.b.flag, Value.int .i64 m.b.pass, Value.int .i64 m.b.fail]) m.b
theorem AcB.keep {W W' : World} {y : Addr} {m : Mrk} {aX aP aH aR : Option Addr} {cX cP cH cR : Nat} (h : AcB W y m aX cX aP cP aH cH aR cR) (hb : Below W.heap.size W W') : AcB W' y m aX cX aP cP aH cH aR cR := by
  have k : ∀ (y : Addr) v, W.cell? y = some v → W'.cell? y = some v := fun y v hv => (hb.cell (World.block_lt_of_cell? W _ hv)).trans hv
  exact ⟨fun j v hj => k _ _ (h.rg j v hj), k _ _ h.h, k _ _ h.r, h.mb.keep hb⟩
theorem AcAt.acb {W : World} {y : Addr} {q : Ac} (h : AcAt W y q) : ∃ aX cX aP cP aH cH aR cR, AcB W y q.m aX cX aP cP aH cH aR cR ∧ q.m.t.H.length ≤ maxLen ∧ q.m.t.R.length ≤ maxLen := by
  obtain ⟨cs, hc, h2⟩ := h.ex
  obtain ⟨aX, cX, aP, cP, aH, cH, aR, cR, rfl, q1, q2, q3, q4⟩ := hc.km
  have ad : ∀ n, 0 < n → y.add n = ⟨y.block, y.off + n, none⟩ := fun n hn => by unfold Addr.add; rw [if_neg (by omega)]
  refine ⟨aX, cX, aP, cP, aH, cH, aR, cR, ⟨fun j v hj => ?_, ?_, ?_, mark_mb q1 q2 hc.t hc.pass hc.fail⟩, q3.len, q4.len⟩
  · have hjl : j < 6 := (List.getElem?_eq_some_iff.1 hj).1
    have := h2 (2 + j) v (by
      rw [Nat.add_comm]
      rw [← hj]
      have hjc : j = 0 ∨ j = 1 ∨ j = 2 ∨ j = 3 ∨ j = 4 ∨ j = 5 := by omega
      rcases hjc with rfl | rfl | rfl | rfl | rfl | rfl <;> rfl)
    rw [ad _ (by omega)] at this
    rw [Nat.add_assoc]
    exact this
  · have := h2 9 _ rfl
    rw [ad _ (by omega)] at this
    exact this
  · have := h2 10 _ rfl
    rw [ad _ (by omega)] at this
    exact this
/-- An act of moderate length; calls that are gone through. -/
def AcOk (q : Ac) : Prop := q.m.b.X.length ≤ 12 ∧ q.m.b.P.length ≤ 40 ∧ q.m.t.H.length ≤ 50 ∧ q.m.t.R.length ≤ 50
def Short (qs : List Ac) : Prop := qs.length ≤ 60 ∧ ∀ q ∈ qs, AcOk q
/-- One round's look: the last of the region's values. -/
def lookV (m : Mrk) : Bool := (decide (12 < m.b.X.length) || decide (40 < m.b.P.length)) || decide (50 < m.t.H.length) || decide (50 < m.t.R.length)
set_option maxHeartbeats 16000000 in
set_option maxRecDepth 100000 in
theorem long_is {W : World} {a : Option Addr} {c : Nat} {qs : List Ac} (h : MAc W a c qs) :
    Calls Try.prog 42 #[.slice a qs.length c] W fun e w' => (e = .returned (.bool true) ∨ (e = .returned (.bool false) ∧ Short qs)) ∧ Below W.heap.size W w' := by
  have hql := h.len
  unfold maxLen at hql
  obtain ⟨nq, hnq⟩ : ∃ n, qs.length = n := ⟨_, rfl⟩
  have HNQ := Lib.hid hnq
  rw [hnq] at hql ⊢
  clear hnq
  have HA := Lib.hid h
  clear h
  go_enter Try.func42, Try.ntmps42
  go_wp2_with fail
  go_loopw [3] (fun i wr => ∃ (kk : Nat), kk ≤ nq ∧ kk ≤ 61 ∧ i = .int .i64 kk ∧ Hid (∀ j, (hj : j < qs.length) → j < kk → AcOk qs[j]) ∧ Below W.heap.size W wr) (fun i _ => 61 - (intOf i).toNat)
  case atStart => exact ⟨0, Nat.zero_le _, by omega, rfl, fun j _ hj => absurd hj (by omega), Below.refl _ _⟩
  case round =>
    obtain ⟨kk, hk, hk2, rfl, hS0, hBr⟩ := hrel
    by_cases hkl : kk < nq ∧ kk < 61
    · obtain ⟨hkn, hk61⟩ := hkl
      have hkl' : (kk : Int) < (nq : Int) := by omega
      have hkl2 : (kk : Int) < 61 := by omega
      have hk0 : (0 : Int) ≤ (kk : Int) := by omega
      have hkz : kk < qs.length := by rw [HNQ.out]; exact hkn
      obtain ⟨x, rfl, hat⟩ := HA.out.at_ kk hkz
      obtain ⟨aX, cX, aP, cP, aH, cH, aR, cR, hac, hlh, hlr⟩ := hat.acb
      unfold maxLen at hlh hlr
      obtain ⟨y, hy⟩ : ∃ y, x.add (kk * 13) = y := ⟨_, rfl⟩
      rw [hy] at hac
      have HY := Lib.hid hy
      have HKN := Lib.hid hkl'
      have HK0 := Lib.hid hk0
      have hAC0 := hac.keep hBr
      clear hy hat hac
      obtain ⟨m, hm⟩ : ∃ m, qs[kk].m = m := ⟨_, rfl⟩
      obtain ⟨nh, hnh⟩ : ∃ n, m.t.H.length = n := ⟨_, rfl⟩
      obtain ⟨nr, hnr⟩ : ∃ n, m.t.R.length = n := ⟨_, rfl⟩
      rw [hm] at hAC0 hlh hlr
      rw [hnh] at hlh
      rw [hnr] at hlr
      have HM := Lib.hid hm
      have HNH := Lib.hid hnh
      have HNR := Lib.hid hnr
      clear hm hnh hnr
      have hrg := hAC0.rg
      rw [← HY.out] at hrg
      have z0 := hrg 0 _ rfl
      have z1 := hrg 1 _ rfl
      have z2 := hrg 2 _ rfl
      have z3 := hrg 3 _ rfl
      have z4 := hrg 4 _ rfl
      have z5 := hrg 5 _ rfl
      simp at z0 z1 z2 z3 z4 z5
      have hAC := Lib.hid hAC0
      clear hrg hAC0
      go_wp2_with fail
      refine (longBelief_is (hAC.out.mb)).mono ?_
      rintro e w6 ⟨rfl, hK6⟩
      clear z0 z1 z2 z3 z4 z5
      have hAC6 := hAC.out.keep hK6
      replace hBr := more hBr hK6
      have zh := hAC6.h
      have zr := hAC6.r
      rw [← HY.out] at zh zr
      rw [HNH.out] at zh
      rw [HNR.out] at zr
      clear hAC hAC6 hK6
      obtain ⟨lb, hlb⟩ : ∃ r, (decide (12 < m.b.X.length) || decide (40 < m.b.P.length)) = r := ⟨_, rfl⟩
      rw [hlb]
      have HLB := Lib.hid hlb
      clear hlb
      cases lb with
      | true =>
        go_wp2_with fail
        go_ret
        exact ⟨.inl rfl, hBr⟩
      | false =>
        by_cases g : 50 < nh
        · have g' : (50 : Int) < (nh : Int) := by omega
          go_wp2_with fail
          go_ret
          exact ⟨.inl rfl, hBr⟩
        · have g' : ¬ (50 : Int) < (nh : Int) := by omega
          by_cases g2 : 50 < nr
          · have g2' : (50 : Int) < (nr : Int) := by omega
            go_wp2_with fail
            go_ret
            exact ⟨.inl rfl, hBr⟩
          · have g2' : ¬ (50 : Int) < (nr : Int) := by omega
            have HG := Lib.hid (show AcOk qs[kk] from by
              have e := HLB.out
              simp at e
              refine ⟨?_, ?_, ?_, ?_⟩
              · rw [HM.out]; exact e.1
              · rw [HM.out]; exact e.2
              · rw [HM.out, HNH.out]; omega
              · rw [HM.out, HNR.out]; omega)
            go_wp2_with fail
            go_roundw
            case rel =>
              refine ⟨kk + 1, by omega, by omega, by go_num, Lib.hid fun j hj hjk => ?_, hBr⟩
              by_cases e : j = kk
              · subst e; exact HG.out
              · exact hS0.out j hj (by omega)
            case measure => simp [intOf]; omega
    · by_cases hkn : kk < nq
      · have hkl' : (kk : Int) < (nq : Int) := by omega
        have hkl2 : ¬ (kk : Int) < 61 := by omega
        have g3' : (60 : Int) < (nq : Int) := by omega
        go_wp2_with fail
        go_ret
        exact ⟨.inl rfl, hBr⟩
      · have hkl' : ¬ (kk : Int) < (nq : Int) := by omega
        by_cases g3 : 60 < nq
        · have g3' : (60 : Int) < (nq : Int) := by omega
          go_wp2_with fail
          go_ret
          exact ⟨.inl rfl, hBr⟩
        · have g3' : ¬ (60 : Int) < (nq : Int) := by omega
          go_wp2_with fail
          go_ret
          refine ⟨.inr ⟨rfl, by rw [HNQ.out]; omega, fun q hq => ?_⟩, hBr⟩
          obtain ⟨j, hj, rfl⟩ := List.getElem_of_mem hq
          exact hS0.out j hj (by rw [HNQ.out] at hj; omega)

end Go.Proofs.Ytagakcnhhhlolaa.Base
