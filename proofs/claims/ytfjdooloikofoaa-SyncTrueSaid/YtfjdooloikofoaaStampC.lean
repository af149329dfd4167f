/- StampKnown: the chapter's examples of stamps and lags are answered as it says; no conditions. -/
import Derived.Test.YtfjdooloikofoaaStampB
namespace Go.Proofs.Ytfjdooloikofoaa.StampA
open Go.RowKit

/-- Block b is a record that was made, with these numbers; below B nothing has turned since w0. -/
structure Rec (w : World) (b : Nat) (n m lo hi : Int) : Prop where
  blk : w.heap[b]? = some (recObj true n m lo hi)

structure Old (w0 w : World) : Prop where
  below : Below w0.heap.size w0 w

theorem Rec.keep {w w' : World} {b : Nat} {n m lo hi : Int} (h : Rec w b n m lo hi) (hb : Below w.heap.size w w') : Rec w' b n m lo hi :=
  ⟨(hb.block b (Array.getElem?_eq_some_iff.1 h.blk).1).trans h.blk⟩
theorem Rec.but {w w' : World} {b c : Nat} {n m lo hi : Int} (h : Rec w b n m lo hi) (hne : b ≠ c) (hb : But c w w') : Rec w' b n m lo hi :=
  ⟨(hb.block b (Array.getElem?_eq_some_iff.1 h.blk).1 hne).trans h.blk⟩
theorem Old.keep {w0 w w' : World} (h : Old w0 w) (hb : Below w.heap.size w w') : Old w0 w' := ⟨h.below.trans (hb.mono h.below.size)⟩
theorem Old.but {w0 w w' : World} {b : Nat} (h : Old w0 w) (hb : But b w w') (hle : w0.heap.size ≤ b) : Old w0 w' :=
  ⟨h.below.trans ⟨hb.os, hb.tape, hb.output, hb.size, fun k hk => hb.block k (Nat.lt_of_lt_of_le hk h.below.size) (by omega)⟩⟩

theorem count_R {w : World} {b : Nat} {n m lo hi : Int} (h : Rec w b n m lo hi) :
    Calls Try.prog 18 #[.pointer (some ⟨b, 0, none⟩)] w fun e w' => e = .returned (.int .i64 n) ∧ Below w.heap.size w w' := count_rec b w n m lo hi h.blk
theorem least_R {w : World} {b : Nat} {n m lo hi : Int} (h : Rec w b n m lo hi) :
    Calls Try.prog 19 #[.pointer (some ⟨b, 0, none⟩)] w fun e w' => e = .returned (.int .i64 lo) ∧ Below w.heap.size w w' := least_rec b w n m lo hi h.blk
theorem most_R {w : World} {b : Nat} {n m lo hi : Int} (h : Rec w b n m lo hi) :
    Calls Try.prog 20 #[.pointer (some ⟨b, 0, none⟩)] w fun e w' => e = .returned (.int .i64 hi) ∧ Below w.heap.size w w' := most_rec b w n m lo hi h.blk
theorem mean_R {w : World} {b : Nat} {n m lo hi : Int} (h : Rec w b n m lo hi) :
    Calls Try.prog 21 #[.pointer (some ⟨b, 0, none⟩)] w fun e w' => e = .returned (.int .i64 m) ∧ Below w.heap.size w w' := mean_rec b w n m lo hi h.blk
theorem new_R (w : World) :
    Calls Try.prog 22 #[] w fun e w' => ∃ b, e = .returned (.pointer (some ⟨b, 0, none⟩)) ∧ w.heap.size ≤ b ∧ Rec w' b 0 0 0 0 ∧ Below w.heap.size w w' :=
  (new_any w).mono fun _ _ ⟨b, he, hb, hr, _, hB⟩ => ⟨b, he, Nat.le_of_eq hb.symm, ⟨hr⟩, hB⟩
theorem add_first_R {w : World} {b : Nat} {m lo hi : Int} (x : Int) (hx : 0 ≤ x) (hx2 : x ≤ 1099511627776) (h : Rec w b 0 m lo hi) :
    Calls Try.prog 17 #[.pointer (some ⟨b, 0, none⟩), .int .i64 x] w fun e w' => e = .returned (.int .i64 0) ∧ Rec w' b 1 x x x ∧ But b w w' :=
  (add_first b w x m lo hi hx hx2 h.blk).mono fun _ _ ⟨he, hr, hB⟩ => ⟨he, ⟨hr⟩, hB⟩
theorem add_next_R {w : World} {b : Nat} {n m lo hi : Int} (x : Int) (hx : 0 ≤ x) (hx2 : x ≤ 1099511627776) (hn : 1 ≤ n) (hn2 : n ≤ 1000000) (hm : 0 ≤ m) (hm2 : m ≤ 1099511627776) (h : Rec w b n m lo hi) :
    Calls Try.prog 17 #[.pointer (some ⟨b, 0, none⟩), .int .i64 x] w fun e w' => e = .returned (.int .i64 0) ∧ Rec w' b (n + 1) ((7 * m + x) / 8) (min lo x) (max hi x) ∧ But b w w' :=
  (add_next b w x n m lo hi hx hx2 hn hn2 hm hm2 h.blk).mono fun _ _ ⟨he, hr, hB⟩ => ⟨he, ⟨hr⟩, hB⟩

theorem at_ok (a0 a1 : Int) (a2 : Bool) (a3 a4 a5 a6 : Int) (w : World) (h : Pure.ans a0 a1 a2 a3 a4 = (a5, a6)) :
    Calls Try.prog 24 #[.int .i64 a0, .int .i64 a1, .bool a2, .int .i64 a3, .int .i64 a4, .int .i64 a5, .int .i64 a6] w fun e w' => e = .returned (.bool true) ∧ Below w.heap.size w w' :=
  PStampTells.binnaclelaw17_at.calls 4 a0 a1 a2 a3 a4 a5 a6 true w (by
    unfold PStampTells.binnaclelaw17_at.f
    have := Pure.at_f 0 a0 a1 a2 a3 a4
    rw [Nat.zero_add] at this
    rw [this, h]
    simp)

theorem known_walk (w : World) : Calls Try.prog 6 #[] w fun e w' => e = .returned (.bool true) ∧ Below w.heap.size w w' := by
  have hO : Old w w := ⟨Below.refl _ _⟩
  go_enter Try.func6, Try.ntmps6
  go_wp2_with fail
  refine (new_R _).mono ?_
  rintro e w1 ⟨b, rfl, hb, hR, hK⟩
  replace hO := hO.keep hK
  clear hK
  go_wp2_with fail
  refine (add_first_R _ (by omega) (by omega) hR).mono ?_
  rintro e w2 ⟨rfl, hR2, hK⟩
  replace hO := hO.but hK hb
  clear hK hR
  go_wp2_with fail
  refine (add_next_R _ (by omega) (by omega) (by omega) (by omega) (by omega) (by omega) hR2).mono ?_
  rintro e w3 ⟨rfl, hR3, hK⟩
  replace hO := hO.but hK hb
  clear hK hR2
  go_wp2_with fail
  refine (add_out b _ (-1) _ _ _ _ (by omega) hR3.blk).mono ?_
  rintro e w' ⟨rfl, rfl⟩
  go_wp2_with fail
  refine (at_ok 300 5 true 200 10 0 10 _ (by decide +kernel)).mono ?_
  rintro e w4 ⟨rfl, hK⟩
  replace hO := hO.keep hK
  replace hR3 := hR3.keep hK
  clear hK
  go_wp2_with fail
  refine (at_ok 3 (-5) true 200 10 0 4 _ (by decide +kernel)).mono ?_
  rintro e w5 ⟨rfl, hK⟩
  replace hO := hO.keep hK
  replace hR3 := hR3.keep hK
  clear hK
  go_wp2_with fail
  refine (at_ok 0 1099511627777 true 0 0 0 2 _ (by decide +kernel)).mono ?_
  rintro e w6 ⟨rfl, hK⟩
  replace hO := hO.keep hK
  replace hR3 := hR3.keep hK
  clear hK
  go_wp2_with fail
  refine (awake_ok _).mono ?_
  rintro e w7 ⟨rfl, hK⟩
  replace hO := hO.keep hK
  replace hR3 := hR3.keep hK
  clear hK
  go_wp2_with fail
  refine (count_R hR3).mono ?_
  rintro e w8 ⟨rfl, hK⟩
  replace hO := hO.keep hK
  replace hR3 := hR3.keep hK
  clear hK
  go_wp2_with fail
  refine (least_R hR3).mono ?_
  rintro e w9 ⟨rfl, hK⟩
  replace hO := hO.keep hK
  replace hR3 := hR3.keep hK
  clear hK
  go_wp2_with fail
  refine (most_R hR3).mono ?_
  rintro e w10 ⟨rfl, hK⟩
  replace hO := hO.keep hK
  replace hR3 := hR3.keep hK
  clear hK
  go_wp2_with fail
  refine (mean_R hR3).mono ?_
  rintro e w11 ⟨rfl, hK⟩
  replace hO := hO.keep hK
  clear hK
  go_wp2_with fail
  go_ret
  exact ⟨by rfl, hO.below⟩

end Go.Proofs.Ytfjdooloikofoaa.StampA
