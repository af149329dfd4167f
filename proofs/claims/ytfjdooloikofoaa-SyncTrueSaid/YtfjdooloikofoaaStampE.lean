/- StampMean: a mean lies between the ends, which are some of the lags; the same lag again and again is the mean; no conditions. -/
import Derived.Test.YtfjdooloikofoaaStampD
namespace Go.Proofs.Ytfjdooloikofoaa.StampA
open Go.RowKit
set_option linter.unusedVariables false

/-- What is known of a record behind k lags f 0, f 1, .. -/
structure Inv (f : Nat → Int) (k : Nat) (m lo hi : Int) : Prop where
  m0 : 0 ≤ m
  m1 : m ≤ 1099511627776
  more : 1 ≤ k → lo ≤ m ∧ m ≤ hi ∧ (∀ j, j < k → lo ≤ f j ∧ f j ≤ hi) ∧ (∃ j, j < k ∧ f j = lo) ∧ (∃ j, j < k ∧ f j = hi)

theorem Inv.zero (f : Nat → Int) : Inv f 0 0 0 0 := ⟨by omega, by omega, fun h => absurd h (by omega)⟩

theorem Inv.first {f : Nat → Int} {x : Int} (h : f 0 = x) (h0 : 0 ≤ x) (h1 : x ≤ 1099511627776) : Inv f 1 x x x :=
  ⟨h0, h1, fun _ => ⟨by omega, by omega, fun j hj => by obtain rfl : j = 0 := by omega
                                                        omega, ⟨0, by omega, h⟩, ⟨0, by omega, h⟩⟩⟩

theorem Inv.next {f : Nat → Int} {k : Nat} {m lo hi x : Int} (i : Inv f k m lo hi) (hk : 1 ≤ k) (h : f k = x) (h0 : 0 ≤ x) (h1 : x ≤ 1099511627776) :
    Inv f (k + 1) ((7 * m + x) / 8) (min lo x) (max hi x) := by
  obtain ⟨a, b, c, ⟨j1, d, e⟩, ⟨j2, g, l⟩⟩ := i.more hk
  have m0 := i.m0
  have m1 := i.m1
  refine ⟨by omega, by omega, fun _ => ⟨by omega, by omega, fun j hj => ?_, ?_, ?_⟩⟩
  · by_cases hjk : j = k
    · subst hjk; omega
    · have := c j (by omega); omega
  · by_cases hlt : x < lo
    · exact ⟨k, by omega, by omega⟩
    · exact ⟨j1, by omega, by omega⟩
  · by_cases hlt : hi < x
    · exact ⟨k, by omega, by omega⟩
    · exact ⟨j2, by omega, by omega⟩

theorem add_J {w : World} {b : Nat} {f : Nat → Int} {k : Nat} {m lo hi : Int} (x : Int) (hx : 0 ≤ x) (hx2 : x ≤ 1099511627776) (hk : k ≤ 1000000) (hf : f k = x) (h : Rec w b k m lo hi) (i : Inv f k m lo hi) :
    Calls Try.prog 17 #[.pointer (some ⟨b, 0, none⟩), .int .i64 x] w fun e w' => ∃ m' lo' hi', e = .returned (.int .i64 0) ∧ Rec w' b ((k : Int) + 1) m' lo' hi' ∧ Inv f (k + 1) m' lo' hi' ∧ But b w w' := by
  by_cases hz : k = 0
  · subst hz
    exact (add_first_R x hx hx2 h).mono fun _ _ ⟨he, hr, hB⟩ => ⟨_, _, _, he, hr, .first hf hx hx2, hB⟩
  · exact (add_next_R x hx hx2 (by omega) (by omega) i.m0 i.m1 h).mono fun _ _ ⟨he, hr, hB⟩ => ⟨_, _, _, he, hr, i.next (by omega) hf hx hx2, hB⟩

/-- A slice of numbers that came in. -/
structure Ints (w : World) (a : Option Addr) (len : Nat) (zs : List Int) : Prop where
  cell : ∀ k, k < len → ∃ x : Addr, a = some x ∧ w.cell? (x.add k) = some (.int .i64 (zs[k]?.getD 0)) ∧ -9223372036854775808 ≤ zs[k]?.getD 0 ∧ zs[k]?.getD 0 ≤ 9223372036854775807

structure Seen (f : Nat → Int) (n : Nat) (t : Int) (b : Bool) : Prop where
  iff : b = true ↔ ∃ j, j < n ∧ f j = t

theorem Seen.next {f : Nat → Int} {n : Nat} {x t : Int} {b b' : Bool} (hx : f n = x) (h : Seen f n t b) (hb : b' = (b || (x == t))) : Seen f (n + 1) t b' := by
  refine ⟨?_⟩
  have hb' : b' = true ↔ (b = true ∨ x = t) := by rw [hb]; simp
  rw [hb', h.iff]
  constructor
  · rintro (⟨j, h1, h2⟩ | h1)
    · exact ⟨j, by omega, h2⟩
    · exact ⟨n, by omega, by omega⟩
  · rintro ⟨j, h1, h2⟩
    by_cases e : j = n
    · subst e; exact .inr (by omega)
    · exact .inl ⟨j, by omega, h2⟩
theorem Seen.zero (f : Nat → Int) (t : Int) : Seen f 0 t false := ⟨by simp⟩

set_option maxHeartbeats 2000000 in
set_option maxRecDepth 100000 in
theorem mean_core (a : Option Addr) (len cap : Nat) (zs : List Int) (same : Int) (w : World) (hI : Ints w a len zs) (hs0 : -9223372036854775808 ≤ same) (hs1 : same ≤ 9223372036854775807) (hlen : len ≤ 17592186044416) :
    Calls Try.prog 8 #[.slice a len cap, .int .i64 same] w fun e w' => e = .returned (.bool true) ∧ Below w.heap.size w w' := by
  have hO : Old w w := ⟨Below.refl _ _⟩
  go_enter Try.func8, Try.ntmps8
  go_wp2_with fail
  refine (known_walk _).mono ?_
  rintro e w1 ⟨rfl, hK⟩
  replace hO := hO.keep hK
  clear hK
  go_wp2_with fail
  refine (new_R _).mono ?_
  rintro e w2 ⟨br, rfl, hbr, hR, hK⟩
  have hbr2 := hO.below.size
  replace hO := hO.keep hK
  have hlt : br < w2.heap.size := (Array.getElem?_eq_some_iff.1 hR.blk).1
  clear hK
  go_wp2_with fail
  refine (new_R _).mono ?_
  rintro e w3 ⟨bs, rfl, hbs, hS, hK⟩
  replace hO := hO.keep hK
  replace hR := hR.keep hK
  have hne : br ≠ bs := by omega
  have hbr3 : w.heap.size ≤ br := by omega
  have hbs3 : w.heap.size ≤ bs := by omega
  clear hK hbr hbr2 hbs hlt
  by_cases h60 : 60 < len
  · have h60' : (60 : Int) < (len : Int) := by omega
    go_wp2_with fail
    go_ret
    exact ⟨rfl, hO.below⟩
  have h60' : (len : Int) ≤ 60 := by omega
  go_wp2_with fail
  refine (pick_some _ _ _ (by omega) (by omega) (by omega) (by omega)).mono ?_
  rintro e w' ⟨s, rfl, hs, hs2, rfl⟩
  go_wp2_with fail
  have hS0 : Rec w3 bs ((0 : Nat) : Int) 0 0 0 := hS
  have hR0 : Rec w3 br ((0 : Nat) : Int) 0 0 0 := hR
  obtain ⟨f, hf⟩ : ∃ f : Nat → Int, f = fun k => (zs[k]?.getD 0) % 1099511627777 := ⟨_, rfl⟩
  have HF := Lib.hid hf
  have i0 : Inv f 0 0 0 0 := .zero f
  have i0' : Inv (fun _ => s) 0 0 0 0 := .zero _
  clear hR hS hf
  go_loopw [10] (fun i wr => ∃ (k : Nat) (m lo hi m2 lo2 hi2 : Int), k ≤ len ∧ i = .int .i64 k ∧ Rec wr br k m lo hi ∧ Inv f k m lo hi ∧ Rec wr bs k m2 lo2 hi2 ∧ Inv (fun _ => s) k m2 lo2 hi2 ∧ Old w wr) (fun i _ => len - (intOf i).toNat)
  case atStart => exact ⟨0, 0, 0, 0, 0, 0, 0, Nat.zero_le _, rfl, hR0, i0, hS0, i0', hO⟩
  case round =>
    clear hR0 hS0 i0 i0' hO
    obtain ⟨k, m, lo, hi, m2, lo2, hi2, hk, rfl, hR, iR, hS, iS, hO⟩ := hrel
    by_cases hkl : k < len
    · have hkl' : (k : Int) < (len : Int) := by omega
      have hk60 : (k : Int) < 60 := by omega
      obtain ⟨ad, rfl, hc, hz0, hz1⟩ := hI.cell k hkl
      have hcr := (hO.below.cell (World.block_lt_of_cell? w _ hc)).trans hc
      go_wp2_with fail
      refine (pick_any _ _ _ (by omega) (by omega) (by omega) (by omega)).mono ?_
      rintro e w' ⟨rfl, rfl⟩
      have hfk : f k = (zs[k]?.getD 0) % 1099511627777 := by rw [HF.out]
      have hx0 : 0 ≤ (zs[k]?.getD 0) % 1099511627777 := by omega
      have hx1 : (zs[k]?.getD 0) % 1099511627777 ≤ 1099511627776 := by omega
      generalize (zs[k]?.getD 0) % 1099511627777 = x at *
      have HX := Lib.hid hfk
      clear hfk hc hcr hz0 hz1
      go_wp2_with fail
      refine (add_J x hx0 hx1 (by omega) HX.out hR iR).mono ?_
      rintro e w4 ⟨m', lo', hi', rfl, hR', iR', hK⟩
      have hO4 := hO.but hK hbr3
      have hS4 := hS.but hne.symm hK
      obtain ⟨q1, q2, q3, _, _⟩ := iR'.more (by omega)
      obtain ⟨q4, q5⟩ := q3 k (by omega)
      rw [HX.out] at q4 q5
      clear hK hR hS hO iR q3
      go_wp2_with fail
      refine (mean_R hR').mono ?_
      rintro e v1 ⟨rfl, hK⟩
      replace hO4 := hO4.keep hK
      replace hR' := hR'.keep hK
      replace hS4 := hS4.keep hK
      clear hK
      go_wp2_with fail
      refine (least_R hR').mono ?_
      rintro e v2 ⟨rfl, hK⟩
      replace hO4 := hO4.keep hK
      replace hR' := hR'.keep hK
      replace hS4 := hS4.keep hK
      clear hK
      go_wp2_with fail
      refine (mean_R hR').mono ?_
      rintro e v3 ⟨rfl, hK⟩
      replace hO4 := hO4.keep hK
      replace hR' := hR'.keep hK
      replace hS4 := hS4.keep hK
      clear hK
      go_wp2_with fail
      refine (most_R hR').mono ?_
      rintro e v4 ⟨rfl, hK⟩
      replace hO4 := hO4.keep hK
      replace hR' := hR'.keep hK
      replace hS4 := hS4.keep hK
      clear hK
      go_wp2_with fail
      refine (count_R hR').mono ?_
      rintro e v5 ⟨rfl, hK⟩
      replace hO4 := hO4.keep hK
      replace hR' := hR'.keep hK
      replace hS4 := hS4.keep hK
      clear hK
      go_wp2_with fail
      refine (least_R hR').mono ?_
      rintro e v6 ⟨rfl, hK⟩
      replace hO4 := hO4.keep hK
      replace hR' := hR'.keep hK
      replace hS4 := hS4.keep hK
      clear hK
      go_wp2_with fail
      refine (most_R hR').mono ?_
      rintro e v7 ⟨rfl, hK⟩
      replace hO4 := hO4.keep hK
      replace hR' := hR'.keep hK
      replace hS4 := hS4.keep hK
      clear hK
      go_wp2_with fail
      refine (add_J s hs (by omega) (by omega) rfl hS4 iS).mono ?_
      rintro e w5 ⟨m3, lo3, hi3, rfl, hS', iS', hK⟩
      have hO5 := hO4.but hK hbs3
      have hR5 := hR'.but hne hK
      have hall : m3 = s ∧ lo3 = s ∧ hi3 = s := by
        obtain ⟨u1, u2, _, ⟨_, _, u4⟩, ⟨_, _, u5⟩⟩ := iS'.more (by omega)
        have u4' : s = lo3 := u4
        have u5' : s = hi3 := u5
        omega
      obtain ⟨rfl, rfl, rfl⟩ := hall
      clear hK hR' hS4 hO4 iS
      go_wp2_with fail
      refine (mean_R hS').mono ?_
      rintro e v8 ⟨rfl, hK⟩
      replace hO5 := hO5.keep hK
      replace hR5 := hR5.keep hK
      replace hS' := hS'.keep hK
      clear hK
      go_wp2_with fail
      refine (least_R hS').mono ?_
      rintro e v9 ⟨rfl, hK⟩
      replace hO5 := hO5.keep hK
      replace hR5 := hR5.keep hK
      replace hS' := hS'.keep hK
      clear hK
      go_wp2_with fail
      refine (most_R hS').mono ?_
      rintro e v10 ⟨rfl, hK⟩
      replace hO5 := hO5.keep hK
      replace hR5 := hR5.keep hK
      replace hS' := hS'.keep hK
      clear hK
      go_wp2_with fail
      go_roundw
      case rel => exact ⟨k + 1, _, _, _, _, _, _, by omega, by go_num, hR5, iR', hS', iS', hO5⟩
      case measure => simp [intOf]; omega
    · have hge : ¬ (k : Int) < (len : Int) := by omega
      obtain rfl : k = len := by omega
      clear hS iS
      go_wp2_with fail
      go_loopw [8, 9, 12] (fun v8 v9 i wr => ∃ (n : Nat) (bl bh : Bool), n ≤ k ∧ i = .int .i64 n ∧ v8 = .bool bl ∧ v9 = .bool bh ∧ Seen f n lo bl ∧ Seen f n hi bh ∧ Rec wr br k m lo hi ∧ Old w wr) (fun _ _ i _ => k - (intOf i).toNat)
      case atStart => exact ⟨0, false, false, Nat.zero_le _, rfl, rfl, rfl, .zero f lo, .zero f hi, hR, hO⟩
      case round =>
        clear hR hO
        obtain ⟨n, bl, bh, hn, rfl, rfl, rfl, HL0, HL1, hR, hO⟩ := hrel
        by_cases hkl : n < k
        · have hkl' : (n : Int) < (k : Int) := by omega
          have hk60 : (n : Int) < 60 := by omega
          obtain ⟨ad, rfl, hc, hz0, hz1⟩ := hI.cell n hkl
          have hcr := (hO.below.cell (World.block_lt_of_cell? w _ hc)).trans hc
          go_wp2_with fail
          refine (pick_any _ _ _ (by omega) (by omega) (by omega) (by omega)).mono ?_
          rintro e w' ⟨rfl, rfl⟩
          have hfk : f n = (zs[n]?.getD 0) % 1099511627777 := by rw [HF.out]
          generalize (zs[n]?.getD 0) % 1099511627777 = x at *
          have HX := Lib.hid hfk
          clear hfk hc hcr hz0 hz1
          cases bl <;> cases bh
          · go_wp2_with fail
            refine (least_R hR).mono ?_
            rintro e v1 ⟨rfl, hK⟩
            replace hO := hO.keep hK
            replace hR := hR.keep hK
            clear hK
            go_wp2_with fail
            refine (most_R hR).mono ?_
            rintro e v2 ⟨rfl, hK⟩
            replace hO := hO.keep hK
            replace hR := hR.keep hK
            clear hK
            go_wp2_with fail
            go_roundw
            case rel => exact ⟨n + 1, _, _, by omega, by go_num, rfl, rfl, HL0.next HX.out (by simp), HL1.next HX.out (by simp), hR, hO⟩
            case measure => simp [intOf]; omega
          · go_wp2_with fail
            refine (least_R hR).mono ?_
            rintro e v1 ⟨rfl, hK⟩
            replace hO := hO.keep hK
            replace hR := hR.keep hK
            clear hK
            go_wp2_with fail
            go_roundw
            case rel => exact ⟨n + 1, _, _, by omega, by go_num, rfl, rfl, HL0.next HX.out (by simp), HL1.next HX.out (by simp), hR, hO⟩
            case measure => simp [intOf]; omega
          · go_wp2_with fail
            refine (most_R hR).mono ?_
            rintro e v2 ⟨rfl, hK⟩
            replace hO := hO.keep hK
            replace hR := hR.keep hK
            clear hK
            go_wp2_with fail
            go_roundw
            case rel => exact ⟨n + 1, _, _, by omega, by go_num, rfl, rfl, HL0.next HX.out (by simp), HL1.next HX.out (by simp), hR, hO⟩
            case measure => simp [intOf]; omega
          · go_wp2_with fail
            go_roundw
            case rel => exact ⟨n + 1, _, _, by omega, by go_num, rfl, rfl, HL0.next HX.out (by simp), HL1.next HX.out (by simp), hR, hO⟩
            case measure => simp [intOf]; omega
        · have hge : ¬ (n : Int) < (k : Int) := by omega
          obtain rfl : n = k := by omega
          by_cases hz : n = 0
          · have hz1 : ((n : Int) == 0) = true := by simp [hz]
            clear HL0 HL1 iR hR
            go_wp2_with fail
            go_ret
            exact ⟨by rfl, hO.below⟩
          · have hz1 : ((n : Int) == 0) = false := by simp; omega
            obtain ⟨_, _, _, e1, e2⟩ := iR.more (by omega)
            obtain rfl : bl = true := HL0.iff.2 e1
            obtain rfl : bh = true := HL1.iff.2 e2
            clear HL0 HL1 iR hR e1 e2
            go_wp2_with fail
            go_ret
            exact ⟨by rfl, hO.below⟩

theorem ints_of {w : World} {a : Option Addr} {len cap : Nat} {zs : List Int} (h : (a = none ∧ len = 0 ∧ cap = 0 ∧ zs = []) ∨ ∃ x, a = some x ∧ len ≤ cap ∧ cap ≤ maxLen ∧ zs.length = cap ∧ (∀ i, i < zs.length → w.cell? (x.add i) = some (.int .i64 (zs.getD i 0))) ∧ ∀ n ∈ zs, (Lit.int .i64 n).wf = true) :
    Ints w a len zs := by
  refine ⟨fun k hk => ?_⟩
  rcases h with ⟨_, h, _, _⟩ | ⟨x, rfl, h1, _, h3, h4, h5⟩
  · omega
  · have hkz : k < zs.length := by omega
    have e : zs[k]?.getD 0 = zs[k] := by rw [List.getElem?_eq_getElem hkz]; rfl
    have b := bounds_i64 (h5 _ (List.getElem_mem hkz))
    rw [e]
    refine ⟨x, rfl, ?_, b.1, b.2⟩
    have := h4 k hkz
    rw [List.getD_eq_getElem?_getD, e] at this
    exact this

theorem mean_walk (a0 : Option Addr) (len0 cap0 : Nat) (z0 : List Int) (a1 : Int) (W : World)
    (w0 : (a0 = none ∧ len0 = 0 ∧ cap0 = 0 ∧ z0 = []) ∨ ∃ x, a0 = some x ∧ len0 ≤ cap0 ∧ cap0 ≤ maxLen ∧ z0.length = cap0 ∧ (∀ i, i < z0.length → W.cell? (x.add i) = some (.int .i64 (z0.getD i 0))) ∧ ∀ n ∈ z0, (Lit.int .i64 n).wf = true)
    (y0 : len0 * 8 ≤ 140737488351232) (w1 : (Lit.int .i64 a1).wf = true) :
    Calls Try.prog 8 #[.slice a0 len0 cap0, .int .i64 a1] W fun e w' => e = .returned (.bool true) ∧ Below W.heap.size W w' :=
  mean_core a0 len0 cap0 z0 a1 W (ints_of w0) (bounds_i64 w1).1 (bounds_i64 w1).2 (by omega)

end Go.Proofs.Ytfjdooloikofoaa.StampA
