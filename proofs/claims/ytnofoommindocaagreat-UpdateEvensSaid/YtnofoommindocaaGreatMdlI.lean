/- The reference's model: Fits. -/
import Derived.Test.YtnofoommindocaaGreatMdlH
namespace Go.Proofs.YtnofoommindocaaGreat.Base
open Go.RowKit
set_option linter.unusedVariables false
set_option linter.unusedSimpArgs false

theorem low_iff (z : Int) (h : I64 z) : z < -9223372036854775807 ↔ z = lowest := by unfold lowest; unfold I64 at h; omega

/-- The two boxes of Fits, and what has happened. -/
structure SFt (w0 : World) (B : Nat) (M : Mdl) (b : Blf) (aA : Option Addr) (cA : Nat) (aQ : Option Addr) (cQ : Nat) (aR : Option Addr) (cR : Nat) (aX : Option Addr) (cX : Nat) (aP : Option Addr) (cP : Nat) (W : World) : Prop where
  x : Blk W w0.heap.size #[Value.int .i64 M.n, .slice aA M.A.length cA, .slice aQ M.Q.length cQ, .int .i64 M.tick, .int .i64 M.gate, .int .i64 M.rmin, .slice aR M.rows.length cR] 25
  y : Blk W (w0.heap.size + 1) #[Value.int .i64 b.t, .slice aX b.X.length cX, .slice aP b.P.length cP, .bool b.flag, .int .i64 b.pass, .int .i64 b.fail] 27
  hX : MI B W aX cX b.X
  hP : MI B W aP cP b.P
  bel : Below w0.heap.size w0 W
theorem SFt.keep {w0 W W' : World} {B : Nat} {M : Mdl} {b : Blf} {aA : Option Addr} {cA : Nat} {aQ : Option Addr} {cQ : Nat} {aR : Option Addr} {cR : Nat} {aX : Option Addr} {cX : Nat} {aP : Option Addr} {cP : Nat}
    (h : SFt w0 B M b aA cA aQ cQ aR cR aX cX aP cP W) (hb : Below W.heap.size W W') : SFt w0 B M b aA cA aQ cQ aR cR aX cX aP cP W' :=
  ⟨h.x.keep hb, h.y.keep hb, h.hX.keep hb, h.hP.keep hb, more h.bel hb⟩
theorem SFt.start (w0 : World) (B : Nat) (M : Mdl) (b : Blf) (aA : Option Addr) (cA : Nat) (aQ : Option Addr) (cQ : Nat) (aR : Option Addr) (cR : Nat) (aX : Option Addr) (cX : Nat) (aP : Option Addr) (cP : Nat) (h1 : MI B w0 aX cX b.X) (h2 : MI B w0 aP cP b.P) :
    SFt w0 B M b aA cA aQ cQ aR cR aX cX aP cP ((w0.alloc (.cells #[Value.int .i64 M.n, .slice aA M.A.length cA, .slice aQ M.Q.length cQ, .int .i64 M.tick, .int .i64 M.gate, .int .i64 M.rmin, .slice aR M.rows.length cR] 25)).alloc (.cells #[Value.int .i64 b.t, .slice aX b.X.length cX, .slice aP b.P.length cP, .bool b.flag, .int .i64 b.pass, .int .i64 b.fail] 27)) := by
  have hB : ∀ o1 o2, Below w0.heap.size w0 ((w0.alloc o1).alloc o2) := fun o1 o2 => ((Below.refl _ _).alloc (Nat.le_refl _) _).alloc (by simp) _
  refine ⟨(Blk.new _ _ _).alloc _, ?_, h1.keep (hB _ _), h2.keep (hB _ _), hB _ _⟩
  have := Blk.new (w0.alloc (.cells #[Value.int .i64 M.n, .slice aA M.A.length cA, .slice aQ M.Q.length cQ, .int .i64 M.tick, .int .i64 M.gate, .int .i64 M.rmin, .slice aR M.rows.length cR] 25)) #[Value.int .i64 b.t, .slice aX b.X.length cX, .slice aP b.P.length cP, .bool b.flag, .int .i64 b.pass, .int .i64 b.fail] 27
  rw [World.size_alloc] at this; exact this

set_option maxHeartbeats 8000000 in
set_option maxRecDepth 100000 in
theorem rfits_is {B : Nat} {w0 : World} {v u : Value} {M : Mdl} {b : Blf} (hM : MM B w0 v M) (hb : MB B w0 u b) (hlen : M.rows.length ≤ 1000) (hh : ∀ q ∈ M.rows, q.h.length ≤ 100000) :
    Calls Tryz.prog 58 #[v, u] w0 fun e w' => e = .returned (.int .i64 (fitsV M b)) ∧ Below w0.heap.size w0 w' := by
  obtain ⟨aA, cA, aQ, cQ, aR, cR, rfl, hA, hQ, hR⟩ := hM.ex
  obtain ⟨aX, cX, aP, cP, rfl, hX, hP⟩ := hb.ex
  have hS := SFt.start w0 B M b aA cA aQ cQ aR cR aX cX aP cP hX hP
  have lX := hX.len
  have lP := hP.len
  unfold maxLen at lX lP
  go_enter Tryz.func58, Tryz.ntmps58
  go_wp2_with fail
  generalize (w0.alloc (.cells #[Value.int .i64 M.n, .slice aA M.A.length cA, .slice aQ M.Q.length cQ, .int .i64 M.tick, .int .i64 M.gate, .int .i64 M.rmin, .slice aR M.rows.length cR] 25)).alloc (.cells #[Value.int .i64 b.t, .slice aX b.X.length cX, .slice aP b.P.length cP, .bool b.flag, .int .i64 b.pass, .int .i64 b.fail] 27) = W1 at *
  refine (rcheck_is (hM.keep hS.bel) hlen hh).mono ?_
  rintro e w2 ⟨hq, hK⟩
  replace hS := hS.keep hK
  clear hK
  rcases hq with ⟨hok, rfl⟩ | ⟨hno, rfl⟩
  case inr =>
    have HF := Lib.hid (fitsV_2 (b := b) hno)
    clear hno
    go_wp2_with fail
    go_ret
    exact ⟨by rw [HF.out]; rfl, hS.bel⟩
  obtain ⟨n, hn⟩ : ∃ n : Nat, M.n = n := ⟨M.n.toNat, by have := hok.n; omega⟩
  have hn1 : 1 ≤ n := by have := hok.n; omega
  have hn2 : n ≤ 6 := by have := hok.n; omega
  obtain ⟨la, hla⟩ : ∃ la, b.X.length = la := ⟨_, rfl⟩
  obtain ⟨lp, hlp⟩ : ∃ lp, b.P.length = lp := ⟨_, rfl⟩
  obtain ⟨mm, hmm⟩ : ∃ mm : Nat, n * n = mm := ⟨_, rfl⟩
  have hmm2 : (n : Int) * (n : Int) = (mm : Int) := by rw [← hmm]; simp
  have hmm3 : mm ≤ 36 := by
    rw [← hmm]
    have := Nat.mul_le_mul hn2 hn2
    omega
  have HOK := Lib.hid hok
  have HN := Lib.hid hn
  have HLA := Lib.hid hla
  have HLP := Lib.hid hlp
  have HMM := Lib.hid hmm
  have x0 := hS.x.cell 0
  have y0 := hS.y.cell 0
  have y1 := hS.y.cell 1
  have y2 := hS.y.cell 2
  have y4 := hS.y.cell 4
  have y5 := hS.y.cell 5
  simp [hn, hla, hlp] at x0 y0 y1 y2 y4 y5
  rw [hla] at lX
  rw [hlp] at lP
  have hbel := hS.bel
  have hXw := hS.hX
  have hPw := hS.hP
  obtain ⟨t, ht⟩ : ∃ t, b.t = t := ⟨_, rfl⟩
  obtain ⟨pa, hpa⟩ : ∃ t, b.pass = t := ⟨_, rfl⟩
  obtain ⟨fa, hfa⟩ : ∃ t, b.fail = t := ⟨_, rfl⟩
  rw [ht] at y0
  rw [hpa] at y4
  rw [hfa] at y5
  have HT := Lib.hid ht
  have HPA := Lib.hid hpa
  have HFA := Lib.hid hfa
  clear hok hn hla hlp hmm hS hX hP hA hQ hR hM hb ht hpa hfa
  by_cases g1 : la = n
  case neg =>
    have HF := Lib.hid (fitsV_3 (b := b) HOK.out (fun h => g1 (by have := h.x; rw [HLA.out, HN.out] at this; omega)))
    have g1' : ¬ (la : Int) = (n : Int) := by omega
    have g1e : ((la : Int) == (n : Int)) = false := by simp; omega
    go_wp2_with fail
    go_ret
    exact ⟨by rw [HF.out]; rfl, hbel⟩
  subst g1
  by_cases g2 : lp = mm
  case neg =>
    have HF := Lib.hid (fitsV_3 (b := b) HOK.out (fun h => g2 (by have := h.p; rw [HLP.out, HN.out, hmm2] at this; omega)))
    have g2' : ¬ (lp : Int) = (mm : Int) := by omega
    have g2e : ((lp : Int) == (mm : Int)) = false := by simp; omega
    go_wp2_with fail
    go_ret
    exact ⟨by rw [HF.out]; rfl, hbel⟩
  subst g2
  have HBL : Hid (okBL M b) := ⟨by rw [HLA.out, HN.out], by rw [HLP.out, HN.out, hmm2]⟩
  by_cases g3 : okBT b
  case neg =>
    have HF := Lib.hid (fitsV_4 HOK.out HBL.out g3)
    by_cases k1 : t < 0
    · go_wp2_with fail
      go_ret
      exact ⟨by rw [HF.out]; rfl, hbel⟩
    by_cases k2 : 1099511627776 < t
    · go_wp2_with fail
      go_ret
      exact ⟨by rw [HF.out]; rfl, hbel⟩
    by_cases k3 : pa < 0
    · go_wp2_with fail
      go_ret
      exact ⟨by rw [HF.out]; rfl, hbel⟩
    by_cases k4 : 1099511627776 < pa
    · go_wp2_with fail
      go_ret
      exact ⟨by rw [HF.out]; rfl, hbel⟩
    by_cases k5 : fa < 0
    · go_wp2_with fail
      go_ret
      exact ⟨by rw [HF.out]; rfl, hbel⟩
    by_cases k6 : 1099511627776 < fa
    · go_wp2_with fail
      go_ret
      exact ⟨by rw [HF.out]; rfl, hbel⟩
    exact absurd ⟨by rw [HT.out]; omega, by rw [HPA.out]; omega, by rw [HFA.out]; omega⟩ g3
  have k1 : ¬ t < 0 := by have := g3.t; rw [HT.out] at this; omega
  have k2 : ¬ 1099511627776 < t := by have := g3.t; rw [HT.out] at this; omega
  have k3 : ¬ pa < 0 := by have := g3.p; rw [HPA.out] at this; omega
  have k4 : ¬ 1099511627776 < pa := by have := g3.p; rw [HPA.out] at this; omega
  have k5 : ¬ fa < 0 := by have := g3.f; rw [HFA.out] at this; omega
  have k6 : ¬ 1099511627776 < fa := by have := g3.f; rw [HFA.out] at this; omega
  have HBT := Lib.hid g3
  clear g3
  have HNat : Hid (M.n.toNat = la) := by show M.n.toNat = la; rw [HN.out]; simp
  go_wp2_with fail
  clear k1 k2 k3 k4 k5 k6 y0 y4 y5
  have HBAD := Lib.hid (show ¬ okBF la b.X b.P → fitsV M b = 5 from fun h => fitsV_5 HOK.out HBL.out HBT.out (by rw [HNat.out]; exact h))
  have HGOOD := Lib.hid (show okBF la b.X b.P → fitsV M b = 0 from fun h => fitsV_0 HOK.out HBL.out HBT.out (by rw [HNat.out]; exact h))
  clear HOK HBL HBT HNat HT HPA HFA
  go_loopw [5] (fun a wr => ∃ (i : Nat), i ≤ la ∧ a = .int .i64 i ∧ Hid (∀ i', i' < i → goodB la b.X b.P i') ∧ Below w2.heap.size w2 wr) (fun a _ => la - (intOf a).toNat)
  case atStart => exact ⟨0, Nat.zero_le _, rfl, fun j hj => absurd hj (by omega), Below.refl _ _⟩
  case round =>
    obtain ⟨i, hi, rfl, hS, hBr⟩ := hrel
    have hW := more hbel hBr
    have x0r := (hBr.cell (World.block_lt_of_cell? w2 _ x0)).trans x0
    have y1r := (hBr.cell (World.block_lt_of_cell? w2 _ y1)).trans y1
    have y2r := (hBr.cell (World.block_lt_of_cell? w2 _ y2)).trans y2
    have hXr := hXw.keep hBr
    have hPr := hPw.keep hBr
    clear x0 y1 y2
    by_cases hil : i < la
    · have hil' : (i : Int) < (la : Int) := by omega
      have hi0 : (0 : Int) ≤ (i : Int) := by omega
      have hiX : i < b.X.length := by rw [HLA.out]; exact hil
      obtain ⟨xa, rfl, hx, hxr⟩ := hXr.atD i hiX
      obtain ⟨e1, e2, e3, e4⟩ := idx_of hn1 hn2 hil hil
      obtain ⟨p, hp⟩ : ∃ p, i * la = p := ⟨_, rfl⟩
      have hpm : (i : Int) * (la : Int) = (p : Int) := by rw [← hp]; simp
      have HP := Lib.hid hp
      rw [hp] at e3 e4
      rw [HMM.out] at e3
      obtain ⟨q, hq⟩ : ∃ q, p + i = q := ⟨_, rfl⟩
      have hpk : (p : Int) + (i : Int) = (q : Int) := by omega
      have HQ := Lib.hid hq
      rw [hq] at e3
      have hqP : q < b.P.length := by rw [HLP.out]; exact e3
      obtain ⟨pa2, rfl, hy, hyr⟩ := hPr.atD q hqP
      obtain ⟨z, hz⟩ : ∃ z, b.X.getD i 0 = z := ⟨_, rfl⟩
      obtain ⟨d, hd⟩ : ∃ d, b.P.getD q 0 = d := ⟨_, rfl⟩
      rw [hz] at hx hxr
      rw [hd] at hy hyr
      have HZ := Lib.hid hz
      have HD := Lib.hid (show b.P.getD (i * la + i) 0 = d by rw [hp, hq]; exact hd)
      have q2 : (q : Int) < (lp : Int) := by omega
      have q0 : (0 : Int) ≤ (q : Int) := by omega
      have hlow := low_iff z hxr
      clear hp hq hz hd e1 e2 hxr hyr
      by_cases c1 : z < -9223372036854775807
      · have HN := Lib.hid (HBAD.out (fun h => (h i hil).1 (by rw [HZ.out]; exact hlow.1 c1)))
        clear hlow
        go_wp2_with fail
        go_ret
        exact ⟨by rw [HN.out]; rfl, hW⟩
      have HC1 := Lib.hid (show b.X.getD i 0 ≠ lowest from fun h => c1 (hlow.2 (by rw [← HZ.out]; exact h)))
      clear hlow
      by_cases c2 : d < 0
      · have HN := Lib.hid (HBAD.out (fun h => absurd (h i hil).2.1 (by rw [HD.out]; omega)))
        go_wp2_with fail
        go_ret
        exact ⟨by rw [HN.out]; rfl, hW⟩
      have HC2 := Lib.hid (show 0 ≤ b.P.getD (i * la + i) 0 by rw [HD.out]; omega)
      go_wp2_with fail
      clear c1 c2 hx hy
      obtain ⟨wo, rfl⟩ : ∃ wo : World, wo = wr := ⟨_, rfl⟩
      go_loopw [6] (fun a w5 => ∃ (k : Nat), k ≤ la ∧ a = .int .i64 k ∧ Hid (∀ k', k' < k → pairB la b.P i k') ∧ Below wo.heap.size wo w5) (fun a _ => la - (intOf a).toNat)
      case atStart => exact ⟨0, Nat.zero_le _, rfl, fun j hj => absurd hj (by omega), Below.refl _ _⟩
      case round =>
        obtain ⟨k, hk, rfl, hT, hBs⟩ := hrel
        have hWs := more hW hBs
        have x0s := (hBs.cell (World.block_lt_of_cell? wo _ x0r)).trans x0r
        have y1s := (hBs.cell (World.block_lt_of_cell? wo _ y1r)).trans y1r
        have y2s := (hBs.cell (World.block_lt_of_cell? wo _ y2r)).trans y2r
        have hPs := hPr.keep hBs
        clear x0r y1r y2r
        by_cases hkl : k < la
        · have hkl' : (k : Int) < (la : Int) := by omega
          have hk0 : (0 : Int) ≤ (k : Int) := by omega
          obtain ⟨_, _, f3, f4⟩ := idx_of hn1 hn2 hil hkl
          obtain ⟨_, _, g3, g4⟩ := idx_of hn1 hn2 hkl hil
          rw [HP.out, HMM.out] at f3
          obtain ⟨p2, hp2⟩ : ∃ p, k * la = p := ⟨_, rfl⟩
          have hpm2 : (k : Int) * (la : Int) = (p2 : Int) := by rw [← hp2]; simp
          have HP2 := Lib.hid hp2
          rw [hp2] at g3 g4
          rw [HMM.out] at g3
          clear hp2
          obtain ⟨r, hr⟩ : ∃ r, p + k = r := ⟨_, rfl⟩
          have hpk2 : (p : Int) + (k : Int) = (r : Int) := by omega
          obtain ⟨s, hs⟩ : ∃ s, p2 + i = s := ⟨_, rfl⟩
          have hpk3 : (p2 : Int) + (i : Int) = (s : Int) := by omega
          have HR := Lib.hid (show i * la + k = r by rw [HP.out]; exact hr)
          have HS := Lib.hid (show k * la + i = s by rw [HP2.out]; exact hs)
          rw [hr] at f3
          rw [hs] at g3
          clear hr hs
          obtain ⟨a1, ha1, hy, hyr⟩ := hPs.atD r (by rw [HLP.out]; exact f3)
          cases ha1
          obtain ⟨a2, ha2, hv, hvr⟩ := hPs.atD s (by rw [HLP.out]; exact g3)
          cases ha2
          obtain ⟨d1, hd1⟩ : ∃ d, b.P.getD r 0 = d := ⟨_, rfl⟩
          obtain ⟨d2, hd2⟩ : ∃ d, b.P.getD s 0 = d := ⟨_, rfl⟩
          rw [hd1] at hy hyr
          rw [hd2] at hv hvr
          have hlow := low_iff d1 hyr
          have hpair : pairB la b.P i k ↔ ¬ d1 < -9223372036854775807 ∧ d1 = d2 := by
            unfold pairB
            rw [HR.out, HS.out, hd1, hd2, hlow]
          have HPB := Lib.hid hpair
          have r2 : (r : Int) < (lp : Int) := by omega
          have r0 : (0 : Int) ≤ (r : Int) := by omega
          have s2 : (s : Int) < (lp : Int) := by omega
          have s0 : (0 : Int) ≤ (s : Int) := by omega
          have wa1 : IntKind.i64.wrap (p : Int) = (p : Int) := IntWalk.i64_in _ (by omega)
          have wa2 : IntKind.i64.wrap (p2 : Int) = (p2 : Int) := IntWalk.i64_in _ (by omega)
          have wa3 : IntKind.i64.wrap (r : Int) = (r : Int) := IntWalk.i64_in _ (by omega)
          have wa4 : IntKind.i64.wrap (s : Int) = (s : Int) := IntWalk.i64_in _ (by omega)
          clear hd1 hd2 hlow hpair hyr hvr
          by_cases c1 : d1 < -9223372036854775807
          · have HN := Lib.hid (HBAD.out (fun h => (HPB.out.1 ((h i hil).2.2 k hkl)).1 c1))
            go_wp2_with fail
            go_quiet (fail)
            go_wp2_with fail
            go_ret
            exact ⟨by rw [HN.out]; rfl, more hWs (below_drewN _ _)⟩
          have c1' : decide (d1 < -9223372036854775807) = false := decide_eq_false c1
          by_cases c2 : d1 = d2
          · subst c2
            have HG := Lib.hid (HPB.out.2 ⟨c1, rfl⟩)
            go_wp2_with fail
            go_quiet (fail)
            go_wp2_with fail
            go_roundw
            case rel =>
              refine ⟨k + 1, by omega, by go_num, fun k' hk' => ?_, more hBs (below_drewN _ _)⟩
              by_cases e : k' = k
              · subst e; exact HG.out
              · exact hT.out k' (by omega)
            case measure => simp [intOf]; omega
          · have c2' : (d1 == d2) = false := by simp; exact c2
            have HN := Lib.hid (HBAD.out (fun h => c2 (HPB.out.1 ((h i hil).2.2 k hkl)).2))
            go_wp2_with fail
            go_quiet (fail)
            go_wp2_with fail
            go_ret
            exact ⟨by rw [HN.out]; rfl, more hWs (below_drewN _ _)⟩
        · have hgk : ¬ (k : Int) < (la : Int) := by omega
          have HI := Lib.hid (show ∀ i', i' < i + 1 → goodB la b.X b.P i' from fun i' h => by
            by_cases e : i' = i
            · subst e; exact ⟨HC1.out, HC2.out, fun k' hk' => hT.out k' (by omega)⟩
            · exact hS.out i' (by omega))
          go_wp2_with fail
          go_roundw
          case rel => exact ⟨i + 1, by omega, by go_num, HI.out, more hBr hBs⟩
          case measure => simp [intOf]; omega
    · have hge : ¬ (i : Int) < (la : Int) := by omega
      have HY := Lib.hid (HGOOD.out (fun i' hi' => hS.out i' (by omega)))
      go_wp2_with fail
      go_ret
      exact ⟨by rw [HY.out]; rfl, hW⟩

end Go.Proofs.YtnofoommindocaaGreat.Base
