/- model.Fits. -/
import Derived.Test.YtnofoommindocaaGreatMdlI
namespace Go.Proofs.YtnofoommindocaaGreat.Base
open Go.RowKit
set_option linter.unusedVariables false
set_option linter.unusedSimpArgs false

def good2 (n : Nat) (P : List Int) (j : Nat) : Prop := P.getD j 0 = P.getD (j % n * n + j / n) 0 ∧ (j % n = j / n → 0 ≤ P.getD j 0)
theorem getD_mem {zs : List Int} {k : Nat} (h : k < zs.length) : zs.getD k 0 ∈ zs := by rw [← getD_at h]; exact List.getElem_mem h
theorem okBF_of {n : Nat} {X P : List Int} (h1 : 1 ≤ n) (h2 : n ≤ 6) (hX : X.length = n) (hP : P.length = n * n) (a : lowest ∉ X) (b : lowest ∉ P) (c : ∀ j, j < n * n → good2 n P j) : okBF n X P := by
  intro i hi
  refine ⟨fun h => a (by rw [← h]; exact getD_mem (by omega)), ?_, fun k hk => ⟨fun h => b (by rw [← h]; exact getD_mem (by rw [hP]; exact ij_lt hi hk)), ?_⟩⟩
  · obtain ⟨e1, e2, e3, _⟩ := idx_of h1 h2 hi hi
    have e1' : (i * n + i) % n = i := by omega
    have e2' : (i * n + i) / n = i := by omega
    exact (c _ e3).2 (by rw [e1', e2'])
  · obtain ⟨e1, e2, e3, _⟩ := idx_of h1 h2 hi hk
    have e1' : (i * n + k) % n = k := by omega
    have e2' : (i * n + k) / n = i := by omega
    have := (c _ e3).1
    rw [e1', e2'] at this
    exact this
theorem okBF_to {n : Nat} {X P : List Int} (h1 : 1 ≤ n) (h2 : n ≤ 6) (hX : X.length = n) (hP : P.length = n * n) (h : okBF n X P) : lowest ∉ X ∧ lowest ∉ P ∧ ∀ j, j < n * n → good2 n P j := by
  refine ⟨fun hm => ?_, fun hm => ?_, idx_all h1 fun i k hi hk => ?_⟩
  · obtain ⟨j, hj, e⟩ := List.mem_iff_getElem.1 hm
    exact (h j (by omega)).1 (by rw [← getD_at hj]; exact e)
  · obtain ⟨j, hj, e⟩ := List.mem_iff_getElem.1 hm
    rw [getD_at hj] at e
    have := idx_all (p := fun j => P.getD j 0 ≠ lowest) h1 (fun i k hi hk => ((h i hi).2.2 k hk).1) j (by omega)
    exact this e
  · obtain ⟨e1, e2, e3, _⟩ := idx_of h1 h2 hi hk
    have e1' : (i * n + k) % n = k := by omega
    have e2' : (i * n + k) / n = i := by omega
    unfold good2
    rw [e1', e2']
    exact ⟨((h i hi).2.2 k hk).2, fun e => by subst e; exact (h k hi).2.1⟩

set_option maxHeartbeats 8000000 in
set_option maxRecDepth 100000 in
theorem fits_is {B : Nat} {w0 : World} {v u : Value} {M : Mdl} {b : Blf} (hM : MM B w0 v M) (hb : MB B w0 u b) (hlen : M.rows.length ≤ 1000) :
    Calls Tryz.prog 37 #[v, u] w0 fun e w' => e = .returned (.int .i64 (fitsV M b)) ∧ Below w0.heap.size w0 w' := by
  obtain ⟨aA, cA, aQ, cQ, aR, cR, rfl, hA, hQ, hR⟩ := hM.ex
  obtain ⟨aX, cX, aP, cP, rfl, hX, hP⟩ := hb.ex
  have hS := SFt.start w0 B M b aA cA aQ cQ aR cR aX cX aP cP hX hP
  have lX := hX.len
  have lP := hP.len
  unfold maxLen at lX lP
  go_enter Tryz.func37, Tryz.ntmps37
  go_wp2_with fail
  generalize (w0.alloc (.cells #[Value.int .i64 M.n, .slice aA M.A.length cA, .slice aQ M.Q.length cQ, .int .i64 M.tick, .int .i64 M.gate, .int .i64 M.rmin, .slice aR M.rows.length cR] 25)).alloc (.cells #[Value.int .i64 b.t, .slice aX b.X.length cX, .slice aP b.P.length cP, .bool b.flag, .int .i64 b.pass, .int .i64 b.fail] 27) = W1 at *
  refine (check_is (hM.keep hS.bel) hlen).mono ?_
  rintro e w2 ⟨hq, hK⟩
  replace hS := hS.keep hK
  clear hK
  rcases hq with ⟨hok, rfl⟩ | ⟨hno, rfl⟩
  case inr =>
    have HF := Lib.hid (fitsV_2 (b := b) hno)
    clear hno
    go_wp2_with fail
    go_ret
    exact ⟨by rw [HF.out]; rfl, hS.bel⟩
  obtain ⟨n, hn⟩ : ∃ n : Nat, M.n = n := ⟨M.n.toNat, by have := hok.n; omega⟩
  have hn1 : 1 ≤ n := by have := hok.n; omega
  have hn2 : n ≤ 6 := by have := hok.n; omega
  obtain ⟨la, hla⟩ : ∃ la, b.X.length = la := ⟨_, rfl⟩
  obtain ⟨lp, hlp⟩ : ∃ lp, b.P.length = lp := ⟨_, rfl⟩
  obtain ⟨mm, hmm⟩ : ∃ mm : Nat, n * n = mm := ⟨_, rfl⟩
  have hmm2 : (n : Int) * (n : Int) = (mm : Int) := by rw [← hmm]; simp
  have hmm3 : mm ≤ 36 := by
    rw [← hmm]
    have := Nat.mul_le_mul hn2 hn2
    omega
  have HOK := Lib.hid hok
  have HN := Lib.hid hn
  have HLA := Lib.hid hla
  have HLP := Lib.hid hlp
  have HMM := Lib.hid hmm
  have x0 := hS.x.cell 0
  have y0 := hS.y.cell 0
  have y1 := hS.y.cell 1
  have y2 := hS.y.cell 2
  have y4 := hS.y.cell 4
  have y5 := hS.y.cell 5
  simp [hn, hla, hlp] at x0 y0 y1 y2 y4 y5
  rw [hla] at lX
  rw [hlp] at lP
  have hbel := hS.bel
  have hXw := hS.hX
  have hPw := hS.hP
  have HCX := Lib.hid (contains_val hXw lowest)
  have HCP := Lib.hid (contains_val hPw lowest)
  rw [hla] at HCX
  rw [hlp] at HCP
  obtain ⟨t, ht⟩ : ∃ t, b.t = t := ⟨_, rfl⟩
  obtain ⟨pa, hpa⟩ : ∃ t, b.pass = t := ⟨_, rfl⟩
  obtain ⟨fa, hfa⟩ : ∃ t, b.fail = t := ⟨_, rfl⟩
  rw [ht] at y0
  rw [hpa] at y4
  rw [hfa] at y5
  have HT := Lib.hid ht
  have HPA := Lib.hid hpa
  have HFA := Lib.hid hfa
  rw [hn]
  clear hok hn hla hlp hmm hS hX hP hA hQ hR hM hb ht hpa hfa
  by_cases g1 : la = n
  case neg =>
    have HF := Lib.hid (fitsV_3 (b := b) HOK.out (fun h => g1 (by have := h.x; rw [HLA.out, HN.out] at this; omega)))
    have g1' : ¬ (la : Int) = (n : Int) := by omega
    have g1e : ((la : Int) == (n : Int)) = false := by simp; omega
    go_wp2_with fail
    go_ret
    exact ⟨by rw [HF.out]; rfl, hbel⟩
  subst g1
  by_cases g2 : lp = mm
  case neg =>
    have HF := Lib.hid (fitsV_3 (b := b) HOK.out (fun h => g2 (by have := h.p; rw [HLP.out, HN.out, hmm2] at this; omega)))
    have g2' : ¬ (lp : Int) = (mm : Int) := by omega
    have g2e : ((lp : Int) == (mm : Int)) = false := by simp; omega
    go_wp2_with fail
    go_ret
    exact ⟨by rw [HF.out]; rfl, hbel⟩
  subst g2
  have HBL : Hid (okBL M b) := ⟨by rw [HLA.out, HN.out], by rw [HLP.out, HN.out, hmm2]⟩
  by_cases k1 : 0 ≤ t ∧ t ≤ 1099511627776
  case neg =>
    have HF := Lib.hid (fitsV_4 HOK.out HBL.out (fun h => k1 (by have := h.t; rw [HT.out] at this; exact this)))
    go_wp2_with fail
    refine (within_is _ _ _ _).mono ?_
    rintro e w' ⟨rfl, rfl⟩
    simp only [decide_eq_false k1]
    go_wp2_with fail
    go_ret
    exact ⟨by rw [HF.out]; rfl, hbel⟩
  by_cases k2 : 0 ≤ pa ∧ pa ≤ 1099511627776
  case neg =>
    have HF := Lib.hid (fitsV_4 HOK.out HBL.out (fun h => k2 (by have := h.p; rw [HPA.out] at this; exact this)))
    go_wp2_with fail
    refine (within_is _ _ _ _).mono ?_
    rintro e w' ⟨rfl, rfl⟩
    simp only [decide_eq_true k1]
    go_wp2_with fail
    refine (within_is _ _ _ _).mono ?_
    rintro e w' ⟨rfl, rfl⟩
    simp only [decide_eq_false k2]
    go_wp2_with fail
    go_ret
    exact ⟨by rw [HF.out]; rfl, hbel⟩
  by_cases k3 : 0 ≤ fa ∧ fa ≤ 1099511627776
  case neg =>
    have HF := Lib.hid (fitsV_4 HOK.out HBL.out (fun h => k3 (by have := h.f; rw [HFA.out] at this; exact this)))
    go_wp2_with fail
    refine (within_is _ _ _ _).mono ?_
    rintro e w' ⟨rfl, rfl⟩
    simp only [decide_eq_true k1]
    go_wp2_with fail
    refine (within_is _ _ _ _).mono ?_
    rintro e w' ⟨rfl, rfl⟩
    simp only [decide_eq_true k2]
    go_wp2_with fail
    refine (within_is _ _ _ _).mono ?_
    rintro e w' ⟨rfl, rfl⟩
    simp only [decide_eq_false k3]
    go_wp2_with fail
    go_ret
    exact ⟨by rw [HF.out]; rfl, hbel⟩
  have HBT : Hid (okBT b) := ⟨by rw [HT.out]; exact k1, by rw [HPA.out]; exact k2, by rw [HFA.out]; exact k3⟩
  have HNat : Hid (M.n.toNat = la) := by show M.n.toNat = la; rw [HN.out]; simp
  go_wp2_with fail
  refine (within_is _ _ _ _).mono ?_
  rintro e w' ⟨rfl, rfl⟩
  simp only [decide_eq_true k1]
  go_wp2_with fail
  refine (within_is _ _ _ _).mono ?_
  rintro e w' ⟨rfl, rfl⟩
  simp only [decide_eq_true k2]
  go_wp2_with fail
  refine (within_is _ _ _ _).mono ?_
  rintro e w' ⟨rfl, rfl⟩
  simp only [decide_eq_true k3]
  clear k1 k2 k3 y0 y4 y5
  have HBAD := Lib.hid (show ¬ okBF la b.X b.P → fitsV M b = 5 from fun h => fitsV_5 HOK.out HBL.out HBT.out (by rw [HNat.out]; exact h))
  have HGOOD := Lib.hid (show okBF la b.X b.P → fitsV M b = 0 from fun h => fitsV_0 HOK.out HBL.out HBT.out (by rw [HNat.out]; exact h))
  have HTO := Lib.hid (show okBF la b.X b.P → lowest ∉ b.X ∧ lowest ∉ b.P ∧ ∀ j, j < la * la → good2 la b.P j from okBF_to hn1 hn2 HLA.out (by rw [HLP.out, HMM.out]))
  clear HOK HBL HBT HNat HT HPA HFA
  go_wp2_with fail
  refine HCX.out.mono ?_
  rintro e w' ⟨⟨q, rfl, hq⟩, rfl⟩
  cases q with
  | true =>
    have HF := Lib.hid (HBAD.out (fun h => (HTO.out h).1 (hq.1 rfl)))
    clear hq
    go_wp2_with fail
    go_ret
    exact ⟨by rw [HF.out]; rfl, hbel⟩
  | false =>
  have HNX := Lib.hid (show lowest ∉ b.X from fun h => by cases hq.2 h)
  clear hq HCX
  go_wp2_with fail
  refine HCP.out.mono ?_
  rintro e w' ⟨⟨q, rfl, hq⟩, rfl⟩
  cases q with
  | true =>
    have HF := Lib.hid (HBAD.out (fun h => (HTO.out h).2.1 (hq.1 rfl)))
    clear hq
    go_wp2_with fail
    go_ret
    exact ⟨by rw [HF.out]; rfl, hbel⟩
  | false =>
  have HNP := Lib.hid (show lowest ∉ b.P from fun h => by cases hq.2 h)
  clear hq HCP
  have hn0 : ¬ (la : Int) = 0 := by omega
  go_wp2_with fail
  go_loopw [12] (fun a wr => ∃ (k : Nat), k ≤ lp ∧ a = .int .i64 k ∧ Hid (∀ j, j < k → good2 la b.P j) ∧ Below w2.heap.size w2 wr) (fun a _ => lp - (intOf a).toNat)
  case atStart => exact ⟨0, Nat.zero_le _, rfl, fun j hj => absurd hj (by omega), Below.refl _ _⟩
  case round =>
    obtain ⟨k, hk, rfl, hS, hBr⟩ := hrel
    have hW := more hbel hBr
    have y2r := (hBr.cell (World.block_lt_of_cell? w2 _ y2)).trans y2
    have hPr := hPw.keep hBr
    clear y2 x0 y1
    by_cases hkl : k < lp
    · have hkl' : (k : Int) < (lp : Int) := by omega
      have hk0 : (0 : Int) ≤ (k : Int) := by omega
      have hkm : k < la * la := by rw [HMM.out]; exact hkl
      obtain ⟨r, hr⟩ : ∃ r, k % la = r := ⟨_, rfl⟩
      obtain ⟨d, hd⟩ : ∃ d, k / la = d := ⟨_, rfl⟩
      have hr1 : r < la := by rw [← hr]; exact Nat.mod_lt _ (by omega)
      have hd1 : d < la := by rw [← hd]; exact Nat.div_lt_of_lt_mul hkm
      have tr0 : (k : Int).tmod (la : Int) = (r : Int) := by rw [Int.tmod_eq_emod_of_nonneg hk0, ← hr]; simp
      have td0 : (k : Int).tdiv (la : Int) = (d : Int) := by rw [Int.tdiv_eq_ediv_of_nonneg hk0, ← hd]; simp
      have wr0 : IntKind.i64.wrap (r : Int) = (r : Int) := IntWalk.i64_in _ (by omega)
      have wd0 : IntKind.i64.wrap (d : Int) = (d : Int) := IntWalk.i64_in _ (by omega)
      obtain ⟨_, _, e3, e4⟩ := idx_of hn1 hn2 hr1 hd1
      obtain ⟨p, hp⟩ : ∃ p, r * la = p := ⟨_, rfl⟩
      have hpm : (r : Int) * (la : Int) = (p : Int) := by rw [← hp]; simp
      rw [hp] at e3 e4
      rw [HMM.out] at e3
      obtain ⟨s, hs⟩ : ∃ s, p + d = s := ⟨_, rfl⟩
      have hpk : (p : Int) + (d : Int) = (s : Int) := by omega
      rw [hs] at e3
      have HG2 := Lib.hid (show good2 la b.P k ↔ b.P.getD k 0 = b.P.getD s 0 ∧ (r = d → 0 ≤ b.P.getD k 0) by unfold good2; rw [hr, hd, hp, hs])
      clear hr hd hp hs
      have wp0 : IntKind.i64.wrap (p : Int) = (p : Int) := IntWalk.i64_in _ (by omega)
      have ws0 : IntKind.i64.wrap (s : Int) = (s : Int) := IntWalk.i64_in _ (by omega)
      have s2 : (s : Int) < (lp : Int) := by omega
      have s0 : (0 : Int) ≤ (s : Int) := by omega
      obtain ⟨a1, rfl, hy, _⟩ := hPr.atD k (by rw [HLP.out]; exact hkl)
      obtain ⟨a2, ha2, hv, _⟩ := hPr.atD s (by rw [HLP.out]; exact e3)
      cases ha2
      have hnext : good2 la b.P k → Hid (∀ j, j < k + 1 → good2 la b.P j) := fun hb j hj => by
        by_cases e : j = k
        · rw [e]; exact hb
        · exact hS.out j (by omega)
      have HN := Lib.hid hnext
      have HB5 := Lib.hid (show ¬ good2 la b.P k → fitsV M b = 5 from fun h => HBAD.out (fun h2 => h ((HTO.out h2).2.2 k hkm)))
      clear hnext
      obtain ⟨d1, hd1⟩ : ∃ d, b.P.getD k 0 = d := ⟨_, rfl⟩
      obtain ⟨d2, hd2⟩ : ∃ d, b.P.getD s 0 = d := ⟨_, rfl⟩
      rw [hd1] at hy HG2
      rw [hd2] at hv HG2
      clear hd1 hd2
      by_cases c1 : d1 = d2
      · subst c1
        by_cases c2 : r = d
        · subst c2
          by_cases c3 : d1 < 0
          · have HF := Lib.hid (HB5.out (fun h => absurd ((HG2.out.1 h).2 rfl) (by omega)))
            go_wp2_with fail
            go_quiet (fail)
            go_wp2_with fail
            go_ret
            exact ⟨by rw [HF.out]; rfl, more hW (below_drewN _ _)⟩
          · have c3' : decide (d1 < 0) = false := decide_eq_false c3
            have HG := HN.out (HG2.out.2 ⟨rfl, fun _ => by omega⟩)
            go_wp2_with fail
            go_quiet (fail)
            go_wp2_with fail
            go_roundw
            case rel => exact ⟨k + 1, by omega, by go_num, HG, more hBr (below_drewN _ _)⟩
            case measure => simp [intOf]; omega
        · have c2' : ¬ (r : Int) = (d : Int) := by omega
          have c2e : ((r : Int) == (d : Int)) = false := by simp; omega
          have HG := HN.out (HG2.out.2 ⟨rfl, fun e => absurd e c2⟩)
          go_wp2_with fail
          go_quiet (fail)
          go_wp2_with fail
          go_roundw
          case rel => exact ⟨k + 1, by omega, by go_num, HG, more hBr (below_drewN _ _)⟩
          case measure => simp [intOf]; omega
      · have c1f : (d1 != d2) = true := bne_iff_ne.2 c1
        have c1g : decide (d1 = d2) = false := decide_eq_false c1
        have HF := Lib.hid (HB5.out (fun h => c1 (HG2.out.1 h).1))
        go_wp2_with fail
        go_quiet (fail)
        go_wp2_with fail
        go_ret
        exact ⟨by rw [HF.out]; rfl, more hW (below_drewN _ _)⟩
    · have hge : ¬ (k : Int) < (lp : Int) := by omega
      have HY := Lib.hid (HGOOD.out (okBF_of hn1 hn2 HLA.out (by rw [HLP.out, HMM.out]) HNX.out HNP.out (fun j hj => hS.out j (by rw [HMM.out] at hj; omega))))
      go_wp2_with fail
      go_ret
      exact ⟨by rw [HY.out]; rfl, hW⟩

end Go.Proofs.YtnofoommindocaaGreat.Base
