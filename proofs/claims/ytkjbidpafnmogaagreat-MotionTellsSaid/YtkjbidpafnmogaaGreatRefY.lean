/- binnacleref09: Terms. binnacleref09: At. binnacleref09: Flow; what Terms, At and Flow refuse. -/
import Derived.Test.YtkjbidpafnmogaaGreatRefQ
import Derived.Test.YtkjbidpafnmogaaGreatPolC
namespace Go.Proofs.YtkjbidpafnmogaaGreat.Base
open Go.RowKit Go Go.Shelf Go.Deep
set_option linter.unusedVariables false
set_option linter.unusedSimpArgs false

theorem om_one {B : Nat} {W : World} {e : Nat} {m : Mt} {a : Option Addr} {c n : Nat} (hn : m.v.length = n) (hb : Blk W e #[.int .i64 m.r, .int .i64 m.c, .slice a n c] 24) (hB : B ≤ e) (hL : LI B W a c m.v) (h1 : I64 m.r) (h2 : I64 m.c) : OMs B W (.slice (some ⟨e, 0, none⟩) 1 1) [m] := by
  subst hn
  exact OMs.snoc (ms := []) (vs := []) (fun k hk => absurd hk (by simp)) rfl (by simp) ⟨by simp, .inr ⟨e, 1, _, rfl, hB, hb, Nat.le_refl _, by simp [maxLen], by simp, by simp⟩⟩ hL h1 h2
theorem app_matR {ops : Array Oper} {rest : List Oper} {o : Oper} {a : Act} {Q : Exit → Act → World → Prop} {w : World} {B : Nat} {v : Value} {ms : List Mt} {m : Mt} {aH : Option Addr} {cH : Nat}
    (hg : o.guard = none) (s x : Operand) (hop : o.op = Op.call { callee := Callee.builtin Builtin.append, args := #[s, x], argTypes := #[31, 31] })
    (hs : a.eval s = v) (h : OMs B w v ms) (hB : B ≤ w.heap.size) (e1 : Nat) (hx : a.eval x = .slice (some ⟨e1, 0, none⟩) 1 1) (nr nc : Int) (nh : Nat) (hnr : m.r = nr) (hnc : m.c = nc) (hnh : m.v.length = nh)
    (he : Blk w e1 #[.int .i64 nr, .int .i64 nc, .slice aH nh cH] 24) (hL : LI B w aH cH m.v) (h1 : I64 m.r) (h2 : I64 m.c) (hl : ms.length ≤ 1000)
    (hK : ∀ v' w', OMs B w' v' (ms ++ [m]) → w.grownBy w' v.ownBlock → IsSl v' (ms.length + 1) → wpList Tryz.prog ops Q rest (a.put o.dst v') w') :
    wpList Tryz.prog ops Q (o :: rest) a w := by
  subst hnh hnr hnc
  obtain ⟨vs, ho, hr⟩ := h.ex
  have hne : 24 ≠ 3 := by decide
  refine wpList_plain hg fun _ hK2 => op_app_box (S := 31) (E := 24) (size := 3) (bytes := 40) (z := .agg #[.int .i64 0, .int .i64 0, .slice none 0 0]) (cs := #[.int .i64 m.r, .int .i64 m.c, .slice aH m.v.length cH]) Tryz.underlying31 (info_parts (by kernel_rfl)) rfl (by decide) (by decide) s x hop hs ho hB e1 rfl hx he (fun u hu => ?_) (by omega) fun g cap w' ho' hgr _ => hK2 _ _ (hK _ w' ?_ hgr ⟨_, _, rfl⟩)
  · simp at hu
    rcases hu with rfl | rfl | rfl <;> rfl
  · have hno := row_noInts ho hne
    refine OMs.snoc (fun k hk => ?_) ho.1 h.rng ho' (hL.grown hgr hno) h1 h2
    obtain ⟨a', c', e0, e1, e2, e3⟩ := (hr k hk).ex
    exact ⟨a', c', e0, e1, e2, e3.grown hgr hno⟩
theorem OMs.mlsR {B b : Nat} {W : World} {c : Bool} {v : Value} {ms : List Mt} (h : OMs B W v ms) (hU : UR W b c) (h0 : 0 < ms.length) : ∃ x k, v = .slice (some x) ms.length k ∧ ms.length ≤ k ∧ MLs b W x ms := by
  obtain ⟨vs, ho, hr⟩ := h.ex
  have hty := row_ty ho
  obtain ⟨hl2, h1 | ⟨g, cap, cur, rfl, hB, hh, hn, hm, hs, ht⟩⟩ := ho
  · exact absurd h1.2 (by omega)
  · refine ⟨⟨g, 0, none⟩, cap, rfl, hn, ⟨fun j hj => ?_, fun e => ?_⟩⟩
    · obtain ⟨a, c, e0, e1, e2, e3⟩ := (hr j hj).ex
      have hcur : ∀ j u, vs[j]? = some u → W.cell? ⟨g, j, none⟩ = some u := by
        intro j u hj
        have := (World.ownsRow.cells ⟨hl2, .inr ⟨g, cap, cur, rfl, hB, hh, hn, hm, hs, ht⟩⟩ (g := g) (by simp [Value.ownBlock])) j u hj
        rwa [Addr.add_lit, Nat.zero_add] at this
      refine ⟨a, c, ⟨?_, ?_, ?_⟩, e3.mlR hU⟩
      · rw [Addr.add_lit, Nat.zero_add]; exact hcur _ _ e0
      · rw [Addr.add_lit, Nat.zero_add]; exact hcur _ _ e1
      · rw [Addr.add_lit, Nat.zero_add]; exact hcur _ _ e2
    · obtain ⟨mm, hm2⟩ := hU
      have e' : g = b := e
      subst e'
      exact absurd ((hty g (by simp [Value.ownBlock])).1.inj hm2.ty) (by decide)
theorem li_eff {P : Nat → Prop} {B n : Nat} {W W' : World} {a : Option Addr} {c : Nat} {zs : List Int} (h : LI B W a c zs) (he : Eff P W W') (hP : ∀ k, P k → k < n) (hB : n ≤ B := by omega) : LI B W' a c zs :=
  h.same fun x hx hn => he.block _ (by obtain ⟨cs, q, hc⟩ := h.wj.ty x hx hn; exact (Array.getElem?_eq_some_iff.1 hc).1) (fun hp => by have := hP _ hp; have := h.mi.lo x hx hn; omega)
theorem OMs.own {B : Nat} {W : World} {v : Value} {ms : List Mt} (h : OMs B W v ms) (k : Nat) (hk : v.ownBlock = some k) : Ty W k 24 ∧ B ≤ k := by
  obtain ⟨vs, ho, _⟩ := h.ex
  exact row_ty ho k hk
/-- Within Terms, ahead of a round. -/
structure TrI (w0 : World) (P : Nat → Prop) (b : Nat) (c0 : Bool) (m : Mt) (r : Int) (a : Option Addr) (n k : Nat) (q : Nat) (v : Value) (W : World) : Prop where
  om : OMs (w0.heap.size + 1) W v (termsL m (q + 1))
  up : UR W b (c0 || (termM m q).2)
  ef : Eff P w0 W
  bx : Blk W w0.heap.size #[.int .i64 r, .int .i64 r, .slice a n k] 24
/-- Within the division of all numbers of a matrix. -/
structure DvR (W3 : World) (P : Nat → Prop) (b nb : Nat) (c1 : Bool) (cr cc : Int) (x : Addr) (kv : Nat) (wp : Int × Bool) (vs : List Int) (j : Nat) (W : World) : Prop where
  nb : Blk W nb #[.int .i64 cr, .int .i64 cc, .slice (some x) vs.length kv] 24
  li : LI W3.heap.size W (some x) kv ((vs.take j).map (dvw wp.1) ++ vs.drop j)
  up : UR W b (c1 || (vs.take j).any (flw wp))
  eff : Eff P W3 W

set_option maxHeartbeats 16000000 in
set_option maxRecDepth 100000 in
theorem termsR_is {w0 : World} {b : Nat} {c0 : Bool} (hU : UR w0 b c0) {m : Mt} {a : Option Addr} {k : Nat} (hl : ML b w0 a k m.v) (ok : okMt m) (sq : m.r = m.c) (n : Nat) (hn : n ≤ 24) :
    Calls Tryz.prog 15 #[.pointer (some ⟨b, 0, none⟩), .agg #[.int .i64 m.r, .int .i64 m.c, .slice a m.v.length k], .int .i64 n] w0 fun e w' => ∃ v, e = .returned (.tuple #[v, .int .i64 0]) ∧ OMs w0.heap.size w' v (termsL m (n + 1)) ∧ UR w' b (c0 || (termM m n).2) ∧ But b w0 w' := by
  have hSQ := fun w => squareR_is m a k w
  rw [decide_eq_true (show sqM m from ⟨ok, sq⟩)] at hSQ
  have hbl := hU.lt
  obtain ⟨P, hPb, hbP, hPl, hPe⟩ : ∃ P : Nat → Prop, (∀ W W', Eff P W W' → But b W W') ∧ (∀ W W', But b W W' → Eff P W W') ∧ (∀ k, P k → k < w0.heap.size) ∧ (∀ k, P k → k = b) := ⟨fun k => k = b, fun _ _ h => eff_but h, fun _ _ h => but_eff h, fun k h => by omega, fun k h => h⟩
  obtain ⟨r, c, hr, hc, hr1, hr2, hc1, hc2, hlen⟩ := ok.nat
  have hcr : c = r := by omega
  subst hcr
  have hEY := fun w => eyeR_mo c hr1 hr2 w
  have HT0 := Lib.hid (show termM m 0 = (eyeM c, false) by unfold termM; rw [hr, Int.toNat_natCast])
  have HTO := Lib.hid (term_ok ok sq)
  have HR := Lib.hid hr
  have HC := Lib.hid hc
  have HOK := Lib.hid ok
  have HSQ := Lib.hid sq
  have HL := Lib.hid hl
  rw [hr, hc] at hSQ ⊢
  obtain ⟨am, ham⟩ : ∃ am, m.v.length = am := ⟨_, rfl⟩
  have HAM := Lib.hid ham
  rw [ham] at hSQ ⊢
  clear ham hlen ok sq hr hc hl
  have hB := upA (upR w0) (Obj.cells #[Value.int .i64 c, .int .i64 c, .slice a am k] 24)
  have g0 := Blk.new w0 #[Value.int .i64 c, .int .i64 c, .slice a am k] 24
  have hnn : (n : Int) ≤ 24 := by omega
  have hn0 : ¬ ((n : Int) < 0) := by omega
  have hn24 : ¬ ((24 : Int) < (n : Int)) := by omega
  go_enter Tryz.func15, Tryz.ntmps15
  go_wp2_with fail
  refine (hSQ _).mono ?_
  rintro e w1 ⟨rfl, hK⟩
  replace hB := more hB hK
  replace g0 := g0.keep hK
  clear hK hSQ
  have d0 := g0.cell
  go_wp2_with fail
  refine (hEY _).mono ?_
  rintro e w2 ⟨v, rfl, hmo, hK⟩
  have hsz1 : w0.heap.size + 1 ≤ w1.heap.size := g0.lt
  replace hB := more hB hK
  replace g0 := g0.keep hK
  clear hK hEY d0
  replace hmo := hmo.mono hsz1
  obtain ⟨ae, ke, rfl, hLI⟩ := hmo.ex
  have hi1 := hmo.r
  have hi2 := hmo.c
  have her := eyeM_r c
  have hec := eyeM_c c
  obtain ⟨ev, hev⟩ : ∃ ev, eyeM c = ev := ⟨_, rfl⟩
  rw [hev] at her hec hLI hi1 hi2 HT0
  dsimp only
  rw [hev]
  rw [her, hec]
  obtain ⟨ne, hne⟩ : ∃ ne, ev.v.length = ne := ⟨_, rfl⟩
  rw [hne]
  clear hev hmo
  have gm := Blk.new w2 #[.int .i64 0, .int .i64 0, .slice none 0 0] 24
  have hK1 : Below w2.heap.size w2 (w2.alloc (.cells #[.int .i64 0, .int .i64 0, .slice none 0 0] 24)) := upA (upR w2) _
  go_wp2_with ((with_reducible refine at_st (p := 8) (q := 28) rfl ?_); refine ev_store rfl 24 _ _ rfl rfl gm 0 rfl rfl [.int .i64 c, .int .i64 c, .slice ae ne ke] rfl (by kernel_rfl) rfl rfl #[.int .i64 c, .int .i64 c, .slice ae ne ke] rfl ?_; intro w3 g6 ef hz6; have d6 := g6.cell)
  have hsz2 := hB.size
  have hB3 : Below w0.heap.size w0 w3 := ef.below (more hB hK1) (fun k hk => by omega)
  have hlt0 := g0.lt
  have g3 := ef.blk (g0.keep hK1) (by omega)
  have hL3 := ((hLI.keep hK1).eff ef (fun k hk ht => by subst hk; exact absurd (ht.inj gm.ty) (by decide)))
  have hK4 : Below w3.heap.size w3 (w3.alloc (.cells #[.int .i64 c, .int .i64 c, .slice ae ne ke] 24)) := upA (upR w3) _
  have g4 := Blk.new w3 #[.int .i64 c, .int .i64 c, .slice ae ne ke] 24
  have hB4 := more hB3 hK4
  have hT : TrI w0 P b c0 m c a am k 0 (.slice (some ⟨w3.heap.size, 0, none⟩) 1 1) (w3.alloc (.cells #[.int .i64 c, .int .i64 c, .slice ae ne ke] 24)) := by
    refine ⟨?_, ?_, Eff.of hB4, g3.keep hK4⟩
    · have : termsL m (0 + 1) = [ev] := by simp [termsL, HT0.out]
      rw [this]
      exact om_one hne (by rw [her, hec]; exact g4) g3.lt (hL3.keep hK4) hi1 hi2
    · rw [HT0.out]
      simpa using hU.below hB4 hbl
  have e3 : w3.heap.size = w2.heap.size + 1 := by rw [hz6]; simp
  rw [e3] at hT
  clear e3 hB g0 hLI gm hK1 d6 ef hz6 hB3 g3 hL3 hK4 g4 hB4 hU hsz1 hsz2 hlt0
  generalize w3.alloc (.cells #[.int .i64 c, .int .i64 c, .slice ae ne ke] 24) = w4 at *
  generalize w2.heap.size + 1 = g3 at *
  go_loopw [10, 11] (fun v i wr => ∃ q : Nat, q ≤ n ∧ i = .int .i64 ((q : Int) + 1) ∧ TrI w0 P b c0 m c a am k q v wr) (fun _ i _ => n + 1 - (intOf i).toNat)
  case atStart => exact ⟨0, Nat.zero_le _, rfl, hT⟩
  case round =>
    rename World => W3
    clear hT
    obtain ⟨q, hq, rfl, hT⟩ := hrel
    by_cases hql : q < n
    · have hql' : (q : Int) + 1 ≤ (n : Int) := by omega
      obtain ⟨y, kk, rfl, hkk, hmls⟩ := hT.om.mlsR hT.up (by rw [termsL_len]; omega)
      obtain ⟨a1, k1, ⟨hc0, hc1', hc2'⟩, hml⟩ := hmls.at_ q (by rw [termsL_len]; omega)
      have hgq : (termsL m (q + 1))[q]'(by rw [termsL_len]; omega) = (termM m q).1 := by simp [termsL]
      rw [hgq] at hc0 hc1' hc2' hml
      rw [termsL_len] at hkk ⊢
      obtain ⟨hok, htr, htc⟩ := HTO.out q
      rw [htr, HR.out] at hc0
      rw [htc, HC.out] at hc1'
      have hyb : (y.add (q * 3)).block ≠ b := by rw [add_block]; exact hmls.ne
      have hqr := (mulM_r (termM m q).1 m hok).trans (htr.trans HR.out)
      have hqc := (mulM_c (termM m q).1 m HOK.out).trans HC.out
      have hqo := ok_mul hok HOK.out
      have hvl : 0 < (mulM (termM m q).1 m).1.v.length := by
        have h1 := hqo.2.2
        have h2 := Int.mul_pos (show 0 < (mulM (termM m q).1 m).1.r by have := hqo.1.1; omega) (show 0 < (mulM (termM m q).1 m).1.c by have := hqo.2.1.1; omega)
        omega
      have hvl2 : (mulM (termM m q).1 m).1.v.length ≤ 144 := by
        have h1 := hqo.2.2
        obtain ⟨r', c', e1, e2, _, h3, _, h4, h5⟩ := hqo.nat
        have := Nat.mul_le_mul h3 h4
        omega
      have HNX := Lib.hid (show termM m (q + 1) = ((divsM (mulM (termM m q).1 m).1 ((q : Int) + 1)).1, (termM m q).2 || (mulM (termM m q).1 m).2 || (divsM (mulM (termM m q).1 m).1 ((q : Int) + 1)).2) from rfl)
      have hMul0 : ∀ W, Eff P W3 W → UR W b (c0 || (termM m q).2) → Calls Tryz.prog 53 #[.pointer (some ⟨b, 0, none⟩), .agg #[.int .i64 c, .int .i64 c, .slice a1 (termM m q).1.v.length k1], .agg #[.int .i64 c, .int .i64 c, .slice a am k]] W fun e w' => ∃ av kv, e = .returned (.tuple #[.agg #[.int .i64 c, .int .i64 c, .slice av (mulM (termM m q).1 m).1.v.length kv], .int .i64 0]) ∧ LI W3.heap.size w' av kv (mulM (termM m q).1 m).1.v ∧ UR w' b (c0 || (termM m q).2 || (mulM (termM m q).1 m).2) ∧ Eff P W w' := fun W hE hu => by
        have hB1 := hPb _ _ hE
        have := mulR_is hu (hml.but hB1) (HL.out.but (hPb _ _ (hT.ef.trans hE (fun _ _ h => h)))) hok HOK.out (htc.trans HSQ.out.symm)
        rw [htr, htc, HR.out, HC.out, HAM.out] at this
        refine this.mono fun e w' h => ?_
        obtain ⟨v, he, hmo, hu', hb'⟩ := h
        obtain ⟨av, kv, rfl, hli⟩ := hmo.ex
        rw [hqr, hqc] at he
        exact ⟨av, kv, he, hli.mono hE.size, hu', hbP _ _ hb'⟩
      have hcells : ∀ W, Eff P W3 W → W.cell? (y.add (q * 3)) = some (.int .i64 c) ∧ W.cell? ⟨(y.add (q * 3)).block, (y.add (q * 3)).off + 1, none⟩ = some (.int .i64 c) ∧ W.cell? ⟨(y.add (q * 3)).block, (y.add (q * 3)).off + 2, none⟩ = some (.slice a1 (termM m q).1.v.length k1) := fun W hE =>
        ⟨cell_but0 hc0 hyb (hPb _ _ hE), cell_but0 hc1' hyb (hPb _ _ hE), cell_but0 hc2' hyb (hPb _ _ hE)⟩
      have hws : w0.heap.size + 1 ≤ W3.heap.size := hT.bx.lt
      have HUW := Lib.hid hT.up
      have hPl3 : ∀ k, P k → k < W3.heap.size := fun k h => by have := hPl k h; omega
      have hbx : ∀ W, Eff P W3 W → Blk W w0.heap.size #[.int .i64 c, .int .i64 c, .slice a am k] 24 := fun W hE => hE.blk hT.bx (fun hp => by have := hPl _ hp; omega)
      have hbl3 : b < W3.heap.size := by omega
      have hD0 : UR W3.drew b (c0 || (termM m q).2) ∧ Eff P W3 W3.drew := ⟨hT.up.drew, Eff.of (upD (upR _))⟩
      have hom0 := hT.om
      rw [termsL_len] at hom0
      have HOM := Lib.hid hom0
      clear hom0
      have HEF := Lib.hid hT.ef
      have HBX := Lib.hid hbx
      have HTQ := Lib.hid (show I64 (c : Int) from ⟨by omega, by omega⟩)
      clear hT hmls hc0 hc1' hc2' hml hgq hok htr htc hqr hqc hqo
      obtain ⟨pn, hpn⟩ : ∃ pn, (termM m q).1.v.length = pn := ⟨_, rfl⟩
      rw [hpn] at hMul0 hcells
      have HNX2 := Lib.hid (show (termM m (q + 1)).1 = ⟨(mulM (termM m q).1 m).1.r, (mulM (termM m q).1 m).1.c, (mulM (termM m q).1 m).1.v.map (dvw (wholeF ((q : Int) + 1)).1)⟩ ∧ (c0 || (termM m (q + 1)).2) = (c0 || (termM m q).2 || (mulM (termM m q).1 m).2 || (mulM (termM m q).1 m).1.v.any (flw (wholeF ((q : Int) + 1)))) by
        rw [HNX.out]
        refine ⟨rfl, ?_⟩
        show (c0 || ((termM m q).2 || (mulM (termM m q).1 m).2 || (mulM (termM m q).1 m).1.v.any (flw (wholeF ((q : Int) + 1))))) = _
        rw [Bool.or_assoc, Bool.or_assoc, Bool.or_assoc])
      have HT1 := Lib.hid ((HTO.out (q + 1)).2)
      obtain ⟨wp, hwp⟩ : ∃ wp, wholeF ((q : Int) + 1) = wp := ⟨_, rfl⟩
      rw [hwp] at HNX2
      have HWP := Lib.hid hwp
      have hw64 : I64 wp.1 := hwp ▸ (wholeF_fx _).i64
      clear hwp hpn HNX
      generalize (c0 || (termM m q).2) = cq at *
      generalize (mulM (termM m q).1 m).2 = mf at *
      generalize (mulM (termM m q).1 m).1 = mm at *
      obtain ⟨mr, mc, vs⟩ := mm
      dsimp only at hMul0 HNX2 hvl hvl2
      obtain ⟨nv, hnv⟩ : ∃ nv, vs.length = nv := ⟨_, rfl⟩
      rw [hnv] at hMul0 hvl hvl2
      have HNV := Lib.hid hnv
      have hMul := hMul0
      clear hMul0 hnv
      have fq1 : IntKind.i64.wrap ((q : Int) + 1 - 1) = (q : Int) := by rw [Int.add_sub_cancel]; exact IntWalk.i64_in _ (by omega)
      have fq2 : IntKind.i64.wrap (q : Int) = (q : Int) := IntWalk.i64_in _ (by omega)
      have fq3 : (q : Int) < ((q + 1 : Nat) : Int) := by omega
      have fq4 : (q : Int) < (q : Int) + 1 := by omega
      have fq5 : (0 : Int) ≤ (q : Int) := by omega
      go_wp2_with fail
      refine region_fp [some 38, some 39, some 40, some 41, some 42, some 43, some 44, some 45, some 37, some 46, some 47, some 12, none, some 13] [7, 9, 11, 12] [some (Value.pointer (some ⟨b, 0, none⟩)), some (Value.slice (some y) (q + 1) kk), some (Value.int .i64 ((q : Int) + 1)), some (Value.int .i64 (q : Int)), some (Value.pointer (some (y.add (q * 3)))), some (Value.agg #[Value.int .i64 (c : Int), Value.int .i64 (c : Int), Value.slice a1 pn k1]), some (Value.agg #[Value.int .i64 (c : Int), Value.int .i64 (c : Int), Value.slice a am k]), none, none, none, some (Value.int .i64 0), none, none, some (Value.int .i64 0)]
        (fun i v W => match i with | 7 => ∃ av kv, v = Value.tuple #[Value.agg #[.int .i64 c, .int .i64 c, .slice av nv kv], Value.int .i64 0] ∧ LI W3.heap.size W av kv vs | 8 => ∃ av kv, v = Value.tuple #[Value.agg #[.int .i64 c, .int .i64 c, .slice av nv kv], Value.int .i64 0] ∧ LI W3.heap.size W av kv vs | 9 => ∃ av kv, v = Value.agg #[.int .i64 c, .int .i64 c, .slice av nv kv] ∧ LI W3.heap.size W av kv vs | 11 => ∃ e, v = Value.pointer (some ⟨e, 0, none⟩) | _ => True) (fun W W' => ∀ k, W3.heap.size ≤ k → Ty W k 3 → W'.heap[k]? = W.heap[k]?) (fun L f W => (L 7 = false → UR W b cq) ∧ (L 7 = true → UR W b (cq || mf)) ∧ Eff P W3 W ∧ (∀ e, f 11 = Value.pointer (some ⟨e, 0, none⟩) → L 11 = true → W3.heap.size ≤ e ∧ (L 12 = false → Blk W e #[.int .i64 0, .int .i64 0, .slice none 0 0] 24) ∧ (L 12 = true → Blk W e (f 9).cells 24)))
        (by kernel_rfl) (by kernel_rfl) (by kernel_rfl) (by kernel_rfl) (by kernel_rfl) (fun _ _ _ _ => rfl) (fun i v W W' h hb => by
          match i, h with
          | 7, ⟨av, kv, h1, h2⟩ => exact ⟨av, kv, h1, h2.same fun x hx hn => hb _ (h2.mi.lo x hx hn) (h2.wj.ty x hx hn)⟩
          | 8, ⟨av, kv, h1, h2⟩ => exact ⟨av, kv, h1, h2.same fun x hx hn => hb _ (h2.mi.lo x hx hn) (h2.wj.ty x hx hn)⟩
          | 9, ⟨av, kv, h1, h2⟩ => exact ⟨av, kv, h1, h2.same fun x hx hn => hb _ (h2.mi.lo x hx hn) (h2.wj.ty x hx hn)⟩
          | 11, h => exact h
          | 0, _ | 1, _ | 2, _ | 3, _ | 4, _ | 5, _ | 6, _ | 10, _ | 12, _ | 13, _ => trivial
          | (n + 14), _ => trivial) (fun L L' f f' W h hs => by have q1 := (h 7 (by decide)).1; have q2 := (h 9 (by decide)); have q3 := (h 11 (by decide)); have q4 := (h 12 (by decide)).1; (try dsimp only at hs ⊢); rw [← q1, ← q2.2, ← q3.1, ← q3.2, ← q4]; exact hs) ⟨fun _ => hD0.1, fun h => (Bool.false_ne_true h).elim, hD0.2, fun e _ h => (Bool.false_ne_true h).elim⟩ ?_ ?_
      · intro i hi b' L f W hSW hL hdep hsh he hsv hsl hFF K hK1 hK2
        replace hi : i < 14 := hi
        have hcs : i = 0 ∨ i = 1 ∨ i = 2 ∨ i = 3 ∨ i = 4 ∨ i = 5 ∨ i = 6 ∨ i = 7 ∨ i = 8 ∨ i = 9 ∨ i = 10 ∨ i = 11 ∨ i = 12 ∨ i = 13 := by omega
        clear hi
        rcases hcs with rfl | rfl | rfl | rfl | rfl | rfl | rfl | rfl | rfl | rfl | rfl | rfl | rfl | rfl
        · refine wpOpS_go rfl rfl ?_
          have t0 : b'.tmps[0]?.getD undef = Value.pointer (some ⟨b, 0, none⟩) := he 0 (by kernel_rfl)
          have HK := Lib.hid hK1
          clear hK1 hK2 hdep hsh he hsv hsl hFF hL
          clear hSW
          go_simp
          exact HK.out rfl _ (fp_mk rfl rfl trivial)
        · refine wpOpS_go rfl rfl ?_
          have t10 : b'.tmps[10]?.getD undef = Value.slice (some y) (q + 1) kk := he 10 (by kernel_rfl)
          have HK := Lib.hid hK1
          clear hK1 hK2 hdep hsh he hsv hsl hFF hL
          clear hSW
          go_simp
          exact HK.out rfl _ (fp_mk rfl rfl trivial)
        · refine wpOpS_go rfl rfl ?_
          have t11 : b'.tmps[11]?.getD undef = Value.int .i64 ((q : Int) + 1) := he 11 (by kernel_rfl)
          have HK := Lib.hid hK1
          clear hK1 hK2 hdep hsh he hsv hsl hFF hL
          clear hSW
          go_simp
          exact HK.out rfl _ (fp_mk rfl rfl trivial)
        · refine wpOpS_go rfl rfl ?_
          have t40 : b'.tmps[40]?.getD undef = Value.int .i64 ((q : Int) + 1) := hsv 2 40 _ (by kernel_rfl) (by kernel_rfl) rfl
          have HK := Lib.hid hK1
          clear hK1 hK2 hdep hsh he hsv hsl hFF hL
          clear hSW
          go_simp
          exact HK.out rfl _ (fp_mk rfl rfl trivial)
        · refine wpOpS_go rfl rfl ?_
          have t39 : b'.tmps[39]?.getD undef = Value.slice (some y) (q + 1) kk := hsv 1 39 _ (by kernel_rfl) (by kernel_rfl) rfl
          have t41 : b'.tmps[41]?.getD undef = Value.int .i64 (q : Int) := hsv 3 41 _ (by kernel_rfl) (by kernel_rfl) rfl
          have HK := Lib.hid hK1
          clear hK1 hK2 hdep hsh he hsv hsl hFF hL
          clear hSW
          go_simp
          exact HK.out rfl _ (fp_mk rfl rfl trivial)
        · refine wpOpS_go rfl rfl ?_
          have t42 : b'.tmps[42]?.getD undef = Value.pointer (some (y.add (q * 3))) := hsv 4 42 _ (by kernel_rfl) (by kernel_rfl) rfl
          obtain ⟨s0, s1, s2, s3⟩ := hSW
          obtain ⟨b0, b1, b2⟩ := hcells W s2
          have HK := Lib.hid hK1
          clear hK1 hK2 hdep hsh he hsv hsl hFF hL
          clear s0 s1 s2 s3
          go_simp
          exact HK.out rfl _ (fp_mk rfl rfl trivial)
        · refine wpOpS_go rfl rfl ?_
          have t4 : b'.tmps[4]?.getD undef = Value.pointer (some ⟨w0.heap.size, 0, none⟩) := he 4 (by kernel_rfl)
          obtain ⟨s0, s1, s2, s3⟩ := hSW
          have c0 := (hbx W s2).cell
          have HK := Lib.hid hK1
          clear hK1 hK2 hdep hsh he hsv hsl hFF hL
          clear s0 s1 s2 s3
          go_simp
          exact HK.out rfl _ (fp_mk rfl rfl trivial)
        · refine wpOpS_go rfl rfl ?_
          have t38 : b'.tmps[38]?.getD undef = Value.pointer (some ⟨b, 0, none⟩) := hsv 0 38 _ (by kernel_rfl) (by kernel_rfl) rfl
          have t43 : b'.tmps[43]?.getD undef = Value.agg #[Value.int .i64 (c : Int), Value.int .i64 (c : Int), Value.slice a1 pn k1] := hsv 5 43 _ (by kernel_rfl) (by kernel_rfl) rfl
          have t44 : b'.tmps[44]?.getD undef = Value.agg #[Value.int .i64 (c : Int), Value.int .i64 (c : Int), Value.slice a am k] := hsv 6 44 _ (by kernel_rfl) (by kernel_rfl) rfl
          obtain ⟨s0, s1, s2, s3⟩ := hSW
          have hu := s0 hL
          have HK := Lib.hid hK2
          have hA := hMul W s2 hu
          have hal := hsh 12 (by kernel_rfl)
          clear hK1 hK2 hdep hsh he hsv hsl hFF hL
          go_simp
          refine hA.mono ?_
          rintro e w6 ⟨av, kv, rfl, hli, hU6, hE6⟩
          exact HK.out _ _ (fp_x rfl ⟨av, kv, rfl, hli⟩) (fun k hk ht => hE6.block k ht.lt (fun hp => by have := hPl3 _ hp; omega)) ⟨fun h => absurd h (by rw [updF_same]; decide), fun _ => hU6, s2.trans hE6 (fun _ _ h => h), fun e h1 h2 => ⟨(s3 e h1 h2).1, fun h => hE6.blk ((s3 e h1 h2).2.1 h) (fun hp => by have := hPl3 _ hp; have := (s3 e h1 h2).1; omega), fun h => absurd h (by show ¬ L 12 = true; rw [hal]; decide)⟩⟩
        · refine wpOpS_go rfl rfl ?_
          obtain ⟨t45, hx⟩ := hsl 7 45 (by kernel_rfl) (by kernel_rfl)
          obtain ⟨av, kv, e1, hli⟩ := hx
          rw [e1] at t45
          have HK := Lib.hid hK1
          clear hK1 hK2 hdep hsh he hsv hsl hFF hL hSW e1
          go_simp
          exact HK.out rfl _ (fp_x rfl ⟨av, kv, rfl, hli⟩)
        · refine wpOpS_go rfl rfl ?_
          obtain ⟨t37, hx⟩ := hsl 8 37 (by kernel_rfl) (by kernel_rfl)
          obtain ⟨av, kv, e1, hli⟩ := hx
          rw [e1] at t37
          obtain ⟨s0, s1, s2, s3⟩ := hSW
          have HK := Lib.hid hK2
          have hst := hsh 12 (by kernel_rfl)
          clear hK1 hK2 hdep hsh he hsv hsl hFF hL e1
          go_simp
          exact HK.out _ _ (fp_x rfl ⟨av, kv, rfl, hli⟩) (fun _ _ _ => rfl) ⟨s0, s1, s2, fun e h1 h2 => ⟨(s3 e h1 h2).1, (s3 e h1 h2).2.1, fun h => absurd h (by show ¬ L 12 = true; rw [hst]; decide)⟩⟩
        · refine wpOpS_go rfl rfl ?_
          obtain ⟨t37, hx⟩ := hsl 8 37 (by kernel_rfl) (by kernel_rfl)
          obtain ⟨av, kv, e1, hli⟩ := hx
          rw [e1] at t37
          have HK := Lib.hid hK1
          clear hK1 hK2 hdep hsh he hsv hsl hFF hL hSW e1
          go_simp
          exact HK.out rfl _ (fp_mk rfl rfl trivial)
        · refine wpOpS_go rfl rfl ?_
          obtain ⟨s0, s1, s2, s3⟩ := hSW
          have HK := Lib.hid hK2
          have hst := hsh 12 (by kernel_rfl)
          have hws := s2.size
          clear hK1 hK2 hdep hsh he hsv hsl hFF hL
          refine op_new (cs := #[.int .i64 0, .int .i64 0, .slice none 0 0]) (t := 24) (by go_simp) ?_
          intro w6 hb hB hz
          exact HK.out _ _ (fp_x rfl ⟨_, rfl⟩) (fun k hk ht => hB.block k ht.lt) ⟨fun h => (s0 h).keep hB, fun h => (s1 h).keep hB, s2.trans (Eff.of (P := P) hB) (fun _ _ h => h), fun e h1 _ => by
            rw [updF_same] at h1
            cases h1
            exact ⟨hws, fun _ => hb, fun h => absurd h (by show ¬ L 12 = true; rw [hst]; decide)⟩⟩
        · refine wpOpS_go rfl rfl ?_
          obtain ⟨t12, hxa⟩ := hsl 11 12 (by kernel_rfl) (by kernel_rfl)
          obtain ⟨t46, hxx⟩ := hsl 9 46 (by kernel_rfl) (by kernel_rfl)
          obtain ⟨e1, e2⟩ := hxa
          obtain ⟨av, kv, e3, hli⟩ := hxx
          rw [e2] at t12
          rw [e3] at t46
          obtain ⟨s0, s1, s2, s3⟩ := hSW
          have HK := Lib.hid hK2
          have lal := hdep 11 (by kernel_rfl)
          obtain ⟨z1, z2, z3⟩ := s3 e1 e2 lal
          have hmb := z2 hL
          clear hK1 hK2 hdep hsh he hsv hsl hFF z2 z3
          refine op_store 24 _ _ rfl rfl hmb 0 (eval_tmp t12) (eval_tmp t46) ([.int .i64 c, .int .i64 c, .slice av nv kv] : List Value) (by rfl) (by kernel_rfl) (by rfl) (by rfl) #[.int .i64 c, .int .i64 c, .slice av nv kv] rfl ?_
          intro w6 g6 ef hz
          have hub : ∀ {c}, UR W b c → UR w6 b c := fun h => by
            obtain ⟨mm, hm⟩ := h
            exact ⟨mm, ef.blk hm (by omega)⟩
          exact HK.out undef _ (fp_x (v := undef) rfl trivial) (fun k hk ht => ef.block k ht.lt (fun e => by subst e; exact absurd (ht.inj hmb.ty) (by decide))) ⟨fun h => hub (s0 h), fun h => hub (s1 h), s2.trans ef (fun k hk e => by omega), fun e h1 _ => by
            rw [updF_ne _ _ (by decide), e2] at h1
            cases h1
            exact ⟨z1, fun h => absurd h (by rw [updF_same]; decide), fun _ => by rw [updF_ne _ _ (by decide), e3]; exact g6⟩⟩
        · refine wpOpS_go rfl rfl ?_
          have t47 : b'.tmps[47]?.getD undef = Value.int .i64 0 := hsv 10 47 _ (by kernel_rfl) (by kernel_rfl) rfl
          have HK := Lib.hid hK1
          clear hK1 hK2 hdep hsh he hsv hsl hFF hL hSW
          go_simp
          exact HK.out rfl _ (fp_mk rfl rfl trivial)
      · intro f W hf L hL hS
        obtain ⟨s0, s1, s2, s3⟩ := (hS : _ ∧ _ ∧ _ ∧ _)
        replace s1 := s1 (hL 7 (by decide))
        obtain ⟨av1, kv1, e7, _⟩ := (hf 7 (by decide)).2
        obtain ⟨av2, kv2, e8, _⟩ := (hf 8 (by decide)).2
        obtain ⟨av, kv, e9, hli⟩ := (hf 9 (by decide)).2
        obtain ⟨nb, e11⟩ := (hf 11 (by decide)).2
        obtain ⟨hnb, _, z3⟩ := s3 nb e11 (hL 11 (by decide))
        replace z3 := z3 (hL 12 (by decide))
        rw [e9] at z3
        have e0 : f 0 = Value.pointer (some ⟨b, 0, none⟩) := (hf 0 (by decide)).1 _ rfl
        have e1 : f 1 = Value.slice (some y) (q + 1) kk := (hf 1 (by decide)).1 _ rfl
        have e2 : f 2 = Value.int .i64 ((q : Int) + 1) := (hf 2 (by decide)).1 _ rfl
        have e3 : f 3 = Value.int .i64 (q : Int) := (hf 3 (by decide)).1 _ rfl
        have e4 : f 4 = Value.pointer (some (y.add (q * 3))) := (hf 4 (by decide)).1 _ rfl
        have e5 : f 5 = Value.agg #[Value.int .i64 (c : Int), Value.int .i64 (c : Int), Value.slice a1 pn k1] := (hf 5 (by decide)).1 _ rfl
        have e6 : f 6 = Value.agg #[Value.int .i64 (c : Int), Value.int .i64 (c : Int), Value.slice a am k] := (hf 6 (by decide)).1 _ rfl
        have e10 : f 10 = Value.int .i64 0 := (hf 10 (by decide)).1 _ rfl
        have e13 : f 13 = Value.int .i64 0 := (hf 13 (by decide)).1 _ rfl
        replace z3 : Blk W nb #[.int .i64 c, .int .i64 c, .slice av nv kv] 24 := z3
        clear hf hL s0 s3
        simp only [puts2, Act.put, e0, e1, e2, e3, e4, e5, e6, e7, e8, e9, e10, e11, e13]
        try simp only [List.setIfInBounds_toArray, List.set_cons_zero, List.set_cons_succ]
        clear e0 e1 e2 e3 e4 e5 e6 e7 e8 e9 e10 e11 e13
        have hx4 : ∃ x, av = some x := by
          obtain ⟨x, hx, _⟩ := hli.mi.cell 0 (by rw [HNV.out]; exact hvl)
          exact ⟨x, hx⟩
        obtain ⟨x, rfl⟩ := hx4
        have hD : DvR W3 P b nb (cq || mf) c c x kv wp vs 0 W := ⟨by rw [HNV.out]; exact z3, by simpa using hli, by simpa using s1, s2⟩
        clear s1 s2 z3 hli hMul hcells hD0
        go_wp2_with fail
        go_loopw [14] (fun i wr => ∃ j : Nat, j ≤ nv ∧ i = .int .i64 j ∧ DvR W3 P b nb (cq || mf) c c x kv wp vs j wr) (fun i _ => nv - (intOf i).toNat)
        case atStart => exact ⟨0, Nat.zero_le _, rfl, hD⟩
        case round =>
          clear hD
          obtain ⟨j, hj, rfl, hD⟩ := hrel
          by_cases hlt : j < nv
          · have hlt' : (j : Int) < (nv : Int) := by omega
            have hj0 : (0 : Int) ≤ (j : Int) := by omega
            have hjv : j < vs.length := by rw [HNV.out]; exact hlt
            have HSET := Lib.hid (set_at (d := dvw wp.1) hjv)
            have hzj : ∃ hh : j < ((vs.take j).map (dvw wp.1) ++ vs.drop j).length, ((vs.take j).map (dvw wp.1) ++ vs.drop j)[j] = vs[j] := ⟨by simp; omega, at_at hjv _⟩
            have HANY := Lib.hid (show ((cq || mf) || (vs.take (j + 1)).any (flw wp)) = ((cq || mf) || (vs.take j).any (flw wp) || wp.2 || (divF vs[j] wp.1).2) by
              rw [List.take_succ_eq_append_getElem hjv, List.any_append]
              simp only [List.any_cons, List.any_nil, Bool.or_false]
              rw [show flw wp vs[j] = (wp.2 || (divF vs[j] wp.1).2) from rfl]
              simp only [Bool.or_assoc])
            obtain ⟨s0, s2, s3, s4⟩ := hD
            rw [HNV.out] at s0
            have d0 := s0.cell
            have hz64 : I64 vs[j] := by
              have := s2.mi.rng (vs[j]) (by rw [← hzj.2]; exact List.getElem_mem _)
              exact this
            generalize vs[j] = z at *
            generalize hzs : (vs.take j).map (dvw wp.1) ++ vs.drop j = zs at HSET s2 hzj
            obtain ⟨c2, hc2'⟩ : ∃ c2, ((cq || mf) || (vs.take j).any (flw wp)) = c2 := ⟨_, rfl⟩
            rw [hc2'] at HANY s3
            clear hzs hc2'
            obtain ⟨hjz, hzj⟩ := hzj
            have hzl : 0 < zs.length := Nat.lt_of_le_of_lt (Nat.zero_le _) hjz
            have hZ : ∀ W, LI W3.heap.size W (some x) kv zs → W.cell? (x.add j) = some (.int .i64 z) := fun W h => by
              obtain ⟨y, hy, hcy⟩ := h.mi.cell j hjz
              cases hy
              rw [hcy, hzj]
            have hZf : ∀ W, LI W3.heap.size W (some x) kv zs → W.frozen? (x.add j) = false := fun W h => by
              obtain ⟨y, hy, _, hf, _⟩ := h.wj.wi.at_ j hjz
              cases hy
              exact hf
            have hq64 : I64 ((q : Int) + 1) := ⟨by omega, by omega⟩
            have hWH : ∀ W c, UR W b c → Calls Tryz.prog 55 #[.pointer (some ⟨b, 0, none⟩), .int .i64 ((q : Int) + 1)] W fun e w' => e = .returned (.int .i64 wp.1) ∧ UR w' b (c || wp.2) ∧ Eff P W w' := fun W c h => by
              have := uWholeR_is h _ hq64
              rw [HWP.out] at this
              exact this.mono fun e w' h => ⟨h.1, h.2.1, hbP _ _ h.2.2⟩
            have hDV : ∀ W c, UR W b c → Calls Tryz.prog 54 #[.pointer (some ⟨b, 0, none⟩), .int .i64 z, .int .i64 wp.1] W fun e w' => e = .returned (.int .i64 (dvw wp.1 z)) ∧ UR w' b (c || (divF z wp.1).2) ∧ Eff P W w' := fun W c h => (uDivR_is h z wp.1 hz64 hw64).mono fun e w' h => ⟨h.1, h.2.1, hbP _ _ h.2.2⟩
            have hd64 : I64 (dvw wp.1 z) := dvw_64 _ _
            have n0 : ¬ P nb := fun hp => by have := hPl3 _ hp; omega
            have hD0 : Blk wr.drew nb #[.int .i64 c, .int .i64 c, .slice (some x) nv kv] 24 ∧ LI W3.heap.size wr.drew (some x) kv zs ∧ UR wr.drew b c2 ∧ Eff P W3 wr.drew := ⟨s0.drew, s2.keep (upD (upR _)), s3.drew, s4.trans (Eff.of (P := P) (upD (upR _))) (fun _ _ h => h)⟩
            clear hzj
            go_wp2_with fail
            clear d0 s0 s2 s3 s4
            refine region_fp [some 55, some 56, some 57, some 58, some 59, some 60, some 61, some 62, some 63, some 64, some 65, some 66, some 67, some 68, none] [11, 12, 14] [some (Value.pointer (some ⟨nb, 2, none⟩)), some (Value.slice (some x) nv kv), some (Value.int .i64 (j : Int)), some (Value.pointer (some ⟨b, 0, none⟩)), some (Value.pointer (some ⟨nb, 2, none⟩)), some (Value.slice (some x) nv kv), some (Value.int .i64 (j : Int)), some (Value.pointer (some (x.add j))), some (Value.int .i64 z), some (Value.pointer (some ⟨b, 0, none⟩)), some (Value.int .i64 ((q : Int) + 1)), some (Value.int .i64 wp.1), some (Value.int .i64 (dvw wp.1 z)), some (Value.pointer (some (x.add j))), none]
              (fun _ _ _ => True) (fun _ _ => True) (fun L f W => Blk W nb #[.int .i64 c, .int .i64 c, .slice (some x) nv kv] 24 ∧ (L 14 = false → LI W3.heap.size W (some x) kv zs) ∧ (L 14 = true → LI W3.heap.size W (some x) kv (zs.set j (dvw wp.1 z))) ∧ (L 11 = false → UR W b c2) ∧ (L 11 = true → L 12 = false → UR W b (c2 || wp.2)) ∧ (L 12 = true → UR W b (c2 || wp.2 || (divF z wp.1).2)) ∧ Eff P W3 W)
              (by kernel_rfl) (by kernel_rfl) (by kernel_rfl) (by kernel_rfl) (by kernel_rfl) (fun _ => trivial) (fun _ _ _ _ _ _ => trivial) (fun L L' f f' W h hs => by have q11 := (h 11 (by decide)).1; have q12 := (h 12 (by decide)).1; have q14 := (h 14 (by decide)).1; (try dsimp only at hs ⊢); rw [← q11, ← q12, ← q14]; exact hs) ⟨hD0.1, fun _ => hD0.2.1, fun h => (Bool.false_ne_true h).elim, fun _ => hD0.2.2.1, fun h => (Bool.false_ne_true h).elim, fun h => (Bool.false_ne_true h).elim, hD0.2.2.2⟩ ?_ ?_
            · intro i hi b' L f W hSW hL hdep hsh he hsv hsl hFF K hK1 hK2
              replace hi : i < 15 := hi
              have hcs : i = 0 ∨ i = 1 ∨ i = 2 ∨ i = 3 ∨ i = 4 ∨ i = 5 ∨ i = 6 ∨ i = 7 ∨ i = 8 ∨ i = 9 ∨ i = 10 ∨ i = 11 ∨ i = 12 ∨ i = 13 ∨ i = 14 := by omega
              clear hi
              rcases hcs with rfl | rfl | rfl | rfl | rfl | rfl | rfl | rfl | rfl | rfl | rfl | rfl | rfl | rfl | rfl
              · refine wpOpS_go rfl rfl ?_
                have t12 : b'.tmps[12]?.getD undef = Value.pointer (some ⟨nb, 0, none⟩) := he 12 (by kernel_rfl)
                have HK := Lib.hid hK1
                clear hK1 hK2 hdep hsh he hsv hsl hFF hL hSW
                go_simp
                exact HK.out rfl _ (fp_mk rfl rfl trivial)
              · refine wpOpS_go rfl rfl ?_
                have t55 : b'.tmps[55]?.getD undef = Value.pointer (some ⟨nb, 2, none⟩) := hsv 0 55 _ (by kernel_rfl) (by kernel_rfl) rfl
                obtain ⟨s0, s2, s3, s4, s5, s6, s7⟩ := hSW
                have c0 := s0.cell
                have HK := Lib.hid hK1
                clear hK1 hK2 hdep hsh he hsv hsl hFF hL
                clear s0 s2 s3 s4 s5 s6 s7
                go_simp
                exact HK.out rfl _ (fp_mk rfl rfl trivial)
              · refine wpOpS_go rfl rfl ?_
                have t14 : b'.tmps[14]?.getD undef = Value.int .i64 (j : Int) := he 14 (by kernel_rfl)
                have HK := Lib.hid hK1
                clear hK1 hK2 hdep hsh he hsv hsl hFF hL hSW
                go_simp
                exact HK.out rfl _ (fp_mk rfl rfl trivial)
              · refine wpOpS_go rfl rfl ?_
                have t0 : b'.tmps[0]?.getD undef = Value.pointer (some ⟨b, 0, none⟩) := he 0 (by kernel_rfl)
                have HK := Lib.hid hK1
                clear hK1 hK2 hdep hsh he hsv hsl hFF hL hSW
                go_simp
                exact HK.out rfl _ (fp_mk rfl rfl trivial)
              · refine wpOpS_go rfl rfl ?_
                have t12 : b'.tmps[12]?.getD undef = Value.pointer (some ⟨nb, 0, none⟩) := he 12 (by kernel_rfl)
                have HK := Lib.hid hK1
                clear hK1 hK2 hdep hsh he hsv hsl hFF hL hSW
                go_simp
                exact HK.out rfl _ (fp_mk rfl rfl trivial)
              · refine wpOpS_go rfl rfl ?_
                have t59 : b'.tmps[59]?.getD undef = Value.pointer (some ⟨nb, 2, none⟩) := hsv 4 59 _ (by kernel_rfl) (by kernel_rfl) rfl
                obtain ⟨s0, s2, s3, s4, s5, s6, s7⟩ := hSW
                have c0 := s0.cell
                have HK := Lib.hid hK1
                clear hK1 hK2 hdep hsh he hsv hsl hFF hL
                clear s0 s2 s3 s4 s5 s6 s7
                go_simp
                exact HK.out rfl _ (fp_mk rfl rfl trivial)
              · refine wpOpS_go rfl rfl ?_
                have t14 : b'.tmps[14]?.getD undef = Value.int .i64 (j : Int) := he 14 (by kernel_rfl)
                have HK := Lib.hid hK1
                clear hK1 hK2 hdep hsh he hsv hsl hFF hL hSW
                go_simp
                exact HK.out rfl _ (fp_mk rfl rfl trivial)
              · refine wpOpS_go rfl rfl ?_
                have t60 : b'.tmps[60]?.getD undef = Value.slice (some x) nv kv := hsv 5 60 _ (by kernel_rfl) (by kernel_rfl) rfl
                have t61 : b'.tmps[61]?.getD undef = Value.int .i64 (j : Int) := hsv 6 61 _ (by kernel_rfl) (by kernel_rfl) rfl
                have HK := Lib.hid hK1
                clear hK1 hK2 hdep hsh he hsv hsl hFF hL hSW
                go_simp
                exact HK.out rfl _ (fp_mk rfl rfl trivial)
              · refine wpOpS_go rfl rfl ?_
                have t62 : b'.tmps[62]?.getD undef = Value.pointer (some (x.add j)) := hsv 7 62 _ (by kernel_rfl) (by kernel_rfl) rfl
                obtain ⟨s0, s2, s3, s4, s5, s6, s7⟩ := hSW
                have hz1 := hZ W (s2 (hsh 14 (by kernel_rfl)))
                have HK := Lib.hid hK1
                clear hK1 hK2 hdep hsh he hsv hsl hFF hL
                clear s0 s2 s3 s4 s5 s6 s7
                go_simp
                exact HK.out rfl _ (fp_mk rfl rfl trivial)
              · refine wpOpS_go rfl rfl ?_
                have t0 : b'.tmps[0]?.getD undef = Value.pointer (some ⟨b, 0, none⟩) := he 0 (by kernel_rfl)
                have HK := Lib.hid hK1
                clear hK1 hK2 hdep hsh he hsv hsl hFF hL hSW
                go_simp
                exact HK.out rfl _ (fp_mk rfl rfl trivial)
              · refine wpOpS_go rfl rfl ?_
                have t11 : b'.tmps[11]?.getD undef = Value.int .i64 ((q : Int) + 1) := he 11 (by kernel_rfl)
                have HK := Lib.hid hK1
                clear hK1 hK2 hdep hsh he hsv hsl hFF hL hSW
                go_simp
                exact HK.out rfl _ (fp_mk rfl rfl trivial)
              · refine wpOpS_go rfl rfl ?_
                have t64 : b'.tmps[64]?.getD undef = Value.pointer (some ⟨b, 0, none⟩) := hsv 9 64 _ (by kernel_rfl) (by kernel_rfl) rfl
                have t65 : b'.tmps[65]?.getD undef = Value.int .i64 ((q : Int) + 1) := hsv 10 65 _ (by kernel_rfl) (by kernel_rfl) rfl
                obtain ⟨s0, s2, s3, s4, s5, s6, s7⟩ := hSW
                have hu := s4 hL
                have h12 := hsh 12 (by kernel_rfl)
                have HK := Lib.hid hK2
                clear hK1 hK2 hdep hsh he hsv hsl hFF hL
                go_simp
                refine (hWH _ _ hu).mono ?_
                rintro e w6 ⟨rfl, hU6, hE6⟩
                exact HK.out _ _ (fp_mk rfl rfl trivial) trivial ⟨hE6.blk s0 n0, fun h => li_eff (s2 h) hE6 hPl3, fun h => li_eff (s3 h) hE6 hPl3, fun h => absurd h (by rw [updF_same]; decide), fun _ _ => hU6, fun h => absurd h (by show ¬ L 12 = true; rw [h12]; decide), s7.trans hE6 (fun _ _ h => h)⟩
              · refine wpOpS_go rfl rfl ?_
                have t58 : b'.tmps[58]?.getD undef = Value.pointer (some ⟨b, 0, none⟩) := hsv 3 58 _ (by kernel_rfl) (by kernel_rfl) rfl
                have t63 : b'.tmps[63]?.getD undef = Value.int .i64 z := hsv 8 63 _ (by kernel_rfl) (by kernel_rfl) rfl
                have t66 : b'.tmps[66]?.getD undef = Value.int .i64 wp.1 := hsv 11 66 _ (by kernel_rfl) (by kernel_rfl) rfl
                obtain ⟨s0, s2, s3, s4, s5, s6, s7⟩ := hSW
                have hu := s5 (hdep 11 (by kernel_rfl)) hL
                have h11 := hdep 11 (by kernel_rfl)
                have HK := Lib.hid hK2
                clear hK1 hK2 hdep hsh he hsv hsl hFF hL
                go_simp
                refine (hDV _ _ hu).mono ?_
                rintro e w6 ⟨rfl, hU6, hE6⟩
                exact HK.out _ _ (fp_mk rfl rfl trivial) trivial ⟨hE6.blk s0 n0, fun h => li_eff (s2 h) hE6 hPl3, fun h => li_eff (s3 h) hE6 hPl3, fun h => absurd (show L 11 = false from h) (by rw [h11]; decide), fun _ h => absurd h (by rw [updF_same]; decide), fun _ => hU6, s7.trans hE6 (fun _ _ h => h)⟩
              · refine wpOpS_go rfl rfl ?_
                have t56 : b'.tmps[56]?.getD undef = Value.slice (some x) nv kv := hsv 1 56 _ (by kernel_rfl) (by kernel_rfl) rfl
                have t57 : b'.tmps[57]?.getD undef = Value.int .i64 (j : Int) := hsv 2 57 _ (by kernel_rfl) (by kernel_rfl) rfl
                have HK := Lib.hid hK1
                clear hK1 hK2 hdep hsh he hsv hsl hFF hL hSW
                go_simp
                exact HK.out rfl _ (fp_mk rfl rfl trivial)
              · refine wpOpS_go rfl rfl ?_
                have t67 : b'.tmps[67]?.getD undef = Value.int .i64 (dvw wp.1 z) := hsv 12 67 _ (by kernel_rfl) (by kernel_rfl) rfl
                have t68 : b'.tmps[68]?.getD undef = Value.pointer (some (x.add j)) := hsv 13 68 _ (by kernel_rfl) (by kernel_rfl) rfl
                obtain ⟨s0, s2, s3, s4, s5, s6, s7⟩ := hSW
                have hli := s2 hL
                have hz1 := hZ W hli
                have hfz := hZf W hli
                have HK := Lib.hid hK2
                clear hK1 hK2 hdep hsh he hsv hsl hFF hL
                go_simp
                have hw := hli.wj.ty x rfl hzl
                have hwb := LI.put hli j hjz (dvw wp.1 z) hd64
                have hbl := LI.lo0 hli hzl
                have hE : Eff (fun k => k = x.block) W (W.setCell (x.add j) (.int .i64 (dvw wp.1 z))) := Eff.set _ _ (by rw [add_block])
                have hux : ∀ c, UR W b c → UR (W.setCell (x.add j) (.int .i64 (dvw wp.1 z))) b c := fun c ⟨mm, h⟩ => ⟨mm, hE.blk h (blk_int h hw (by decide))⟩
                exact HK.out undef _ (fp_x (v := undef) rfl trivial) trivial ⟨hE.blk s0 (blk_int s0 hw (by decide)), fun h => absurd h (by rw [updF_same]; decide), fun _ => hwb, fun h => hux _ (s4 h), fun h h' => hux _ (s5 h h'), fun h => hux _ (s6 h), s7.trans hE (fun k hk h => by omega)⟩
            · intro f W hf L hL hS
              obtain ⟨s0, s2, s3, s4, s5, s6, s7⟩ := (hS : _ ∧ _ ∧ _ ∧ _ ∧ _ ∧ _ ∧ _)
              replace s3 := s3 (hL 14 (by decide))
              replace s6 := s6 (hL 12 (by decide))
              have e0 : f 0 = Value.pointer (some ⟨nb, 2, none⟩) := (hf 0 (by decide)).1 _ rfl
              have e1 : f 1 = Value.slice (some x) nv kv := (hf 1 (by decide)).1 _ rfl
              have e2 : f 2 = Value.int .i64 (j : Int) := (hf 2 (by decide)).1 _ rfl
              have e3 : f 3 = Value.pointer (some ⟨b, 0, none⟩) := (hf 3 (by decide)).1 _ rfl
              have e4 : f 4 = Value.pointer (some ⟨nb, 2, none⟩) := (hf 4 (by decide)).1 _ rfl
              have e5 : f 5 = Value.slice (some x) nv kv := (hf 5 (by decide)).1 _ rfl
              have e6 : f 6 = Value.int .i64 (j : Int) := (hf 6 (by decide)).1 _ rfl
              have e7 : f 7 = Value.pointer (some (x.add j)) := (hf 7 (by decide)).1 _ rfl
              have e8 : f 8 = Value.int .i64 z := (hf 8 (by decide)).1 _ rfl
              have e9 : f 9 = Value.pointer (some ⟨b, 0, none⟩) := (hf 9 (by decide)).1 _ rfl
              have e10 : f 10 = Value.int .i64 ((q : Int) + 1) := (hf 10 (by decide)).1 _ rfl
              have e11 : f 11 = Value.int .i64 wp.1 := (hf 11 (by decide)).1 _ rfl
              have e12 : f 12 = Value.int .i64 (dvw wp.1 z) := (hf 12 (by decide)).1 _ rfl
              have e13 : f 13 = Value.pointer (some (x.add j)) := (hf 13 (by decide)).1 _ rfl
              clear hf hL s2 s4 s5
              simp only [puts2, Act.put, e0, e1, e2, e3, e4, e5, e6, e7, e8, e9, e10, e11, e12, e13]
              try simp only [List.setIfInBounds_toArray, List.set_cons_zero, List.set_cons_succ]
              have HS3 := Lib.hid s3
              have HS6 := Lib.hid s6
              clear s3 s6 e0 e1 e2 e3 e4 e5 e6 e7 e8 e9 e10 e11 e12 e13
              go_wp2_with fail
              go_roundw
              case rel => exact ⟨j + 1, by omega, by go_num, ⟨by rw [HNV.out]; exact s0, by rw [← HSET.out]; exact HS3.out, by rw [HANY.out]; exact HS6.out, s7⟩⟩
              case measure => simp [intOf]; omega
          · have hge : ¬ (j : Int) < (nv : Int) := by omega
            have HJN := Lib.hid (show j = vs.length by rw [HNV.out]; omega)
            obtain ⟨s0, s2, s3, s4⟩ := hD
            rw [HJN.out, List.take_length, List.drop_length, List.append_nil] at s2
            rw [HJN.out, List.take_length] at s3
            rw [HNV.out] at s0
            have d0 := s0.cell
            have hbx2 := HBX.out _ s4
            have hom2 : OMs (w0.heap.size + 1) wr (.slice (some y) (q + 1) kk) (termsL m (q + 1)) := HOM.out.eff s4 (fun k hk ht => by
              have hkb := hPe k hk
              subst hkb
              obtain ⟨mm, hm⟩ := HUW.out
              exact absurd (ht.inj hm.ty) (by decide)) (fun k hk hp => by have := (HOM.out.own k hk).2; have := hPl _ hp; omega)
            have hsz4 := s4.size
            have hef2 : Eff P w0 wr := HEF.out.trans s4 (fun _ _ h => h)
            have hKe : Below wr.heap.size wr (wr.alloc (.cells #[.int .i64 c, .int .i64 c, .slice (some x) nv kv] 24)) := upA (upR wr) _
            have be := Blk.new wr #[.int .i64 c, .int .i64 c, .slice (some x) nv kv] 24
            have ome := hom2.keep hKe
            have bxe := hbx2.keep hKe
            have lie := s2.keep hKe
            have upe := s3.keep hKe
            have hefe := hef2.trans (Eff.of (P := P) hKe) (fun _ _ h => h)
            have hmr : (⟨(c : Int), (c : Int), vs.map (dvw wp.1)⟩ : Mt) = (termM m (q + 1)).1 := by
              have h1 := HT1.out.1
              have h2 := HT1.out.2
              rw [HNX2.out.1] at h1 h2 ⊢
              dsimp only at h1 h2 ⊢
              rw [h1, h2, HR.out, HC.out]
            clear hbx2 hom2 hef2 s0 s2 s3 s4 hKe
            go_wp2_with (at_builtin; refine app_matR (m := ⟨c, c, vs.map (dvw wp.1)⟩) rfl _ _ rfl rfl ome bxe.lt _ rfl c c nv rfl rfl (by show (vs.map (dvw wp.1)).length = nv; rw [List.length_map, HNV.out]) be (lie.mono hws) HTQ.out HTQ.out (by rw [termsL_len]; omega) ?_)
            intro v' w9 ho9 hg9 _
            try rw [hmr] at ho9
            rw [← termsL_succ] at ho9
            have hown : ∀ k, (Value.slice (some y) (q + 1) kk).ownBlock = some k → Ty (wr.alloc (.cells #[.int .i64 c, .int .i64 c, .slice (some x) nv kv] 24)) k 24 ∧ w0.heap.size + 1 ≤ k := fun k hk => ome.own k hk
            have hox : ∀ k, (Value.slice (some y) (q + 1) kk).ownBlock = some k → k ≠ w0.heap.size := fun k hk => by have := (hown k hk).2; omega
            have up9 : UR w9 b (cq || mf || vs.any (flw wp)) := by
              obtain ⟨mm, hm⟩ := upe
              exact ⟨mm, hm.grown hg9 (fun e => by have := (hown _ e.symm).2; omega)⟩
            have bx9 := bxe.grown hg9 (fun e => hox _ e.symm rfl)
            have ef9 : Eff P w0 w9 := hefe.trans (Eff.grown (P := fun k => (Value.slice (some y) (q + 1) kk).ownBlock = some k) hg9 (fun k hk => hk)) (fun k hk e => by have := (hown k e).2; omega)
            have hT9 : TrI w0 P b c0 m c a am k (q + 1) v' w9 := ⟨ho9, by rw [HNX2.out.2]; exact up9, ef9, bx9⟩
            clear ome bxe lie upe hefe be d0 ho9 hg9 up9 bx9 ef9 hown hox
            go_wp2_with fail
            go_roundw
            case rel => exact ⟨q + 1, by omega, by go_num, hT9⟩
            case measure => simp [intOf]; omega
    · have hqn : q = n := by omega
      subst hqn
      have hge : ¬ (q : Int) + 1 ≤ (q : Int) := by omega
      have hom := hT.om
      have hup := hT.up
      have hef := hT.ef
      clear hT
      go_wp2_with fail
      go_ret2
      exact ⟨_, rfl, hom.mono (Nat.le_succ _), hup, hPb _ _ hef⟩
end Go.Proofs.YtkjbidpafnmogaaGreat.Base
namespace Go.Proofs.YtkjbidpafnmogaaGreat.Base
open Go.RowKit Go Go.Shelf Go.Deep
set_option linter.unusedVariables false
set_option linter.unusedSimpArgs false

/-- 'append([]int{}, zs...)', some: the operation. -/
theorem op_app_copy {o : Oper} {a : Act} {Q : Exit → Act → World → Prop} {K : Act → World → Prop} {w : World} {B B' g0 : Nat}
    (s x : Operand) (hop : o.op = Op.call { callee := Callee.builtin Builtin.append, args := #[s, x], argTypes := #[22, 22] })
    (hB : B ≤ g0) (h0 : Blk w g0 #[] 3) (hs : a.eval s = .slice (some ⟨g0, 0, none⟩) 0 0) {y : Addr} {c : Nat} {zs : List Int} (hm : MI B' w (some y) c zs) (n : Nat) (hn : zs.length = n) (hn1 : 1 ≤ n)
    (hx : a.eval x = .slice (some y) n c) (hlen : n ≤ 100000)
    (hK : ∀ g cap w', OI B w' g cap zs → w.grownBy w' (some g0) → K (a.put o.dst (.slice (some ⟨g, 0, none⟩) n cap)) w') : o.wp Tryz.prog a w K Q := by
  subst hn
  obtain ⟨i0, hi, hz0, hz1, hz2⟩ := int_info
  have hE : w.ownsRow B 3 1 (.slice (some ⟨g0, 0, none⟩) 0 0) 0 [] := ⟨by simp, .inr ⟨g0, 0, #[], rfl, hB, h0, Nat.le_refl _, by simp [maxLen], by simp, by simp⟩⟩
  have hcs : ∀ j u, (zs.map fun z => Value.int .i64 z)[j]? = some u → w.cell? (y.add j) = some u := by
    intro j u hj
    have hjl : j < zs.length := by
      have := (List.getElem?_eq_some_iff.1 hj).1
      simpa using this
    obtain ⟨x, hx, hcx⟩ := hm.cell j hjl
    cases hx
    rw [hcx]
    simp [List.getElem?_eq_getElem hjl] at hj
    rw [hj]
  obtain ⟨v', w', hr, h2, h3, h4, h5⟩ := run_append_own_at (P := Tryz.prog) w B 22 o.type 3 i0 _ 1 8 Tryz.underlying22 hi hz0 hz1 hz2 rfl (by decide) _ 0 [] hE y zs.length c (zs.map fun z => Value.int .i64 z) (by simp) hcs (ints_one zs) (by unfold maxLen; omega) (by omega) (by have := h0.lt; omega)
  simp only [Nat.zero_add, List.nil_append] at h2
  obtain ⟨g, cap, rfl⟩ := Joins.ownsRow_form h2 (by omega)
  obtain ⟨hO, _⟩ := OI.of_row (v := .slice none 0 0) h2 hm.rng
  have := hK g cap w' hO h3
  unfold Oper.wp execOp
  simp only [hop, resolve, invoke, builtin, Sem.run_bind, Sem.run_pure, Result.andThen_ok, List.map_toArray, List.map_cons, List.map_nil, hs, hx, hr]
  exact this
theorem OI.ints {B : Nat} {W W' : World} {g cap : Nat} {zs : List Int} (h : OI B W g cap zs) (h1 : 1 ≤ zs.length) (k : ∀ k cs q, B ≤ k → W.heap[k]? = some (Obj.cells cs 3 q) → 0 < cs.size → W'.heap[k]? = W.heap[k]?) : OI B W' g cap zs := by
  obtain ⟨cur, hb, hs, hc⟩ := h.ex
  exact ⟨⟨cur, (k g cur (0, 0) h.lo hb (by have := h.fit; omega)).trans hb, hs, hc⟩, h.rng, h.fit, h.len, h.lo⟩

set_option maxHeartbeats 16000000 in
set_option maxRecDepth 100000 in
theorem atR_is {w0 : World} {b : Nat} {c0 : Bool} (hU : UR w0 b c0) {x : Addr} {k : Nat} {ms : List Mt} (hms : MLs b w0 x ms) (hk : ms.length ≤ k) (hp : polyM ms) (t : Int) (ht : I64 t) :
    Calls Tryz.prog 26 #[.pointer (some ⟨b, 0, none⟩), .slice (some x) ms.length k, .int .i64 t] w0 fun e w' => ∃ v, e = .returned (.tuple #[v, .int .i64 0]) ∧ MO w0.heap.size w' v (hornM t ms).1 ∧ UR w' b (c0 || (hornM t ms).2) ∧ But b w0 w' := by
  have hFI := fun (W : World) h => fineR_is (W := W) (a := some x) (k := k) (ms := ms) h
  rw [decide_eq_true hp] at hFI
  have hbl := hU.lt
  obtain ⟨P, hPb, hbP, hPl⟩ : ∃ P : Nat → Prop, (∀ W W', Eff P W W' → But b W W') ∧ (∀ W W', But b W W' → Eff P W W') ∧ (∀ k, P k → k < w0.heap.size) := ⟨fun k => k = b, fun _ _ h => eff_but h, fun _ _ h => but_eff h, fun k h => by omega⟩
  obtain ⟨hp1, hp2, hp3⟩ := hp
  obtain ⟨p0, hp0⟩ : ∃ p0, ms.headD default = p0 := ⟨_, rfl⟩
  rw [hp0] at hp3
  have hx0 : ms[0]'(by omega) = p0 := by
    rw [← hp0]
    cases ms with
    | nil => simp at hp1
    | cons u l => rfl
  have hp00 := hp3 (ms[0]'(by omega)) (List.getElem_mem _)
  rw [hx0] at hp00
  obtain ⟨r, c, hr, hc, hr1, hr2, hc1, hc2, hlen⟩ := hp00.1.nat
  obtain ⟨n, hn⟩ : ∃ n, ms.length = n := ⟨_, rfl⟩
  have hat : ∀ i, (h : i < n) → ∃ m y k, ms[i]? = some m ∧ okMt m ∧ m.r = r ∧ m.c = c ∧ ∀ W, But b w0 W → W.cell? (x.add (i * 3)) = some (.int .i64 r) ∧ W.cell? ⟨(x.add (i * 3)).block, (x.add (i * 3)).off + 1, none⟩ = some (.int .i64 c) ∧ W.cell? ⟨(x.add (i * 3)).block, (x.add (i * 3)).off + 2, none⟩ = some (.slice (some y) (r * c) k) ∧ ML b W (some y) k m.v ∧ m.v.length = r * c := fun i hi => by
    obtain ⟨o1, o2, o3⟩ := hp3 (ms[i]'(by omega)) (List.getElem_mem _)
    obtain ⟨a', k', ⟨h1, h2, h3⟩, h4⟩ := hms.at_ i (by omega)
    obtain ⟨r', c', er, ec, _, _, _, _, hl'⟩ := o1.nat
    have e1 : r' = r := by omega
    have e2 : c' = c := by omega
    subst e1 e2
    obtain ⟨y, rfl, _, _⟩ := h4.at 0 (by rw [hl']; exact Nat.mul_pos hr1 hc1)
    have hyb : (x.add (i * 3)).block ≠ b := by rw [add_block]; exact hms.ne
    refine ⟨_, y, k', List.getElem?_eq_getElem (by omega), o1, er, ec, fun W hB => ⟨?_, ?_, ?_, h4.but hB, hl'⟩⟩
    · rw [← er]; exact cell_but0 h1 hyb hB
    · rw [← ec]; exact cell_but0 h2 hyb hB
    · rw [← hl']; exact cell_but0 h3 hyb hB
  have HAT := Lib.hid hat
  have hxb := hms.ne
  have hmc : ∀ W, Below w0.heap.size w0 W → (0 < ms.length → ∃ x', some x = some x' ∧ MsC W x' ms) := fun W hB _ => ⟨x, rfl, (hms.msc).keep hB⟩
  have HN := Lib.hid hn
  obtain ⟨nn, hnn⟩ : ∃ nn, r * c = nn := ⟨_, rfl⟩
  have hnn1 : 1 ≤ nn := by rw [← hnn]; exact Nat.mul_pos hr1 hc1
  have hnn2 : nn ≤ 144 := by rw [← hnn]; exact Nat.mul_le_mul hr2 hc2
  rw [hnn] at HAT
  have HNN := Lib.hid hnn
  have HOKR : ∀ l : List Mt, 0 < l.length → (∀ m ∈ l, okMt m ∧ m.r = r ∧ m.c = c) → okMt (hornM t l).1 ∧ (hornM t l).1.r = r ∧ (hornM t l).1.c = c := fun l h1 h2 => by
    have := horn_ok (t := t) (p0 := ⟨r, c, []⟩) h1 h2
    exact this
  have HHO := Lib.hid (show ∀ i, i < n → okMt (hornM t (ms.drop i)).1 ∧ (hornM t (ms.drop i)).1.r = r ∧ (hornM t (ms.drop i)).1.c = c from fun i hi => HOKR _ (by rw [List.length_drop]; omega) (fun m hm => by
    obtain ⟨o1, o2, o3⟩ := hp3 m (List.mem_of_mem_drop hm)
    exact ⟨o1, by omega, by omega⟩))
  have HHS := Lib.hid (show ∀ i m, ms[i]? = some m → i + 1 < n → hornM t (ms.drop i) = ((sumM (scaleM (hornM t (ms.drop (i + 1))).1 t).1 m).1, (hornM t (ms.drop (i + 1))).2 || (scaleM (hornM t (ms.drop (i + 1))).1 t).2 || (sumM (scaleM (hornM t (ms.drop (i + 1))).1 t).1 m).2) from fun i m hm hi => by
    obtain ⟨h, rfl⟩ := List.getElem?_eq_some_iff.1 hm
    rw [← hornM_cons t _ (by rw [List.length_drop]; omega)]
    congr 1
    exact List.drop_eq_getElem_cons (by omega))
  have HHL := Lib.hid (show ∀ m, ms[n - 1]? = some m → hornM t (ms.drop (n - 1)) = (m, false) from fun m hm => by
    obtain ⟨h, rfl⟩ := List.getElem?_eq_some_iff.1 hm
    have e : ms.drop (n - 1) = [ms[n - 1]] := by
      rw [List.drop_eq_getElem_cons h, List.drop_eq_nil_of_le (by omega)]
    rw [e]
    rfl)
  have HH0 := Lib.hid (show hornM t (ms.drop 0) = hornM t ms by rw [List.drop_zero])
  rw [hn] at hFI hk hmc hp1 hp2 ⊢
  clear hat hms hp3 hp0 hx0 hp00 hr hc hlen hnn HOKR hn
  have hB := upA (upR w0) (Obj.cells #[Value.int .i64 0, .int .i64 0, .slice none 0 0] 24)
  have g0 := Blk.new w0 #[Value.int .i64 0, .int .i64 0, .slice none 0 0] 24
  obtain ⟨i1, hi1⟩ : ∃ i1, n - 1 = i1 := ⟨_, rfl⟩
  have hni1 : i1 + 1 ≤ n := by omega
  have hni2 : n ≤ i1 + 1 := by omega
  have f1 : IntKind.i64.wrap ((n : Int) - 1) = (i1 : Int) := (IntWalk.i64_in _ (by omega)).trans (by omega)
  have f2 : (0 : Int) ≤ (i1 : Int) := by omega
  have f3 : (i1 : Int) < (n : Int) := by omega
  have f4 : IntKind.i64.wrap ((n : Int) - 2) = (i1 : Int) - 1 := (IntWalk.i64_in _ (by omega)).trans (by omega)
  have hnR : ((0 : Int) < (n : Int)) := by omega
  have HI1 := Lib.hid hi1
  clear hi1
  go_enter Tryz.func26, Tryz.ntmps26
  go_wp2_with fail
  have hfx := hFI _ (hmc _ hB)
  clear hFI hmc
  refine hfx.mono ?_
  rintro e w1 ⟨rfl, hK⟩
  replace hB := more hB hK
  replace g0 := g0.keep hK
  clear hK hfx
  obtain ⟨m1, y1, ky, hm1, ok1, er1, ec1, hc1'⟩ := HAT.out i1 (by omega)
  obtain ⟨q0, q1, q2, hml1, hl1⟩ := hc1' _ (But.of hB)
  have gm := Blk.new w1 #[.int .i64 0, .int .i64 0, .slice none 0 0] 24
  have hK1 : Below w1.heap.size w1 (w1.alloc (.cells #[.int .i64 0, .int .i64 0, .slice none 0 0] 24)) := upA (upR w1) _
  go_wp2_with ((with_reducible refine at_st (p := 8) (q := 22) rfl ?_); refine ev_store rfl 24 _ _ rfl rfl gm 0 rfl rfl [.int .i64 r, .int .i64 c, .slice (some y1) nn ky] rfl (by kernel_rfl) rfl rfl #[.int .i64 r, .int .i64 c, .slice (some y1) nn ky] rfl ?_; intro W3 g6 ef hz6)
  obtain ⟨e8, he8⟩ : ∃ e8, w1.heap.size = e8 := ⟨_, rfl⟩
  have hlt0 : w0.heap.size < e8 := by rw [← he8]; exact g0.lt
  have hB3 : Below w0.heap.size w0 W3 := ef.below (more hB hK1) (fun k hk => by omega)
  have g3 := ef.blk (g0.keep hK1) (by omega)
  have he3 : e8 < W3.heap.size := by rw [← he8]; exact g6.lt
  rw [he8] at g6 ⊢
  have hml3 := (hc1' _ (But.of hB3)).2.2.2.1
  have hP3 : ∀ W, Below W3.heap.size W3 W → MI 0 W (some y1) ky m1.v ∧ Blk W e8 #[.int .i64 r, .int .i64 c, .slice (some y1) nn ky] 24 := fun W h => ⟨(hc1' _ (But.of (more hB3 h))).2.2.2.1.mi, g6.keep h⟩
  have hws0 := hB3.size
  clear q0 q1 q2 gm hK1 ef hz6 hB hml1 he8 hml3 g0 hc1'
  go_wp2_with fail
  refine region_fp [some 23, some 24, some 25, some 26, some 27, some 28, some 29, some 30, some 31, some 9, none] [4, 7, 8, 9, 10] [some (Value.pointer (some ⟨e8, 0, none⟩)), some (Value.int .i64 (r : Int)), some (Value.pointer (some ⟨e8, 1, none⟩)), some (Value.int .i64 (c : Int)), none, some (Value.pointer (some ⟨e8, 2, none⟩)), some (Value.slice (some y1) nn ky), none, none, none, none]
    (fun i v W => match i with | 4 => ∃ g, v = Value.slice (some ⟨g, 0, none⟩) 0 0 | 7 => ∃ g kg, v = Value.slice (some ⟨g, 0, none⟩) nn kg ∧ OI W3.heap.size W g kg m1.v | 8 => ∃ g kg, v = Value.agg #[.int .i64 r, .int .i64 c, .slice (some ⟨g, 0, none⟩) nn kg] ∧ OI W3.heap.size W g kg m1.v | 9 => ∃ e, v = Value.pointer (some ⟨e, 0, none⟩) | _ => True) (fun W W' => ∀ k cs q, W3.heap.size ≤ k → W.heap[k]? = some (Obj.cells cs 3 q) → 0 < cs.size → W'.heap[k]? = W.heap[k]?) (fun L f W => Below W3.heap.size W3 W ∧ (∀ g, f 4 = Value.slice (some ⟨g, 0, none⟩) 0 0 → L 4 = true → W3.heap.size ≤ g ∧ (L 7 = false → Blk W g #[] 3)) ∧ (∀ e, f 9 = Value.pointer (some ⟨e, 0, none⟩) → L 9 = true → W3.heap.size ≤ e ∧ (L 10 = false → Blk W e #[.int .i64 0, .int .i64 0, .slice none 0 0] 24) ∧ (L 10 = true → Blk W e (f 8).cells 24)))
    (by kernel_rfl) (by kernel_rfl) (by kernel_rfl) (by kernel_rfl) (by kernel_rfl) (fun _ _ _ _ _ _ _ => rfl) (fun i v W W' h hb => by
      match i, h with
      | 4, h => exact h
      | 7, ⟨g, kg, h1, h2⟩ => exact ⟨g, kg, h1, h2.ints (by rw [hl1]; exact hnn1) hb⟩
      | 8, ⟨g, kg, h1, h2⟩ => exact ⟨g, kg, h1, h2.ints (by rw [hl1]; exact hnn1) hb⟩
      | 9, h => exact h
      | 0, _ | 1, _ | 2, _ | 3, _ | 5, _ | 6, _ | 10, _ => trivial
      | (n + 11), _ => trivial) (fun L L' f f' W h hs => by have q4 := (h 4 (by decide)); have q7 := (h 7 (by decide)).1; have q8 := (h 8 (by decide)).2; have q9 := (h 9 (by decide)); have q10 := (h 10 (by decide)).1; (try dsimp only at hs ⊢); rw [← q4.1, ← q4.2, ← q7, ← q8, ← q9.1, ← q9.2, ← q10]; exact hs) ⟨Below.refl _ _ |>.drew, fun g _ h => (Bool.false_ne_true h).elim, fun e _ h => (Bool.false_ne_true h).elim⟩ ?_ ?_
  · intro i hi b' L f W hSW hL hdep hsh he hsv hsl hFF K hK1 hK2
    replace hi : i < 11 := hi
    have hcs : i = 0 ∨ i = 1 ∨ i = 2 ∨ i = 3 ∨ i = 4 ∨ i = 5 ∨ i = 6 ∨ i = 7 ∨ i = 8 ∨ i = 9 ∨ i = 10 := by omega
    clear hi
    rcases hcs with rfl | rfl | rfl | rfl | rfl | rfl | rfl | rfl | rfl | rfl | rfl
    · refine wpOpS_go rfl rfl ?_
      have t8 : b'.tmps[8]?.getD undef = Value.pointer (some ⟨e8, 0, none⟩) := he 8 (by kernel_rfl)
      have HK := Lib.hid hK1
      clear hK1 hK2 hdep hsh he hsv hsl hFF hL
      clear hSW
      go_simp
      exact HK.out rfl _ (fp_mk rfl rfl trivial)
    · refine wpOpS_go rfl rfl ?_
      have t23 : b'.tmps[23]?.getD undef = Value.pointer (some ⟨e8, 0, none⟩) := hsv 0 23 _ (by kernel_rfl) (by kernel_rfl) rfl
      obtain ⟨s0, s1, s2⟩ := hSW
      have c0 := (hP3 W s0).2.cell
      have HK := Lib.hid hK1
      clear hK1 hK2 hdep hsh he hsv hsl hFF hL
      clear s0 s1 s2
      go_simp
      exact HK.out rfl _ (fp_mk rfl rfl trivial)
    · refine wpOpS_go rfl rfl ?_
      have t8 : b'.tmps[8]?.getD undef = Value.pointer (some ⟨e8, 0, none⟩) := he 8 (by kernel_rfl)
      have HK := Lib.hid hK1
      clear hK1 hK2 hdep hsh he hsv hsl hFF hL
      clear hSW
      go_simp
      exact HK.out rfl _ (fp_mk rfl rfl trivial)
    · refine wpOpS_go rfl rfl ?_
      have t25 : b'.tmps[25]?.getD undef = Value.pointer (some ⟨e8, 1, none⟩) := hsv 2 25 _ (by kernel_rfl) (by kernel_rfl) rfl
      obtain ⟨s0, s1, s2⟩ := hSW
      have c0 := (hP3 W s0).2.cell
      have HK := Lib.hid hK1
      clear hK1 hK2 hdep hsh he hsv hsl hFF hL
      clear s0 s1 s2
      go_simp
      exact HK.out rfl _ (fp_mk rfl rfl trivial)
    · refine wpOpS_go rfl rfl ?_
      obtain ⟨s0, s1, s2⟩ := hSW
      have HK := Lib.hid hK2
      have h7 := hsh 7 (by kernel_rfl)
      have hws := s0.size
      clear hK1 hK2 hdep hsh he hsv hsl hFF hL
      refine op_slicen 0 (cs := #[]) (t := 3) (by go_simp) ?_
      intro w6 hb hB hz
      exact HK.out _ _ (fp_x rfl ⟨_, rfl⟩) (fun k cs q hk hc _ => hB.block k (Array.getElem?_eq_some_iff.1 hc).1) ⟨more s0 hB, fun g h1 _ => by
      rw [updF_same] at h1
      cases h1
      exact ⟨hws, fun _ => hb⟩, fun e h1 h2 => ⟨(s2 e h1 h2).1, fun h => ((s2 e h1 h2).2.1 h).keep hB, fun h => ((s2 e h1 h2).2.2 h).keep hB⟩⟩
    · refine wpOpS_go rfl rfl ?_
      have t8 : b'.tmps[8]?.getD undef = Value.pointer (some ⟨e8, 0, none⟩) := he 8 (by kernel_rfl)
      have HK := Lib.hid hK1
      clear hK1 hK2 hdep hsh he hsv hsl hFF hL
      clear hSW
      go_simp
      exact HK.out rfl _ (fp_mk rfl rfl trivial)
    · refine wpOpS_go rfl rfl ?_
      have t28 : b'.tmps[28]?.getD undef = Value.pointer (some ⟨e8, 2, none⟩) := hsv 5 28 _ (by kernel_rfl) (by kernel_rfl) rfl
      obtain ⟨s0, s1, s2⟩ := hSW
      have c0 := (hP3 W s0).2.cell
      have HK := Lib.hid hK1
      clear hK1 hK2 hdep hsh he hsv hsl hFF hL
      clear s0 s1 s2
      go_simp
      exact HK.out rfl _ (fp_mk rfl rfl trivial)
    · refine wpOpS_go rfl rfl ?_
      have t29 : b'.tmps[29]?.getD undef = Value.slice (some y1) nn ky := hsv 6 29 _ (by kernel_rfl) (by kernel_rfl) rfl
      obtain ⟨t27, hx⟩ := hsl 4 27 (by kernel_rfl) (by kernel_rfl)
      obtain ⟨g5, e5⟩ := hx
      rw [e5] at t27
      obtain ⟨s0, s1, s2⟩ := hSW
      have HK := Lib.hid hK2
      have l4 := hdep 4 (by kernel_rfl)
      obtain ⟨z1, z2⟩ := s1 g5 e5 l4
      have hbe := z2 hL
      have hmi := (hP3 W s0).1
      have h8 := hsh 8 (by kernel_rfl)
      have h10 := hsh 10 (by kernel_rfl)
      clear hK1 hK2 hdep hsh he hsv hsl hFF
      refine op_app_copy (B := W3.heap.size) (.tmp 27) (.tmp 29) rfl z1 hbe (eval_tmp t27) hmi nn hl1 hnn1 (eval_tmp t29) (by omega) ?_
      intro g kg w6 hO hg
      have hB6 : Below W3.heap.size W w6 := ⟨hg.os, hg.tape, hg.output, hg.size, fun k hk => hg.block k (by have := s0.size; omega) (fun e => by cases e; omega)⟩
      exact HK.out _ _ (fp_x rfl ⟨g, kg, rfl, hO⟩) (fun k cs q hk hc hp => hg.block k (Array.getElem?_eq_some_iff.1 hc).1 (fun e => by cases e; have := hc.symm.trans (show W.heap[g5]? = _ from hbe); cases this; simp at hp)) ⟨s0.trans hB6, fun g' h1 h2 => ⟨(s1 g' h1 h2).1, fun h => absurd h (by rw [updF_same]; decide)⟩, fun e h1 h2 => ⟨(s2 e h1 h2).1, fun h => ((s2 e h1 h2).2.1 h).grown hg (fun e' => by cases e'; have := (show W.heap[g5]? = _ from (s2 g5 h1 h2).2.1 h).symm.trans (show W.heap[g5]? = _ from hbe); simp at this), fun h => absurd h (by show ¬ L 10 = true; rw [h10]; decide)⟩⟩
    · refine wpOpS_go rfl rfl ?_
      have t24 : b'.tmps[24]?.getD undef = Value.int .i64 (r : Int) := hsv 1 24 _ (by kernel_rfl) (by kernel_rfl) rfl
      have t26 : b'.tmps[26]?.getD undef = Value.int .i64 (c : Int) := hsv 3 26 _ (by kernel_rfl) (by kernel_rfl) rfl
      obtain ⟨t30, hx⟩ := hsl 7 30 (by kernel_rfl) (by kernel_rfl)
      obtain ⟨g, kg, e5, hO⟩ := hx
      rw [e5] at t30
      obtain ⟨s0, s1, s2⟩ := hSW
      have HK := Lib.hid hK2
      have h10 := hsh 10 (by kernel_rfl)
      clear hK1 hK2 hdep hsh he hsv hsl hFF hL e5
      go_simp
      exact HK.out _ _ (fp_x rfl ⟨g, kg, rfl, hO⟩) (fun _ _ _ _ _ _ => rfl) ⟨s0, s1, fun e h1 h2 => ⟨(s2 e h1 h2).1, (s2 e h1 h2).2.1, fun h => absurd h (by show ¬ L 10 = true; rw [h10]; decide)⟩⟩
    · refine wpOpS_go rfl rfl ?_
      obtain ⟨s0, s1, s2⟩ := hSW
      have HK := Lib.hid hK2
      have h10 := hsh 10 (by kernel_rfl)
      have hws := s0.size
      clear hK1 hK2 hdep hsh he hsv hsl hFF hL
      refine op_new (cs := #[.int .i64 0, .int .i64 0, .slice none 0 0]) (t := 24) (by go_simp) ?_
      intro w6 hb hB hz
      exact HK.out _ _ (fp_x rfl ⟨_, rfl⟩) (fun k cs q hk hc _ => hB.block k (Array.getElem?_eq_some_iff.1 hc).1) ⟨more s0 hB, fun g h1 h2 => ⟨(s1 g h1 h2).1, fun h => ((s1 g h1 h2).2 h).keep hB⟩, fun e h1 _ => by
      rw [updF_same] at h1
      cases h1
      exact ⟨hws, fun _ => hb, fun h => absurd h (by show ¬ L 10 = true; rw [h10]; decide)⟩⟩
    · refine wpOpS_go rfl rfl ?_
      obtain ⟨t9, hxa⟩ := hsl 9 9 (by kernel_rfl) (by kernel_rfl)
      obtain ⟨t31, hxx⟩ := hsl 8 31 (by kernel_rfl) (by kernel_rfl)
      obtain ⟨e1, e2⟩ := hxa
      obtain ⟨g, kg, e3, hO⟩ := hxx
      rw [e2] at t9
      rw [e3] at t31
      obtain ⟨s0, s1, s2⟩ := hSW
      have HK := Lib.hid hK2
      have l9 := hdep 9 (by kernel_rfl)
      obtain ⟨z1, z2, z3⟩ := s2 e1 e2 l9
      have hmb := z2 hL
      clear hK1 hK2 hdep hsh he hsv hsl hFF z2 z3
      refine op_store 24 _ _ rfl rfl hmb 0 (eval_tmp t9) (eval_tmp t31) ([.int .i64 r, .int .i64 c, .slice (some ⟨g, 0, none⟩) nn kg] : List Value) (by rfl) (by kernel_rfl) (by rfl) (by rfl) #[.int .i64 r, .int .i64 c, .slice (some ⟨g, 0, none⟩) nn kg] rfl ?_
      intro w6 g6 ef hz
      exact HK.out undef _ (fp_x (v := undef) rfl trivial) (fun k cs q hk hc _ => ef.block k (Array.getElem?_eq_some_iff.1 hc).1 (fun e => by rw [e] at hc; have := hc.symm.trans (show W.heap[e1]? = _ from hmb); simp at this)) ⟨s0.trans (⟨ef.os, ef.tape, ef.output, ef.size, fun k hk => ef.block k (by have := s0.size; omega) (by omega)⟩ : Below W3.heap.size W w6), fun g' h1 h2 => ⟨(s1 g' h1 h2).1, fun h => ef.blk ((s1 g' h1 h2).2 h) (fun e => by have h' := (s1 g' h1 h2).2 h; rw [e] at h'; have := (show W.heap[e1]? = _ from h').symm.trans (show W.heap[e1]? = _ from hmb); simp at this)⟩, fun e h1 _ => by
      rw [updF_ne _ _ (by decide), e2] at h1
      cases h1
      exact ⟨z1, fun h => absurd h (by rw [updF_same]; decide), fun _ => by rw [updF_ne _ _ (by decide), e3]; exact g6⟩⟩
  · intro f W hf L hL hS
    obtain ⟨s0, s1, s2⟩ := (hS : _ ∧ _ ∧ _)
    obtain ⟨g5, e4⟩ := (hf 4 (by decide)).2
    obtain ⟨g6', kg6, e7, _⟩ := (hf 7 (by decide)).2
    obtain ⟨g, kg, e8', hO⟩ := (hf 8 (by decide)).2
    obtain ⟨bx9, e9'⟩ := (hf 9 (by decide)).2
    obtain ⟨he9, _, z5⟩ := s2 bx9 e9' (hL 9 (by decide))
    replace z5 := z5 (hL 10 (by decide))
    rw [e8'] at z5
    have e0 : f 0 = Value.pointer (some ⟨e8, 0, none⟩) := (hf 0 (by decide)).1 _ rfl
    have e1 : f 1 = Value.int .i64 (r : Int) := (hf 1 (by decide)).1 _ rfl
    have e2 : f 2 = Value.pointer (some ⟨e8, 1, none⟩) := (hf 2 (by decide)).1 _ rfl
    have e3 : f 3 = Value.int .i64 (c : Int) := (hf 3 (by decide)).1 _ rfl
    have e5 : f 5 = Value.pointer (some ⟨e8, 2, none⟩) := (hf 5 (by decide)).1 _ rfl
    have e6 : f 6 = Value.slice (some y1) nn ky := (hf 6 (by decide)).1 _ rfl
    replace z5 : Blk W bx9 #[.int .i64 r, .int .i64 c, .slice (some ⟨g, 0, none⟩) nn kg] 24 := z5
    clear hf hL s1 s2
    simp only [puts2, Act.put, e0, e1, e2, e3, e4, e5, e6, e7, e8', e9']
    try simp only [List.setIfInBounds_toArray, List.set_cons_zero, List.set_cons_succ]
    clear e0 e1 e2 e3 e4 e5 e6 e7 e8' e9'
    have hu5 := hU.below (more hB3 s0) hbl
    have hg5 := g3.keep s0
    have hef5 : Eff P w0 W := Eff.of (more hB3 s0)
    have hi5 : (⟨r, c, m1.v⟩ : Mt) = (hornM t (ms.drop i1)).1 := by
      have := HHL.out m1 (by rw [HI1.out]; exact hm1)
      rw [HI1.out] at this
      rw [this]
      obtain ⟨a1, a2, a3⟩ := m1
      dsimp only at er1 ec1 ⊢
      rw [er1, ec1]
    have hf5 : (hornM t (ms.drop i1)).2 = false := by
      have := HHL.out m1 (by rw [HI1.out]; exact hm1)
      rw [HI1.out] at this
      rw [this]
    have ho5 : LI w0.heap.size W (some ⟨g, 0, none⟩) kg (hornM t (ms.drop i1)).1.v := by
      rw [← hi5]
      exact (hO.mono hws0).li
    have hl5 : (hornM t (ms.drop i1)).1.v.length = nn := by rw [← hi5]; exact hl1
    have hne5 : bx9 ≠ w0.heap.size := by omega
    have he95 : w0.heap.size ≤ bx9 := by omega
    clear hU hB3 g3 hP3 s0 hO hi5 g6
    go_wp2_with fail
    go_loopw [10] (fun i wr => ∃ q : Nat, q ≤ i1 ∧ i = .int .i64 ((q : Int) - 1) ∧ UR wr b (c0 || (hornM t (ms.drop q)).2) ∧ Eff P w0 wr ∧ Blk wr w0.heap.size #[.int .i64 0, .int .i64 0, .slice none 0 0] 24 ∧ ∃ a' k', Blk wr bx9 #[.int .i64 r, .int .i64 c, .slice a' nn k'] 24 ∧ LI w0.heap.size wr a' k' (hornM t (ms.drop q)).1.v) (fun i _ => ((match i with | .int _ z => z + 1 | _ => 0) : Int).toNat)
    case atStart => exact ⟨i1, Nat.le_refl _, rfl, by rw [hf5, Bool.or_false]; exact hu5, hef5, hg5, _, _, z5, ho5⟩
    case round =>
      clear hu5 hg5 hef5 ho5 hl5 hf5 z5
      rename World => W4
      obtain ⟨q, hq, rfl, hUq, hEq, hgr, a', k', hb9, hL9⟩ := hrel
      obtain ⟨hok, her, hec⟩ := HHO.out q (by omega)
      have hhl : (hornM t (ms.drop q)).1.v.length = nn := by
        obtain ⟨r', c', e1, e2, _, _, _, _, hl'⟩ := hok.nat
        have e3 : r' = r := by omega
        have e4 : c' = c := by omega
        subst e3 e4
        exact hl'.trans HNN.out
      have d9 := hb9.cell
      by_cases hq1 : 1 ≤ q
      · obtain ⟨p, hpq⟩ : ∃ p, q = p + 1 := ⟨q - 1, by omega⟩
        subst hpq
        obtain ⟨mp, yp, kp, hmp, okp, erp, ecp, hcp⟩ := HAT.out p (by omega)
        have HST := Lib.hid (HHS.out p mp hmp (by omega))
        have fq : ¬ (((p + 1 : Nat) : Int) - 1 < 0) := by omega
        have fq2 : (((p + 1 : Nat) : Int) - 1) = (p : Int) := by omega
        have fq0 : (0 : Int) ≤ (p : Int) := by omega
        have fq3 : (p : Int) < (n : Int) := by omega
        have hSC := scaleR_is hUq (hL9.mlR hUq) hok t ht
        rw [her, hec, hhl] at hSC
        obtain ⟨hs1, hs2, hs3⟩ := ok_each (fun x _ => timesL [x, t]) (hornM t (ms.drop (p + 1))).1 (hornM t (ms.drop (p + 1))).1 hok
        have hsok : okMt (scaleM (hornM t (ms.drop (p + 1))).1 t).1 := hs1
        have hsr : (scaleM (hornM t (ms.drop (p + 1))).1 t).1.r = r := hs2.trans her
        have hsc : (scaleM (hornM t (ms.drop (p + 1))).1 t).1.c = c := hs3.trans hec
        have hsl : (scaleM (hornM t (ms.drop (p + 1))).1 t).1.v.length = nn := by
          obtain ⟨r', c', e1, e2, _, _, _, _, hl'⟩ := hsok.nat
          have e3 : r' = r := by omega
          have e4 : c' = c := by omega
          subst e3 e4
          exact hl'.trans HNN.out
        clear hs1 hs2 hs3
        have hnv := HHO.out p (by omega)
        rw [fq2] at *
        go_wp2_with fail
        refine hSC.mono ?_
        rintro e W5 ⟨v, rfl, hmo, hU5, hB5⟩
        obtain ⟨as1, ks, rfl, hLs⟩ := hmo.ex
        have hE5 := hbP _ _ hB5
        have hPn : ∀ {k}, w0.heap.size ≤ k → ¬ P k := fun hk hp => by have := hPl _ hp; omega
        rw [hsr, hsc, hsl]
        have hgr5 := hE5.blk hgr (hPn (Nat.le_refl _))
        have hb95 := hE5.blk hb9 (hPn he95)
        have hEq5 := hEq.trans hE5 (fun _ _ h => h)
        have gm := Blk.new W5 #[.int .i64 0, .int .i64 0, .slice none 0 0] 24
        have hK1 : Below W5.heap.size W5 (W5.alloc (.cells #[.int .i64 0, .int .i64 0, .slice none 0 0] 24)) := upA (upR W5) _
        clear hmo hSC hB5
        go_wp2_with ((with_reducible refine at_st (p := 11) (q := 44) rfl ?_); refine ev_store rfl 24 _ _ rfl rfl gm 0 rfl rfl [.int .i64 r, .int .i64 c, .slice as1 nn ks] rfl (by kernel_rfl) rfl rfl #[.int .i64 r, .int .i64 c, .slice as1 nn ks] rfl ?_; intro W6 g6 ef6 hz6)
        obtain ⟨ex, hex⟩ : ∃ ex, W5.heap.size = ex := ⟨_, rfl⟩
        have hb9l := hb95.lt
        have hgl := hgr5.lt
        have hU6 : UR W6 b (c0 || (hornM t (ms.drop (p + 1))).2 || (scaleM (hornM t (ms.drop (p + 1))).1 t).2) := by
          obtain ⟨mm, hm⟩ := hU5.keep hK1
          exact ⟨mm, ef6.blk hm (by have := hU5.lt; omega)⟩
        have hb96 := ef6.blk (hb95.keep hK1) (by omega)
        have hgr6 := ef6.blk (hgr5.keep hK1) (by omega)
        have hLs6 := ((hLs.keep hK1).eff ef6 (fun k hk ht => by subst hk; exact absurd (ht.inj gm.ty) (by decide))).mono hEq.size
        have hEq6 : Eff P w0 W6 := (hEq5.trans (Eff.of (P := P) hK1) (fun _ _ h => h)).trans ef6 (fun k hk e => by omega)
        rw [hex] at g6 ⊢
        have hexb : ex ≠ b := by have := hU5.lt; omega
        have hen : ex ≠ bx9 := by omega
        clear hK1 gm ef6 hz6 hb95 hgr5 hLs hEq5 hU5 hE5 hb9 hL9 hgr hUq d9
        obtain ⟨scm, hscm⟩ : ∃ s, scaleM (hornM t (ms.drop (p + 1))).1 t = s := ⟨_, rfl⟩
        rw [hscm] at hU6 hLs6 HST hsok hsr hsc hsl
        have hws := hEq6.size
        have hPl3 : ∀ k, P k → k < W6.heap.size := fun k h => by have := hPl k h; omega
        have hCal0 : ∀ W, Eff P W6 W → UR W b (c0 || (hornM t (ms.drop (p + 1))).2 || scm.2) → Calls Tryz.prog 63 #[.pointer (some ⟨b, 0, none⟩), .agg #[.int .i64 r, .int .i64 c, .slice as1 nn ks], .agg #[.int .i64 r, .int .i64 c, .slice (some yp) nn kp]] W fun e w' => ∃ av kv, e = .returned (.tuple #[.agg #[.int .i64 r, .int .i64 c, .slice av nn kv], .int .i64 0]) ∧ LI W6.heap.size w' av kv (hornM t (ms.drop p)).1.v ∧ UR w' b (c0 || (hornM t (ms.drop (p + 1))).2 || scm.2 || (sumM scm.1 mp).2) ∧ Eff P W w' := fun W hE hu => by
          have hBa := hPb _ _ (hEq6.trans hE (fun _ _ h => h))
          obtain ⟨_, _, _, h4, h5⟩ := hcp _ hBa
          have := sumR_is hu (li_eff hLs6 hE hPl |>.mlR hu) h4 hsok okp (hsr.trans erp.symm) (hsc.trans ecp.symm)
          rw [hsr, hsc, erp, ecp, hsl, h5] at this
          refine this.mono fun e w' h => ?_
          obtain ⟨v, he, hmo, hu', hb'⟩ := h
          obtain ⟨av, kv, rfl, hli⟩ := hmo.ex
          have hv : (hornM t (ms.drop p)).1 = (sumM scm.1 mp).1 := by rw [HST.out]
          rw [← hv] at he hli
          have hl2 : (hornM t (ms.drop p)).1.v.length = nn := by
            obtain ⟨r', c', e1, e2, _, _, _, _, hl'⟩ := hnv.1.nat
            have e3 : r' = r := by omega
            have e4 : c' = c := by omega
            subst e3 e4
            exact hl'.trans HNN.out
          rw [hnv.2.1, hnv.2.2, hl2] at he
          exact ⟨av, kv, he, hli.mono hE.size, hu', hbP _ _ hb'⟩
        have HFL := Lib.hid (show (c0 || (hornM t (ms.drop p)).2) = (c0 || (hornM t (ms.drop (p + 1))).2 || scm.2 || (sumM scm.1 mp).2) by rw [HST.out]; simp only [Bool.or_assoc])
        have hcp6 := fun W hE => hcp W (hPb _ _ (hEq6.trans (hE : Eff P W6 W) (fun _ _ h => h)))
        have hg6 : ∀ W, Eff P W6 W → Blk W ex #[.int .i64 r, .int .i64 c, .slice as1 nn ks] 24 := fun W hE => hE.blk g6 (fun hp => by have := hPl _ hp; omega)
        have hPn : ¬ P bx9 := fun hp => by have := hPl _ hp; omega
        have hbn : ¬ (b = bx9) := by omega
        have hD0 : UR W6.drew b (c0 || (hornM t (ms.drop (p + 1))).2 || scm.2) ∧ Eff P W6 W6.drew ∧ Blk W6.drew bx9 #[.int .i64 r, .int .i64 c, .slice a' nn k'] 24 := ⟨hU6.drew, Eff.of (upD (upR _)), hb96.drew⟩
        have hCal := hCal0
        have HEQ6 := Lib.hid hEq6
        have HGR6 := Lib.hid hgr6
        clear hCal0 hU6 hb96 hgr6 g6 hLs6 hEq6 hcp hscm hsok hsr hsc hsl HST hok her hec hhl
        have HHV := Lib.hid (show (hornM t (ms.drop p)).1.v = (hornM t (ms.drop p)).1.v from rfl)
        generalize hvs : (hornM t (ms.drop p)).1.v = vs at hCal
        generalize (c0 || (hornM t (ms.drop (p + 1))).2 || scm.2) = cq at *
        generalize (sumM scm.1 mp).2 = mf at *
        have HVS := Lib.hid hvs
        clear hvs hnv HHV
        go_wp2_with fail
        refine region_fp [some 47, some 48, some 49, some 50, some 51, some 52, some 53, some 46, some 54, some 55, none] [6, 8, 10] [some (Value.pointer (some ⟨b, 0, none⟩)), some (Value.agg #[Value.int .i64 (r : Int), Value.int .i64 (c : Int), Value.slice as1 nn ks]), some (Value.slice (some x) n k), some (Value.int .i64 (p : Int)), some (Value.pointer (some (x.add (p * 3)))), some (Value.agg #[Value.int .i64 (r : Int), Value.int .i64 (c : Int), Value.slice (some yp) nn kp]), none, none, none, some (Value.int .i64 0), none]
          (fun i v W => match i with | 6 => ∃ av kv, v = Value.tuple #[Value.agg #[.int .i64 r, .int .i64 c, .slice av nn kv], Value.int .i64 0] ∧ LI W6.heap.size W av kv vs | 7 => ∃ av kv, v = Value.tuple #[Value.agg #[.int .i64 r, .int .i64 c, .slice av nn kv], Value.int .i64 0] ∧ LI W6.heap.size W av kv vs | 8 => ∃ av kv, v = Value.agg #[.int .i64 r, .int .i64 c, .slice av nn kv] ∧ LI W6.heap.size W av kv vs | _ => True) (fun W W' => ∀ k, W6.heap.size ≤ k → Ty W k 3 → W'.heap[k]? = W.heap[k]?) (fun L f W => (L 6 = false → UR W b cq) ∧ (L 6 = true → UR W b (cq || mf)) ∧ (L 10 = false → Eff P W6 W) ∧ Eff (fun k => P k ∨ k = bx9) W6 W ∧ (L 10 = false → Blk W bx9 #[.int .i64 r, .int .i64 c, .slice a' nn k'] 24) ∧ (L 10 = true → Blk W bx9 (f 8).cells 24))
          (by kernel_rfl) (by kernel_rfl) (by kernel_rfl) (by kernel_rfl) (by kernel_rfl) (fun _ _ _ _ => rfl) (fun i v W W' h hb => by
            match i, h with
            | 6, ⟨av, kv, h1, h2⟩ => exact ⟨av, kv, h1, h2.same fun x hx hn => hb _ (h2.mi.lo x hx hn) (h2.wj.ty x hx hn)⟩
            | 7, ⟨av, kv, h1, h2⟩ => exact ⟨av, kv, h1, h2.same fun x hx hn => hb _ (h2.mi.lo x hx hn) (h2.wj.ty x hx hn)⟩
            | 8, ⟨av, kv, h1, h2⟩ => exact ⟨av, kv, h1, h2.same fun x hx hn => hb _ (h2.mi.lo x hx hn) (h2.wj.ty x hx hn)⟩
            | 0, _ | 1, _ | 2, _ | 3, _ | 4, _ | 5, _ | 9, _ | 10, _ => trivial
            | (n + 11), _ => trivial) (fun L L' f f' W h hs => by have q1 := (h 6 (by decide)).1; have q2 := (h 8 (by decide)); have q4 := (h 10 (by decide)).1; (try dsimp only at hs ⊢); rw [← q1, ← q2.2, ← q4]; exact hs) ⟨fun _ => hD0.1, fun h => (Bool.false_ne_true h).elim, fun _ => hD0.2.1, hD0.2.1.mono (fun _ _ h => .inl h), fun _ => hD0.2.2, fun h => (Bool.false_ne_true h).elim⟩ ?_ ?_
        · intro i hi b' L f W hSW hL hdep hsh he hsv hsl hFF K hK1 hK2
          replace hi : i < 11 := hi
          have hcs : i = 0 ∨ i = 1 ∨ i = 2 ∨ i = 3 ∨ i = 4 ∨ i = 5 ∨ i = 6 ∨ i = 7 ∨ i = 8 ∨ i = 9 ∨ i = 10 := by omega
          clear hi
          rcases hcs with rfl | rfl | rfl | rfl | rfl | rfl | rfl | rfl | rfl | rfl | rfl
          · refine wpOpS_go rfl rfl ?_
            have t0 : b'.tmps[0]?.getD undef = Value.pointer (some ⟨b, 0, none⟩) := he 0 (by kernel_rfl)
            have HK := Lib.hid hK1
            clear hK1 hK2 hdep hsh he hsv hsl hFF hL
            clear hSW
            go_simp
            exact HK.out rfl _ (fp_mk rfl rfl trivial)
          · refine wpOpS_go rfl rfl ?_
            have t11 : b'.tmps[11]?.getD undef = Value.pointer (some ⟨ex, 0, none⟩) := he 11 (by kernel_rfl)
            obtain ⟨s0, s1, s2, s3, s4, s5⟩ := hSW
            replace s2 := s2 (hsh 10 (by kernel_rfl))
            have c0 := (hg6 W s2).cell
            have HK := Lib.hid hK1
            clear hK1 hK2 hdep hsh he hsv hsl hFF hL
            clear s0 s1 s2 s3 s4 s5
            go_simp
            exact HK.out rfl _ (fp_mk rfl rfl trivial)
          · refine wpOpS_go rfl rfl ?_
            have t1 : b'.tmps[1]?.getD undef = Value.slice (some x) n k := he 1 (by kernel_rfl)
            have HK := Lib.hid hK1
            clear hK1 hK2 hdep hsh he hsv hsl hFF hL
            clear hSW
            go_simp
            exact HK.out rfl _ (fp_mk rfl rfl trivial)
          · refine wpOpS_go rfl rfl ?_
            have t10 : b'.tmps[10]?.getD undef = Value.int .i64 (p : Int) := he 10 (by kernel_rfl)
            have HK := Lib.hid hK1
            clear hK1 hK2 hdep hsh he hsv hsl hFF hL
            clear hSW
            go_simp
            exact HK.out rfl _ (fp_mk rfl rfl trivial)
          · refine wpOpS_go rfl rfl ?_
            have t49 : b'.tmps[49]?.getD undef = Value.slice (some x) n k := hsv 2 49 _ (by kernel_rfl) (by kernel_rfl) rfl
            have t50 : b'.tmps[50]?.getD undef = Value.int .i64 (p : Int) := hsv 3 50 _ (by kernel_rfl) (by kernel_rfl) rfl
            have HK := Lib.hid hK1
            clear hK1 hK2 hdep hsh he hsv hsl hFF hL
            clear hSW
            go_simp
            exact HK.out rfl _ (fp_mk rfl rfl trivial)
          · refine wpOpS_go rfl rfl ?_
            have t51 : b'.tmps[51]?.getD undef = Value.pointer (some (x.add (p * 3))) := hsv 4 51 _ (by kernel_rfl) (by kernel_rfl) rfl
            obtain ⟨s0, s1, s2, s3, s4, s5⟩ := hSW
            replace s2 := s2 (hsh 10 (by kernel_rfl))
            obtain ⟨b0, b1, b2, _, _⟩ := hcp6 W s2
            have HK := Lib.hid hK1
            clear hK1 hK2 hdep hsh he hsv hsl hFF hL
            clear s0 s1 s2 s3 s4 s5
            go_simp
            exact HK.out rfl _ (fp_mk rfl rfl trivial)
          · refine wpOpS_go rfl rfl ?_
            have t47 : b'.tmps[47]?.getD undef = Value.pointer (some ⟨b, 0, none⟩) := hsv 0 47 _ (by kernel_rfl) (by kernel_rfl) rfl
            have t48 : b'.tmps[48]?.getD undef = Value.agg #[Value.int .i64 (r : Int), Value.int .i64 (c : Int), Value.slice as1 nn ks] := hsv 1 48 _ (by kernel_rfl) (by kernel_rfl) rfl
            have t52 : b'.tmps[52]?.getD undef = Value.agg #[Value.int .i64 (r : Int), Value.int .i64 (c : Int), Value.slice (some yp) nn kp] := hsv 5 52 _ (by kernel_rfl) (by kernel_rfl) rfl
            obtain ⟨s0, s1, s2, s3, s4, s5⟩ := hSW
            have hu := s0 hL
            have hst := hsh 10 (by kernel_rfl)
            replace s2 := s2 hst
            have HK := Lib.hid hK2
            have hA := hCal W s2 hu
            clear hK1 hK2 hdep hsh he hsv hsl hFF hL
            go_simp
            refine hA.mono ?_
            rintro e w6 ⟨av, kv, rfl, hli, hU6, hE6⟩
            exact HK.out _ _ (fp_x rfl ⟨av, kv, rfl, hli⟩) (fun k hk ht => hE6.block k ht.lt (fun hp => by have := hPl3 _ hp; omega)) ⟨fun h => absurd h (by rw [updF_same]; decide), fun _ => hU6, fun _ => s2.trans hE6 (fun _ _ h => h), s3.trans hE6 (fun _ _ h => .inl h), fun h => hE6.blk (s4 h) hPn, fun h => absurd h (by show ¬ L 10 = true; rw [hst]; decide)⟩
          · refine wpOpS_go rfl rfl ?_
            obtain ⟨t53, hx⟩ := hsl 6 53 (by kernel_rfl) (by kernel_rfl)
            obtain ⟨av, kv, e1, hli⟩ := hx
            rw [e1] at t53
            have HK := Lib.hid hK1
            clear hK1 hK2 hdep hsh he hsv hsl hFF hL hSW e1
            go_simp
            exact HK.out rfl _ (fp_x rfl ⟨av, kv, rfl, hli⟩)
          · refine wpOpS_go rfl rfl ?_
            obtain ⟨t46, hx⟩ := hsl 7 46 (by kernel_rfl) (by kernel_rfl)
            obtain ⟨av, kv, e1, hli⟩ := hx
            rw [e1] at t46
            obtain ⟨s0, s1, s2, s3, s4, s5⟩ := hSW
            have HK := Lib.hid hK2
            have hst := hsh 10 (by kernel_rfl)
            clear hK1 hK2 hdep hsh he hsv hsl hFF hL e1
            go_simp
            exact HK.out _ _ (fp_x rfl ⟨av, kv, rfl, hli⟩) (fun _ _ _ => rfl) ⟨s0, s1, s2, s3, s4, fun h => absurd h (by show ¬ L 10 = true; rw [hst]; decide)⟩
          · refine wpOpS_go rfl rfl ?_
            obtain ⟨t46, hx⟩ := hsl 7 46 (by kernel_rfl) (by kernel_rfl)
            obtain ⟨av, kv, e1, hli⟩ := hx
            rw [e1] at t46
            have HK := Lib.hid hK1
            clear hK1 hK2 hdep hsh he hsv hsl hFF hL hSW e1
            go_simp
            exact HK.out rfl _ (fp_mk rfl rfl trivial)
          · refine wpOpS_go rfl rfl ?_
            have t9 : b'.tmps[9]?.getD undef = Value.pointer (some ⟨bx9, 0, none⟩) := he 9 (by kernel_rfl)
            obtain ⟨t54, hxx⟩ := hsl 8 54 (by kernel_rfl) (by kernel_rfl)
            obtain ⟨av, kv, e3, hli⟩ := hxx
            rw [e3] at t54
            obtain ⟨s0, s1, s2, s3, s4, s5⟩ := hSW
            have HK := Lib.hid hK2
            have hmb := s4 hL
            clear hK1 hK2 hdep hsh he hsv hsl hFF
            refine op_store 24 _ _ rfl rfl hmb 0 (eval_tmp t9) (eval_tmp t54) ([.int .i64 r, .int .i64 c, .slice av nn kv] : List Value) (by rfl) (by kernel_rfl) (by rfl) (by rfl) #[.int .i64 r, .int .i64 c, .slice av nn kv] rfl ?_
            intro w6 g6 ef hz
            have hub : ∀ {c}, UR W b c → UR w6 b c := fun h => by
              obtain ⟨mm, hm⟩ := h
              exact ⟨mm, ef.blk hm hbn⟩
            exact HK.out undef _ (fp_x (v := undef) rfl trivial) (fun k hk ht => ef.block k ht.lt (fun e => by subst e; exact absurd (ht.inj hmb.ty) (by decide))) ⟨fun h => hub (s0 h), fun h => hub (s1 h), fun h => absurd h (by rw [updF_same]; decide), s3.trans ef (fun k hk e => .inr e), fun h => absurd h (by rw [updF_same]; decide), fun _ => by rw [updF_ne _ _ (by decide), e3]; exact g6⟩
        · intro f W hf L hL hS
          obtain ⟨s0, s1, s2, s3, s4, s5⟩ := (hS : _ ∧ _ ∧ _ ∧ _ ∧ _ ∧ _)
          replace s1 := s1 (hL 6 (by decide))
          replace s5 := s5 (hL 10 (by decide))
          obtain ⟨av1, kv1, e6, _⟩ := (hf 6 (by decide)).2
          obtain ⟨av2, kv2, e7, _⟩ := (hf 7 (by decide)).2
          obtain ⟨av, kv, e8, hli⟩ := (hf 8 (by decide)).2
          rw [e8] at s5
          have e0 : f 0 = Value.pointer (some ⟨b, 0, none⟩) := (hf 0 (by decide)).1 _ rfl
          have e1 : f 1 = Value.agg #[Value.int .i64 (r : Int), Value.int .i64 (c : Int), Value.slice as1 nn ks] := (hf 1 (by decide)).1 _ rfl
          have e2 : f 2 = Value.slice (some x) n k := (hf 2 (by decide)).1 _ rfl
          have e3 : f 3 = Value.int .i64 (p : Int) := (hf 3 (by decide)).1 _ rfl
          have e4 : f 4 = Value.pointer (some (x.add (p * 3))) := (hf 4 (by decide)).1 _ rfl
          have e5 : f 5 = Value.agg #[Value.int .i64 (r : Int), Value.int .i64 (c : Int), Value.slice (some yp) nn kp] := (hf 5 (by decide)).1 _ rfl
          have e9 : f 9 = Value.int .i64 0 := (hf 9 (by decide)).1 _ rfl
          replace s5 : Blk W bx9 #[.int .i64 r, .int .i64 c, .slice av nn kv] 24 := s5
          clear hf hL s0 s2 s4
          simp only [puts2, Act.put, e0, e1, e2, e3, e4, e5, e6, e7, e8, e9]
          try simp only [List.setIfInBounds_toArray, List.set_cons_zero, List.set_cons_succ]
          clear e0 e1 e2 e3 e4 e5 e6 e7 e8 e9
          have hE9 : Eff P w0 W := HEQ6.out.trans s3 (fun k hk h => by rcases h with h | h; exact h; omega)
          have hg9 := s3.blk HGR6.out (fun h => by rcases h with h | h; have := hPl _ h; omega; omega)
          clear s3
          go_wp2_with fail
          go_roundw
          case rel => exact ⟨p, by omega, by go_num, by rw [HFL.out]; exact s1, hE9, hg9, av, kv, s5, by rw [HVS.out]; exact hli.mono hws⟩
          case measure => simp
      · have hq0 : q = 0 := by omega
        subst hq0
        have fq : ((0 : Nat) : Int) - 1 < 0 := by omega
        rw [HH0.out] at hUq hL9 hok her hec hhl
        clear hok
        have hEr := hEq
        go_wp2_with ((with_reducible refine at_st (p := 6) (q := 56) rfl ?_); refine ev_store rfl 24 _ _ rfl rfl hgr 0 rfl rfl [.int .i64 r, .int .i64 c, .slice a' nn k'] rfl (by kernel_rfl) rfl rfl #[.int .i64 r, .int .i64 c, .slice a' nn k'] rfl ?_; intro w7 g7 ef7 hz7)
        refine bodyPost_ret (results_ct rfl _ _ (g := w0.heap.size) rfl g7 Tryz.underlying24 rfl (by kernel_rfl)) rfl ?_
        refine ⟨_, rfl, ⟨⟨a', k', by rw [her, hec, hhl], hL9.eff ef7 (fun k hk ht => by subst hk; exact absurd (ht.inj hgr.ty) (by decide))⟩, by rw [her]; exact ⟨by omega, by omega⟩, by rw [hec]; exact ⟨by omega, by omega⟩⟩, ?_, hPb _ _ (hEr.trans ef7 (fun k hk e => by omega))⟩
        obtain ⟨mm, hm⟩ := hUq
        exact ⟨mm, ef7.blk hm (by omega)⟩
end Go.Proofs.YtkjbidpafnmogaaGreat.Base
namespace Go.Proofs.YtkjbidpafnmogaaGreat.Base
open Go.RowKit Go Go.Shelf Go.Deep
set_option linter.unusedVariables false
set_option linter.unusedSimpArgs false

set_option maxHeartbeats 4000000 in
set_option maxRecDepth 100000 in
theorem flowR_is {w0 : World} {b : Nat} {c0 : Bool} (hU : UR w0 b c0) {m : Mt} {a : Option Addr} {k : Nat} (hl : ML b w0 a k m.v) (hup : upM m) (t : Int) (ht : I64 t) :
    Calls Tryz.prog 17 #[.pointer (some ⟨b, 0, none⟩), .agg #[.int .i64 m.r, .int .i64 m.c, .slice a m.v.length k], .int .i64 t] w0 fun e w' => ∃ v, e = .returned (.tuple #[v, .int .i64 0]) ∧ MO w0.heap.size w' v (flowM m t).1 ∧ UR w' b (c0 || (flowM m t).2) ∧ But b w0 w' := by
  have hSQ := fun w => squareR_is m a k w
  rw [decide_eq_true hup.1] at hSQ
  have hUP := fun (w : World) (hB : Below w0.heap.size w0 w) => upperR_is (m := m) (hl.mi.keep hB)
  rw [decide_eq_true hup] at hUP
  obtain ⟨ok, sq⟩ := hup.1
  obtain ⟨r, c, hr, hc, hr1, hr2, hc1, hc2, hlen⟩ := ok.nat
  have hTM := fun (w : World) (hB : Below w0.heap.size w0 w) => termsR_is (hU.below hB hU.lt) (hl.keep hB) ok sq (r - 1) (by omega)
  have hPT := poly_terms ok sq (n := r) hr1 (by omega)
  have er1 : r - 1 + 1 = r := by omega
  rw [er1] at hTM
  have hMF : flowM m t = ((hornM t (termsL m r)).1, (termM m (r - 1)).2 || (hornM t (termsL m r)).2) := by unfold flowM; rw [hr, Int.toNat_natCast]
  have hAT : ∀ (w : World) (c1 : Bool) (_ : UR w b c1) (v : Value) (B : Nat) (_ : OMs B w v (termsL m r)), Calls Tryz.prog 26 #[.pointer (some ⟨b, 0, none⟩), v, .int .i64 t] w fun e w' => ∃ u, e = .returned (.tuple #[u, .int .i64 0]) ∧ MO w.heap.size w' u (hornM t (termsL m r)).1 ∧ UR w' b (c1 || (hornM t (termsL m r)).2) ∧ But b w w' := fun w c1 hu v B ho => by
    obtain ⟨x, k, hv, hk, hms⟩ := ho.mlsR hu (by rw [termsL_len]; omega)
    have := atR_is hu hms hk hPT t ht
    rw [← hv] at this
    exact this
  have hbl := hU.lt
  rw [hMF]
  obtain ⟨mr, mc, mv⟩ := m
  dsimp only at hr hc hSQ hUP hTM ⊢
  subst hr hc
  generalize mv.length = nv at *
  generalize hornM t (termsL ⟨(r : Int), (c : Int), mv⟩ r) = hq at *
  generalize termsL ⟨(r : Int), (c : Int), mv⟩ r = tl at *
  generalize (termM ⟨(r : Int), (c : Int), mv⟩ (r - 1)).2 = tc at *
  have HAT := Lib.hid hAT
  clear hAT hMF hPT sq ok hup hl hlen er1
  have hB := below_allocs w0 [Obj.cells #[Value.int .i64 r, .int .i64 c, .slice a nv k] 24, Obj.cells #[.int .i64 0, .int .i64 0, .slice none 0 0] 24]
  have g0 := blk_at w0 [Obj.cells #[Value.int .i64 r, .int .i64 c, .slice a nv k] 24, Obj.cells #[.int .i64 0, .int .i64 0, .slice none 0 0] 24] 0 _ _ rfl
  have g1 := blk_at w0 [Obj.cells #[Value.int .i64 r, .int .i64 c, .slice a nv k] 24, Obj.cells #[.int .i64 0, .int .i64 0, .slice none 0 0] 24] 1 _ _ rfl
  simp only [List.foldl_cons, List.foldl_nil, Nat.add_zero] at hB g0 g1
  replace hB := hB.1
  have fr : IntKind.i64.wrap ((r : Int) - 1) = ((r - 1 : Nat) : Int) := (IntWalk.i64_in _ (by omega)).trans (by omega)
  go_enter Tryz.func17, Tryz.ntmps17
  go_wp2_with fail
  refine (hSQ _).mono ?_
  rintro e w1 ⟨rfl, hK⟩
  replace hB := more hB hK
  replace g0 := g0.keep hK
  replace g1 := g1.keep hK
  clear hK hSQ
  have d0 := g0.cell
  have hux := hUP _ hB
  clear hUP
  go_wp2_with fail
  refine hux.mono ?_
  rintro e w2 ⟨rfl, hK⟩
  replace hB := more hB hK
  replace g0 := g0.keep hK
  replace g1 := g1.keep hK
  clear hK hux d0
  have d0 := g0.cell
  have htx := hTM _ hB
  clear hTM
  go_wp2_with fail
  refine htx.mono ?_
  rintro e w3 ⟨v, rfl, hom, hU3, hB3⟩
  have hwsz : w0.heap.size ≤ w3.heap.size := Nat.le_trans hB.size hB3.size
  replace g1 := hB3.blk g1 (by omega)
  have hBt := (But.of (b := b) hB).trans hB3
  have hax := HAT.out w3 _ hU3 v _ hom
  clear htx d0 g0 hom hU3 hB3
  go_wp2_with fail
  refine hax.mono ?_
  rintro e w4 ⟨u, rfl, hmo, hU4, hB4⟩
  replace g1 := hB4.blk g1 (by omega)
  replace hBt := hBt.trans hB4
  have hsz := hB.size
  obtain ⟨au, ku, rfl, hLI⟩ := hmo.ex
  have i1 := hmo.r
  have i2 := hmo.c
  obtain ⟨hm, hb2⟩ := hq
  obtain ⟨ur, uc, uv⟩ := hm
  dsimp only at hLI i1 i2 ⊢
  generalize hul : uv.length = ul at *
  have HUL := Lib.hid hul
  clear hul hax hmo hB hB4
  go_wp2_with ((with_reducible refine at_st (p := 6) (q := 31) rfl ?_); refine ev_store rfl 24 _ _ rfl rfl g1 0 rfl rfl [.int .i64 ur, .int .i64 uc, .slice au ul ku] rfl (by kernel_rfl) rfl rfl #[.int .i64 ur, .int .i64 uc, .slice au ul ku] rfl ?_; intro w7 g7 ef7 hz7)
  refine bodyPost_ret (results_ct rfl _ _ (g := w0.heap.size + 1) rfl g7 Tryz.underlying24 rfl (by kernel_rfl)) rfl ?_
  refine ⟨_, rfl, ⟨⟨au, ku, by dsimp only; rw [HUL.out], (hLI.eff ef7 (fun k hk ht => by subst hk; exact absurd (ht.inj g1.ty) (by decide))).mono hwsz⟩, i1, i2⟩, ?_, ?_⟩
  · obtain ⟨mm, hm⟩ := hU4
    exact ⟨mm, by rw [← Bool.or_assoc]; exact ef7.blk hm (by omega)⟩
  · exact eff_but (((but_eff hBt).trans ef7 (fun k hk e => by omega)))
end Go.Proofs.YtkjbidpafnmogaaGreat.Base
