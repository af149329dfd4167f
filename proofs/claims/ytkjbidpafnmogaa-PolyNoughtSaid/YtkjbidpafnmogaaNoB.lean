/- binnaclelaw09: PolyNought (the plain seat of r3). -/
import Derived.Test.YtkjbidpafnmogaaPolQ
import Derived.Test.YtkjbidpafnmogaaNoA
import Derived.Test.YtkjbidpafnmogaaBxG
namespace Go.Proofs.Ytkjbidpafnmogaa.Base
open Go.RowKit Go
set_option linter.unusedVariables false
set_option linter.unusedSimpArgs false

theorem term_cells {b n nn tl : Nat} {W : World} {x : Addr} {m : Mt} (h : MLs b W x (termsL m tl)) (hs : ∀ j, Sh n (termM m j).1) (hnn : n * n = nn) {j : Nat} (hj : j < tl) :
    ∃ a k, (W.cell? (x.add (j * 3)) = some (.int .i64 (n : Int)) ∧ W.cell? ⟨(x.add (j * 3)).block, (x.add (j * 3)).off + 1, none⟩ = some (.int .i64 (n : Int)) ∧ W.cell? ⟨(x.add (j * 3)).block, (x.add (j * 3)).off + 2, none⟩ = some (.slice a nn k)) ∧ ML b W a k (termM m j).1.v := by
  have hj' : j < (termsL m tl).length := by rw [termsL_len]; exact hj
  obtain ⟨a, k, ⟨h1, h2, h3⟩, h4⟩ := h.at_ j hj'
  have e : (termsL m tl)[j]'hj' = (termM m j).1 := by simp [termsL]
  rw [e, (hs j).r] at h1
  rw [e, (hs j).c] at h2
  rw [e, (hs j).l, hnn] at h3
  rw [e] at h4
  exact ⟨a, k, ⟨h1, h2, h3⟩, h4⟩
theorem Upper_sh {W : World} {m : Mt} {n nn : Nat} {a : Option Addr} {k : Nat} (h : MI 0 W a k m.v) (hs : Sh n m) (hnn : n * n = nn) (hup : upM m) :
    Calls Try.prog 15 #[.agg #[.int .i64 (n : Int), .int .i64 (n : Int), .slice a nn k]] W fun e w' => e = .returned (.bool true) ∧ Below W.heap.size W w' := by
  have h1 := upper_is h
  rwa [decide_eq_true hup, hs.r, hs.c, hs.l, hnn] at h1
/-- What the loops of PolyNought keep. -/
structure NtS (w0 : World) (b n nn tl : Nat) (x : Addr) (m : Mt) (gF : Nat) (aF : Option Addr) (kF : Nat) (vF : List Int) (gE : Nat) (aE : Option Addr) (kE : Nat) (vE : List Int) (W : World) : Prop where
  ml : MLs b W x (termsL m tl)
  bF : BxG b gF n nn aF kF vF W
  bE : BxG b gE n nn aE kE vE W
  bel : Below w0.heap.size w0 W
theorem NtS.keep {w0 : World} {b n nn tl : Nat} {x : Addr} {m : Mt} {gF : Nat} {aF : Option Addr} {kF : Nat} {vF : List Int} {gE : Nat} {aE : Option Addr} {kE : Nat} {vE : List Int} {W W' : World} (h : NtS w0 b n nn tl x m gF aF kF vF gE aE kE vE W) (hb : Below W.heap.size W W') : NtS w0 b n nn tl x m gF aF kF vF gE aE kE vE W' :=
  ⟨h.ml.but (But.of hb), h.bF.keep hb, h.bE.keep hb, more h.bel hb⟩
/-- The same, with the two cells that are looked at. -/
structure W_S (w0 : World) (b n nn tl : Nat) (x : Addr) (m : Mt) (gF : Nat) (aF : Option Addr) (kF : Nat) (vF : List Int) (gE : Nat) (aE : Option Addr) (kE : Nat) (vE : List Int) (yF yE : Addr) (idx : Nat) (z : Int) (W : World) : Prop where
  nt : NtS w0 b n nn tl x m gF aF kF vF gE aE kE vE W
  cF : W.cell? (yF.add idx) = some (.int .i64 z)
  cE : W.cell? (yE.add idx) = some (.int .i64 z)
theorem ml_cell {b : Nat} {W : World} {a : Option Addr} {k : Nat} {vs : List Int} (h : ML b W a k vs) {i : Nat} (hi : i < vs.length) : ∃ y, a = some y ∧ W.cell? (y.add i) = some (.int .i64 (vs.getD i 0)) := by
  obtain ⟨y, hy, hc⟩ := h.mi.cell i hi
  exact ⟨y, hy, by rw [hc, List.getD_eq_getElem?_getD, List.getElem?_eq_getElem hi, Option.getD_some]⟩

set_option maxHeartbeats 8000000 in
set_option maxRecDepth 100000 in
theorem nought_walk (n0 : Int) (a : Option Addr) (c : Nat) (zs : List Int) (t : Int) (w0 : World) (hn0 : (Lit.int .i64 n0).wf = true) (hz : MI 0 w0 a c zs) (ht : (Lit.int .i64 t).wf = true) :
    Calls Try.prog 4 #[.int .i64 n0, .slice a zs.length c, .int .i64 t] w0 fun e w' => e = .returned (.bool true) ∧ Below w0.heap.size w0 w' := by
  obtain ⟨n, hn, hn1, hn6⟩ : ∃ n : Nat, 1 + pickI n0 6 = (n : Int) ∧ 1 ≤ n ∧ n ≤ 6 := by
    have := pickI_bd (x := n0) (n := 6) (by decide)
    exact ⟨(1 + pickI n0 6).toNat, by omega, by omega, by omega⟩
  have hwn : IntKind.i64.wrap (1 + pickI n0 6) = (n : Int) := by rw [hn]; exact IntWalk.i64_in _ (by omega)
  obtain ⟨nn, hnn⟩ : ∃ nn, n * n = nn := ⟨_, rfl⟩
  have hnn36 : nn ≤ 36 := by rw [← hnn]; exact sq_le hn6
  have hnn1 : 1 ≤ nn := by rw [← hnn]; exact Nat.mul_le_mul hn1 hn1
  have hwq : IntKind.i64.wrap ((n : Int) * (n : Int)) = ((nn : Nat) : Int) := by rw [← Int.natCast_mul, hnn]; exact IntWalk.i64_in _ (by omega)
  have hw1 : IntKind.i64.wrap ((n : Int) + 1) = ((n + 1 : Nat) : Int) := IntWalk.i64_in _ (by omega)
  obtain ⟨tl, htl⟩ : ∃ tl, n + 1 + 1 = tl := ⟨_, rfl⟩
  have hw2 : IntKind.i64.wrap ((n : Int) + 2) = ((tl : Nat) : Int) := by rw [IntWalk.i64_in _ (by omega)]; omega
  have ht64 : I64 t := bounds_i64 ht
  have htl3 : 3 ≤ tl := by omega
  have htl8 : tl ≤ 8 := by omega
  have HZ := Lib.hid hz
  have HNN := Lib.hid hnn
  have HTL := Lib.hid htl
  clear hz hn hnn htl
  go_enter Try.func4, Try.ntmps4
  go_wp2_with fail
  refine (known09_is w0).mono ?_
  rintro e w1 ⟨rfl, hB⟩
  have hz1 := HZ.out.keep hB
  go_wp2_with fail
  refine (pick_is n0 6 (by decide) (by decide) _).mono ?_
  rintro e w2 ⟨rfl, hw⟩
  rw [← hw]; clear hw w2
  have HUP := Lib.hid (kupper_is hz1 n hn1 hn6 20 (by decide) (by decide))
  clear hz1
  go_wp2_with fail
  refine HUP.out.mono ?_
  rintro e w2 ⟨v, vs, rfl, hmo, hV, hK⟩
  have hup := hV.up hn1 (by omega)
  obtain ⟨hsm, hom⟩ := hV.off
  have hvl : vs.length = nn := hV.1.trans HNN.out
  obtain ⟨aA, kA, rfl, hLA⟩ := hmo.lit (n := n) (nn := nn) rfl rfl hvl
  have hLM := hLA.mono (Nat.zero_le _)
  replace hB := more hB hK
  clear hmo hLA HUP hK
  have HVL := Lib.hid hvl
  have HSM := Lib.hid hsm
  have HOM := Lib.hid hom
  have HUPM := Lib.hid hup
  clear hvl hV hsm hom hup
  have hBA := upA (upR w2) (Obj.cells #[Value.int .i64 (n : Int), .int .i64 (n : Int), .slice aA nn kA] 26)
  have gA := Blk.new w2 #[Value.int .i64 (n : Int), .int .i64 (n : Int), .slice aA nn kA] 26
  replace hLM := hLM.keep hBA
  replace hB := more hB hBA
  go_wp2_with fail
  generalize w2.alloc (Obj.cells #[Value.int .i64 (n : Int), .int .i64 (n : Int), .slice aA nn kA] 26) = w3 at *
  obtain ⟨ga, hga⟩ : ∃ g, w2.heap.size = g := ⟨_, rfl⟩
  rw [hga] at gA ⊢
  clear hBA hga
  refine (uNew_is _).mono ?_
  rintro e w4 ⟨rfl, hU, hK⟩
  have hgl : ga < w3.heap.size := gA.lt
  have hub : w0.heap.size ≤ w3.heap.size := hB.size
  obtain ⟨b, hbb⟩ : ∃ b, w3.heap.size = b := ⟨_, rfl⟩
  have bA : BxG w3.heap.size ga n nn aA kA vs w4 := ⟨gA.keep hK, (hLM.keep hK).ml hU, by omega⟩
  replace hB := more hB hK
  rw [hbb] at hU bA hub ⊢
  clear hbb hK gA hLM hgl
  -- Terms
  have hT := Terms_is hU (m := ⟨n, n, vs⟩) bA.l HUPM.out.1.1 HUPM.out.1.2 (n + 1) (by omega)
  rw [HTL.out, show ((⟨n, n, vs⟩ : Mt).v).length = nn from HVL.out] at hT
  have HT := Lib.hid hT
  clear hT
  have d0 := bA.bk.cell
  go_wp2_with fail
  clear d0
  refine HT.out.mono ?_
  rintro e w5 ⟨v, rfl, hO, hU', hK⟩
  obtain ⟨x, kc, rfl, hck, hML⟩ := hO.mls hU' (by rw [termsL_len]; omega)
  rw [termsL_len] at hck ⊢
  replace bA := bA.but hK
  replace hB := hB.trans (hK.below hub hB.size)
  have hU := hU'
  clear hO hK HT hU'
  generalize (false || _) = cc at hU
  -- Flow t
  have hF := Flow_is hU (m := ⟨n, n, vs⟩) bA.l HUPM.out t ht64
  rw [show ((⟨n, n, vs⟩ : Mt).v).length = nn from HVL.out] at hF
  have HF := Lib.hid hF
  clear hF
  have d0 := bA.bk.cell
  go_wp2_with fail
  clear d0
  refine HF.out.mono ?_
  rintro e w6 ⟨v, rfl, hmo, hU', hK⟩
  obtain ⟨hsf, hef⟩ := flow_law HSM.out hn1 HOM.out t
  obtain ⟨aF, kF, rfl, hLF⟩ := hmo.lit hsf.r hsf.c (hsf.l.trans HNN.out)
  have hl := hLF.ml hU'
  replace bA := bA.but hK
  replace hML := hML.but hK
  replace hB := hB.trans (hK.below hub hB.size)
  have hlt := hU'.lt
  have hBA := upA (upR w6) (Obj.cells #[Value.int .i64 (n : Int), .int .i64 (n : Int), .slice aF nn kF] 26)
  have bF : BxG b w6.heap.size n nn aF kF (flowM ⟨n, n, vs⟩ t).1.v _ := ⟨Blk.new w6 #[Value.int .i64 (n : Int), .int .i64 (n : Int), .slice aF nn kF] 26, hl.keep hBA, by omega⟩
  replace bA := bA.keep hBA
  replace hML := hML.but (But.of hBA)
  replace hU := hU'.keep hBA
  replace hB := more hB hBA
  have HSF := Lib.hid hsf
  have HEF := Lib.hid hef
  have d0 := bA.bk.cell
  clear hK hBA hl hlt hU' hmo hLF HF hsf hef
  go_wp2_with fail
  clear d0
  generalize w6.alloc (Obj.cells #[Value.int .i64 (n : Int), .int .i64 (n : Int), .slice aF nn kF] 26) = w7 at *
  obtain ⟨gF, hg⟩ : ∃ g, w6.heap.size = g := ⟨_, rfl⟩
  rw [hg] at bF ⊢
  clear hg
  generalize (cc || _) = cd at hU
  -- Flow 0
  have hF := Flow_is hU (m := ⟨n, n, vs⟩) bA.l HUPM.out 0 (by unfold I64; omega)
  rw [show ((⟨n, n, vs⟩ : Mt).v).length = nn from HVL.out, flow_nought HSM.out hn1 HOM.out] at hF
  refine hF.mono ?_
  clear hF
  rintro e w8 ⟨v, rfl, hmo, hU', hK⟩
  obtain ⟨aS, kS, rfl, hLS⟩ := hmo.lit (eye_sh n).r (eye_sh n).c ((eye_sh n).l.trans HNN.out)
  have hl := hLS.ml hU'
  replace bA := bA.but hK
  replace bF := bF.but hK
  replace hML := hML.but hK
  replace hB := hB.trans (hK.below hub hB.size)
  have hlt := hU'.lt
  have hBA := upA (upR w8) (Obj.cells #[Value.int .i64 (n : Int), .int .i64 (n : Int), .slice aS nn kS] 26)
  have bS : BxG b w8.heap.size n nn aS kS (eyeM n).v _ := ⟨Blk.new w8 #[Value.int .i64 (n : Int), .int .i64 (n : Int), .slice aS nn kS] 26, hl.keep hBA, by omega⟩
  replace bA := bA.keep hBA
  replace bF := bF.keep hBA
  replace hML := hML.but (But.of hBA)
  replace hU := hU'.keep hBA
  replace hB := more hB hBA
  clear hK hBA hl hlt hU' hmo hLS
  go_wp2_with fail
  generalize w8.alloc (Obj.cells #[Value.int .i64 (n : Int), .int .i64 (n : Int), .slice aS nn kS] 26) = w9 at *
  obtain ⟨gS, hg⟩ : ∃ g, w8.heap.size = g := ⟨_, rfl⟩
  rw [hg] at bS ⊢
  clear hg
  -- Eye
  refine (eye_is n hn1 (by omega) w9).mono ?_
  rintro e wA ⟨v, rfl, hmo, hK⟩
  obtain ⟨aE, kE, rfl, hLE⟩ := hmo.lit (eye_sh n).r (eye_sh n).c ((eye_sh n).l.trans HNN.out)
  replace hU := hU.keep hK
  have hl := hLE.ml hU
  replace bA := bA.keep hK
  replace bF := bF.keep hK
  replace bS := bS.keep hK
  replace hML := hML.but (But.of hK)
  replace hB := more hB hK
  have hlt := hU.lt
  have hBA := upA (upR wA) (Obj.cells #[Value.int .i64 (n : Int), .int .i64 (n : Int), .slice aE nn kE] 26)
  have bE : BxG b wA.heap.size n nn aE kE (eyeM n).v _ := ⟨Blk.new wA #[Value.int .i64 (n : Int), .int .i64 (n : Int), .slice aE nn kE] 26, hl.keep hBA, by omega⟩
  replace bA := bA.keep hBA
  replace bF := bF.keep hBA
  replace bS := bS.keep hBA
  replace hML := hML.but (But.of hBA)
  replace hB := more hB hBA
  have d0 := bA.bk.cell
  clear hK hBA hl hlt hU hmo hLE
  go_wp2_with fail
  clear d0
  generalize wA.alloc (Obj.cells #[Value.int .i64 (n : Int), .int .i64 (n : Int), .slice aE nn kE] 26) = wB at *
  obtain ⟨gE, hg⟩ : ∃ g, wA.heap.size = g := ⟨_, rfl⟩
  rw [hg] at bE ⊢
  clear hg
  refine (Upper_sh (m := ⟨n, n, vs⟩) bA.l.mi HSM.out HNN.out HUPM.out).mono ?_
  rintro e wC ⟨rfl, hK⟩
  replace bF := bF.keep hK
  replace bS := bS.keep hK
  replace bE := bE.keep hK
  replace hML := hML.but (But.of hK)
  replace hB := more hB hK
  have d0 := bS.bk.cell
  have d1 := bE.bk.cell
  clear hK bA
  go_wp2_with fail
  clear d0 d1
  refine (same_grp (n := n) ((eye_sh n).l.trans HNN.out) bS.l.mi bE.l.mi).mono ?_
  rintro e wD ⟨rfl, hK⟩
  have hNT : NtS w0 b n nn tl x ⟨n, n, vs⟩ gF aF kF (flowM ⟨n, n, vs⟩ t).1.v gE aE kE (eyeM n).v wD := ⟨hML.but (But.of hK), bF.keep hK, bE.keep hK, more hB hK⟩
  have d0 := (bF.keep hK).bk.cell
  have htlb : ((tl : Int) == (tl : Int)) = true := by simp
  clear hK bS bE bF hML hB
  go_wp2_with fail
  clear d0
  -- the terms
  go_loopw [18] (fun v18 wr => ∃ j : Nat, 1 ≤ j ∧ j ≤ tl ∧ v18 = .int .i64 j ∧ NtS w0 b n nn tl x ⟨n, n, vs⟩ gF aF kF (flowM ⟨n, n, vs⟩ t).1.v gE aE kE (eyeM n).v wr) (fun i _ => tl - (intOf i).toNat)
  case atStart => exact ⟨1, Nat.le_refl _, by omega, rfl, hNT⟩
  case round =>
    clear hNT
    obtain ⟨j, hj1, hj, rfl, hNT⟩ := hrel
    by_cases hlt : j < tl
    · have hlt' : (j : Int) < (tl : Int) := by omega
      have hj0 : (0 : Int) ≤ (j : Int) := by omega
      have hwj : IntKind.i64.wrap ((j : Int) + 1) = (j : Int) + 1 := IntWalk.i64_in _ (by omega)
      obtain ⟨hts, hto⟩ := term_off HSM.out HOM.out j
      obtain ⟨aj, kj, ⟨c1, c2, c3⟩, hlj⟩ := term_cells hNT.ml (fun j => (term_off HSM.out HOM.out j).1) HNN.out hlt
      have hupj := off_up hts hn1 (by omega) hj1 hto
      have HUJ := Lib.hid hupj
      have HTS := Lib.hid hts
      have HTO := Lib.hid hto
      clear hupj hts hto
      go_wp2_with fail
      refine (Upper_sh hlj.mi HTS.out HNN.out HUJ.out).mono ?_
      rintro e w2 ⟨rfl, hK⟩
      replace hNT := hNT.keep hK
      clear hK c1 c2 c3 hlj
      go_wp2_with fail
      go_loopw [19] (fun v19 wr => ∃ i : Nat, i ≤ nn ∧ v19 = .int .i64 i ∧ NtS w0 b n nn tl x ⟨n, n, vs⟩ gF aF kF (flowM ⟨n, n, vs⟩ t).1.v gE aE kE (eyeM n).v wr) (fun i _ => nn - (intOf i).toNat)
      case atStart => exact ⟨0, Nat.zero_le _, rfl, hNT⟩
      case round =>
        clear hNT
        obtain ⟨i, hi, rfl, hNT⟩ := hrel
        obtain ⟨aj, kj, ⟨c1, c2, c3⟩, hlj⟩ := term_cells hNT.ml (fun j => (term_off HSM.out HOM.out j).1) HNN.out hlt
        by_cases hin : i < nn
        · have hin' : (i : Int) < (nn : Int) := by omega
          have hi0 : (0 : Int) ≤ (i : Int) := by omega
          have hwi : IntKind.i64.wrap ((i : Int) + 1) = (i : Int) + 1 := IntWalk.i64_in _ (by omega)
          obtain ⟨y, rfl, hc⟩ := ml_cell hlj (i := i) (by rw [HTS.out.l, HNN.out]; exact hin)
          by_cases hjn : n ≤ j
          · have hjn' : (n : Int) ≤ (j : Int) := by omega
            rw [off_zero HTS.out hjn HTO.out i (by rw [HNN.out]; exact hin)] at hc
            go_wp2_with fail
            go_roundw
            case rel => exact ⟨i + 1, by omega, by go_num, hNT⟩
            case measure => simp [intOf]; omega
          · have hjn' : ¬ (n : Int) ≤ (j : Int) := by omega
            clear hc
            go_wp2_with fail
            go_roundw
            case rel => exact ⟨i + 1, by omega, by go_num, hNT⟩
            case measure => simp [intOf]; omega
        · have hge : ¬ (i : Int) < (nn : Int) := by omega
          go_wp2_with fail
          go_roundw
          case rel => exact ⟨j + 1, by omega, by omega, by go_num, hNT⟩
          case measure => simp [intOf]; omega
    · have hge : ¬ (j : Int) < (tl : Int) := by omega
      clear hlt hj
      go_wp2_with fail
      go_loopw [20] (fun v20 wr => ∃ i : Nat, i ≤ n ∧ v20 = .int .i64 i ∧ NtS w0 b n nn tl x ⟨n, n, vs⟩ gF aF kF (flowM ⟨n, n, vs⟩ t).1.v gE aE kE (eyeM n).v wr) (fun i _ => n - (intOf i).toNat)
      case atStart => exact ⟨0, Nat.zero_le _, rfl, hNT⟩
      case round =>
        clear hNT
        obtain ⟨i, hi, rfl, hNT⟩ := hrel
        by_cases hin : i < n
        · have hin' : (i : Int) < (n : Int) := by omega
          have hi0 : (0 : Int) ≤ (i : Int) := by omega
          have hwi : IntKind.i64.wrap ((i : Int) + 1) = (i : Int) + 1 := IntWalk.i64_in _ (by omega)
          obtain ⟨p, hp⟩ : ∃ p, i * n = p := ⟨_, rfl⟩
          have hp36 : p ≤ 36 := by rw [← hp]; exact Nat.mul_le_mul (show i ≤ 6 by omega) hn6
          have hwp : IntKind.i64.wrap ((i : Int) * (n : Int)) = ((p : Nat) : Int) := by rw [← Int.natCast_mul, hp]; exact IntWalk.i64_in _ (by omega)
          have HP := Lib.hid hp
          clear hp
          go_wp2_with fail
          go_loopw [21] (fun v21 wr => ∃ k : Nat, k ≤ i + 1 ∧ v21 = .int .i64 k ∧ NtS w0 b n nn tl x ⟨n, n, vs⟩ gF aF kF (flowM ⟨n, n, vs⟩ t).1.v gE aE kE (eyeM n).v wr) (fun i _ => n + 1 - (intOf i).toNat)
          case atStart => exact ⟨0, Nat.zero_le _, rfl, hNT⟩
          case round =>
            clear hNT
            obtain ⟨k, hk, rfl, hNT⟩ := hrel
            by_cases hki : k ≤ i
            · have hki' : (k : Int) ≤ (i : Int) := by omega
              have hk0 : (0 : Int) ≤ (k : Int) := by omega
              have hwk : IntKind.i64.wrap ((k : Int) + 1) = (k : Int) + 1 := IntWalk.i64_in _ (by omega)
              obtain ⟨idx, hidx⟩ : ∃ idx, p + k = idx := ⟨_, rfl⟩
              have hix : idx < nn := by rw [← hidx, ← HP.out, ← HNN.out]; exact ix_in hin (by omega)
              have hix' : (idx : Int) < (nn : Int) := by omega
              have hix0 : (0 : Int) ≤ (idx : Int) := by omega
              have hwx : IntKind.i64.wrap ((p : Int) + (k : Int)) = (idx : Int) := by rw [IntWalk.i64_in _ (by omega)]; omega
              have hEF := HEF.out i k hin (by omega) (.inl hki)
              rw [HSF.out.ix, (eye_sh n).ix, HP.out, hidx] at hEF
              obtain ⟨yF, rfl, hcF⟩ := ml_cell hNT.bF.l (i := idx) (by rw [HSF.out.l, HNN.out]; exact hix)
              obtain ⟨yE, rfl, hcE⟩ := ml_cell hNT.bE.l (i := idx) (by rw [(eye_sh n).l, HNN.out]; exact hix)
              rw [hEF] at hcF
              clear hEF hidx
              generalize (eyeM n).v.getD idx 0 = z at hcF hcE
              go_wp2_with fail
              have HS0 := (show W_S w0 b n nn tl x ⟨n, n, vs⟩ gF (some yF) kF (flowM ⟨n, n, vs⟩ t).1.v gE (some yE) kE (eyeM n).v yF yE idx z _ from ⟨hNT.keep (upD (upR _)), cell_kp0 hcF (upD (upR _)), cell_kp0 hcE (upD (upR _))⟩)
              clear hNT hcF hcE
              refine region_fp [some 139, some 140, some 141, some 142, some 143, some 144, some 145, some 146, some 147, some 148, some 149, some 150, some 151, some 152, some 153, some 154, some 155, some 156, some 157] [] [some (Value.pointer (some ⟨gF, 2, none⟩)), some (Value.slice (some yF) nn kF), some (Value.int .i64 (i : Int)), some (Value.int .i64 (n : Int)), some (Value.int .i64 (p : Int)), some (Value.int .i64 (k : Int)), some (Value.int .i64 (idx : Int)), some (Value.pointer (some (yF.add idx))), some (Value.int .i64 (z)), some (Value.pointer (some ⟨gE, 2, none⟩)), some (Value.slice (some yE) nn kE), some (Value.int .i64 (i : Int)), some (Value.int .i64 (n : Int)), some (Value.int .i64 (p : Int)), some (Value.int .i64 (k : Int)), some (Value.int .i64 (idx : Int)), some (Value.pointer (some (yE.add idx))), some (Value.int .i64 (z)), some (Value.bool false)]
                (fun _ _ _ => True) (fun W W' => True) (fun L f W => W_S w0 b n nn tl x ⟨n, n, vs⟩ gF (some yF) kF (flowM ⟨n, n, vs⟩ t).1.v gE (some yE) kE (eyeM n).v yF yE idx z W)
                (by kernel_rfl) (by kernel_rfl) (by kernel_rfl) (by kernel_rfl) (by kernel_rfl) (fun _ => trivial) (fun _ _ _ _ _ _ => trivial) (fun _ _ _ _ _ _ h => h) HS0 ?_ ?_
              · intro i hi b' L f W hSW hL hdep hsh he hsv hsl hFF K hK1 hK2
                replace hi : i < 19 := hi
                have hcs : i = 0 ∨ i = 1 ∨ i = 2 ∨ i = 3 ∨ i = 4 ∨ i = 5 ∨ i = 6 ∨ i = 7 ∨ i = 8 ∨ i = 9 ∨ i = 10 ∨ i = 11 ∨ i = 12 ∨ i = 13 ∨ i = 14 ∨ i = 15 ∨ i = 16 ∨ i = 17 ∨ i = 18 := by omega
                clear hi
                rcases hcs with rfl | rfl | rfl | rfl | rfl | rfl | rfl | rfl | rfl | rfl | rfl | rfl | rfl | rfl | rfl | rfl | rfl | rfl | rfl
                · refine wpOpS_go rfl rfl ?_
                  have t12 : b'.tmps[12]?.getD undef = Value.pointer (some ⟨gF, 0, none⟩) := he 12 (by kernel_rfl)
                  have HK := Lib.hid hK1
                  clear hK1 hK2 hdep hsh he hsv hsl hFF hL hSW
                  go_simp
                  exact HK.out rfl _ (fp_mk rfl rfl trivial)
                · refine wpOpS_go rfl rfl ?_
                  have t139 : b'.tmps[139]?.getD undef = Value.pointer (some ⟨gF, 2, none⟩) := hsv 0 139 _ (by kernel_rfl) (by kernel_rfl) rfl
                  have c0 := hSW.nt.bF.bk.cell
                  have HK := Lib.hid hK1
                  clear hK1 hK2 hdep hsh he hsv hsl hFF hL
                  clear hSW
                  go_simp
                  exact HK.out rfl _ (fp_mk rfl rfl trivial)
                · refine wpOpS_go rfl rfl ?_
                  have t20 : b'.tmps[20]?.getD undef = Value.int .i64 (i : Int) := he 20 (by kernel_rfl)
                  have HK := Lib.hid hK1
                  clear hK1 hK2 hdep hsh he hsv hsl hFF hL hSW
                  go_simp
                  exact HK.out rfl _ (fp_mk rfl rfl trivial)
                · refine wpOpS_go rfl rfl ?_
                  have t0 : b'.tmps[0]?.getD undef = Value.int .i64 (n : Int) := he 0 (by kernel_rfl)
                  have HK := Lib.hid hK1
                  clear hK1 hK2 hdep hsh he hsv hsl hFF hL hSW
                  go_simp
                  exact HK.out rfl _ (fp_mk rfl rfl trivial)
                · refine wpOpS_go rfl rfl ?_
                  have t141 : b'.tmps[141]?.getD undef = Value.int .i64 (i : Int) := hsv 2 141 _ (by kernel_rfl) (by kernel_rfl) rfl
                  have t142 : b'.tmps[142]?.getD undef = Value.int .i64 (n : Int) := hsv 3 142 _ (by kernel_rfl) (by kernel_rfl) rfl
                  have HK := Lib.hid hK1
                  clear hK1 hK2 hdep hsh he hsv hsl hFF hL hSW
                  go_simp
                  exact HK.out rfl _ (fp_mk rfl rfl trivial)
                · refine wpOpS_go rfl rfl ?_
                  have t21 : b'.tmps[21]?.getD undef = Value.int .i64 (k : Int) := he 21 (by kernel_rfl)
                  have HK := Lib.hid hK1
                  clear hK1 hK2 hdep hsh he hsv hsl hFF hL hSW
                  go_simp
                  exact HK.out rfl _ (fp_mk rfl rfl trivial)
                · refine wpOpS_go rfl rfl ?_
                  have t143 : b'.tmps[143]?.getD undef = Value.int .i64 (p : Int) := hsv 4 143 _ (by kernel_rfl) (by kernel_rfl) rfl
                  have t144 : b'.tmps[144]?.getD undef = Value.int .i64 (k : Int) := hsv 5 144 _ (by kernel_rfl) (by kernel_rfl) rfl
                  have HK := Lib.hid hK1
                  clear hK1 hK2 hdep hsh he hsv hsl hFF hL hSW
                  go_simp
                  exact HK.out rfl _ (fp_mk rfl rfl trivial)
                · refine wpOpS_go rfl rfl ?_
                  have t140 : b'.tmps[140]?.getD undef = Value.slice (some yF) nn kF := hsv 1 140 _ (by kernel_rfl) (by kernel_rfl) rfl
                  have t145 : b'.tmps[145]?.getD undef = Value.int .i64 (idx : Int) := hsv 6 145 _ (by kernel_rfl) (by kernel_rfl) rfl
                  have HK := Lib.hid hK1
                  clear hK1 hK2 hdep hsh he hsv hsl hFF hL hSW
                  go_simp
                  exact HK.out rfl _ (fp_mk rfl rfl trivial)
                · refine wpOpS_go rfl rfl ?_
                  have t146 : b'.tmps[146]?.getD undef = Value.pointer (some (yF.add idx)) := hsv 7 146 _ (by kernel_rfl) (by kernel_rfl) rfl
                  have c0 := hSW.cF
                  have HK := Lib.hid hK1
                  clear hK1 hK2 hdep hsh he hsv hsl hFF hL
                  clear hSW
                  go_simp
                  exact HK.out rfl _ (fp_mk rfl rfl trivial)
                · refine wpOpS_go rfl rfl ?_
                  have t16 : b'.tmps[16]?.getD undef = Value.pointer (some ⟨gE, 0, none⟩) := he 16 (by kernel_rfl)
                  have HK := Lib.hid hK1
                  clear hK1 hK2 hdep hsh he hsv hsl hFF hL hSW
                  go_simp
                  exact HK.out rfl _ (fp_mk rfl rfl trivial)
                · refine wpOpS_go rfl rfl ?_
                  have t148 : b'.tmps[148]?.getD undef = Value.pointer (some ⟨gE, 2, none⟩) := hsv 9 148 _ (by kernel_rfl) (by kernel_rfl) rfl
                  have c0 := hSW.nt.bE.bk.cell
                  have HK := Lib.hid hK1
                  clear hK1 hK2 hdep hsh he hsv hsl hFF hL
                  clear hSW
                  go_simp
                  exact HK.out rfl _ (fp_mk rfl rfl trivial)
                · refine wpOpS_go rfl rfl ?_
                  have t20 : b'.tmps[20]?.getD undef = Value.int .i64 (i : Int) := he 20 (by kernel_rfl)
                  have HK := Lib.hid hK1
                  clear hK1 hK2 hdep hsh he hsv hsl hFF hL hSW
                  go_simp
                  exact HK.out rfl _ (fp_mk rfl rfl trivial)
                · refine wpOpS_go rfl rfl ?_
                  have t0 : b'.tmps[0]?.getD undef = Value.int .i64 (n : Int) := he 0 (by kernel_rfl)
                  have HK := Lib.hid hK1
                  clear hK1 hK2 hdep hsh he hsv hsl hFF hL hSW
                  go_simp
                  exact HK.out rfl _ (fp_mk rfl rfl trivial)
                · refine wpOpS_go rfl rfl ?_
                  have t150 : b'.tmps[150]?.getD undef = Value.int .i64 (i : Int) := hsv 11 150 _ (by kernel_rfl) (by kernel_rfl) rfl
                  have t151 : b'.tmps[151]?.getD undef = Value.int .i64 (n : Int) := hsv 12 151 _ (by kernel_rfl) (by kernel_rfl) rfl
                  have HK := Lib.hid hK1
                  clear hK1 hK2 hdep hsh he hsv hsl hFF hL hSW
                  go_simp
                  exact HK.out rfl _ (fp_mk rfl rfl trivial)
                · refine wpOpS_go rfl rfl ?_
                  have t21 : b'.tmps[21]?.getD undef = Value.int .i64 (k : Int) := he 21 (by kernel_rfl)
                  have HK := Lib.hid hK1
                  clear hK1 hK2 hdep hsh he hsv hsl hFF hL hSW
                  go_simp
                  exact HK.out rfl _ (fp_mk rfl rfl trivial)
                · refine wpOpS_go rfl rfl ?_
                  have t152 : b'.tmps[152]?.getD undef = Value.int .i64 (p : Int) := hsv 13 152 _ (by kernel_rfl) (by kernel_rfl) rfl
                  have t153 : b'.tmps[153]?.getD undef = Value.int .i64 (k : Int) := hsv 14 153 _ (by kernel_rfl) (by kernel_rfl) rfl
                  have HK := Lib.hid hK1
                  clear hK1 hK2 hdep hsh he hsv hsl hFF hL hSW
                  go_simp
                  exact HK.out rfl _ (fp_mk rfl rfl trivial)
                · refine wpOpS_go rfl rfl ?_
                  have t149 : b'.tmps[149]?.getD undef = Value.slice (some yE) nn kE := hsv 10 149 _ (by kernel_rfl) (by kernel_rfl) rfl
                  have t154 : b'.tmps[154]?.getD undef = Value.int .i64 (idx : Int) := hsv 15 154 _ (by kernel_rfl) (by kernel_rfl) rfl
                  have HK := Lib.hid hK1
                  clear hK1 hK2 hdep hsh he hsv hsl hFF hL hSW
                  go_simp
                  exact HK.out rfl _ (fp_mk rfl rfl trivial)
                · refine wpOpS_go rfl rfl ?_
                  have t155 : b'.tmps[155]?.getD undef = Value.pointer (some (yE.add idx)) := hsv 16 155 _ (by kernel_rfl) (by kernel_rfl) rfl
                  have c0 := hSW.cE
                  have HK := Lib.hid hK1
                  clear hK1 hK2 hdep hsh he hsv hsl hFF hL
                  clear hSW
                  go_simp
                  exact HK.out rfl _ (fp_mk rfl rfl trivial)
                · refine wpOpS_go rfl rfl ?_
                  have t147 : b'.tmps[147]?.getD undef = Value.int .i64 (z) := hsv 8 147 _ (by kernel_rfl) (by kernel_rfl) rfl
                  have t156 : b'.tmps[156]?.getD undef = Value.int .i64 (z) := hsv 17 156 _ (by kernel_rfl) (by kernel_rfl) rfl
                  have HK := Lib.hid hK1
                  clear hK1 hK2 hdep hsh he hsv hsl hFF hL hSW
                  go_simp
                  exact HK.out rfl _ (fp_mk rfl rfl trivial)
              · intro f W hf L hL hS
                have e9 : f 18 = Value.bool false := (hf 18 (by decide)).1 _ rfl
                have hNT := hS.nt
                clear hf hL hS
                simp only [puts2, Act.put]
                generalize f 0 = y0, f 1 = y1, f 2 = y2, f 3 = y3, f 4 = y4, f 5 = y5, f 6 = y6, f 7 = y7, f 8 = y8, f 9 = y9, f 10 = y10, f 11 = y11, f 12 = y12, f 13 = y13, f 14 = y14, f 15 = y15, f 16 = y16, f 17 = y17
                rw [e9]
                try simp only [List.setIfInBounds_toArray, List.set_cons_zero, List.set_cons_succ]
                go_wp2_with fail
                go_roundw
                case rel => exact ⟨k + 1, by omega, by go_num, hNT⟩
                case measure => simp [intOf]; omega
            · have hge : ¬ (k : Int) ≤ (i : Int) := by omega
              go_wp2_with fail
              go_roundw
              case rel => exact ⟨i + 1, by omega, by go_num, hNT⟩
              case measure => simp [intOf]; omega
        · have hge : ¬ (i : Int) < (n : Int) := by omega
          have hB := hNT.bel
          go_wp2_with fail
          go_ret
          exact ⟨rfl, hB⟩

end Go.Proofs.Ytkjbidpafnmogaa.Base
