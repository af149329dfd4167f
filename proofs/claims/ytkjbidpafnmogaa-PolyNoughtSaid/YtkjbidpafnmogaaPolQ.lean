/- binnaclelaw09: PolyKnown (the plain seat of r3). -/
import Derived.Test.YtkjbidpafnmogaaPolP
namespace Go.Proofs.Ytkjbidpafnmogaa.Base
open Go.RowKit Go
set_option linter.unusedVariables false
set_option linter.unusedSimpArgs false

def zeroM : Mt := ofM 3 [0, 0, 0, 0, 0, 0, 0, 0, 0]
def halfM : Mt := ⟨3, 3, [0, 0, 2147483648, 0, 0, 0, 0, 0, 0]⟩
theorem eye2_sq : sqM (eyeM 2) := by unfold sqM; decide
theorem eye2_not : ¬ upM (eyeM 2) := by decide
set_option maxRecDepth 100000 in
theorem term2 : (termM chainM 2).1.v = halfM.v ∧ (termM chainM 2).1.r = 3 ∧ (termM chainM 2).1.c = 3 := ⟨by kernel_rfl, by kernel_rfl, by kernel_rfl⟩
set_option maxRecDepth 100000 in
theorem term3 : (termM chainM 3).1.v = zeroM.v ∧ (termM chainM 3).1.r = 3 ∧ (termM chainM 3).1.c = 3 := ⟨by kernel_rfl, by kernel_rfl, by kernel_rfl⟩

/-- The third and the fourth term lie there. -/
structure LsS (x : Addr) (a2 a3 : Option Addr) (k2 k3 : Nat) (W : World) : Prop where
  c2 : W.cell? (x.add 6) = some (.int .i64 3) ∧ W.cell? ⟨(x.add 6).block, (x.add 6).off + 1, none⟩ = some (.int .i64 3) ∧ W.cell? ⟨(x.add 6).block, (x.add 6).off + 2, none⟩ = some (.slice a2 9 k2)
  c3 : W.cell? (x.add 9) = some (.int .i64 3) ∧ W.cell? ⟨(x.add 9).block, (x.add 9).off + 1, none⟩ = some (.int .i64 3) ∧ W.cell? ⟨(x.add 9).block, (x.add 9).off + 2, none⟩ = some (.slice a3 9 k3)
  l2 : MI 0 W a2 k2 halfM.v
  l3 : MI 0 W a3 k3 zeroM.v
theorem LsS.keep {x : Addr} {a2 a3 : Option Addr} {k2 k3 : Nat} {W W' : World} (h : LsS x a2 a3 k2 k3 W) (hb : Below W.heap.size W W') : LsS x a2 a3 k2 k3 W' :=
  ⟨⟨cell_kp h.c2.1 hb, cell_kp h.c2.2.1 hb, cell_kp h.c2.2.2 hb⟩, ⟨cell_kp h.c3.1 hb, cell_kp h.c3.2.1 hb, cell_kp h.c3.2.2 hb⟩, h.l2.keep hb, h.l3.keep hb⟩
theorem ls_of {b : Nat} {W : World} {x : Addr} (h : MLs b W x (termsL chainM 4)) : ∃ a2 a3 k2 k3, LsS x a2 a3 k2 k3 W := by
  obtain ⟨a2, k2, ⟨h1, h2, h3⟩, h4⟩ := h.at_ 2 (by rw [termsL_len]; decide)
  obtain ⟨a3, k3, ⟨j1, j2, j3⟩, j4⟩ := h.at_ 3 (by rw [termsL_len]; decide)
  have e2 : (termsL chainM 4)[2]'(by rw [termsL_len]; decide) = (termM chainM 2).1 := by simp [termsL]
  have e3 : (termsL chainM 4)[3]'(by rw [termsL_len]; decide) = (termM chainM 3).1 := by simp [termsL]
  rw [e2, term2.2.1] at h1
  rw [e2, term2.2.2] at h2
  rw [e2, term2.1] at h3 h4
  rw [e3, term3.2.1] at j1
  rw [e3, term3.2.2] at j2
  rw [e3, term3.1] at j3 j4
  exact ⟨a2, a3, k2, k3, ⟨h1, h2, h3⟩, ⟨j1, j2, j3⟩, h4.mi, j4.mi⟩

/-- What stays: the eye, the half, the terms, the unit. -/
structure PkS (w0 : World) (b eb hb : Nat) (ae ah : Option Addr) (ke kh : Nat) (x : Addr) (a2 a3 : Option Addr) (k2 k3 : Nat) (c : Bool) (W : World) : Prop where
  ge : Blk W eb #[.int .i64 2, .int .i64 2, .slice ae 4 ke] 26
  me : MI 0 W ae ke (eyeM 2).v
  gh : Blk W hb #[.int .i64 3, .int .i64 3, .slice ah 9 kh] 26
  mh : MI 0 W ah kh halfM.v
  ls : LsS x a2 a3 k2 k3 W
  up : UP W b c
  bel : Below w0.heap.size w0 W
theorem PkS.keep {w0 : World} {b eb hb : Nat} {ae ah : Option Addr} {ke kh : Nat} {x : Addr} {a2 a3 : Option Addr} {k2 k3 : Nat} {c : Bool} {W W' : World} (h : PkS w0 b eb hb ae ah ke kh x a2 a3 k2 k3 c W) (k : Below W.heap.size W W') : PkS w0 b eb hb ae ah ke kh x a2 a3 k2 k3 c W' :=
  ⟨h.ge.keep k, h.me.keep k, h.gh.keep k, h.mh.keep k, h.ls.keep k, h.up.keep k, more h.bel k⟩
theorem eye2_lit : (eyeM 2).r = 2 ∧ (eyeM 2).c = 2 ∧ (eyeM 2).v.length = 4 := ⟨by kernel_rfl, by kernel_rfl, by kernel_rfl⟩

set_option maxHeartbeats 8000000 in
set_option maxRecDepth 100000 in
theorem known09_is (w0 : World) : Calls Try.prog 3 #[] w0 fun e w' => e = .returned (.bool true) ∧ Below w0.heap.size w0 w' := by
  go_enter Try.func3, Try.ntmps3
  go_wp2_with fail
  refine (uNew_is w0).mono ?_
  rintro e w1 ⟨rfl, hU1, hB⟩
  go_wp2_with fail
  refine (eye_is 2 (by decide) (by decide) _).mono ?_
  rintro e w2 ⟨v, rfl, hmo, hK⟩
  have hU2 := hU1.keep hK
  replace hB := more hB hK
  obtain ⟨ae, ke, rfl, hLE⟩ := hmo.ex
  have hme := hLE.mi.mono (Nat.zero_le _)
  have hneE : ∀ y, ae = some y → y.block ≠ w0.heap.size := fun y hy => by
    have := hLE.mi.lo y hy (by decide)
    have := hU1.lt
    omega
  have hE : (eyeM 2).r = 2 ∧ (eyeM 2).c = 2 ∧ (eyeM 2).v.length = 4 := ⟨by kernel_rfl, by kernel_rfl, by kernel_rfl⟩
  rw [hE.1, hE.2.1, hE.2.2]
  clear hK hmo hLE hU1 hE
  go_wp2_with fail
  have hBA := upA (upR w2) (Obj.cells #[Value.int .i64 2, .int .i64 2, .slice ae 4 ke] 26)
  have ge := (Blk.new w2 #[Value.int .i64 2, .int .i64 2, .slice ae 4 ke] 26)
  obtain ⟨eb, heb⟩ : ∃ eb, w2.heap.size = eb := ⟨_, rfl⟩
  have heb1 : w0.heap.size < eb := by have := hU2.lt; omega
  rw [heb] at ge ⊢
  replace hU2 := hU2.keep hBA
  replace hB := more hB hBA
  replace hme := hme.keep hBA
  generalize w2.alloc (Obj.cells #[Value.int .i64 2, .int .i64 2, .slice ae 4 ke] 26) = w3 at *
  clear hBA heb
  refine (chain_is w3).mono ?_
  rintro e w4 ⟨v, rfl, hmo, hK⟩
  replace hU2 := hU2.keep hK
  replace hB := more hB hK
  replace hme := hme.keep hK
  replace ge := ge.keep hK
  obtain ⟨ac, kc, rfl, hLI⟩ := hmo.ex
  have hT := Terms_is hU2 (m := chainM) (hLI.ml hU2) chain_upper.1.1 chain_upper.1.2 3 (by decide)
  clear hK hmo hLI
  go_wp2_with fail
  refine hT.mono ?_
  rintro e w5 ⟨v, rfl, hO, hU3, hB5⟩
  obtain ⟨x, kl, rfl, hck, hMLs⟩ := hO.mls hU3 (by rw [termsL_len]; decide)
  obtain ⟨a2, a3, k2, k3, hLs⟩ := ls_of hMLs
  rw [termsL_len]
  have hne : eb ≠ w0.heap.size := by omega
  replace ge := hB5.blk ge hne
  replace hB := hB.trans (hB5.below (Nat.le_refl _) hB.size)
  have hme5 : MI 0 w5 ae ke (eyeM 2).v := by
    refine ⟨fun j hj => ?_, hme.rng, hme.len, fun _ _ _ => Nat.zero_le _, hme.nn, hme.cap⟩
    obtain ⟨y, hy, hc⟩ := hme.cell j hj
    exact ⟨y, hy, cell_but0 hc (by rw [add_block]; exact hneE y hy) hB5⟩
  clear hT hO hck hMLs hB5 hU2 hme hne hneE
  go_wp2_with fail
  have hBA := upA (upR w5) (Obj.cells #[Value.int .i64 0, .int .i64 0, .int .i64 0, .int .i64 0, .int .i64 0, .int .i64 0, .int .i64 0, .int .i64 0, .int .i64 0] 3)
  have gz := (Blk.new w5 #[Value.int .i64 0, .int .i64 0, .int .i64 0, .int .i64 0, .int .i64 0, .int .i64 0, .int .i64 0, .int .i64 0, .int .i64 0] 3)
  have hmz := MI.of_blk (B := 0) (zs := [0, 0, 0, 0, 0, 0, 0, 0, 0]) gz (Nat.zero_le _) (all_i64 (by decide)) (by decide)
  replace ge := ge.keep hBA
  have hme6 := hme5.keep hBA
  replace hLs := hLs.keep hBA
  replace hU3 := hU3.keep hBA
  replace hB := more hB hBA
  have hof := of_is2 hmz 3 (i64_lit (by decide)) (by decide) (by decide) (by decide)
  generalize w5.alloc (Obj.cells #[Value.int .i64 0, .int .i64 0, .int .i64 0, .int .i64 0, .int .i64 0, .int .i64 0, .int .i64 0, .int .i64 0, .int .i64 0] 3) = w6 at *
  clear hBA gz hmz hme5
  refine hof.mono ?_
  rintro e w7 ⟨v, rfl, hmo, hK, hg, kg, hvg⟩
  obtain ⟨ah, kh, hvv, hLH⟩ := (show ∃ a k, v = .agg #[.int .i64 3, .int .i64 3, .slice a 9 k] ∧ LI w6.heap.size w7 a k (ofM 3 [0, 0, 0, 0, 0, 0, 0, 0, 0]).v from hmo.ex)
  have hvg' : v = .agg #[.int .i64 3, .int .i64 3, .slice (some ⟨hg, 0, none⟩) 9 kg] := hvg
  have hxx : ah = some ⟨hg, 0, none⟩ ∧ kh = kg := by rw [hvv] at hvg'; simp at hvg'; exact hvg'
  obtain ⟨rfl, rfl⟩ := hxx
  clear hvg hvg'
  subst hvv
  obtain ⟨xh, hxh⟩ : ∃ xh : Addr, (⟨hg, 0, none⟩ : Addr) = xh := ⟨_, rfl⟩
  rw [hxh] at hLH ⊢
  have hlo := hLH.mi.lo xh rfl (by decide)
  have hge6 := ge.lt
  have ce := (ge.keep hK).cell
  have lte : eb < w7.heap.size := (ge.keep hK).lt
  have hnx : ∀ o, ¬ (xh.add 2 = (⟨eb, o, none⟩ : Addr)) := fun o e => by have h9 := congrArg Addr.block e; rw [add_block] at h9; have h10 : xh.block = eb := h9; omega
  have hxe : ¬ (xh.block = eb) := by omega
  have hex : ¬ (eb = xh.block) := by omega
  have hBA := upA (upR w7) (Obj.cells #[Value.int .i64 3, .int .i64 3, .slice (some xh) 9 kh] 26)
  have gh := (Blk.new w7 #[Value.int .i64 3, .int .i64 3, .slice (some xh) 9 kh] 26)
  have hL8 := hLH.keep hBA
  obtain ⟨y8, hy8, hc8⟩ := hL8.mi.cell 2 (by decide)
  cases hy8
  obtain ⟨y9, hy9, _, hf8, _⟩ := hL8.wj.wi.at_ 2 (by decide)
  cases hy9
  have hL9 := LI.put hL8 2 (by decide) 2147483648 (i64_lit (by decide))
  have hE9 : Eff (fun k => k = xh.block) (w7.alloc (Obj.cells #[Value.int .i64 3, .int .i64 3, .slice (some xh) 9 kh] 26)) ((w7.alloc (Obj.cells #[Value.int .i64 3, .int .i64 3, .slice (some xh) 9 kh] 26)).setCell (xh.add 2) (.int .i64 2147483648)) := Eff.set _ _ (by rw [add_block])
  have gh9 := hE9.blk gh (blk_int gh (hL8.wj.ty xh rfl (by decide)) (by decide))
  have hB9 : Below w6.heap.size w6 ((w7.alloc (Obj.cells #[Value.int .i64 3, .int .i64 3, .slice (some xh) 9 kh] 26)).setCell (xh.add 2) (.int .i64 2147483648)) := (more hK hBA).setCell (by rw [add_block]; exact hlo) _
  replace ge := ge.keep hB9
  have hme9 := hme6.keep hB9
  replace hLs := hLs.keep hB9
  replace hU3 := hU3.keep hB9
  replace hB := more hB hB9
  have hmh : MI 0 ((w7.alloc (Obj.cells #[Value.int .i64 3, .int .i64 3, .slice (some xh) 9 kh] 26)).setCell (xh.add 2) (.int .i64 2147483648)) (some xh) kh halfM.v := hL9.mi.mono (Nat.zero_le _)
  have ge0 := hK
  subst hxh
  simp only [show (⟨hg, 0, none⟩ : Addr).add 2 = ⟨hg, 2, none⟩ from rfl] at hc8 hf8 ge hme9 hLs hU3 hB hmh gh9
  have hxe' : ¬ (hg = eb) := hxe
  have hex' : ¬ (eb = hg) := hex
  clear hxe hex hnx hof hmo hLH hL8 hL9 hE9 gh hB9 hme6 ge0 hBA
  go_wp2_with fail
  have hS : PkS w0 w0.heap.size eb w7.heap.size ae (some ⟨hg, 0, none⟩) ke kh x a2 a3 k2 k3 _ _ := ⟨ge, hme9, gh9, hmh, hLs, hU3, hB⟩
  clear ge hme9 gh9 hmh hLs hU3 hB hc8 hf8 ce lte hxe' hex' hlo hge6
  obtain ⟨hb, hhb⟩ : ∃ hb, w7.heap.size = hb := ⟨_, rfl⟩
  rw [hhb] at hS ⊢
  generalize (w7.alloc (Obj.cells #[Value.int .i64 3, .int .i64 3, .slice (some ⟨hg, 0, none⟩) 9 kh] 26)).setCell ⟨hg, 2, none⟩ (.int .i64 2147483648) = w9 at *
  clear hhb
  have hFA := Flow_arg (m := eyeM 2) hS.up hS.me eye2_sq eye2_not 1
  rw [eye2_lit.1, eye2_lit.2.1, eye2_lit.2.2] at hFA
  refine hFA.mono ?_
  rintro e wA ⟨rfl, hK⟩
  replace hS := hS.keep hK
  clear hK hFA
  unfold noMat
  go_wp2_with fail
  replace hS := hS.keep (upA (upR wA) (Obj.cells #[Value.int .i64 0, .int .i64 0, .slice none 0 0] 26))
  generalize wA.alloc (Obj.cells #[Value.int .i64 0, .int .i64 0, .slice none 0 0] 26) = wB at *
  refine (chain_is wB).mono ?_
  rintro e wC ⟨v, rfl, hmo, hK⟩
  replace hS := hS.keep hK
  obtain ⟨ac2, kc2, rfl, hLI⟩ := hmo.ex
  have hTH := Terms_high (m := chainM) (a := ac2) (k := kc2) hS.up chain_upper.1 25 (by decide) (by decide)
  clear hK hmo hLI
  go_wp2_with fail
  refine hTH.mono ?_
  rintro e wD ⟨rfl, hK⟩
  replace hS := hS.keep hK
  clear hK hTH
  have hAS := At_size (a := none) (k := 0) (ms := []) hS.up (fun h => absurd h (by decide)) (by decide) 1
  go_wp2_with fail
  refine hAS.mono ?_
  rintro e wE ⟨rfl, hK⟩
  replace hS := hS.keep hK
  clear hK hAS
  unfold noMat
  go_wp2_with fail
  replace hS := hS.keep (upA (upR wE) (Obj.cells #[Value.int .i64 0, .int .i64 0, .slice none 0 0] 26))
  generalize wE.alloc (Obj.cells #[Value.int .i64 0, .int .i64 0, .slice none 0 0] 26) = wF at *
  refine (chain_is wF).mono ?_
  rintro e wG ⟨v, rfl, hmo, hK⟩
  replace hS := hS.keep hK
  obtain ⟨ac3, kc3, rfl, hLI⟩ := hmo.ex
  have hFN := Flow_none (m := chainM) (a := ac3) (k := kc3) (p := .pointer none) (w0 := wG) (fun W' _ => none_nil W') 1
  clear hK hmo hLI
  go_wp2_with fail
  refine hFN.mono ?_
  rintro e wH ⟨rfl, hK⟩
  replace hS := hS.keep hK
  clear hK hFN
  unfold noMat
  go_wp2_with fail
  replace hS := hS.keep (upA (upR wH) (Obj.cells #[Value.int .i64 0, .int .i64 0, .slice none 0 0] 26)).drew
  have HS0 := (show Blk _ eb _ _ ∧ _ ∧ _ ∧ _ ∧ _ ∧ _ from ⟨hS.ge, hS.me, hS.gh, hS.mh, hS.ls, hS.bel⟩)
  obtain ⟨ah, hah⟩ : ∃ ah, (some (⟨hg, 0, none⟩ : Addr)) = ah := ⟨_, rfl⟩
  rw [hah] at HS0 ⊢
  clear hS hah
  refine region_fp [some 60, some 61, some 62, some 63, some 64, some 65, some 66, some 67, some 68, some 69, some 70, some 71, some 72, some 73, some 74, some 75, some 76, some 77, some 78, some 79, some 80, some 81, some 82, some 83, some 84, some 85, some 86, some 87, some 88, some 89, some 90, some 91, some 92, some 93, some 94, some 95, some 96, some 0] [] [some (Value.bool true), some (Value.bool true), some (Value.agg #[Value.int .i64 2, Value.int .i64 2, Value.slice ae 4 ke]), some (Value.bool false), some (Value.bool true), some (Value.bool true), some (Value.bool true), some (Value.slice (some x) 4 kl), some (Value.pointer (some (x.add 6))), some (Value.agg #[Value.int .i64 3, Value.int .i64 3, Value.slice a2 9 k2]), some (Value.agg #[Value.int .i64 3, Value.int .i64 3, Value.slice ah 9 kh]), some (Value.bool true), some (Value.bool true), some (Value.bool true), some (Value.slice (some x) 4 kl), some (Value.pointer (some (x.add 9))), some (Value.agg #[Value.int .i64 3, Value.int .i64 3, Value.slice a3 9 k3]), none, none, some (Value.bool true), some (Value.bool true), some (Value.bool true), some (Value.int .i64 2), some (Value.bool true), some (Value.bool true), some (Value.bool true), some (Value.int .i64 2), some (Value.bool true), some (Value.bool true), some (Value.bool true), some (Value.int .i64 3), some (Value.bool true), some (Value.bool true), some (Value.bool true), some (Value.int .i64 1), some (Value.bool true), some (Value.bool true), some (Value.bool true)]
    (fun i v W => match i with | 17 => ∃ e1, v = Value.slice (some ⟨e1, 0, none⟩) 9 9 ∧ Blk W e1 #[Value.int .i64 0, Value.int .i64 0, Value.int .i64 0, Value.int .i64 0, Value.int .i64 0, Value.int .i64 0, Value.int .i64 0, Value.int .i64 0, Value.int .i64 0] 3 | 18 => MO 0 W v zeroM | _ => True) (fun W W' => Below W.heap.size W W') (fun L f W => Blk W eb #[.int .i64 2, .int .i64 2, .slice ae 4 ke] 26 ∧ MI 0 W ae ke (eyeM 2).v ∧ Blk W hb #[.int .i64 3, .int .i64 3, .slice ah 9 kh] 26 ∧ MI 0 W ah kh halfM.v ∧ LsS x a2 a3 k2 k3 W ∧ Below w0.heap.size w0 W)
    (by kernel_rfl) (by kernel_rfl) (by kernel_rfl) (by kernel_rfl) (by kernel_rfl) (fun _ => Below.refl _ _) (fun i v W W' h hb => by
      match i, h with
      | 17, ⟨e1, h1, h2⟩ => exact ⟨e1, h1, h2.keep hb⟩
      | 18, h => exact h.keep hb
      | 0, _ | 1, _ | 2, _ | 3, _ | 4, _ | 5, _ | 6, _ | 7, _ | 8, _ | 9, _ | 10, _ | 11, _ | 12, _ | 13, _ | 14, _ | 15, _ | 16, _ | 19, _ | 20, _ | 21, _ | 22, _ | 23, _ | 24, _ | 25, _ | 26, _ | 27, _ | 28, _ | 29, _ | 30, _ | 31, _ | 32, _ | 33, _ | 34, _ | 35, _ | 36, _ | 37, _ => trivial
      | (n + 38), _ => trivial) (fun _ _ _ _ _ _ h => h) HS0 ?_ ?_
  · intro i hi b' L f W hSW hL hdep hsh he hsv hsl hFF K hK1 hK2
    replace hi : i < 38 := hi
    have hcs : i = 0 ∨ i = 1 ∨ i = 2 ∨ i = 3 ∨ i = 4 ∨ i = 5 ∨ i = 6 ∨ i = 7 ∨ i = 8 ∨ i = 9 ∨ i = 10 ∨ i = 11 ∨ i = 12 ∨ i = 13 ∨ i = 14 ∨ i = 15 ∨ i = 16 ∨ i = 17 ∨ i = 18 ∨ i = 19 ∨ i = 20 ∨ i = 21 ∨ i = 22 ∨ i = 23 ∨ i = 24 ∨ i = 25 ∨ i = 26 ∨ i = 27 ∨ i = 28 ∨ i = 29 ∨ i = 30 ∨ i = 31 ∨ i = 32 ∨ i = 33 ∨ i = 34 ∨ i = 35 ∨ i = 36 ∨ i = 37 := by omega
    clear hi
    rcases hcs with rfl | rfl | rfl | rfl | rfl | rfl | rfl | rfl | rfl | rfl | rfl | rfl | rfl | rfl | rfl | rfl | rfl | rfl | rfl | rfl | rfl | rfl | rfl | rfl | rfl | rfl | rfl | rfl | rfl | rfl | rfl | rfl | rfl | rfl | rfl | rfl | rfl | rfl
    · refine wpOpS_go rfl rfl ?_
      obtain ⟨s0, s1, s2, s3, s4, s5⟩ := hSW
      have HK := Lib.hid hK2
      clear hK1 hK2 hdep hsh he hsv hsl hFF hL
      go_simp
      refine (awake09_is _).mono ?_
      rintro e w6 ⟨rfl, hK⟩
      exact HK.out _ _ (fp_mk rfl rfl trivial) hK ⟨s0.keep hK, s1.keep hK, s2.keep hK, s3.keep hK, s4.keep hK, more s5 hK⟩
    · refine wpOpS_go rfl rfl ?_
      have t60 : b'.tmps[60]?.getD undef = Value.bool true := hsv 0 60 _ (by kernel_rfl) (by kernel_rfl) rfl
      have HK := Lib.hid hK1
      clear hK1 hK2 hdep hsh he hsv hsl hFF hL hSW
      go_simp
      exact HK.out rfl _ (fp_mk rfl rfl trivial)
    · refine wpOpS_guard (dg := 61) rfl rfl rfl rfl (hsv 1 61 _ (by kernel_rfl) (by kernel_rfl) rfl) ?_
      rw [if_pos rfl]
      have t2 : b'.tmps[2]?.getD undef = Value.pointer (some ⟨eb, 0, none⟩) := he 2 (by kernel_rfl)
      obtain ⟨s0, s1, s2, s3, s4, s5⟩ := hSW
      have c0 := s0.cell
      have HK := Lib.hid hK1
      clear hK1 hK2 hdep hsh he hsv hsl hFF hL
      clear s0 s1 s2 s3 s4 s5
      go_simp
      exact HK.out rfl _ (fp_mk rfl rfl trivial)
    · refine wpOpS_guard (dg := 61) rfl rfl rfl rfl (hsv 1 61 _ (by kernel_rfl) (by kernel_rfl) rfl) ?_
      rw [if_pos rfl]
      have t62 : b'.tmps[62]?.getD undef = Value.agg #[Value.int .i64 2, Value.int .i64 2, Value.slice ae 4 ke] := hsv 2 62 _ (by kernel_rfl) (by kernel_rfl) rfl
      obtain ⟨s0, s1, s2, s3, s4, s5⟩ := hSW
      have HK := Lib.hid hK2
      clear hK1 hK2 hdep hsh he hsv hsl hFF hL
      have hup := upper_is (m := eyeM 2) s1
      rw [decide_eq_false eye2_not] at hup
      go_simp
      refine hup.mono ?_
      rintro e w6 ⟨rfl, hK⟩
      exact HK.out _ _ (fp_mk rfl rfl trivial) hK ⟨s0.keep hK, s1.keep hK, s2.keep hK, s3.keep hK, s4.keep hK, more s5 hK⟩
    · refine wpOpS_guard (dg := 61) rfl rfl rfl rfl (hsv 1 61 _ (by kernel_rfl) (by kernel_rfl) rfl) ?_
      rw [if_pos rfl]
      have t63 : b'.tmps[63]?.getD undef = Value.bool false := hsv 3 63 _ (by kernel_rfl) (by kernel_rfl) rfl
      have HK := Lib.hid hK1
      clear hK1 hK2 hdep hsh he hsv hsl hFF hL hSW
      go_simp
      exact HK.out rfl _ (fp_mk rfl rfl trivial)
    · refine wpOpS_go rfl rfl ?_
      have t61 : b'.tmps[61]?.getD undef = Value.bool true := hsv 1 61 _ (by kernel_rfl) (by kernel_rfl) rfl
      have t64 : b'.tmps[64]?.getD undef = Value.bool true := hsv 4 64 _ (by kernel_rfl) (by kernel_rfl) rfl
      have HK := Lib.hid hK1
      clear hK1 hK2 hdep hsh he hsv hsl hFF hL hSW
      go_simp
      exact HK.out rfl _ (fp_mk rfl rfl trivial)
    · refine wpOpS_go rfl rfl ?_
      have t65 : b'.tmps[65]?.getD undef = Value.bool true := hsv 5 65 _ (by kernel_rfl) (by kernel_rfl) rfl
      have HK := Lib.hid hK1
      clear hK1 hK2 hdep hsh he hsv hsl hFF hL hSW
      go_simp
      exact HK.out rfl _ (fp_mk rfl rfl trivial)
    · refine wpOpS_guard (dg := 66) rfl rfl rfl rfl (hsv 6 66 _ (by kernel_rfl) (by kernel_rfl) rfl) ?_
      rw [if_pos rfl]
      have t4 : b'.tmps[4]?.getD undef = Value.slice (some x) 4 kl := he 4 (by kernel_rfl)
      have HK := Lib.hid hK1
      clear hK1 hK2 hdep hsh he hsv hsl hFF hL hSW
      go_simp
      exact HK.out rfl _ (fp_mk rfl rfl trivial)
    · refine wpOpS_guard (dg := 66) rfl rfl rfl rfl (hsv 6 66 _ (by kernel_rfl) (by kernel_rfl) rfl) ?_
      rw [if_pos rfl]
      have t67 : b'.tmps[67]?.getD undef = Value.slice (some x) 4 kl := hsv 7 67 _ (by kernel_rfl) (by kernel_rfl) rfl
      have HK := Lib.hid hK1
      clear hK1 hK2 hdep hsh he hsv hsl hFF hL hSW
      go_simp
      exact HK.out rfl _ (fp_mk rfl rfl trivial)
    · refine wpOpS_guard (dg := 66) rfl rfl rfl rfl (hsv 6 66 _ (by kernel_rfl) (by kernel_rfl) rfl) ?_
      rw [if_pos rfl]
      have t68 : b'.tmps[68]?.getD undef = Value.pointer (some (x.add 6)) := hsv 8 68 _ (by kernel_rfl) (by kernel_rfl) rfl
      obtain ⟨s0, s1, s2, s3, s4, s5⟩ := hSW
      have c1 : W.cell? ⟨x.block, x.off + 6, none⟩ = some (.int .i64 3) := s4.c2.1
      have c2 : W.cell? ⟨x.block, x.off + 6 + 1, none⟩ = some (.int .i64 3) := s4.c2.2.1
      have c3 : W.cell? ⟨x.block, x.off + 6 + 2, none⟩ = some (.slice a2 9 k2) := s4.c2.2.2
      have d2 : W.cell? ⟨x.block, x.off + 7, none⟩ = some (.int .i64 3) := s4.c2.2.1
      have d3 : W.cell? ⟨x.block, x.off + 8, none⟩ = some (.slice a2 9 k2) := s4.c2.2.2
      have HK := Lib.hid hK1
      clear hK1 hK2 hdep hsh he hsv hsl hFF hL
      clear s0 s1 s2 s3 s4 s5
      go_simp
      exact HK.out rfl _ (fp_mk rfl rfl trivial)
    · refine wpOpS_guard (dg := 66) rfl rfl rfl rfl (hsv 6 66 _ (by kernel_rfl) (by kernel_rfl) rfl) ?_
      rw [if_pos rfl]
      have t6 : b'.tmps[6]?.getD undef = Value.pointer (some ⟨hb, 0, none⟩) := he 6 (by kernel_rfl)
      obtain ⟨s0, s1, s2, s3, s4, s5⟩ := hSW
      have c0 := s2.cell
      have HK := Lib.hid hK1
      clear hK1 hK2 hdep hsh he hsv hsl hFF hL
      clear s0 s1 s2 s3 s4 s5
      go_simp
      exact HK.out rfl _ (fp_mk rfl rfl trivial)
    · refine wpOpS_guard (dg := 66) rfl rfl rfl rfl (hsv 6 66 _ (by kernel_rfl) (by kernel_rfl) rfl) ?_
      rw [if_pos rfl]
      have t69 : b'.tmps[69]?.getD undef = Value.agg #[Value.int .i64 3, Value.int .i64 3, Value.slice a2 9 k2] := hsv 9 69 _ (by kernel_rfl) (by kernel_rfl) rfl
      have t70 : b'.tmps[70]?.getD undef = Value.agg #[Value.int .i64 3, Value.int .i64 3, Value.slice ah 9 kh] := hsv 10 70 _ (by kernel_rfl) (by kernel_rfl) rfl
      obtain ⟨s0, s1, s2, s3, s4, s5⟩ := hSW
      have HK := Lib.hid hK2
      clear hK1 hK2 hdep hsh he hsv hsl hFF hL
      have hsm := sameMat_is (m1 := halfM) (m2 := halfM) s4.l2 s3
      rw [decide_eq_true (show halfM.r = halfM.r ∧ halfM.c = halfM.c ∧ halfM.v = halfM.v from ⟨rfl, rfl, rfl⟩)] at hsm
      go_simp
      refine hsm.mono ?_
      rintro e w6 ⟨rfl, hK⟩
      exact HK.out _ _ (fp_mk rfl rfl trivial) hK ⟨s0.keep hK, s1.keep hK, s2.keep hK, s3.keep hK, s4.keep hK, more s5 hK⟩
    · refine wpOpS_go rfl rfl ?_
      have t66 : b'.tmps[66]?.getD undef = Value.bool true := hsv 6 66 _ (by kernel_rfl) (by kernel_rfl) rfl
      have t71 : b'.tmps[71]?.getD undef = Value.bool true := hsv 11 71 _ (by kernel_rfl) (by kernel_rfl) rfl
      have HK := Lib.hid hK1
      clear hK1 hK2 hdep hsh he hsv hsl hFF hL hSW
      go_simp
      exact HK.out rfl _ (fp_mk rfl rfl trivial)
    · refine wpOpS_go rfl rfl ?_
      have t72 : b'.tmps[72]?.getD undef = Value.bool true := hsv 12 72 _ (by kernel_rfl) (by kernel_rfl) rfl
      have HK := Lib.hid hK1
      clear hK1 hK2 hdep hsh he hsv hsl hFF hL hSW
      go_simp
      exact HK.out rfl _ (fp_mk rfl rfl trivial)
    · refine wpOpS_guard (dg := 73) rfl rfl rfl rfl (hsv 13 73 _ (by kernel_rfl) (by kernel_rfl) rfl) ?_
      rw [if_pos rfl]
      have t4 : b'.tmps[4]?.getD undef = Value.slice (some x) 4 kl := he 4 (by kernel_rfl)
      have HK := Lib.hid hK1
      clear hK1 hK2 hdep hsh he hsv hsl hFF hL hSW
      go_simp
      exact HK.out rfl _ (fp_mk rfl rfl trivial)
    · refine wpOpS_guard (dg := 73) rfl rfl rfl rfl (hsv 13 73 _ (by kernel_rfl) (by kernel_rfl) rfl) ?_
      rw [if_pos rfl]
      have t74 : b'.tmps[74]?.getD undef = Value.slice (some x) 4 kl := hsv 14 74 _ (by kernel_rfl) (by kernel_rfl) rfl
      have HK := Lib.hid hK1
      clear hK1 hK2 hdep hsh he hsv hsl hFF hL hSW
      go_simp
      exact HK.out rfl _ (fp_mk rfl rfl trivial)
    · refine wpOpS_guard (dg := 73) rfl rfl rfl rfl (hsv 13 73 _ (by kernel_rfl) (by kernel_rfl) rfl) ?_
      rw [if_pos rfl]
      have t75 : b'.tmps[75]?.getD undef = Value.pointer (some (x.add 9)) := hsv 15 75 _ (by kernel_rfl) (by kernel_rfl) rfl
      obtain ⟨s0, s1, s2, s3, s4, s5⟩ := hSW
      have c1 : W.cell? ⟨x.block, x.off + 9, none⟩ = some (.int .i64 3) := s4.c3.1
      have c2 : W.cell? ⟨x.block, x.off + 9 + 1, none⟩ = some (.int .i64 3) := s4.c3.2.1
      have c3 : W.cell? ⟨x.block, x.off + 9 + 2, none⟩ = some (.slice a3 9 k3) := s4.c3.2.2
      have d2 : W.cell? ⟨x.block, x.off + 10, none⟩ = some (.int .i64 3) := s4.c3.2.1
      have d3 : W.cell? ⟨x.block, x.off + 11, none⟩ = some (.slice a3 9 k3) := s4.c3.2.2
      have HK := Lib.hid hK1
      clear hK1 hK2 hdep hsh he hsv hsl hFF hL
      clear s0 s1 s2 s3 s4 s5
      go_simp
      exact HK.out rfl _ (fp_mk rfl rfl trivial)
    · refine wpOpS_guard (dg := 73) rfl rfl rfl rfl (hsv 13 73 _ (by kernel_rfl) (by kernel_rfl) rfl) ?_
      rw [if_pos rfl]
      obtain ⟨s0, s1, s2, s3, s4, s5⟩ := hSW
      have HK := Lib.hid hK2
      clear hK1 hK2 hdep hsh he hsv hsl hFF hL
      go_simp
      have hb := upA (upR W) (Obj.cells #[Value.int .i64 0, Value.int .i64 0, Value.int .i64 0, Value.int .i64 0, Value.int .i64 0, Value.int .i64 0, Value.int .i64 0, Value.int .i64 0, Value.int .i64 0] 3)
      exact HK.out _ _ (fp_x rfl ⟨_, rfl, Blk.new _ _ _⟩) hb ⟨s0.keep hb, s1.keep hb, s2.keep hb, s3.keep hb, s4.keep hb, more s5 hb⟩
    · refine wpOpS_guard (dg := 73) rfl rfl rfl rfl (hsv 13 73 _ (by kernel_rfl) (by kernel_rfl) rfl) ?_
      rw [if_pos rfl]
      obtain ⟨t77, hx⟩ := hsl 17 77 (by kernel_rfl) (by kernel_rfl)
      obtain ⟨e1, e4, b4⟩ := hx
      rw [e4] at t77
      obtain ⟨s0, s1, s2, s3, s4, s5⟩ := hSW
      have HK := Lib.hid hK2
      clear hK1 hK2 hdep hsh he hsv hsl hFF hL e4
      have hmi := MI.of_blk (B := 0) (zs := [0, 0, 0, 0, 0, 0, 0, 0, 0]) b4 (Nat.zero_le _) (all_i64 (by decide)) (by decide)
      have hof := of_is hmi 3 (i64_lit (by decide)) (by decide) (by decide) (by decide)
      go_simp
      refine hof.mono ?_
      rintro e w6 ⟨v, rfl, hmo, hK⟩
      exact HK.out _ _ (fp_x rfl (show MO 0 w6 v zeroM from hmo.mono (Nat.zero_le _))) hK ⟨s0.keep hK, s1.keep hK, s2.keep hK, s3.keep hK, s4.keep hK, more s5 hK⟩
    · refine wpOpS_guard (dg := 73) rfl rfl rfl rfl (hsv 13 73 _ (by kernel_rfl) (by kernel_rfl) rfl) ?_
      rw [if_pos rfl]
      have t76 : b'.tmps[76]?.getD undef = Value.agg #[Value.int .i64 3, Value.int .i64 3, Value.slice a3 9 k3] := hsv 16 76 _ (by kernel_rfl) (by kernel_rfl) rfl
      obtain ⟨t78, hx⟩ := hsl 18 78 (by kernel_rfl) (by kernel_rfl)
      have hx5 : MO 0 W (f 18) zeroM := hx
      obtain ⟨a5, k5, e5, l5⟩ := hx5.ex
      rw [e5] at t78
      obtain ⟨s0, s1, s2, s3, s4, s5⟩ := hSW
      have HK := Lib.hid hK2
      clear hK1 hK2 hdep hsh he hsv hsl hFF hL hx hx5 e5
      have hsm := sameMat_is (m1 := zeroM) (m2 := zeroM) s4.l3 (l5.mi.mono (Nat.zero_le _))
      rw [decide_eq_true (show zeroM.r = zeroM.r ∧ zeroM.c = zeroM.c ∧ zeroM.v = zeroM.v from ⟨rfl, rfl, rfl⟩)] at hsm
      go_simp
      refine hsm.mono ?_
      rintro e w6 ⟨rfl, hK⟩
      exact HK.out _ _ (fp_mk rfl rfl trivial) hK ⟨s0.keep hK, s1.keep hK, s2.keep hK, s3.keep hK, s4.keep hK, more s5 hK⟩
    · refine wpOpS_go rfl rfl ?_
      have t73 : b'.tmps[73]?.getD undef = Value.bool true := hsv 13 73 _ (by kernel_rfl) (by kernel_rfl) rfl
      have t79 : b'.tmps[79]?.getD undef = Value.bool true := hsv 19 79 _ (by kernel_rfl) (by kernel_rfl) rfl
      have HK := Lib.hid hK1
      clear hK1 hK2 hdep hsh he hsv hsl hFF hL hSW
      go_simp
      exact HK.out rfl _ (fp_mk rfl rfl trivial)
    · refine wpOpS_go rfl rfl ?_
      have t80 : b'.tmps[80]?.getD undef = Value.bool true := hsv 20 80 _ (by kernel_rfl) (by kernel_rfl) rfl
      have HK := Lib.hid hK1
      clear hK1 hK2 hdep hsh he hsv hsl hFF hL hSW
      go_simp
      exact HK.out rfl _ (fp_mk rfl rfl trivial)
    · refine wpOpS_guard (dg := 81) rfl rfl rfl rfl (hsv 21 81 _ (by kernel_rfl) (by kernel_rfl) rfl) ?_
      rw [if_pos rfl]
      have t8 : b'.tmps[8]?.getD undef = Value.int .i64 2 := he 8 (by kernel_rfl)
      have HK := Lib.hid hK1
      clear hK1 hK2 hdep hsh he hsv hsl hFF hL hSW
      go_simp
      exact HK.out rfl _ (fp_mk rfl rfl trivial)
    · refine wpOpS_guard (dg := 81) rfl rfl rfl rfl (hsv 21 81 _ (by kernel_rfl) (by kernel_rfl) rfl) ?_
      rw [if_pos rfl]
      have t82 : b'.tmps[82]?.getD undef = Value.int .i64 2 := hsv 22 82 _ (by kernel_rfl) (by kernel_rfl) rfl
      have HK := Lib.hid hK1
      clear hK1 hK2 hdep hsh he hsv hsl hFF hL hSW
      go_simp
      exact HK.out rfl _ (fp_mk rfl rfl trivial)
    · refine wpOpS_go rfl rfl ?_
      have t81 : b'.tmps[81]?.getD undef = Value.bool true := hsv 21 81 _ (by kernel_rfl) (by kernel_rfl) rfl
      have t83 : b'.tmps[83]?.getD undef = Value.bool true := hsv 23 83 _ (by kernel_rfl) (by kernel_rfl) rfl
      have HK := Lib.hid hK1
      clear hK1 hK2 hdep hsh he hsv hsl hFF hL hSW
      go_simp
      exact HK.out rfl _ (fp_mk rfl rfl trivial)
    · refine wpOpS_go rfl rfl ?_
      have t84 : b'.tmps[84]?.getD undef = Value.bool true := hsv 24 84 _ (by kernel_rfl) (by kernel_rfl) rfl
      have HK := Lib.hid hK1
      clear hK1 hK2 hdep hsh he hsv hsl hFF hL hSW
      go_simp
      exact HK.out rfl _ (fp_mk rfl rfl trivial)
    · refine wpOpS_guard (dg := 85) rfl rfl rfl rfl (hsv 25 85 _ (by kernel_rfl) (by kernel_rfl) rfl) ?_
      rw [if_pos rfl]
      have t10 : b'.tmps[10]?.getD undef = Value.int .i64 2 := he 10 (by kernel_rfl)
      have HK := Lib.hid hK1
      clear hK1 hK2 hdep hsh he hsv hsl hFF hL hSW
      go_simp
      exact HK.out rfl _ (fp_mk rfl rfl trivial)
    · refine wpOpS_guard (dg := 85) rfl rfl rfl rfl (hsv 25 85 _ (by kernel_rfl) (by kernel_rfl) rfl) ?_
      rw [if_pos rfl]
      have t86 : b'.tmps[86]?.getD undef = Value.int .i64 2 := hsv 26 86 _ (by kernel_rfl) (by kernel_rfl) rfl
      have HK := Lib.hid hK1
      clear hK1 hK2 hdep hsh he hsv hsl hFF hL hSW
      go_simp
      exact HK.out rfl _ (fp_mk rfl rfl trivial)
    · refine wpOpS_go rfl rfl ?_
      have t85 : b'.tmps[85]?.getD undef = Value.bool true := hsv 25 85 _ (by kernel_rfl) (by kernel_rfl) rfl
      have t87 : b'.tmps[87]?.getD undef = Value.bool true := hsv 27 87 _ (by kernel_rfl) (by kernel_rfl) rfl
      have HK := Lib.hid hK1
      clear hK1 hK2 hdep hsh he hsv hsl hFF hL hSW
      go_simp
      exact HK.out rfl _ (fp_mk rfl rfl trivial)
    · refine wpOpS_go rfl rfl ?_
      have t88 : b'.tmps[88]?.getD undef = Value.bool true := hsv 28 88 _ (by kernel_rfl) (by kernel_rfl) rfl
      have HK := Lib.hid hK1
      clear hK1 hK2 hdep hsh he hsv hsl hFF hL hSW
      go_simp
      exact HK.out rfl _ (fp_mk rfl rfl trivial)
    · refine wpOpS_guard (dg := 89) rfl rfl rfl rfl (hsv 29 89 _ (by kernel_rfl) (by kernel_rfl) rfl) ?_
      rw [if_pos rfl]
      have t12 : b'.tmps[12]?.getD undef = Value.int .i64 3 := he 12 (by kernel_rfl)
      have HK := Lib.hid hK1
      clear hK1 hK2 hdep hsh he hsv hsl hFF hL hSW
      go_simp
      exact HK.out rfl _ (fp_mk rfl rfl trivial)
    · refine wpOpS_guard (dg := 89) rfl rfl rfl rfl (hsv 29 89 _ (by kernel_rfl) (by kernel_rfl) rfl) ?_
      rw [if_pos rfl]
      have t90 : b'.tmps[90]?.getD undef = Value.int .i64 3 := hsv 30 90 _ (by kernel_rfl) (by kernel_rfl) rfl
      have HK := Lib.hid hK1
      clear hK1 hK2 hdep hsh he hsv hsl hFF hL hSW
      go_simp
      exact HK.out rfl _ (fp_mk rfl rfl trivial)
    · refine wpOpS_go rfl rfl ?_
      have t89 : b'.tmps[89]?.getD undef = Value.bool true := hsv 29 89 _ (by kernel_rfl) (by kernel_rfl) rfl
      have t91 : b'.tmps[91]?.getD undef = Value.bool true := hsv 31 91 _ (by kernel_rfl) (by kernel_rfl) rfl
      have HK := Lib.hid hK1
      clear hK1 hK2 hdep hsh he hsv hsl hFF hL hSW
      go_simp
      exact HK.out rfl _ (fp_mk rfl rfl trivial)
    · refine wpOpS_go rfl rfl ?_
      have t92 : b'.tmps[92]?.getD undef = Value.bool true := hsv 32 92 _ (by kernel_rfl) (by kernel_rfl) rfl
      have HK := Lib.hid hK1
      clear hK1 hK2 hdep hsh he hsv hsl hFF hL hSW
      go_simp
      exact HK.out rfl _ (fp_mk rfl rfl trivial)
    · refine wpOpS_guard (dg := 93) rfl rfl rfl rfl (hsv 33 93 _ (by kernel_rfl) (by kernel_rfl) rfl) ?_
      rw [if_pos rfl]
      have t14 : b'.tmps[14]?.getD undef = Value.int .i64 1 := he 14 (by kernel_rfl)
      have HK := Lib.hid hK1
      clear hK1 hK2 hdep hsh he hsv hsl hFF hL hSW
      go_simp
      exact HK.out rfl _ (fp_mk rfl rfl trivial)
    · refine wpOpS_guard (dg := 93) rfl rfl rfl rfl (hsv 33 93 _ (by kernel_rfl) (by kernel_rfl) rfl) ?_
      rw [if_pos rfl]
      have t94 : b'.tmps[94]?.getD undef = Value.int .i64 1 := hsv 34 94 _ (by kernel_rfl) (by kernel_rfl) rfl
      have HK := Lib.hid hK1
      clear hK1 hK2 hdep hsh he hsv hsl hFF hL hSW
      go_simp
      exact HK.out rfl _ (fp_mk rfl rfl trivial)
    · refine wpOpS_go rfl rfl ?_
      have t93 : b'.tmps[93]?.getD undef = Value.bool true := hsv 33 93 _ (by kernel_rfl) (by kernel_rfl) rfl
      have t95 : b'.tmps[95]?.getD undef = Value.bool true := hsv 35 95 _ (by kernel_rfl) (by kernel_rfl) rfl
      have HK := Lib.hid hK1
      clear hK1 hK2 hdep hsh he hsv hsl hFF hL hSW
      go_simp
      exact HK.out rfl _ (fp_mk rfl rfl trivial)
    · refine wpOpS_go rfl rfl ?_
      have t96 : b'.tmps[96]?.getD undef = Value.bool true := hsv 36 96 _ (by kernel_rfl) (by kernel_rfl) rfl
      have HK := Lib.hid hK1
      clear hK1 hK2 hdep hsh he hsv hsl hFF hL hSW
      go_simp
      exact HK.out rfl _ (fp_mk rfl rfl trivial)
  · intro f W hf L hL hS
    obtain ⟨s0, s1, s2, s3, s4, s5⟩ := (hS : _ ∧ _ ∧ _ ∧ _ ∧ _ ∧ _)
    have e37 : f 37 = Value.bool true := (hf 37 (by decide)).1 _ rfl
    clear hf hL
    simp only [puts2, Act.put]
    generalize f 0 = y0, f 1 = y1, f 2 = y2, f 3 = y3, f 4 = y4, f 5 = y5, f 6 = y6, f 7 = y7, f 8 = y8, f 9 = y9, f 10 = y10, f 11 = y11, f 12 = y12, f 13 = y13, f 14 = y14, f 15 = y15, f 16 = y16, f 17 = y17, f 18 = y18, f 19 = y19, f 20 = y20, f 21 = y21, f 22 = y22, f 23 = y23, f 24 = y24, f 25 = y25, f 26 = y26, f 27 = y27, f 28 = y28, f 29 = y29, f 30 = y30, f 31 = y31, f 32 = y32, f 33 = y33, f 34 = y34, f 35 = y35, f 36 = y36
    rw [e37]
    try simp only [List.setIfInBounds_toArray, List.set_cons_zero, List.set_cons_succ]
    go_wp2_with fail
    go_ret
    exact ⟨rfl, s5⟩

end Go.Proofs.Ytkjbidpafnmogaa.Base
