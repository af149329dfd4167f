/- snap: marks in memory; what is cloned. No conditions. -/
import Derived.Test.YtagakcnhhhlolaaEv
import Derived.BigQuiet
namespace Go.Proofs.Ytagakcnhhhlolaa.Base
open Go.RowKit
set_option linter.unusedVariables false
set_option linter.unusedSimpArgs false

structure Trc where
  is : Bool
  H : List Int
  R : List Int
  s : Int
  nu : Int
structure Mrk where
  b : Blf
  t : Trc
def trc0 : Trc := ⟨false, [], [], 0, 0⟩
/-- A mark may be kept. -/
structure MkOk (m : Mrk) : Prop where
  t : I64 m.b.t
  pass : I64 m.b.pass
  fail : I64 m.b.fail
  s : I64 m.t.s
  nu : I64 m.t.nu
  x : m.b.X.length ≤ 1000
  p : m.b.P.length ≤ 1000
  h : m.t.H.length ≤ 1000
  r : m.t.R.length ≤ 1000
/-- The cells of a mark, its lists one's own. -/
def KV (B : Nat) (W : World) (cs : List Value) (m : Mrk) : Prop := ∃ aX cX aP cP aH cH aR cR, cs = [.int .i64 m.b.t, .slice aX m.b.X.length cX, .slice aP m.b.P.length cP, .bool m.b.flag, .int .i64 m.b.pass, .int .i64 m.b.fail, .bool m.t.is, .slice aH m.t.H.length cH, .slice aR m.t.R.length cR, .int .i64 m.t.s, .int .i64 m.t.nu] ∧ LI B W aX cX m.b.X ∧ LI B W aP cP m.b.P ∧ LI B W aH cH m.t.H ∧ LI B W aR cR m.t.R
/-- The same, its lists whoever's. -/
def KM (W : World) (cs : List Value) (m : Mrk) : Prop := ∃ aX cX aP cP aH cH aR cR, cs = [.int .i64 m.b.t, .slice aX m.b.X.length cX, .slice aP m.b.P.length cP, .bool m.b.flag, .int .i64 m.b.pass, .int .i64 m.b.fail, .bool m.t.is, .slice aH m.t.H.length cH, .slice aR m.t.R.length cR, .int .i64 m.t.s, .int .i64 m.t.nu] ∧ MI 0 W aX cX m.b.X ∧ MI 0 W aP cP m.b.P ∧ MI 0 W aH cH m.t.H ∧ MI 0 W aR cR m.t.R
theorem KV.km {B : Nat} {W : World} {cs : List Value} {m : Mrk} (h : KV B W cs m) : KM W cs m := by
  obtain ⟨aX, cX, aP, cP, aH, cH, aR, cR, h0, h1, h2, h3, h4⟩ := h
  exact ⟨aX, cX, aP, cP, aH, cH, aR, cR, h0, h1.mi.mono (Nat.zero_le _), h2.mi.mono (Nat.zero_le _), h3.mi.mono (Nat.zero_le _), h4.mi.mono (Nat.zero_le _)⟩
theorem KV.keep {B : Nat} {W W' : World} {cs : List Value} {m : Mrk} (h : KV B W cs m) (hb : Below W.heap.size W W') : KV B W' cs m := by
  obtain ⟨aX, cX, aP, cP, aH, cH, aR, cR, h0, h1, h2, h3, h4⟩ := h
  exact ⟨aX, cX, aP, cP, aH, cH, aR, cR, h0, h1.keep hb, h2.keep hb, h3.keep hb, h4.keep hb⟩
theorem KV.mono {B B' : Nat} {W : World} {cs : List Value} {m : Mrk} (h : KV B W cs m) (hB : B' ≤ B) : KV B' W cs m := by
  obtain ⟨aX, cX, aP, cP, aH, cH, aR, cR, h0, h1, h2, h3, h4⟩ := h
  exact ⟨aX, cX, aP, cP, aH, cH, aR, cR, h0, h1.mono hB, h2.mono hB, h3.mono hB, h4.mono hB⟩
theorem KV.eff {P : Nat → Prop} {B : Nat} {W W' : World} {cs : List Value} {m : Mrk} (h : KV B W cs m) (he : Eff P W W') (hp : ∀ k, P k → ¬ Ty W k 3) : KV B W' cs m := by
  obtain ⟨aX, cX, aP, cP, aH, cH, aR, cR, h0, h1, h2, h3, h4⟩ := h
  exact ⟨aX, cX, aP, cP, aH, cH, aR, cR, h0, h1.eff he hp, h2.eff he hp, h3.eff he hp, h4.eff he hp⟩
theorem KM.keep {W W' : World} {cs : List Value} {m : Mrk} (h : KM W cs m) (hb : Below W.heap.size W W') : KM W' cs m := by
  obtain ⟨aX, cX, aP, cP, aH, cH, aR, cR, h0, h1, h2, h3, h4⟩ := h
  exact ⟨aX, cX, aP, cP, aH, cH, aR, cR, h0, h1.keep hb, h2.keep hb, h3.keep hb, h4.keep hb⟩
theorem KV.len {B : Nat} {W : World} {cs : List Value} {m : Mrk} (h : KV B W cs m) : cs.length = 11 ∧ ∀ u ∈ cs, u.oneCell' = true := by
  obtain ⟨aX, cX, aP, cP, aH, cH, aR, cR, rfl, _⟩ := h
  refine ⟨rfl, fun u hu => ?_⟩
  simp at hu
  rcases hu with rfl | rfl | rfl | rfl | rfl | rfl | rfl | rfl | rfl | rfl | rfl <;> rfl
/-- What a pair of clones leaves. -/
def FO (n0 : Nat) (p0 p1 p2 u1 u2 : Value) (z1 z2 : List Int) (i : Nat) (v : Value) (W : World) : Prop :=
  ((i = 0 ∨ i = 4 ∨ i = 8) → v = p0) ∧ ((i = 1 ∨ i = 9) → v = p1) ∧ (i = 5 → v = p2) ∧ (i = 2 → v = u1) ∧ (i = 6 → v = u2) ∧
  (i = 3 → ∃ b k, v = .slice b z1.length k ∧ LI n0 W b k z1) ∧ (i = 7 → ∃ b k, v = .slice b z2.length k ∧ LI n0 W b k z2)
theorem FO.keep {n0 : Nat} {p0 p1 p2 u1 u2 : Value} {z1 z2 : List Int} {i : Nat} {v : Value} {W W' : World} (h : FO n0 p0 p1 p2 u1 u2 z1 z2 i v W) (hb : Below W.heap.size W W') : FO n0 p0 p1 p2 u1 u2 z1 z2 i v W' := by
  obtain ⟨h1, h2, h3, h4, h5, h6, h7⟩ := h
  exact ⟨h1, h2, h3, h4, h5, fun e => by obtain ⟨b, k, g1, g2⟩ := h6 e; exact ⟨b, k, g1, g2.keep hb⟩, fun e => by obtain ⟨b, k, g1, g2⟩ := h7 e; exact ⟨b, k, g1, g2.keep hb⟩⟩

set_option maxHeartbeats 40000000 in
set_option maxRecDepth 100000 in
theorem own_is {w0 : World} {cs : List Value} {m : Mrk} (hv : KM w0 cs m) (ok : MkOk m) :
    Calls Try.prog 69 #[.agg cs.toArray] w0 fun e w' => ∃ cs', e = .returned (.agg cs'.toArray) ∧ KV w0.heap.size w' cs' m ∧ Below w0.heap.size w0 w' := by
  obtain ⟨aX, cX, aP, cP, aH, cH, aR, cR, rfl, hX, hP, hH, hR⟩ := hv
  obtain ⟨l1, l2, l3, l4⟩ : m.b.X.length ≤ 1000 ∧ m.b.P.length ≤ 1000 ∧ m.t.H.length ≤ 1000 ∧ m.t.R.length ≤ 1000 := ⟨ok.x, ok.p, ok.h, ok.r⟩
  obtain ⟨⟨t, X, P, flag, pass, fail⟩, ⟨is_, H, R, s, nu⟩⟩ := m
  clear ok
  dsimp only at *
  go_enter Try.func69, Try.ntmps69
  go_wp2_with (first | ((with_reducible refine at_dst (N := 1) rfl ?_); refine ev_new rfl (cs := #[Value.int .i64 t, Value.slice aX X.length cX, Value.slice aP P.length cP, Value.bool flag, Value.int .i64 pass, Value.int .i64 fail, Value.bool is_, Value.slice aH H.length cH, Value.slice aR R.length cR, Value.int .i64 s, Value.int .i64 nu]) (t := 96) (by go_simp) ?_; intro w1 bx hB hz1) | ((with_reducible refine at_dst (N := 2) rfl ?_); refine ev_new rfl (cs := #[Value.int .i64 0, Value.slice none 0 0, Value.slice none 0 0, Value.bool false, Value.int .i64 0, Value.int .i64 0, Value.bool false, Value.slice none 0 0, Value.slice none 0 0, Value.int .i64 0, Value.int .i64 0]) (t := 96) (by go_simp) ?_; intro w2 by1 hB2 hz2))
  replace bx := bx.keep hB2
  rw [hz1] at by1
  replace hB := more hB hB2
  obtain ⟨x, hx⟩ : ∃ x, w0.heap.size = x := ⟨_, rfl⟩
  rw [hz1]
  rw [hx] at bx by1
  simp only [hx]
  have hxl : w0.heap.size ≤ x := by omega
  have hyl : w0.heap.size ≤ x + 1 := by omega
  have hxy : x ≠ x + 1 := by omega
  clear hx hz1 hz2 hB2
  refine region_grows 10 (fun i => [3, 4, 5, 6, 7, 8, 9, 10, 11, 12].getD i 0) (FO w0.heap.size (Value.pointer (some ⟨x, 0, none⟩)) (Value.pointer (some ⟨x, 1, none⟩)) (Value.pointer (some ⟨x, 2, none⟩)) (Value.slice aX X.length cX) (Value.slice aP P.length cP) X P) (fun W => Blk W x #[Value.int .i64 t, Value.slice aX X.length cX, Value.slice aP P.length cP, Value.bool flag, Value.int .i64 pass, Value.int .i64 fail, Value.bool is_, Value.slice aH H.length cH, Value.slice aR R.length cR, Value.int .i64 s, Value.int .i64 nu] 96 ∧ Below w0.heap.size w0 W ∧ Blk W (x + 1) #[Value.int .i64 0, Value.slice none 0 0, Value.slice none 0 0, Value.bool false, Value.int .i64 0, Value.int .i64 0, Value.bool false, Value.slice none 0 0, Value.slice none 0 0, Value.int .i64 0, Value.int .i64 0] 96)
    (by kernel_rfl) (by kernel_rfl) (by kernel_rfl) (by kernel_rfl) (by kernel_rfl) (by kernel_rfl) (fun i v W W' h hb => h.keep hb) (fun W W' h hb => ⟨h.1.keep hb, more h.2.1 hb, h.2.2.keep hb⟩) ⟨bx.drew, hB.drew, by1.drew⟩ ?_ ?_
  · intro i hi b' W hSW he hF K hK
    have hSW' := hSW
    clear hSW
    have hSW : Blk W x #[Value.int .i64 t, Value.slice aX X.length cX, Value.slice aP P.length cP, Value.bool flag, Value.int .i64 pass, Value.int .i64 fail, Value.bool is_, Value.slice aH H.length cH, Value.slice aR R.length cR, Value.int .i64 s, Value.int .i64 nu] 96 ∧ Below w0.heap.size w0 W := ⟨hSW'.1, hSW'.2.1⟩
    have : i = 0 ∨ i = 1 ∨ i = 2 ∨ i = 3 ∨ i = 4 ∨ i = 5 ∨ i = 6 ∨ i = 7 ∨ i = 8 ∨ i = 9 := by omega
    rcases this with rfl | rfl | rfl | rfl | rfl | rfl | rfl | rfl | rfl | rfl
    · refine wpOp_go rfl rfl ?_
      have t1 : b'.tmps[1]?.getD undef = .pointer (some ⟨x, 0, none⟩) := he 1 (by kernel_rfl)
      have HK := Lib.hid hK
      clear hK he hF
      go_simp
      exact HK.out _ _ (by refine ⟨?_, ?_, ?_, ?_, ?_, ?_, ?_⟩ <;> intro h <;> first | (exfalso; omega) | rfl) (Below.refl _ _)
    · refine wpOp_go rfl rfl ?_
      have t3 : b'.tmps[3]?.getD undef = (Value.pointer (some ⟨x, 0, none⟩)) := (hF 0 (by kernel_rfl)).1 (by omega)
      have HK := Lib.hid hK
      clear hK he hF
      go_simp
      exact HK.out _ _ (by refine ⟨?_, ?_, ?_, ?_, ?_, ?_, ?_⟩ <;> intro h <;> first | (exfalso; omega) | rfl) (Below.refl _ _)
    · refine wpOp_go rfl rfl ?_
      have t4 : b'.tmps[4]?.getD undef = (Value.pointer (some ⟨x, 1, none⟩)) := (hF 1 (by kernel_rfl)).2.1 (by omega)
      have c1 : W.cell? ⟨x, 1, none⟩ = some (Value.slice aX X.length cX) := (hSW.1.cell 1).trans rfl
      have HK := Lib.hid hK
      clear hK he hF
      go_simp
      exact HK.out _ _ (by refine ⟨?_, ?_, ?_, ?_, ?_, ?_, ?_⟩ <;> intro h <;> first | (exfalso; omega) | rfl) (Below.refl _ _)
    · refine wpOp_go rfl rfl ?_
      have t5 : b'.tmps[5]?.getD undef = (Value.slice aX X.length cX) := (hF 2 (by kernel_rfl)).2.2.2.1 (by omega)
      have HK := Lib.hid hK
      clear hK he hF
      go_simp
      refine (clone_is (hX.keep hSW.2) (by omega)).mono ?_
      rintro e w6 ⟨b, k, rfl, hL, hK6⟩
      exact HK.out _ _ (by refine ⟨?_, ?_, ?_, ?_, ?_, ?_, ?_⟩ <;> intro h <;> first | (exfalso; omega) | rfl | exact ⟨_, _, rfl, hL.mono hSW.2.size⟩) hK6
    · refine wpOp_go rfl rfl ?_
      have t1 : b'.tmps[1]?.getD undef = .pointer (some ⟨x, 0, none⟩) := he 1 (by kernel_rfl)
      have HK := Lib.hid hK
      clear hK he hF
      go_simp
      exact HK.out _ _ (by refine ⟨?_, ?_, ?_, ?_, ?_, ?_, ?_⟩ <;> intro h <;> first | (exfalso; omega) | rfl) (Below.refl _ _)
    · refine wpOp_go rfl rfl ?_
      have t7 : b'.tmps[7]?.getD undef = (Value.pointer (some ⟨x, 0, none⟩)) := (hF 4 (by kernel_rfl)).1 (by omega)
      have HK := Lib.hid hK
      clear hK he hF
      go_simp
      exact HK.out _ _ (by refine ⟨?_, ?_, ?_, ?_, ?_, ?_, ?_⟩ <;> intro h <;> first | (exfalso; omega) | rfl) (Below.refl _ _)
    · refine wpOp_go rfl rfl ?_
      have t8 : b'.tmps[8]?.getD undef = (Value.pointer (some ⟨x, 2, none⟩)) := (hF 5 (by kernel_rfl)).2.2.1 (by omega)
      have c2 : W.cell? ⟨x, 2, none⟩ = some (Value.slice aP P.length cP) := (hSW.1.cell 2).trans rfl
      have HK := Lib.hid hK
      clear hK he hF
      go_simp
      exact HK.out _ _ (by refine ⟨?_, ?_, ?_, ?_, ?_, ?_, ?_⟩ <;> intro h <;> first | (exfalso; omega) | rfl) (Below.refl _ _)
    · refine wpOp_go rfl rfl ?_
      have t9 : b'.tmps[9]?.getD undef = (Value.slice aP P.length cP) := (hF 6 (by kernel_rfl)).2.2.2.2.1 (by omega)
      have HK := Lib.hid hK
      clear hK he hF
      go_simp
      refine (clone_is (hP.keep hSW.2) (by omega)).mono ?_
      rintro e w6 ⟨b, k, rfl, hL, hK6⟩
      exact HK.out _ _ (by refine ⟨?_, ?_, ?_, ?_, ?_, ?_, ?_⟩ <;> intro h <;> first | (exfalso; omega) | rfl | exact ⟨_, _, rfl, hL.mono hSW.2.size⟩) hK6
    · refine wpOp_go rfl rfl ?_
      have t1 : b'.tmps[1]?.getD undef = .pointer (some ⟨x, 0, none⟩) := he 1 (by kernel_rfl)
      have HK := Lib.hid hK
      clear hK he hF
      go_simp
      exact HK.out _ _ (by refine ⟨?_, ?_, ?_, ?_, ?_, ?_, ?_⟩ <;> intro h <;> first | (exfalso; omega) | rfl) (Below.refl _ _)
    · refine wpOp_go rfl rfl ?_
      have t11 : b'.tmps[11]?.getD undef = (Value.pointer (some ⟨x, 0, none⟩)) := (hF 8 (by kernel_rfl)).1 (by omega)
      have HK := Lib.hid hK
      clear hK he hF
      go_simp
      exact HK.out _ _ (by refine ⟨?_, ?_, ?_, ?_, ?_, ?_, ?_⟩ <;> intro h <;> first | (exfalso; omega) | rfl) (Below.refl _ _)
  · intro v W hv hSW
    obtain ⟨b1, k1, e3, hL1⟩ := (hv 3 (by omega)).2.2.2.2.2.1 rfl
    obtain ⟨b2, k2, e7, hL2⟩ := (hv 7 (by omega)).2.2.2.2.2.2 rfl
    have e9 := (hv 9 (by omega)).2.1 (by omega)
    clear hv bx by1 hB
    obtain ⟨bx, hB, by1⟩ := hSW
    simp only [putsL, Act.put, e3, e7, e9]
    generalize v 0 = u0 at *
    generalize v 1 = u1 at *
    generalize v 2 = u2 at *
    generalize v 4 = u4 at *
    generalize v 5 = u5 at *
    generalize v 6 = u6 at *
    generalize v 8 = u8 at *
    clear e3 e7 e9
    simp [List.getD]
    refine wpAny_one (i := 10) (by kernel_rfl) rfl rfl ?_
    intro K hK
    refine op_store 22 _ _ rfl rfl bx 1 rfl rfl [Value.slice b1 X.length k1] rfl (by kernel_rfl) rfl rfl #[Value.int .i64 t, Value.slice b1 X.length k1, Value.slice aP P.length cP, Value.bool flag, Value.int .i64 pass, Value.int .i64 fail, Value.bool is_, Value.slice aH H.length cH, Value.slice aR R.length cR, Value.int .i64 s, Value.int .i64 nu] rfl ?_
    intro w1 bx1 ef hz
    refine hK _ _ ?_
    clear hK K
    replace hB := ef.below hB (by rintro _ rfl; exact hxl)
    replace by1 := ef.blk by1 (Ne.symm hxy)
    replace hL1 := hL1.eff ef (by rintro k rfl h; exact absurd (h.inj bx.ty) (by decide))
    replace hL2 := hL2.eff ef (by rintro k rfl h; exact absurd (h.inj bx.ty) (by decide))
    clear bx ef hz
    refine wpAny_one (i := 11) (by kernel_rfl) rfl rfl ?_
    intro K hK
    have HK := Lib.hid hK
    clear hK
    go_simp
    refine HK.out _ _ ?_
    clear HK K
    refine wpAny_one (i := 12) (by kernel_rfl) rfl rfl ?_
    intro K hK
    have HK := Lib.hid hK
    clear hK
    go_simp
    refine HK.out _ _ ?_
    clear HK K
    refine wpAny_one (i := 13) (by kernel_rfl) rfl rfl ?_
    intro K hK
    refine op_store 22 _ _ rfl rfl bx1 2 rfl rfl [Value.slice b2 P.length k2] rfl (by kernel_rfl) rfl rfl #[Value.int .i64 t, Value.slice b1 X.length k1, Value.slice b2 P.length k2, Value.bool flag, Value.int .i64 pass, Value.int .i64 fail, Value.bool is_, Value.slice aH H.length cH, Value.slice aR R.length cR, Value.int .i64 s, Value.int .i64 nu] rfl ?_
    intro w2 bx ef hz
    refine hK _ _ ?_
    clear hK K
    replace hB := ef.below hB (by rintro _ rfl; exact hxl)
    replace by1 := ef.blk by1 (Ne.symm hxy)
    replace hL1 := hL1.eff ef (by rintro k rfl h; exact absurd (h.inj bx1.ty) (by decide))
    replace hL2 := hL2.eff ef (by rintro k rfl h; exact absurd (h.inj bx1.ty) (by decide))
    clear bx1 ef hz
    refine wpAny_none (by kernel_rfl) ?_
    go_wp2_with fail
    refine region_grows 10 (fun i => [15, 16, 17, 18, 19, 20, 21, 22, 23, 24].getD i 0) (FO w0.heap.size (Value.pointer (some ⟨x, 6, none⟩)) (Value.pointer (some ⟨x, 7, none⟩)) (Value.pointer (some ⟨x, 8, none⟩)) (Value.slice aH H.length cH) (Value.slice aR R.length cR) H R) (fun W => Blk W x #[Value.int .i64 t, Value.slice b1 X.length k1, Value.slice b2 P.length k2, Value.bool flag, Value.int .i64 pass, Value.int .i64 fail, Value.bool is_, Value.slice aH H.length cH, Value.slice aR R.length cR, Value.int .i64 s, Value.int .i64 nu] 96 ∧ Below w0.heap.size w0 W ∧ Blk W (x + 1) #[Value.int .i64 0, Value.slice none 0 0, Value.slice none 0 0, Value.bool false, Value.int .i64 0, Value.int .i64 0, Value.bool false, Value.slice none 0 0, Value.slice none 0 0, Value.int .i64 0, Value.int .i64 0] 96 ∧ LI w0.heap.size W b1 k1 X ∧ LI w0.heap.size W b2 k2 P)
      (by kernel_rfl) (by kernel_rfl) (by kernel_rfl) (by kernel_rfl) (by kernel_rfl) (by kernel_rfl) (fun i v W W' h hb => h.keep hb) (fun W W' h hb => ⟨h.1.keep hb, more h.2.1 hb, h.2.2.1.keep hb, h.2.2.2.1.keep hb, h.2.2.2.2.keep hb⟩) ⟨bx.drew, hB.drew, by1.drew, hL1.keep (below_drewN _ 1), hL2.keep (below_drewN _ 1)⟩ ?_ ?_
    · intro i hi b' W hSW he hF K hK
      have hSW' := hSW
      clear hSW
      have hSW : Blk W x #[Value.int .i64 t, Value.slice b1 X.length k1, Value.slice b2 P.length k2, Value.bool flag, Value.int .i64 pass, Value.int .i64 fail, Value.bool is_, Value.slice aH H.length cH, Value.slice aR R.length cR, Value.int .i64 s, Value.int .i64 nu] 96 ∧ Below w0.heap.size w0 W := ⟨hSW'.1, hSW'.2.1⟩
      have : i = 0 ∨ i = 1 ∨ i = 2 ∨ i = 3 ∨ i = 4 ∨ i = 5 ∨ i = 6 ∨ i = 7 ∨ i = 8 ∨ i = 9 := by omega
      rcases this with rfl | rfl | rfl | rfl | rfl | rfl | rfl | rfl | rfl | rfl
      · refine wpOp_go rfl rfl ?_
        have t1 : b'.tmps[1]?.getD undef = .pointer (some ⟨x, 0, none⟩) := he 1 (by kernel_rfl)
        have HK := Lib.hid hK
        clear hK he hF
        go_simp
        exact HK.out _ _ (by refine ⟨?_, ?_, ?_, ?_, ?_, ?_, ?_⟩ <;> intro h <;> first | (exfalso; omega) | rfl) (Below.refl _ _)
      · refine wpOp_go rfl rfl ?_
        have t15 : b'.tmps[15]?.getD undef = (Value.pointer (some ⟨x, 6, none⟩)) := (hF 0 (by kernel_rfl)).1 (by omega)
        have HK := Lib.hid hK
        clear hK he hF
        go_simp
        exact HK.out _ _ (by refine ⟨?_, ?_, ?_, ?_, ?_, ?_, ?_⟩ <;> intro h <;> first | (exfalso; omega) | rfl) (Below.refl _ _)
      · refine wpOp_go rfl rfl ?_
        have t16 : b'.tmps[16]?.getD undef = (Value.pointer (some ⟨x, 7, none⟩)) := (hF 1 (by kernel_rfl)).2.1 (by omega)
        have c1 : W.cell? ⟨x, 7, none⟩ = some (Value.slice aH H.length cH) := (hSW.1.cell 7).trans rfl
        have HK := Lib.hid hK
        clear hK he hF
        go_simp
        exact HK.out _ _ (by refine ⟨?_, ?_, ?_, ?_, ?_, ?_, ?_⟩ <;> intro h <;> first | (exfalso; omega) | rfl) (Below.refl _ _)
      · refine wpOp_go rfl rfl ?_
        have t17 : b'.tmps[17]?.getD undef = (Value.slice aH H.length cH) := (hF 2 (by kernel_rfl)).2.2.2.1 (by omega)
        have HK := Lib.hid hK
        clear hK he hF
        go_simp
        refine (clone_is (hH.keep hSW.2) (by omega)).mono ?_
        rintro e w6 ⟨b, k, rfl, hL, hK6⟩
        exact HK.out _ _ (by refine ⟨?_, ?_, ?_, ?_, ?_, ?_, ?_⟩ <;> intro h <;> first | (exfalso; omega) | rfl | exact ⟨_, _, rfl, hL.mono hSW.2.size⟩) hK6
      · refine wpOp_go rfl rfl ?_
        have t1 : b'.tmps[1]?.getD undef = .pointer (some ⟨x, 0, none⟩) := he 1 (by kernel_rfl)
        have HK := Lib.hid hK
        clear hK he hF
        go_simp
        exact HK.out _ _ (by refine ⟨?_, ?_, ?_, ?_, ?_, ?_, ?_⟩ <;> intro h <;> first | (exfalso; omega) | rfl) (Below.refl _ _)
      · refine wpOp_go rfl rfl ?_
        have t19 : b'.tmps[19]?.getD undef = (Value.pointer (some ⟨x, 6, none⟩)) := (hF 4 (by kernel_rfl)).1 (by omega)
        have HK := Lib.hid hK
        clear hK he hF
        go_simp
        exact HK.out _ _ (by refine ⟨?_, ?_, ?_, ?_, ?_, ?_, ?_⟩ <;> intro h <;> first | (exfalso; omega) | rfl) (Below.refl _ _)
      · refine wpOp_go rfl rfl ?_
        have t20 : b'.tmps[20]?.getD undef = (Value.pointer (some ⟨x, 8, none⟩)) := (hF 5 (by kernel_rfl)).2.2.1 (by omega)
        have c2 : W.cell? ⟨x, 8, none⟩ = some (Value.slice aR R.length cR) := (hSW.1.cell 8).trans rfl
        have HK := Lib.hid hK
        clear hK he hF
        go_simp
        exact HK.out _ _ (by refine ⟨?_, ?_, ?_, ?_, ?_, ?_, ?_⟩ <;> intro h <;> first | (exfalso; omega) | rfl) (Below.refl _ _)
      · refine wpOp_go rfl rfl ?_
        have t21 : b'.tmps[21]?.getD undef = (Value.slice aR R.length cR) := (hF 6 (by kernel_rfl)).2.2.2.2.1 (by omega)
        have HK := Lib.hid hK
        clear hK he hF
        go_simp
        refine (clone_is (hR.keep hSW.2) (by omega)).mono ?_
        rintro e w6 ⟨b, k, rfl, hL, hK6⟩
        exact HK.out _ _ (by refine ⟨?_, ?_, ?_, ?_, ?_, ?_, ?_⟩ <;> intro h <;> first | (exfalso; omega) | rfl | exact ⟨_, _, rfl, hL.mono hSW.2.size⟩) hK6
      · refine wpOp_go rfl rfl ?_
        have t1 : b'.tmps[1]?.getD undef = .pointer (some ⟨x, 0, none⟩) := he 1 (by kernel_rfl)
        have HK := Lib.hid hK
        clear hK he hF
        go_simp
        exact HK.out _ _ (by refine ⟨?_, ?_, ?_, ?_, ?_, ?_, ?_⟩ <;> intro h <;> first | (exfalso; omega) | rfl) (Below.refl _ _)
      · refine wpOp_go rfl rfl ?_
        have t23 : b'.tmps[23]?.getD undef = (Value.pointer (some ⟨x, 6, none⟩)) := (hF 8 (by kernel_rfl)).1 (by omega)
        have HK := Lib.hid hK
        clear hK he hF
        go_simp
        exact HK.out _ _ (by refine ⟨?_, ?_, ?_, ?_, ?_, ?_, ?_⟩ <;> intro h <;> first | (exfalso; omega) | rfl) (Below.refl _ _)
    · intro v W hv hSW
      obtain ⟨b3, k3, e3, hL3⟩ := (hv 3 (by omega)).2.2.2.2.2.1 rfl
      obtain ⟨b4, k4, e7, hL4⟩ := (hv 7 (by omega)).2.2.2.2.2.2 rfl
      have e9 := (hv 9 (by omega)).2.1 (by omega)
      clear hv bx by1 hB hL1 hL2
      obtain ⟨bx, hB, by1, hL1, hL2⟩ := hSW
      simp only [putsL, Act.put, e3, e7, e9]
      generalize v 0 = u0 at *
      generalize v 1 = u1 at *
      generalize v 2 = u2 at *
      generalize v 4 = u4 at *
      generalize v 5 = u5 at *
      generalize v 6 = u6 at *
      generalize v 8 = u8 at *
      clear e3 e7 e9
      simp [List.getD]
      refine wpAny_one (i := 10) (by kernel_rfl) rfl rfl ?_
      intro K hK
      refine op_store 22 _ _ rfl rfl bx 7 rfl rfl [Value.slice b3 H.length k3] rfl (by kernel_rfl) rfl rfl #[Value.int .i64 t, Value.slice b1 X.length k1, Value.slice b2 P.length k2, Value.bool flag, Value.int .i64 pass, Value.int .i64 fail, Value.bool is_, Value.slice b3 H.length k3, Value.slice aR R.length cR, Value.int .i64 s, Value.int .i64 nu] rfl ?_
      intro w3 bx1 ef hz
      refine hK _ _ ?_
      clear hK K
      replace hB := ef.below hB (by rintro _ rfl; exact hxl)
      replace by1 := ef.blk by1 (Ne.symm hxy)
      replace hL3 := hL3.eff ef (by rintro k rfl h; exact absurd (h.inj bx.ty) (by decide))
      replace hL4 := hL4.eff ef (by rintro k rfl h; exact absurd (h.inj bx.ty) (by decide))
      replace hL1 := hL1.eff ef (by rintro k rfl h; exact absurd (h.inj bx.ty) (by decide))
      replace hL2 := hL2.eff ef (by rintro k rfl h; exact absurd (h.inj bx.ty) (by decide))
      clear bx ef hz
      refine wpAny_one (i := 11) (by kernel_rfl) rfl rfl ?_
      intro K hK
      have HK := Lib.hid hK
      clear hK
      go_simp
      refine HK.out _ _ ?_
      clear HK K
      refine wpAny_one (i := 12) (by kernel_rfl) rfl rfl ?_
      intro K hK
      have HK := Lib.hid hK
      clear hK
      go_simp
      refine HK.out _ _ ?_
      clear HK K
      refine wpAny_one (i := 13) (by kernel_rfl) rfl rfl ?_
      intro K hK
      refine op_store 22 _ _ rfl rfl bx1 8 rfl rfl [Value.slice b4 R.length k4] rfl (by kernel_rfl) rfl rfl #[Value.int .i64 t, Value.slice b1 X.length k1, Value.slice b2 P.length k2, Value.bool flag, Value.int .i64 pass, Value.int .i64 fail, Value.bool is_, Value.slice b3 H.length k3, Value.slice b4 R.length k4, Value.int .i64 s, Value.int .i64 nu] rfl ?_
      intro w4 bx ef hz
      refine hK _ _ ?_
      clear hK K
      replace hB := ef.below hB (by rintro _ rfl; exact hxl)
      replace by1 := ef.blk by1 (Ne.symm hxy)
      replace hL3 := hL3.eff ef (by rintro k rfl h; exact absurd (h.inj bx1.ty) (by decide))
      replace hL4 := hL4.eff ef (by rintro k rfl h; exact absurd (h.inj bx1.ty) (by decide))
      replace hL1 := hL1.eff ef (by rintro k rfl h; exact absurd (h.inj bx1.ty) (by decide))
      replace hL2 := hL2.eff ef (by rintro k rfl h; exact absurd (h.inj bx1.ty) (by decide))
      clear bx1 ef hz
      refine wpAny_none (by kernel_rfl) ?_
      go_wp2_with (first | ((with_reducible refine at_dst (N := 27) rfl ?_); refine ev_load rfl 96 _ rfl bx 0 rfl [Value.int .i64 t, Value.slice b1 X.length k1, Value.slice b2 P.length k2, Value.bool flag, Value.int .i64 pass, Value.int .i64 fail, Value.bool is_, Value.slice b3 H.length k3, Value.slice b4 R.length k4, Value.int .i64 s, Value.int .i64 nu] rfl Try.underlying96 rfl (by kernel_rfl) ?_) | ((with_reducible refine at_st (p := 2) (q := 27) rfl ?_); refine ev_store rfl 96 _ _ rfl rfl by1 0 rfl rfl [Value.int .i64 t, Value.slice b1 X.length k1, Value.slice b2 P.length k2, Value.bool flag, Value.int .i64 pass, Value.int .i64 fail, Value.bool is_, Value.slice b3 H.length k3, Value.slice b4 R.length k4, Value.int .i64 s, Value.int .i64 nu] rfl (by kernel_rfl) rfl rfl #[Value.int .i64 t, Value.slice b1 X.length k1, Value.slice b2 P.length k2, Value.bool flag, Value.int .i64 pass, Value.int .i64 fail, Value.bool is_, Value.slice b3 H.length k3, Value.slice b4 R.length k4, Value.int .i64 s, Value.int .i64 nu] rfl ?_; intro w7 by2 ef hz))
      replace hB := ef.below hB (by rintro _ rfl; exact hyl)
      replace hL1 := hL1.eff ef (by rintro k rfl h; exact absurd (h.inj by1.ty) (by decide))
      replace hL2 := hL2.eff ef (by rintro k rfl h; exact absurd (h.inj by1.ty) (by decide))
      replace hL3 := hL3.eff ef (by rintro k rfl h; exact absurd (h.inj by1.ty) (by decide))
      replace hL4 := hL4.eff ef (by rintro k rfl h; exact absurd (h.inj by1.ty) (by decide))
      refine bodyPost_ret (results_cell_row rfl _ _ (x + 1) 96 #[Value.int .i64 t, Value.slice b1 X.length k1, Value.slice b2 P.length k2, Value.bool flag, Value.int .i64 pass, Value.int .i64 fail, Value.bool is_, Value.slice b3 H.length k3, Value.slice b4 R.length k4, Value.int .i64 s, Value.int .i64 nu] (0, 0) _ rfl by2 Try.underlying96 rfl (by kernel_rfl)) rfl ?_
      exact ⟨_, rfl, ⟨_, _, _, _, _, _, _, _, rfl, hL1, hL2, hL3, hL4⟩, hB⟩

end Go.Proofs.Ytagakcnhhhlolaa.Base
