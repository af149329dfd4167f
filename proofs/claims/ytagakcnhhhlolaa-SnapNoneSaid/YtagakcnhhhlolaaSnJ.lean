/- snap: Push. No conditions. -/
import Derived.Test.YtagakcnhhhlolaaSnI
namespace Go.Proofs.Ytagakcnhhhlolaa.Base
open Go.RowKit
set_option linter.unusedVariables false
set_option linter.unusedSimpArgs false

/-- A memory's box and model. -/
structure PB (B : Nat) (W : World) (p : Nat) (v : Value) (M : Mdl) : Prop where
  ex : ∃ aA cA aQ cQ aR cR, Blk W p #[v, .int .i64 M.n, .slice aA M.A.length cA, .slice aQ M.Q.length cQ, .int .i64 M.tick, .int .i64 M.gate, .int .i64 M.rmin, .slice aR M.rows.length cR] 81 ∧ OM B W (.agg #[.int .i64 M.n, .slice aA M.A.length cA, .slice aQ M.Q.length cQ, .int .i64 M.tick, .int .i64 M.gate, .int .i64 M.rmin, .slice aR M.rows.length cR]) M
  lo : B ≤ p
  mr : M.rows.length ≤ 1000
theorem PM.pb {B : Nat} {W : World} {p : Nat} {v : Value} {M : Mdl} {ms : List Mrk} (h : PM B W p v M ms) : PB B W p v M := ⟨h.ex, h.lo, h.mr⟩
theorem PB.pm {B : Nat} {W : World} {p : Nat} {v : Value} {M : Mdl} {ms : List Mrk} (h : PB B W p v M) (hr : RK B W v ms) (hn : ms ≠ []) (hl : ms.length ≤ 1000) (ok : ∀ m ∈ ms, MkOk m) : PM B W p v M ms := ⟨h.ex, hr, h.lo, hn, hl, ok, h.mr⟩
theorem PB.eff {P : Nat → Prop} {B : Nat} {W W' : World} {p : Nat} {v : Value} {M : Mdl} (h : PB B W p v M) (he : Eff P W W') (hp : ∀ k, P k → k ≠ p ∧ ¬ Ty W k 3 ∧ ¬ Ty W k 41) : PB B W' p v M := by
  obtain ⟨aA, cA, aQ, cQ, aR, cR, h1, h2⟩ := h.ex
  exact ⟨⟨aA, cA, aQ, cQ, aR, cR, he.blk h1 (fun e => (hp _ e).1 rfl), h2.eff he fun k hk => (hp k hk).2⟩, h.lo, h.mr⟩
/-- Ints stay. -/
structure KI (W W' : World) : Prop where
  size : W.heap.size ≤ W'.heap.size
  block : ∀ k, Ty W k 3 → W'.heap[k]? = W.heap[k]?
theorem KI.refl (W : World) : KI W W := ⟨Nat.le_refl _, fun _ _ => rfl⟩
theorem KI.of {W W' : World} (h : Below W.heap.size W W') : KI W W' := ⟨h.size, fun k hk => h.block k hk.lt⟩
theorem KI.eff {P : Nat → Prop} {W W' : World} (h : Eff P W W') (hp : ∀ k, P k → ¬ Ty W k 3) : KI W W' := ⟨h.size, fun k hk => h.block k hk.lt fun e => hp k e hk⟩
theorem KV.ki {B : Nat} {W W' : World} {cs : List Value} {m : Mrk} (h : KV B W cs m) (hb : KI W W') : KV B W' cs m := by
  obtain ⟨aX, cX, aP, cP, aH, cH, aR, cR, h0, h1, h2, h3, h4⟩ := h
  have k : ∀ {a : Option Addr} {c : Nat} {zs : List Int}, LI B W a c zs → LI B W' a c zs := fun h => h.same fun x hx hn => hb.block _ (by obtain ⟨cs, q, hc⟩ := h.wj.ty x hx hn; exact ⟨cs, q, hc⟩)
  exact ⟨aX, cX, aP, cP, aH, cH, aR, cR, h0, k h1, k h2, k h3, k h4⟩

def lastT (ms : List Mrk) : Int := match ms.getLast? with | some m => m.b.t | none => 0
theorem lastT_at {ms : List Mrk} {k : Nat} (hk : ms.length = k + 1) : lastT ms = (ms[k]'(by omega)).b.t := by
  have : ms.getLast? = some (ms[k]'(by omega)) := by rw [List.getLast?_eq_getElem?, show ms.length - 1 = k by omega, List.getElem?_eq_getElem]
  unfold lastT
  rw [this]
/-- What Push answers. -/
noncomputable def pushV (M : Mdl) (ms : List Mrk) (m : Mrk) : Int := if fitsV M m.b ≠ 0 then fitsV M m.b else if m.b.t < lastT ms then 4 else if 201 ≤ ms.length then 13 else 0
def PushNo (W : World) (r : Int) (e : Ending) (w' : World) : Prop := e = .returned (.int .i64 r) ∧ Below W.heap.size W w'
def PushOk (B : Nat) (W : World) (p : Nat) (v : Value) (M : Mdl) (ms : List Mrk) (m : Mrk) (e : Ending) (w' : World) : Prop :=
  ∃ v', e = .returned (.int .i64 0) ∧ PM B w' p v' M (ms ++ [m]) ∧ Eff (fun k => k = p ∨ v.ownBlock = some k) W w' ∧ (∀ r, v'.ownBlock = some r → v.ownBlock = some r ∨ W.heap.size ≤ r)
/-- A trace that is handed over. -/
structure MT (W : World) (v : Value) (t : Trc) : Prop where
  ex : ∃ aH cH aR cR, v = .agg #[.bool t.is, .slice aH t.H.length cH, .slice aR t.R.length cR, .int .i64 t.s, .int .i64 t.nu] ∧ MI 0 W aH cH t.H ∧ MI 0 W aR cR t.R
  s : I64 t.s
  nu : I64 t.nu
theorem MT.keep {W W' : World} {v : Value} {t : Trc} (h : MT W v t) (hb : Below W.heap.size W W') : MT W' v t := by
  obtain ⟨aH, cH, aR, cR, h0, h1, h2⟩ := h.ex
  exact ⟨⟨aH, cH, aR, cR, h0, h1.keep hb, h2.keep hb⟩, h.s, h.nu⟩

set_option maxHeartbeats 16000000 in
set_option maxRecDepth 100000 in
theorem push_is {B : Nat} {w0 : World} {p : Nat} {v vb vt : Value} {M : Mdl} {ms : List Mrk} {m : Mrk} (h : PM B w0 p v M ms) (hB : B ≤ w0.heap.size) (hb : MB 0 w0 vb m.b) (ht : MT w0 vt m.t) (hok : MkOk m) :
    Calls Try.prog 35 #[.pointer (some ⟨p, 0, none⟩), vb, vt] w0 fun e w' => (pushV M ms m ≠ 0 → PushNo w0 (pushV M ms m) e w') ∧ (pushV M ms m = 0 → PushOk B w0 p v M ms m e w') := by
  have hl := h.len
  have hn := h.pos
  obtain ⟨k, hk⟩ : ∃ k, ms.length = k + 1 := ⟨ms.length - 1, by omega⟩
  obtain ⟨aX, cX, aP, cP, rfl, hX, hP⟩ := hb.ex
  obtain ⟨aH, cH, aR', cR', rfl, hH, hR⟩ := ht.ex
  have hkm : KM w0 [Value.int .i64 m.b.t, Value.slice aX m.b.X.length cX, Value.slice aP m.b.P.length cP, Value.bool m.b.flag, Value.int .i64 m.b.pass, Value.int .i64 m.b.fail, Value.bool m.t.is, Value.slice aH m.t.H.length cH, Value.slice aR' m.t.R.length cR', Value.int .i64 m.t.s, Value.int .i64 m.t.nu] m := ⟨_, _, _, _, _, _, _, _, rfl, hX, hP, hH, hR⟩
  obtain ⟨g, c, aA, cA, aQ, cQ, aR, cR, rfl, hc, hcm, hg, hbx, hM⟩ := h.box
  have hfa := Lib.hid (fun (w : World) (x0 x1 x2 x3 x4 x5 x6 x7 x8 x9 x10 : Value) => (by kernel_rfl : (Instr.field 96 (.agg #[x0, x1, x2, x3, x4, x5, x6, x7, x8, x9, x10]) 0).run Try.prog w = .ok (.agg #[x0, x1, x2, x3, x4, x5]) w))
  have hfb := Lib.hid (fun (w : World) (x0 x1 x2 x3 x4 x5 : Value) => (by kernel_rfl : (Instr.field 27 (.agg #[x0, x1, x2, x3, x4, x5]) 0).run Try.prog w = .ok x0 w))
  have HH := Lib.hid h
  have HB := Lib.hid hb
  obtain ⟨pv, hpv⟩ : ∃ r, pushV M ms m = r := ⟨_, rfl⟩
  rw [hpv]
  unfold pushV at hpv
  have HV := Lib.hid hpv
  clear hpv
  clear hX hP hH hR h ht
  go_enter Try.func35, Try.ntmps35
  go_wp2_with (first | ((with_reducible refine at_dst (N := 4) rfl ?_); refine ev_new rfl (cs := #[Value.int .i64 m.b.t, Value.slice aX m.b.X.length cX, Value.slice aP m.b.P.length cP, Value.bool m.b.flag, Value.int .i64 m.b.pass, Value.int .i64 m.b.fail]) (t := 27) (by go_simp) ?_; intro w1 b1 hB1 hz1) | ((with_reducible refine at_dst (N := 5) rfl ?_); refine ev_new rfl (cs := #[Value.bool m.t.is, Value.slice aH m.t.H.length cH, Value.slice aR' m.t.R.length cR', Value.int .i64 m.t.s, Value.int .i64 m.t.nu]) (t := 52) (by go_simp) ?_; intro w2 b2 hB2 hz2; replace b1 := b1.keep hB2; replace hB1 := more hB1 hB2; rw [hz1] at b2 hz2; try rw [hz1]; clear hB2 hz1))
  obtain ⟨x, hx⟩ : ∃ x, w0.heap.size = x := ⟨_, rfl⟩
  obtain ⟨y, hy⟩ : ∃ y, x + 1 = y := ⟨_, rfl⟩
  rw [hx] at b1 b2 hz2
  rw [hy] at b2 hz2
  simp only [hx, hy]
  have h2 := HH.out.keep hB1
  have hb2 := hbx.keep hB1
  refine (none_is h2).mono ?_
  rintro e w' ⟨rfl, rfl⟩
  have c0 := hb2.cell 0
  have c1 := hb2.cell 1
  have c2 := hb2.cell 2
  have c3 := hb2.cell 3
  have c4 := hb2.cell 4
  have c5 := hb2.cell 5
  have c6 := hb2.cell 6
  have c7 := hb2.cell 7
  have d0 := b1.cell 0
  have d1 := b1.cell 1
  have d2 := b1.cell 2
  have d3 := b1.cell 3
  have d4 := b1.cell 4
  have d5 := b1.cell 5
  simp at c0 c1 c2 c3 c4 c5 c6 c7 d0 d1 d2 d3 d4 d5
  go_wp2_with fail
  go_still_tail 5, (by kernel_rfl)
  have hmm := ((hM.keep hB1).mm h2.mr).keep (below_drewN _ 1)
  have hbb := (HB.out.keep hB1).keep (below_drewN _ 1)
  go_wp2_with fail
  refine (fits_is (hmm.mono (Nat.zero_le _)) hbb h2.mr).mono ?_
  rintro e w3 ⟨rfl, hB3⟩
  clear hmm hbb c0 c1 c2 c3 c4 c5 c6 c7 d0 d1 d2 d3 d4 d5
  have hB13 := more (below_drewN w2 1) hB3
  replace b1 := b1.keep hB13
  replace b2 := b2.keep hB13
  have h3 := h2.keep hB13
  have hb3 := hb2.keep hB13
  have hbl := more hB1 hB13
  clear hB13 hB3 hB1 hb2 h2 hb
  by_cases hf : fitsV M m.b = 0
  case neg =>
    have hf2 : (fitsV M m.b != 0) = true := by simpa using hf
    have hv := HV.out
    rw [if_pos hf] at hv
    rw [hv] at hf2 ⊢
    have HF := Lib.hid (show pv ≠ 0 by rw [← hv]; exact hf)
    clear hf hv HV
    go_wp2_with fail
    go_ret
    exact ⟨fun _ => ⟨rfl, hbl⟩, fun e => absurd e HF.out⟩
  have hv := HV.out
  rw [if_neg (by simpa using hf)] at hv
  rw [hf]
  clear hf HV
  obtain ⟨lt, hlt⟩ : ∃ lt, lastT ms = lt := ⟨_, rfl⟩
  rw [hlt] at hv
  have HV := Lib.hid hv
  clear hv
  have hc0 := hb3.cell 0
  simp at hc0
  go_wp2_with fail
  refine region_fp [some 20, some 21, some 22, some 23, some 24, some 25, some 26, some 27, some 28, some 19] [] [some (Value.pointer (some ⟨x, 0, none⟩)), some (Value.int .i64 m.b.t), some (Value.pointer (some ⟨p, 0, none⟩)), some (Value.pointer (some ⟨p, 0, none⟩)), some (Value.pointer (some ⟨p, 0, none⟩)), none, none, some (Value.int .i64 lt), some (Value.bool (decide (m.b.t < lt))), some (Value.bool (decide (m.b.t < lt)))]
    (fun i v W => match i with | 5 => Last lt (.returned v) | 6 => ∃ v1 v2 v3 v4 v5, v = Value.agg #[.int .i64 lt, v1, v2, v3, v4, v5] | _ => True) (fun W W' => Below W.heap.size W W') (fun _ _ W => PM B W p (Value.slice (some ⟨g, 0, none⟩) ms.length c) M ms ∧ Blk W x #[Value.int .i64 m.b.t, Value.slice aX m.b.X.length cX, Value.slice aP m.b.P.length cP, Value.bool m.b.flag, Value.int .i64 m.b.pass, Value.int .i64 m.b.fail] 27 ∧ Blk W y #[Value.bool m.t.is, Value.slice aH m.t.H.length cH, Value.slice aR' m.t.R.length cR', Value.int .i64 m.t.s, Value.int .i64 m.t.nu] 52 ∧ Below w3.heap.size w3 W)
    (by kernel_rfl) (by kernel_rfl) (by kernel_rfl) (by kernel_rfl) (by kernel_rfl) (fun _ => Below.refl _ _) (fun i v W W' h hb => h) (fun _ _ _ _ _ _ h => h) ⟨h3.keep (below_drewN _ 1), b1.drew, b2.drew, below_drewN _ 1⟩ ?_ ?_
  · intro i hi b' L f W hSW hL hdep hsh he hsv hsl hFF K hK1 hK2
    replace hi : i < 10 := hi
    have hcs : i = 0 ∨ i = 1 ∨ i = 2 ∨ i = 3 ∨ i = 4 ∨ i = 5 ∨ i = 6 ∨ i = 7 ∨ i = 8 ∨ i = 9 := by omega
    clear hi
    rcases hcs with rfl | rfl | rfl | rfl | rfl | rfl | rfl | rfl | rfl | rfl
    · refine wpOp_go rfl rfl ?_
      have t4 : b'.tmps[4]?.getD undef = Value.pointer (some ⟨x, 0, none⟩) := he 4 (by kernel_rfl)
      have HK := Lib.hid hK1
      clear hK1 hK2 hdep hsh he hsv hsl hFF hL hSW
      go_simp
      exact HK.out rfl _ (fp_mk rfl rfl trivial)
    · refine wpOp_go rfl rfl ?_
      have t20 : b'.tmps[20]?.getD undef = Value.pointer (some ⟨x, 0, none⟩) := hsv 0 20 _ (by kernel_rfl) (by kernel_rfl) rfl
      obtain ⟨hpm, hbx, hby, hbl⟩ := hSW
      have c0 : W.cell? ⟨x, 0, none⟩ = some (Value.int .i64 m.b.t) := (hbx.cell 0).trans rfl
      have HK := Lib.hid hK1
      clear hK1 hK2 hdep hsh he hsv hsl hFF hL
      clear hpm hbx hby hbl
      go_simp
      exact HK.out rfl _ (fp_mk rfl rfl trivial)
    · refine wpOp_go rfl rfl ?_
      have t0 : b'.tmps[0]?.getD undef = Value.pointer (some ⟨p, 0, none⟩) := he 0 (by kernel_rfl)
      have HK := Lib.hid hK1
      clear hK1 hK2 hdep hsh he hsv hsl hFF hL hSW
      go_simp
      exact HK.out rfl _ (fp_mk rfl rfl trivial)
    · refine wpOp_go rfl rfl ?_
      have t22 : b'.tmps[22]?.getD undef = Value.pointer (some ⟨p, 0, none⟩) := hsv 2 22 _ (by kernel_rfl) (by kernel_rfl) rfl
      have HK := Lib.hid hK1
      clear hK1 hK2 hdep hsh he hsv hsl hFF hL hSW
      go_simp
      exact HK.out rfl _ (fp_mk rfl rfl trivial)
    · refine wpOp_go rfl rfl ?_
      have t23 : b'.tmps[23]?.getD undef = Value.pointer (some ⟨p, 0, none⟩) := hsv 3 23 _ (by kernel_rfl) (by kernel_rfl) rfl
      have HK := Lib.hid hK1
      clear hK1 hK2 hdep hsh he hsv hsl hFF hL hSW
      go_simp
      exact HK.out rfl _ (fp_mk rfl rfl trivial)
    · refine wpOp_go rfl rfl ?_
      have t24 : b'.tmps[24]?.getD undef = Value.pointer (some ⟨p, 0, none⟩) := hsv 4 24 _ (by kernel_rfl) (by kernel_rfl) rfl
      obtain ⟨hpm, hbx, hby, hbl⟩ := hSW
      have HK := Lib.hid hK2
      clear hK1 hK2 hdep hsh he hsv hsl hFF hL
      go_simp
      refine (last_is hpm k hk).mono ?_
      rintro e w6 ⟨hla, hK6⟩
      rw [← lastT_at hk, hlt] at hla
      obtain ⟨v1, v2, v3, v4, v5, v6, v7, v8, v9, v10, rfl⟩ := hla
      exact HK.out _ _ (fp_x rfl ⟨v1, v2, v3, v4, v5, v6, v7, v8, v9, v10, rfl⟩) hK6 ⟨hpm.keep hK6, hbx.keep hK6, hby.keep hK6, more hbl hK6⟩
    · refine wpOp_go rfl rfl ?_
      obtain ⟨t25, hx⟩ := hsl 5 25 (by kernel_rfl) (by kernel_rfl)
      obtain ⟨v1, v2, v3, v4, v5, v6, v7, v8, v9, v10, e5⟩ := hx
      injection e5 with e5
      rw [e5] at t25
      have hf1 := hfa.out W (Value.int .i64 lt) v1 v2 v3 v4 v5 v6 v7 v8 v9 v10
      have HK := Lib.hid hK1
      clear hK1 hK2 hdep hsh he hsv hsl hFF hL
      clear e5 hSW
      go_simp
      exact HK.out rfl _ (fp_x rfl ⟨v1, v2, v3, v4, v5, rfl⟩)
    · refine wpOp_go rfl rfl ?_
      obtain ⟨t26, hx⟩ := hsl 6 26 (by kernel_rfl) (by kernel_rfl)
      obtain ⟨v1, v2, v3, v4, v5, e6⟩ := hx
      rw [e6] at t26
      have hf1 := hfb.out W (Value.int .i64 lt) v1 v2 v3 v4 v5
      have HK := Lib.hid hK1
      clear hK1 hK2 hdep hsh he hsv hsl hFF hL
      clear e6 hSW
      go_simp
      exact HK.out rfl _ (fp_mk rfl rfl trivial)
    · refine wpOp_go rfl rfl ?_
      have t21 : b'.tmps[21]?.getD undef = Value.int .i64 m.b.t := hsv 1 21 _ (by kernel_rfl) (by kernel_rfl) rfl
      have t27 : b'.tmps[27]?.getD undef = Value.int .i64 lt := hsv 7 27 _ (by kernel_rfl) (by kernel_rfl) rfl
      have HK := Lib.hid hK1
      clear hK1 hK2 hdep hsh he hsv hsl hFF hL hSW
      go_simp
      exact HK.out rfl _ (fp_mk rfl rfl trivial)
    · refine wpOp_go rfl rfl ?_
      have t28 : b'.tmps[28]?.getD undef = Value.bool (decide (m.b.t < lt)) := hsv 8 28 _ (by kernel_rfl) (by kernel_rfl) rfl
      have HK := Lib.hid hK1
      clear hK1 hK2 hdep hsh he hsv hsl hFF hL hSW
      go_simp
      exact HK.out rfl _ (fp_mk rfl rfl trivial)
  · intro f w5 hf L hL hS
    have e0 : f 0 = Value.pointer (some ⟨x, 0, none⟩) := (hf 0 (by decide)).1 _ rfl
    have e1 : f 1 = Value.int .i64 m.b.t := (hf 1 (by decide)).1 _ rfl
    have e2 : f 2 = Value.pointer (some ⟨p, 0, none⟩) := (hf 2 (by decide)).1 _ rfl
    have e3 : f 3 = Value.pointer (some ⟨p, 0, none⟩) := (hf 3 (by decide)).1 _ rfl
    have e4 : f 4 = Value.pointer (some ⟨p, 0, none⟩) := (hf 4 (by decide)).1 _ rfl
    have e7 : f 7 = Value.int .i64 lt := (hf 7 (by decide)).1 _ rfl
    have e8 : f 8 = Value.bool (decide (m.b.t < lt)) := (hf 8 (by decide)).1 _ rfl
    have e9 : f 9 = Value.bool (decide (m.b.t < lt)) := (hf 9 (by decide)).1 _ rfl
    obtain ⟨hpm, hbx, hby, hbl'⟩ : PM B w5 p (Value.slice (some ⟨g, 0, none⟩) ms.length c) M ms ∧ Blk w5 x #[Value.int .i64 m.b.t, Value.slice aX m.b.X.length cX, Value.slice aP m.b.P.length cP, Value.bool m.b.flag, Value.int .i64 m.b.pass, Value.int .i64 m.b.fail] 27 ∧ Blk w5 y #[Value.bool m.t.is, Value.slice aH m.t.H.length cH, Value.slice aR' m.t.R.length cR', Value.int .i64 m.t.s, Value.int .i64 m.t.nu] 52 ∧ Below w3.heap.size w3 w5 := hS
    clear hf hL h3 b1 b2 hc0
    simp only [puts2, Act.put, e0, e1, e2, e3, e4, e7, e8, e9]
    try simp only [List.setIfInBounds_toArray, List.set_cons_zero, List.set_cons_succ]
    generalize f 5 = u5 at *
    generalize f 6 = u6 at *
    clear e0 e1 e2 e3 e4 e7 e8 e9
    have h5b : Blk w5 p #[Value.slice (some ⟨g, 0, none⟩) ms.length c, Value.int .i64 M.n, Value.slice aA M.A.length cA, Value.slice aQ M.Q.length cQ, Value.int .i64 M.tick, Value.int .i64 M.gate, Value.int .i64 M.rmin, Value.slice aR M.rows.length cR] 81 := hb3.keep hbl'
    by_cases h6 : m.b.t < lt
    · obtain rfl : (4 : Int) = pv := by have hv := HV.out; rwa [if_pos h6] at hv
      clear HV
      go_wp2_with fail
      go_ret
      exact ⟨fun _ => ⟨rfl, more hbl hbl'⟩, fun e => absurd e (by decide)⟩
    have hv := HV.out
    rw [if_neg h6] at hv
    go_wp2_with fail
    have HV2 := Lib.hid hv
    clear hv HV
    refine (mlen_is hpm).mono ?_
    rintro e w' ⟨rfl, rfl⟩
    have hv := HV2.out
    clear HV2
    by_cases h7 : 201 ≤ ms.length
    · obtain rfl : (13 : Int) = pv := by rwa [if_pos h7] at hv
      have h8 : (200 : Int) ≤ (ms.length : Int) - 1 := by omega
      go_wp2_with fail
      go_ret
      exact ⟨fun _ => ⟨rfl, more hbl hbl'⟩, fun e => absurd e (by decide)⟩
    obtain rfl : (0 : Int) = pv := by rwa [if_neg h7] at hv
    have h8 : ¬ (200 : Int) ≤ (ms.length : Int) - 1 := by omega
    have hbl5 := more hbl hbl'
    replace hkm := hkm.keep hbl5
    have b1 := hbx
    have b2 := hby
    have h5 := hpm
    go_wp2_with fail
    have hbd := Lib.hid (fun (w : World) => (by kernel_rfl : (Instr.build 96 #[(0, Value.agg #[Value.int .i64 m.b.t, Value.slice aX m.b.X.length cX, Value.slice aP m.b.P.length cP, Value.bool m.b.flag, Value.int .i64 m.b.pass, Value.int .i64 m.b.fail]), (1, Value.agg #[Value.bool m.t.is, Value.slice aH m.t.H.length cH, Value.slice aR' m.t.R.length cR', Value.int .i64 m.t.s, Value.int .i64 m.t.nu])]).run Try.prog w = .ok (.agg #[Value.int .i64 m.b.t, Value.slice aX m.b.X.length cX, Value.slice aP m.b.P.length cP, Value.bool m.b.flag, Value.int .i64 m.b.pass, Value.int .i64 m.b.fail, Value.bool m.t.is, Value.slice aH m.t.H.length cH, Value.slice aR' m.t.R.length cR', Value.int .i64 m.t.s, Value.int .i64 m.t.nu]) w))
    have hB5 : B ≤ w5.heap.size := Nat.le_trans hB hbl5.size
    clear hbl' hb3 hM h6 h7 h8 hk
    refine region_fp [some 33, some 34, some 35, some 36, some 37, some 38, some 39, some 40, some 41, some 42, some 43, some 44, some 45, some 46, some 47, none] [10, 11, 15] [some (Value.pointer (some ⟨p, 0, none⟩)), some (Value.pointer (some ⟨p, 0, none⟩)), some (Value.pointer (some ⟨p, 0, none⟩)), some (Value.pointer (some ⟨p, 0, none⟩)), some (Value.pointer (some ⟨p, 0, none⟩)), some (Value.slice (some ⟨g, 0, none⟩) ms.length c), some (Value.agg #[Value.int .i64 m.b.t, Value.slice aX m.b.X.length cX, Value.slice aP m.b.P.length cP, Value.bool m.b.flag, Value.int .i64 m.b.pass, Value.int .i64 m.b.fail]), some (Value.agg #[Value.bool m.t.is, Value.slice aH m.t.H.length cH, Value.slice aR' m.t.R.length cR', Value.int .i64 m.t.s, Value.int .i64 m.t.nu]), some (Value.agg #[Value.int .i64 m.b.t, Value.slice aX m.b.X.length cX, Value.slice aP m.b.P.length cP, Value.bool m.b.flag, Value.int .i64 m.b.pass, Value.int .i64 m.b.fail, Value.bool m.t.is, Value.slice aH m.t.H.length cH, Value.slice aR' m.t.R.length cR', Value.int .i64 m.t.s, Value.int .i64 m.t.nu]), none, none, none, some (Value.pointer (some ⟨p, 0, none⟩)), some (Value.pointer (some ⟨p, 0, none⟩)), some (Value.pointer (some ⟨p, 0, none⟩)), none]
      (fun i v W => match i with | 9 => ∃ cs : List Value, v = Value.agg cs.toArray ∧ KV B W cs m | _ => True) (KI) (fun L f W => (L 11 = false → Below w5.heap.size w5 W ∧ (L 10 = true → ∃ e1 cs, f 10 = Value.slice (some ⟨e1, 0, none⟩) 1 1 ∧ Blk W e1 (List.toArray cs) 96 ∧ KV B W cs m)) ∧ (L 11 = true → L 15 = false → ∃ g' c', f 11 = Value.slice (some ⟨g', 0, none⟩) (ms.length + 1) c' ∧ PB B W p (Value.slice (some ⟨g, 0, none⟩) ms.length c) M ∧ RK B W (Value.slice (some ⟨g', 0, none⟩) (ms.length + 1) c') (ms ++ [m]) ∧ Eff (fun k => k = p ∨ (Value.slice (some ⟨g, 0, none⟩) ms.length c : Value).ownBlock = some k) w5 W ∧ (g' = g ∨ w5.heap.size ≤ g')) ∧ (L 15 = true → ∃ g' c', PM B W p (Value.slice (some ⟨g', 0, none⟩) (ms.length + 1) c') M (ms ++ [m]) ∧ Eff (fun k => k = p ∨ (Value.slice (some ⟨g, 0, none⟩) ms.length c : Value).ownBlock = some k) w5 W ∧ (g' = g ∨ w5.heap.size ≤ g')))
      (by kernel_rfl) (by kernel_rfl) (by kernel_rfl) (by kernel_rfl) (by kernel_rfl) KI.refl (fun i v W W' h hb => by
        match i, h with
        | 9, ⟨cs, e, h1⟩ => exact ⟨cs, e, h1.ki hb⟩
        | 0, _ | 1, _ | 2, _ | 3, _ | 4, _ | 5, _ | 6, _ | 7, _ | 8, _ => trivial
        | (n + 10), _ => trivial) (fun L L' f f' W h hs => by
        have h10 := h 10 (by simp)
        have h11 := h 11 (by simp)
        have h15 := h 15 (by simp)
        rw [h10.1, h11.1, h15.1, h10.2, h11.2] at hs
        exact hs) ⟨fun _ => ⟨below_drewN _ 1, (fun h => (by cases h))⟩, (fun h => (by cases h)), (fun h => (by cases h))⟩ ?_ ?_
    · intro i hi b' L f W hSW hL hdep hsh he hsv hsl hFF K hK1 hK2
      replace hi : i < 16 := hi
      have hcs : i = 0 ∨ i = 1 ∨ i = 2 ∨ i = 3 ∨ i = 4 ∨ i = 5 ∨ i = 6 ∨ i = 7 ∨ i = 8 ∨ i = 9 ∨ i = 10 ∨ i = 11 ∨ i = 12 ∨ i = 13 ∨ i = 14 ∨ i = 15 := by omega
      clear hi
      rcases hcs with rfl | rfl | rfl | rfl | rfl | rfl | rfl | rfl | rfl | rfl | rfl | rfl | rfl | rfl | rfl | rfl
      · refine wpOp_go rfl rfl ?_
        have t0 : b'.tmps[0]?.getD undef = Value.pointer (some ⟨p, 0, none⟩) := he 0 (by kernel_rfl)
        have HK := Lib.hid hK1
        clear hK1 hK2 hdep hsh he hsv hsl hFF hL
        clear hSW
        go_simp
        exact HK.out rfl _ (fp_mk rfl rfl trivial)
      · refine wpOp_go rfl rfl ?_
        have t0 : b'.tmps[0]?.getD undef = Value.pointer (some ⟨p, 0, none⟩) := he 0 (by kernel_rfl)
        have HK := Lib.hid hK1
        clear hK1 hK2 hdep hsh he hsv hsl hFF hL
        clear hSW
        go_simp
        exact HK.out rfl _ (fp_mk rfl rfl trivial)
      · refine wpOp_go rfl rfl ?_
        have t34 : b'.tmps[34]?.getD undef = Value.pointer (some ⟨p, 0, none⟩) := hsv 1 34 _ (by kernel_rfl) (by kernel_rfl) rfl
        have HK := Lib.hid hK1
        clear hK1 hK2 hdep hsh he hsv hsl hFF hL
        clear hSW
        go_simp
        exact HK.out rfl _ (fp_mk rfl rfl trivial)
      · refine wpOp_go rfl rfl ?_
        have t35 : b'.tmps[35]?.getD undef = Value.pointer (some ⟨p, 0, none⟩) := hsv 2 35 _ (by kernel_rfl) (by kernel_rfl) rfl
        have HK := Lib.hid hK1
        clear hK1 hK2 hdep hsh he hsv hsl hFF hL
        clear hSW
        go_simp
        exact HK.out rfl _ (fp_mk rfl rfl trivial)
      · refine wpOp_go rfl rfl ?_
        have t36 : b'.tmps[36]?.getD undef = Value.pointer (some ⟨p, 0, none⟩) := hsv 3 36 _ (by kernel_rfl) (by kernel_rfl) rfl
        have HK := Lib.hid hK1
        clear hK1 hK2 hdep hsh he hsv hsl hFF hL
        clear hSW
        go_simp
        exact HK.out rfl _ (fp_mk rfl rfl trivial)
      · refine wpOp_go rfl rfl ?_
        have t37 : b'.tmps[37]?.getD undef = Value.pointer (some ⟨p, 0, none⟩) := hsv 4 37 _ (by kernel_rfl) (by kernel_rfl) rfl
        have hb := (hSW.1 (hsh 11 (by kernel_rfl))).1
        have c0 : W.cell? ⟨p, 0, none⟩ = some (Value.slice (some ⟨g, 0, none⟩) ms.length c) := ((h5b.keep hb).cell 0).trans rfl
        have HK := Lib.hid hK1
        clear hK1 hK2 hdep hsh he hsv hsl hFF hL
        clear hSW hb
        go_simp
        exact HK.out rfl _ (fp_mk rfl rfl trivial)
      · refine wpOp_go rfl rfl ?_
        have t4 : b'.tmps[4]?.getD undef = Value.pointer (some ⟨x, 0, none⟩) := he 4 (by kernel_rfl)
        have hb := (hSW.1 (hsh 11 (by kernel_rfl))).1
        refine op_load 27 _ rfl (b1.keep hb) 0 (eval_tmp t4) [Value.int .i64 m.b.t, Value.slice aX m.b.X.length cX, Value.slice aP m.b.P.length cP, Value.bool m.b.flag, Value.int .i64 m.b.pass, Value.int .i64 m.b.fail] rfl Try.underlying27 rfl (by kernel_rfl) ?_
        exact hK1 rfl _ (fp_mk rfl rfl trivial)
      · refine wpOp_go rfl rfl ?_
        have t5 : b'.tmps[5]?.getD undef = Value.pointer (some ⟨y, 0, none⟩) := he 5 (by kernel_rfl)
        have hb := (hSW.1 (hsh 11 (by kernel_rfl))).1
        refine op_load 52 _ rfl (b2.keep hb) 0 (eval_tmp t5) [Value.bool m.t.is, Value.slice aH m.t.H.length cH, Value.slice aR' m.t.R.length cR', Value.int .i64 m.t.s, Value.int .i64 m.t.nu] rfl Try.underlying52 rfl (by kernel_rfl) ?_
        exact hK1 rfl _ (fp_mk rfl rfl trivial)
      · refine wpOp_go rfl rfl ?_
        have t39 : b'.tmps[39]?.getD undef = Value.agg #[Value.int .i64 m.b.t, Value.slice aX m.b.X.length cX, Value.slice aP m.b.P.length cP, Value.bool m.b.flag, Value.int .i64 m.b.pass, Value.int .i64 m.b.fail] := hsv 6 39 _ (by kernel_rfl) (by kernel_rfl) rfl
        have t40 : b'.tmps[40]?.getD undef = Value.agg #[Value.bool m.t.is, Value.slice aH m.t.H.length cH, Value.slice aR' m.t.R.length cR', Value.int .i64 m.t.s, Value.int .i64 m.t.nu] := hsv 7 40 _ (by kernel_rfl) (by kernel_rfl) rfl
        have hb8 := hbd.out W
        have HK := Lib.hid hK1
        clear hK1 hK2 hdep hsh he hsv hsl hFF hL
        clear hSW
        go_simp
        exact HK.out rfl _ (fp_mk rfl rfl trivial)
      · refine wpOp_go rfl rfl ?_
        have t41 : b'.tmps[41]?.getD undef = Value.agg #[Value.int .i64 m.b.t, Value.slice aX m.b.X.length cX, Value.slice aP m.b.P.length cP, Value.bool m.b.flag, Value.int .i64 m.b.pass, Value.int .i64 m.b.fail, Value.bool m.t.is, Value.slice aH m.t.H.length cH, Value.slice aR' m.t.R.length cR', Value.int .i64 m.t.s, Value.int .i64 m.t.nu] := hsv 8 41 _ (by kernel_rfl) (by kernel_rfl) rfl
        have hb := (hSW.1 (hsh 11 (by kernel_rfl))).1
        have h10 : L 10 = false := hsh 10 (by kernel_rfl)
        have h11 : L 11 = false := hsh 11 (by kernel_rfl)
        have h15 : L 15 = false := hsh 15 (by kernel_rfl)
        have HK := Lib.hid hK2
        clear hK1 hK2 hdep hsh he hsv hsl hFF hL hSW
        go_simp
        refine (own_is (m := m) (cs := [Value.int .i64 m.b.t, Value.slice aX m.b.X.length cX, Value.slice aP m.b.P.length cP, Value.bool m.b.flag, Value.int .i64 m.b.pass, Value.int .i64 m.b.fail, Value.bool m.t.is, Value.slice aH m.t.H.length cH, Value.slice aR' m.t.R.length cR', Value.int .i64 m.t.s, Value.int .i64 m.t.nu]) (hkm.keep hb) hok).mono ?_
        rintro e w6 ⟨cs, rfl, hkv, hK6⟩
        have hs := hb.size
        exact HK.out _ _ (fp_x rfl ⟨cs, rfl, hkv.mono (by omega)⟩) (KI.of hK6) ⟨fun _ => ⟨more hb hK6, fun h => by simp [updF, h10] at h⟩, fun h => by simp [updF, h11] at h, fun h => by simp [updF, h15] at h⟩
      · refine wpOp_go rfl rfl ?_
        have hb := (hSW.1 (hsh 11 (by kernel_rfl))).1
        have h11 : L 11 = false := hsh 11 (by kernel_rfl)
        have h15 : L 15 = false := hsh 15 (by kernel_rfl)
        obtain ⟨t42, hx⟩ := hsl 9 42 (by kernel_rfl) (by kernel_rfl)
        obtain ⟨cs, e9, hkv⟩ := hx
        rw [e9] at t42
        have hkv' := hkv
        obtain ⟨qX, dX, qP, dP, qH, dH, qR, dR, rfl, _⟩ := hkv
        have HK := Lib.hid hK2
        clear hK1 hK2 hdep hsh he hsv hsl hFF hL hSW e9
        refine op_slice1 (cs := #[Value.int .i64 m.b.t, Value.slice qX m.b.X.length dX, Value.slice qP m.b.P.length dP, Value.bool m.b.flag, Value.int .i64 m.b.pass, Value.int .i64 m.b.fail, Value.bool m.t.is, Value.slice qH m.t.H.length dH, Value.slice qR m.t.R.length dR, Value.int .i64 m.t.s, Value.int .i64 m.t.nu]) (t := 96) (by go_simp) ?_
        intro w6 hbn hK6 hz
        exact HK.out _ _ (fp_x rfl trivial) (KI.of hK6) ⟨fun _ => ⟨more hb hK6, fun _ => ⟨_, _, rfl, hbn, hkv'.keep hK6⟩⟩, fun h => by simp [updF, h11] at h, fun h => by simp [updF, h15] at h⟩
      · refine wpOp_go rfl rfl ?_
        have t38 : b'.tmps[38]?.getD undef = Value.slice (some ⟨g, 0, none⟩) ms.length c := hsv 5 38 _ (by kernel_rfl) (by kernel_rfl) rfl
        have hsw := hSW.1 hL
        obtain ⟨e1, cs, e10, hbe, hkv⟩ := hsw.2 (hdep 10 (by kernel_rfl))
        obtain ⟨t43, _⟩ := hsl 10 43 (by kernel_rfl) (by kernel_rfl)
        rw [e10] at t43
        have h15 : L 15 = false := hsh 15 (by kernel_rfl)
        have hb := hsw.1
        have hpmW := h5.keep hb
        obtain ⟨vs, q1, q2⟩ := hpmW.rows
        have hs := hb.size
        refine op_app_box Try.underlying77 (info_parts (by kernel_rfl)) (z := .agg #[.int .i64 0, .slice none 0 0, .slice none 0 0, .bool false, .int .i64 0, .int .i64 0, .bool false, .slice none 0 0, .slice none 0 0, .int .i64 0, .int .i64 0]) (size := 11) (bytes := 152) rfl (by decide) (by decide) _ _ rfl (eval_tmp t38) q2 (by omega) e1 (by simp [hkv.len.1]) (eval_tmp t43) hbe (by simpa using hkv.len.2) (by have := hpmW.len; omega) ?_
        intro g' c' w6 ho hgr hat0
        have hgp : Ty W g 96 := (row_ty q2 g rfl).1
        have hni : ∀ k, (Value.slice (some ⟨g, 0, none⟩) ms.length c).ownBlock = some k → ¬ Ty W k 3 := fun k hk e => by cases hk; exact absurd (e.inj hgp) (by decide)
        have hef : Eff (fun k => (Value.slice (some ⟨g, 0, none⟩) ms.length c).ownBlock = some k) W w6 := Eff.grown hgr (fun k hk => hk)
        have hat : g' = g ∨ w5.heap.size ≤ g' := by rcases hat0 with e | e; exact .inl (by simpa [Value.ownBlock] using e.symm); exact .inr (by omega)
        refine hK2 _ w6 (fp_x rfl trivial) (KI.eff hef hni) ⟨fun h => by simp [updF] at h, fun _ _ => ⟨g', c', by simp [updF], ?_, ?_, ?_, hat⟩, fun h => by simp [updF, h15] at h⟩
        · refine (hpmW.pb).eff hef (fun k hk => ⟨?_, hni k hk, fun e => by cases hk; exact absurd (e.inj hgp) (by decide)⟩)
          rintro rfl
          cases hk
          obtain ⟨_, _, _, _, _, _, hbb, _⟩ := hpmW.ex
          exact absurd (hgp.inj hbb.ty) (by decide)
        · refine ⟨vs ++ [cs], All2.app (cs := [cs]) (ds := [m]) ⟨hkv.eff hef hni, trivial⟩ (q1.imp fun _ _ h => h.eff hef hni), ?_⟩
          simpa using ho
        · exact (Eff.of (P := (fun k => k = p ∨ (Value.slice (some ⟨g, 0, none⟩) ms.length c : Value).ownBlock = some k)) hb).trans hef (fun k _ hk => .inr hk)
      · refine wpOp_go rfl rfl ?_
        have t33 : b'.tmps[33]?.getD undef = Value.pointer (some ⟨p, 0, none⟩) := hsv 0 33 _ (by kernel_rfl) (by kernel_rfl) rfl
        have HK := Lib.hid hK1
        clear hK1 hK2 hdep hsh he hsv hsl hFF hL
        clear hSW
        go_simp
        exact HK.out rfl _ (fp_mk rfl rfl trivial)
      · refine wpOp_go rfl rfl ?_
        have t45 : b'.tmps[45]?.getD undef = Value.pointer (some ⟨p, 0, none⟩) := hsv 12 45 _ (by kernel_rfl) (by kernel_rfl) rfl
        have HK := Lib.hid hK1
        clear hK1 hK2 hdep hsh he hsv hsl hFF hL
        clear hSW
        go_simp
        exact HK.out rfl _ (fp_mk rfl rfl trivial)
      · refine wpOp_go rfl rfl ?_
        have t46 : b'.tmps[46]?.getD undef = Value.pointer (some ⟨p, 0, none⟩) := hsv 13 46 _ (by kernel_rfl) (by kernel_rfl) rfl
        have HK := Lib.hid hK1
        clear hK1 hK2 hdep hsh he hsv hsl hFF hL
        clear hSW
        go_simp
        exact HK.out rfl _ (fp_mk rfl rfl trivial)
      · refine wpOp_go rfl rfl ?_
        have t47 : b'.tmps[47]?.getD undef = Value.pointer (some ⟨p, 0, none⟩) := hsv 14 47 _ (by kernel_rfl) (by kernel_rfl) rfl
        obtain ⟨g', c', e11, hpb, hrk, hef, hat⟩ := hSW.2.1 (hdep 11 (by kernel_rfl)) hL
        obtain ⟨t44, _⟩ := hsl 11 44 (by kernel_rfl) (by kernel_rfl)
        rw [e11] at t44
        obtain ⟨aA2, cA2, aQ2, cQ2, aR2, cR2, hbb, hom⟩ := hpb.ex
        refine op_store 77 _ _ rfl rfl hbb 0 (eval_tmp t47) (eval_tmp t44) [Value.slice (some ⟨g', 0, none⟩) (ms.length + 1) c'] rfl (by kernel_rfl) rfl rfl _ rfl ?_
        intro W' hb2 ef hz
        have hni : ∀ k, k = p → ¬ Ty W k 3 ∧ ¬ Ty W k 41 := by rintro k rfl; exact ⟨fun e => absurd (e.inj hbb.ty) (by decide), fun e => absurd (e.inj hbb.ty) (by decide)⟩
        refine hK2 undef W' (fp_x rfl trivial) (KI.eff ef (fun k hk => (hni k hk).1)) ⟨fun h => by simp [updF, hdep 11 (by kernel_rfl)] at h, fun _ h => by simp [updF] at h, fun _ => ⟨g', c', PB.pm ⟨⟨_, _, _, _, _, _, hb2, hom.eff ef hni⟩, hpb.lo, hpb.mr⟩ (hrk.eff ef (fun k hk => (hni k hk).1) (fun k hk e => ?_)) (by simp) (by have := h5.len; simp; omega) (fun m' hm' => ?_), hef.trans ef (fun k _ hk => .inl hk), hat⟩⟩
        · subst e
          cases hk
          obtain ⟨_, _, q2⟩ := hrk
          exact absurd ((row_ty q2 g' rfl).1.inj hbb.ty) (by decide)
        · rcases List.mem_append.1 hm' with h | h
          · exact h5.ok m' h
          · rw [List.mem_singleton.1 h]; exact hok
    · intro f W hf L hL hS
      have e0 : f 0 = Value.pointer (some ⟨p, 0, none⟩) := (hf 0 (by decide)).1 _ rfl
      have e1 : f 1 = Value.pointer (some ⟨p, 0, none⟩) := (hf 1 (by decide)).1 _ rfl
      have e2 : f 2 = Value.pointer (some ⟨p, 0, none⟩) := (hf 2 (by decide)).1 _ rfl
      have e3 : f 3 = Value.pointer (some ⟨p, 0, none⟩) := (hf 3 (by decide)).1 _ rfl
      have e4 : f 4 = Value.pointer (some ⟨p, 0, none⟩) := (hf 4 (by decide)).1 _ rfl
      have e5 : f 5 = Value.slice (some ⟨g, 0, none⟩) ms.length c := (hf 5 (by decide)).1 _ rfl
      have e6 : f 6 = Value.agg #[Value.int .i64 m.b.t, Value.slice aX m.b.X.length cX, Value.slice aP m.b.P.length cP, Value.bool m.b.flag, Value.int .i64 m.b.pass, Value.int .i64 m.b.fail] := (hf 6 (by decide)).1 _ rfl
      have e7 : f 7 = Value.agg #[Value.bool m.t.is, Value.slice aH m.t.H.length cH, Value.slice aR' m.t.R.length cR', Value.int .i64 m.t.s, Value.int .i64 m.t.nu] := (hf 7 (by decide)).1 _ rfl
      have e8 : f 8 = Value.agg #[Value.int .i64 m.b.t, Value.slice aX m.b.X.length cX, Value.slice aP m.b.P.length cP, Value.bool m.b.flag, Value.int .i64 m.b.pass, Value.int .i64 m.b.fail, Value.bool m.t.is, Value.slice aH m.t.H.length cH, Value.slice aR' m.t.R.length cR', Value.int .i64 m.t.s, Value.int .i64 m.t.nu] := (hf 8 (by decide)).1 _ rfl
      have e12 : f 12 = Value.pointer (some ⟨p, 0, none⟩) := (hf 12 (by decide)).1 _ rfl
      have e13 : f 13 = Value.pointer (some ⟨p, 0, none⟩) := (hf 13 (by decide)).1 _ rfl
      have e14 : f 14 = Value.pointer (some ⟨p, 0, none⟩) := (hf 14 (by decide)).1 _ rfl
      have hS' := (hS : _ ∧ _ ∧ _)
      obtain ⟨g', c', hpm, hef, hat⟩ := hS'.2.2 (hL 15 (by decide))
      clear hf hL hS hS'
      simp only [puts2, Act.put, e0, e1, e2, e3, e4, e5, e6, e7, e8, e12, e13, e14]
      try simp only [List.setIfInBounds_toArray, List.set_cons_zero, List.set_cons_succ]
      go_wp2_with fail
      go_ret
      exact ⟨_, rfl, hpm, (Eff.of hbl5).trans hef (fun _ _ h => h), fun r hr => by cases hr; rcases hat with rfl | h; exact .inl rfl; exact .inr (Nat.le_trans hbl5.size h)⟩

end Go.Proofs.Ytagakcnhhhlolaa.Base
