/- snap: Cut that is refused, Drop, Find. No conditions. -/
import Derived.Test.YtagakcnhhhlolaaSnD
namespace Go.Proofs.Ytagakcnhhhlolaa.Base
open Go.RowKit
set_option linter.unusedVariables false
set_option linter.unusedSimpArgs false

set_option maxHeartbeats 1000000 in
theorem cut_no {B : Nat} {W : World} {p : Nat} {v : Value} {M : Mdl} {ms : List Mrk} (h : PM B W p v M ms) (n : Int) (hn : n < 0 ∨ (ms.length : Int) ≤ n) : Calls Try.prog 39 #[.pointer (some ⟨p, 0, none⟩), .int .i64 n] W fun e w' => e = .returned (.int .i64 4) ∧ W = w' := by
  have HL := Lib.hid (mlen_is h)
  have HN := Lib.hid (none_is h)
  rcases hn with h1 | h1
  · clear h
    go_enter Try.func39, Try.ntmps39
    go_wp2_with fail
    refine HN.out.mono ?_
    rintro e w' ⟨rfl, rfl⟩
    go_wp2_with fail
    go_ret
    exact ⟨rfl, rfl⟩
  · have h2 : ¬ n < 0 := by omega
    have h3 : (ms.length : Int) - 1 < n := by omega
    clear h
    go_enter Try.func39, Try.ntmps39
    go_wp2_with fail
    refine HN.out.mono ?_
    rintro e w' ⟨rfl, rfl⟩
    go_wp2_with fail
    refine HL.out.mono ?_
    rintro e w' ⟨rfl, rfl⟩
    go_wp2_with fail
    go_ret
    exact ⟨rfl, rfl⟩
theorem drop_no {B : Nat} {W : World} {p : Nat} {v : Value} {M : Mdl} {ms : List Mrk} (h : PM B W p v M ms) (hn : ms.length = 1) : Calls Try.prog 37 #[.pointer (some ⟨p, 0, none⟩)] W fun e w' => e = .returned (.int .i64 4) ∧ W = w' := by
  have HL := Lib.hid (mlen_is h)
  have HN := Lib.hid (none_is h)
  have h0 : ((ms.length : Int) - 1 == 0) = true := by rw [hn]; rfl
  clear h hn
  go_enter Try.func37, Try.ntmps37
  go_wp2_with fail
  refine HN.out.mono ?_
  rintro e w' ⟨rfl, rfl⟩
  go_wp2_with fail
  refine HL.out.mono ?_
  rintro e w' ⟨rfl, rfl⟩
  go_wp2_with fail
  go_ret
  exact ⟨rfl, rfl⟩
theorem putL_take : ∀ (l : List Value) (o : Nat) (us : List Value) (m : Nat), (putL l o us).take m = putL (l.take m) o us
  | [], _, _, _ => by simp [putL]
  | c :: cs, o + 1, us, 0 => by simp [putL]
  | c :: cs, o + 1, us, m + 1 => by simp [putL, putL_take cs o us m]
  | _ :: cs, 0, u :: us, 0 => by simp [putL]
  | _ :: cs, 0, u :: us, m + 1 => by simp [putL, putL_take cs 0 us m]
  | c :: cs, 0, [], 0 => by simp [putL]
  | c :: cs, 0, [], m + 1 => by simp [putL]
theorem putL_len : ∀ (l : List Value) (o : Nat) (us : List Value), (putL l o us).length = l.length
  | [], _, _ => rfl
  | c :: cs, o + 1, us => by simp [putL, putL_len cs o us]
  | _ :: cs, 0, u :: us => by simp [putL, putL_len cs 0 us]
  | c :: cs, 0, [] => rfl
/-- The base's trace is none. -/
def base0 (m : Mrk) : Mrk := ⟨m.b, trc0⟩
def dropL : List Mrk → List Mrk
  | [] => []
  | m :: ms => base0 m :: ms
def DropOk (B : Nat) (W : World) (p : Nat) (M : Mdl) (ms : List Mrk) (e : Ending) (w' : World) : Prop :=
  ∃ v', e = .returned (.int .i64 0) ∧ PM B w' p v' M ms ∧ Eff (fun k => k = p) W w' ∧ ∀ r, v'.ownBlock = some r → W.heap.size ≤ r
set_option maxHeartbeats 4000000 in
set_option maxRecDepth 100000 in
theorem drop_ok {B : Nat} {W : World} {p : Nat} {v : Value} {M : Mdl} {ms : List Mrk} (h : PM B W p v M ms) (hB : B ≤ W.heap.size) (k : Nat) (hk : ms.length = k + 2) : Calls Try.prog 37 #[.pointer (some ⟨p, 0, none⟩)] W (DropOk B W p M (dropL (ms.drop 1))) := by
  obtain ⟨g, c, aA, cA, aQ, cQ, aR, cR, rfl, hc, hcm, hg, hb, hM⟩ := h.box
  obtain ⟨vs, h1, h2, h3, h4⟩ := h.rows.part 1 (k + 1) (by omega)
  rw [List.take_of_length_le (by simp; omega)] at h1
  have hl := h.len
  have HL := Lib.hid (mlen_is h)
  have HN := Lib.hid (none_is h)
  have HH := Lib.hid h
  have HC := Lib.hid (cloneM_is (c := c - 1) h2 h3 h4 (fun e => by cases e) (by omega))
  have H1 := Lib.hid h1
  rw [hk] at hc hb hl
  have HK := Lib.hid hk
  have hc0 := hb.cell 0
  simp at hc0
  have h5 : (((k + 2 : Nat) : Int) - 1 == 0) = false := by rw [beq_eq_false_iff_ne]; omega
  have h6 : (1 : Int) ≤ ((k + 2 : Nat) : Int) := by omega
  have h6' : (1 : Int) ≤ (k : Int) + 2 := by omega
  have h7 : (k : Int) + 2 ≤ (c : Int) := by omega
  have h8 : ¬ c = 1 := by omega
  unfold maxLen at hcm
  rw [hk] at HL
  clear h h1 h2 h3 h4 hk
  go_enter Try.func37, Try.ntmps37
  go_wp2_with fail
  refine HN.out.mono ?_
  rintro e w' ⟨rfl, rfl⟩
  go_wp2_with fail
  refine HL.out.mono ?_
  rintro e w' ⟨rfl, rfl⟩
  go_wp2_with fail
  refine HC.out.mono ?_
  rintro e w1 ⟨v', rfl, ho, hK⟩
  rcases id ho with ⟨hvl, ⟨_, hz⟩ | ⟨g', c', cur, rfl, hB', hrow, hfit, hcm', hcs, hcur⟩⟩
  · omega
  replace hrow : Blk w1 g' cur 96 := hrow
  have hb1 := hb.keep hK
  have hgp : g' ≠ p := fun e => by subst e; exact absurd (hrow.ty.inj hb1.ty) (by decide)
  have hsz : Nat.ble (6 + 5) cur.size = true := by rw [hcs]; exact Nat.ble_eq_true_of_le (by omega)
  have hk1 : (0 : Int) < (k : Int) + 1 := by omega
  clear hc0
  go_wp2_with (first | ((with_reducible refine at_st (p := 20) (q := 17) rfl ?_); refine ev_store rfl 77 _ _ rfl rfl hb1 0 rfl rfl [.slice (some ⟨g', 0, none⟩) (k + 1) c'] rfl (by kernel_rfl) rfl rfl _ rfl ?_; intro w2 hb2 ef hz2; have hrow2 := ef.blk hrow hgp; have hc2 := hb2.cell 0; simp [putA, putL] at hc2) | ((with_reducible refine at_st (p := 28) (q := 26) rfl ?_); refine ev_store rfl 52 _ _ rfl rfl hrow2 6 rfl rfl [.bool false, .slice none 0 0, .slice none 0 0, .int .i64 0, .int .i64 0] rfl (by kernel_rfl) rfl hsz _ rfl ?_; intro w3 hrow3 ef3 hz3))
  go_ret
  have hpi : ∀ k, k = p → ¬ Ty w1 k 3 := by rintro _ rfl e; exact absurd (e.inj hb1.ty) (by decide)
  have hpi3 : ∀ k, k = g' → ¬ Ty w2 k 3 := by rintro _ rfl e; exact absurd (e.inj hrow2.ty) (by decide)
  have hef : Eff (fun k => k = p) W w3 := ((Eff.of (P := fun k => k = p) hK).trans ef (fun _ _ h => h)).trans ef3 (fun b hb e => by subst e; exact absurd hb (by have := (row_ty ho b rfl).2; omega))
  have hpm1 := HH.out.keep hK
  obtain ⟨m0, ml, hml⟩ : ∃ m0 ml, ms.drop 1 = m0 :: ml := by
    cases hq : ms.drop 1 with
    | nil => have := congrArg List.length hq; simp at this; have := HK.out; omega
    | cons a l => exact ⟨a, l, rfl⟩
  have hlen : (m0 :: ml).length = k + 1 := by rw [← hml, List.length_drop, HK.out]; rfl
  have hok : ∀ m ∈ m0 :: ml, MkOk m := fun m hm => HH.out.ok m (by rw [← hml] at hm; exact List.mem_of_mem_drop hm)
  have H2 := H1.out
  rw [hml] at H2 ⊢
  cases vs with
  | nil => exact absurd H2 (by simp [All2])
  | cons cs0 vt =>
  obtain ⟨aX, cX, aP, cP, aH, cH, aR', cR', rfl, q1, q2, q3, q4⟩ := H2.1
  obtain ⟨aA2, cA2, aQ2, cQ2, aR2, cR2, n1, n2⟩ := hpm1.ex
  have hbe : #[Value.slice (some { block := g, off := 0 }) (k + 2) c, Value.int IntKind.i64 M.n, Value.slice aA M.A.length cA, Value.slice aQ M.Q.length cQ, Value.int IntKind.i64 M.tick, Value.int IntKind.i64 M.gate, Value.int IntKind.i64 M.rmin, Value.slice aR M.rows.length cR] = #[Value.slice (some { block := g, off := 0 }) ms.length c, Value.int IntKind.i64 M.n, Value.slice aA2 M.A.length cA2, Value.slice aQ2 M.Q.length cQ2, Value.int IntKind.i64 M.tick, Value.int IntKind.i64 M.gate, Value.int IntKind.i64 M.rmin, Value.slice aR2 M.rows.length cR2] := by
    have := hb1.symm.trans n1
    injection this with this
    injection this
  simp at hbe
  obtain ⟨_, ⟨rfl, rfl⟩, ⟨rfl, rfl⟩, rfl, rfl⟩ := hbe
  have kl : ∀ {a : Option Addr} {c : Nat} {zs : List Int}, LI B W a c zs → LI B w3 a c zs := fun h => ((h.keep hK).eff ef hpi).eff ef3 hpi3
  have hgrow : Ty w2 g' 96 := hrow2.ty
  refine ⟨.slice (some ⟨g', 0, none⟩) (k + 1) c', rfl, ⟨⟨_, _, _, _, _, _, ef3.blk hb2 (Ne.symm hgp), (n2.eff ef ?_).eff ef3 ?_⟩, ⟨_ :: vt, ⟨⟨aX, cX, aP, cP, none, 0, none, 0, rfl, kl q1, kl q2, LI.nil _ _, LI.nil _ _⟩, (H2.2.imp fun _ _ h => ((h.keep hK).eff ef hpi).eff ef3 hpi3)⟩, ?_⟩, HH.out.lo, by simp [dropL], ?_, ?_, HH.out.mr⟩, hef, fun r hr => ?_⟩
  · rintro k rfl
    exact ⟨fun e => absurd (e.inj hb1.ty) (by decide), fun e => absurd (e.inj hb1.ty) (by decide)⟩
  · rintro k rfl
    exact ⟨fun e => absurd (e.inj hgrow) (by decide), fun e => absurd (e.inj hgrow) (by decide)⟩
  · have hl2 : (dropL (m0 :: ml)).length = k + 1 := hlen
    rw [hl2]
    refine ⟨?_, .inr ⟨g', c', _, rfl, Nat.le_trans hB hB', hrow3, hfit, hcm', by rw [← hcs]; unfold putA; simp [putL_len], ?_⟩⟩
    · have := hvl; simp at this ⊢; exact this
    · unfold putA
      rw [List.toList_toArray, putL_take, hcur]
      simp [putL, base0, trc0, putL_nil]
  · exact hlen ▸ (by omega)
  · intro m hm
    simp only [dropL, List.mem_cons] at hm
    rcases hm with rfl | hm
    · have := hok m0 (List.mem_cons_self ..)
      exact ⟨this.t, this.pass, this.fail, i64_lit rfl, i64_lit rfl, this.x, this.p, by simp [base0, trc0], by simp [base0, trc0]⟩
    · exact hok m (List.mem_cons_of_mem _ hm)
  · cases hr
    exact (row_ty ho g' rfl).2

end Go.Proofs.Ytagakcnhhhlolaa.Base
