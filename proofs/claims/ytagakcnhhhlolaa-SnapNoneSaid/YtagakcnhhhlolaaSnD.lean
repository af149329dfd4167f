/- snap: Cut, Drop. No conditions. -/
import Derived.Test.YtagakcnhhhlolaaSnC
namespace Go.Proofs.Ytagakcnhhhlolaa.Base
open Go.RowKit
set_option linter.unusedVariables false
set_option linter.unusedSimpArgs false

theorem OM.eff {P : Nat → Prop} {B : Nat} {W W' : World} {v : Value} {M : Mdl} (h : OM B W v M) (he : Eff P W W') (hp : ∀ k, P k → ¬ Ty W k 3 ∧ ¬ Ty W k 41) : OM B W' v M := by
  obtain ⟨aA, cA, aQ, cQ, aR, cR, hv, g1, g2, g3⟩ := h.ex
  have h1 : ∀ k, P k → ¬ Ty W k 3 := fun k hk => (hp k hk).1
  refine ⟨⟨aA, cA, aQ, cQ, aR, cR, hv, g1.eff he h1, g2.eff he h1, ?_⟩, h.n, h.tick, h.gate, h.rmin⟩
  obtain ⟨vs, k1, k2⟩ := g3.ex
  refine ⟨⟨vs, ownsRow_eff k1 he (fun k hk hpk => (hp k hpk).2 (row_ty k1 k hk).1), fun k hk => ?_⟩, g3.rng⟩
  obtain ⟨a, c, e0, e1, e2, e3⟩ := (k2 k hk).ex
  exact ⟨a, c, e0, e1, e2, e3.eff he h1⟩
theorem PM.eff {P : Nat → Prop} {B : Nat} {W W' : World} {p : Nat} {v : Value} {M : Mdl} {ms : List Mrk} (h : PM B W p v M ms) (he : Eff P W W') (hp : ∀ k, P k → k ≠ p ∧ v.ownBlock ≠ some k ∧ ¬ Ty W k 3 ∧ ¬ Ty W k 41) : PM B W' p v M ms := by
  obtain ⟨aA, cA, aQ, cQ, aR, cR, h1, h2⟩ := h.ex
  exact ⟨⟨aA, cA, aQ, cQ, aR, cR, he.blk h1 (fun e => (hp _ e).1 rfl), h2.eff he fun k hk => (hp k hk).2.2⟩, h.rows.eff he (fun k hk => (hp k hk).2.2.1) (fun k hk e => (hp k e).2.1 hk), h.lo, h.ne, h.len, h.ok, h.mr⟩
/-- The cells of a row of marks, from the k-th on. -/
theorem RK.part {B : Nat} {W : World} {g c : Nat} {ms : List Mrk} (h : RK B W (.slice (some ⟨g, 0, none⟩) ms.length c) ms) (i n : Nat) (hn : i + n ≤ ms.length) : ∃ vs : List (List Value), All2 (KV B W) vs ((ms.drop i).take n) ∧ vs.flatten.length = n * 11 ∧ Rd W (some ⟨g, i * 11, none⟩) vs.flatten ∧ ∀ u ∈ vs.flatten, u.oneCell' = true := by
  obtain ⟨vs, h1, h2⟩ := h
  have h3 := (h1.drop i).take n
  refine ⟨(vs.drop i).take n, h3, ?_, ?_, all2_one h3⟩
  · rw [flat_len (all2_len h3), h3.len]
    rw [List.length_take, List.length_drop, show min n (ms.length - i) = n by omega]
  · have := row_rd h2 (i * 11) (n * 11)
    rw [flat_drop i (all2_len h1), flat_take n (all2_len (h1.drop i))] at this
    exact this
/-- The box of a memory, its marks set. -/
theorem PM.set {B : Nat} {W W' : World} {p : Nat} {v v' : Value} {M : Mdl} {ms ms' : List Mrk} (h : PM B W p v M ms) (he : Eff (fun k => k = p) W W') (hb : ∀ c1 c2 c3 c4 c5 c6 c7 c0, Blk W p #[c0, c1, c2, c3, c4, c5, c6, c7] 81 → Blk W' p #[v', c1, c2, c3, c4, c5, c6, c7] 81) (hr : RK B W' v' ms') (hn : ms' ≠ []) (hl : ms'.length ≤ 1000) (ok : ∀ m ∈ ms', MkOk m) : PM B W' p v' M ms' := by
  obtain ⟨aA, cA, aQ, cQ, aR, cR, h1, h2⟩ := h.ex
  refine ⟨⟨aA, cA, aQ, cQ, aR, cR, hb _ _ _ _ _ _ _ _ h1, h2.eff he ?_⟩, hr, h.lo, hn, hl, ok, h.mr⟩
  rintro k rfl
  exact ⟨fun e => absurd (e.inj h1.ty) (by decide), fun e => absurd (e.inj h1.ty) (by decide)⟩

def CutOk (B : Nat) (W : World) (p : Nat) (M : Mdl) (ms : List Mrk) (e : Ending) (w' : World) : Prop :=
  ∃ v', e = .returned (.int .i64 0) ∧ PM B w' p v' M ms ∧ Eff (fun k => k = p) W w' ∧ ∀ r, v'.ownBlock = some r → W.heap.size ≤ r
set_option maxHeartbeats 4000000 in
theorem cut_ok {B : Nat} {W : World} {p : Nat} {v : Value} {M : Mdl} {ms : List Mrk} (h : PM B W p v M ms) (hB : B ≤ W.heap.size) (k : Nat) (hk : k < ms.length) : Calls Try.prog 39 #[.pointer (some ⟨p, 0, none⟩), .int .i64 k] W (CutOk B W p M (ms.take (k + 1))) := by
  obtain ⟨g, c, aA, cA, aQ, cQ, aR, cR, rfl, hc, hcm, hg, hb, hM⟩ := h.box
  obtain ⟨vs, h1, h2, h3, h4⟩ := h.rows.part 0 (k + 1) (by omega)
  rw [List.drop_zero] at h1
  rw [Nat.zero_mul] at h3
  have hl := h.len
  have HL := Lib.hid (mlen_is h)
  have HN := Lib.hid (none_is h)
  have HH := Lib.hid h
  have HC := Lib.hid (cloneM_is (c := c) h2 h3 h4 (fun e => by cases e) (by omega))
  have H1 := Lib.hid h1
  have HK := Lib.hid hk
  have hc0 := hb.cell 0
  simp at hc0
  have h5 : ¬ (k : Int) < 0 := by omega
  have h6 : ¬ (ms.length : Int) - 1 < (k : Int) := by omega
  have h7 : IntKind.i64.wrap ((k : Int) + 1) = (k : Int) + 1 := IntWalk.i64_in _ (by omega)
  have h8 : (0 : Int) ≤ (k : Int) + 1 := by omega
  have h9 : (k : Int) + 1 ≤ (c : Int) := by omega
  unfold maxLen at hcm
  have hlt := hb.lt
  clear h h1 h2 h3 h4 hk
  go_enter Try.func39, Try.ntmps39
  go_wp2_with fail
  refine HN.out.mono ?_
  rintro e w' ⟨rfl, rfl⟩
  go_wp2_with fail
  refine HL.out.mono ?_
  rintro e w' ⟨rfl, rfl⟩
  go_wp2_with fail
  refine HC.out.mono ?_
  rintro e w1 ⟨v', rfl, ho, hK⟩
  obtain ⟨g', c', rfl⟩ := Joins.ownsRow_form ho (by omega)
  have hb1 := hb.keep hK
  clear hc0
  go_wp2_with ((with_reducible refine at_st (p := 29) (q := 26) rfl ?_); refine ev_store rfl 77 _ _ rfl rfl hb1 0 rfl rfl [.slice (some ⟨g', 0, none⟩) (k + 1) c'] rfl (by kernel_rfl) rfl rfl _ rfl ?_; intro w2 hb2 ef hz)
  go_ret
  have hg' : Ty w1 g' 96 ∧ W.heap.size ≤ g' := row_ty ho g' rfl
  have hpi : ∀ k, k = p → ¬ Ty w1 k 3 := by rintro _ rfl e; exact absurd (e.inj hb1.ty) (by decide)
  have hln : (ms.take (k + 1)).length = k + 1 := by rw [List.length_take]; have := HK.out; omega
  refine ⟨.slice (some ⟨g', 0, none⟩) (k + 1) c', rfl, PM.set (HH.out.keep hK) ef (fun c1 c2 c3 c4 c5 c6 c7 c0 hq => ?_) ⟨vs, (H1.out.imp fun _ _ h => (h.keep hK).eff ef hpi), ?_⟩ ?_ ?_ ?_, (Eff.of hK).trans ef (fun _ _ h => h), fun r hr => ?_⟩
  · obtain ⟨_, e⟩ : True ∧ _ := ⟨trivial, hq.symm.trans hb1⟩
    injection e with e
    injection e with e
    simp at e
    obtain ⟨_, rfl, rfl, rfl, rfl, rfl, rfl, rfl⟩ := e
    exact hb2
  · rw [hln]
    refine ownsRow_eff (ownsRow_mono ho hB) ef (fun k hk e => ?_)
    subst e
    cases hk
    exact absurd (hg'.1.inj hb1.ty) (by decide)
  · intro e; rw [e] at hln; simp at hln
  · omega
  · intro m hm; exact HH.out.ok m (List.mem_of_mem_take hm)
  · cases hr; exact hg'.2

end Go.Proofs.Ytagakcnhhhlolaa.Base
