/- sync.Clock.Add of a full window. -/
import Derived.Test.YtfjdooloikofoaaSyncB
namespace Go.Proofs.Ytfjdooloikofoaa.SyncA
open Go.RowKit Go.Proofs.Ytfjdooloikofoaa.StampA
set_option linter.unusedVariables false

theorem clk_put2 {V : World} {b : Nat} {win f m : Int} {g : Nat → Sw} (h : Clk V b win f m g) (f' m' : Int) :
    Clk ((V.setCell ⟨b, 129, none⟩ (.int .i64 f')).setCell ⟨b, 130, none⟩ (.int .i64 m')) b win f' m' g := by
  refine ⟨by simpa using h.lt, ?_, ?_, ?_, fun j hj => ?_, fun j hj => ?_, fun j hj => ?_, fun j hj => ?_, fun o => ?_⟩
  · rw [sc_ne _ _ _ _ _ (by omega), sc_ne _ _ _ _ _ (by omega)]; exact h.c0
  · rw [sc_ne _ _ _ _ _ (by omega), sc_eq _ h.cf]
  · refine sc_eq (u := .int .i64 m) _ ?_
    rw [sc_ne _ _ _ _ _ (by omega)]; exact h.cm
  · rw [sc_ne _ _ _ _ _ (by omega), sc_ne _ _ _ _ _ (by omega)]; exact h.r1 j hj
  · rw [sc_ne _ _ _ _ _ (by omega), sc_ne _ _ _ _ _ (by omega)]; exact h.r2 j hj
  · rw [sc_ne _ _ _ _ _ (by omega), sc_ne _ _ _ _ _ (by omega)]; exact h.r3 j hj
  · rw [sc_ne _ _ _ _ _ (by omega), sc_ne _ _ _ _ _ (by omega)]; exact h.r4 j hj
  · rw [World.frozen?_setCell, World.frozen?_setCell]; exact h.fz o

theorem sc_far (V : World) (b c o : Nat) (f' m' : Int) (hne : b ≠ c) :
    (((V.setCell ⟨b, 129, none⟩ (.int .i64 f')).setCell ⟨b, 130, none⟩ (.int .i64 m')).drew).cell? ⟨c, o, none⟩ = V.cell? ⟨c, o, none⟩ := by
  rw [World.cell?_drew, World.cell?_setCell_other _ _ _ _ (fun e => hne (by injection e)), World.cell?_setCell_other _ _ _ _ (fun e => hne (by injection e))]

theorem add_full (b : Nat) (w : World) (win f m : Int) (g : Nat → Sw) (x : Sw) (hw : 1 ≤ win) (hw2 : win ≤ 32) (hf : 0 ≤ f) (hf2 : f < win) (ht : Tm x) (h1 : x.t1 ≤ x.t4) (h2 : x.t2 ≤ x.t3) (h3 : 0 ≤ rnd x) (h : Clk w b win f win g) :
    Calls Try.prog 27 #[.pointer (some ⟨b, 0, none⟩), x.val] w fun e w' => e = .returned (.int .i64 0) ∧ ClkAdd w w' b win g ((f + 1) % win) (win - 1) x := by
  obtain ⟨x1, x2, x3, x4⟩ := x
  obtain ⟨⟨a1, a2⟩, ⟨b1, b2⟩, ⟨c1, c2⟩, ⟨d1, d2⟩⟩ := ht
  dsimp only at *
  have h0 := h.c0
  have hcf := h.cf
  have hcm := h.cm
  have hlt := h.lt
  have hfz := h.fz
  have HC := Lib.hid h
  clear h
  have hf1 : 0 ≤ (f + 1) % win ∧ (f + 1) % win < win := ⟨Int.emod_nonneg _ (by omega), Int.emod_lt_of_pos _ (by omega)⟩
  have hidx : 0 ≤ ((f + 1) % win + (win - 1)) % win ∧ ((f + 1) % win + (win - 1)) % win < 32 := ⟨Int.emod_nonneg _ (by omega), Int.lt_of_lt_of_le (Int.emod_lt_of_pos _ (by omega)) hw2⟩
  have hne : (win == win) = true := by simp
  have h3' : 0 ≤ x4 - x1 - (x3 - x2) := h3
  unfold Sw.val
  go_enter Try.func27, Try.ntmps27
  go_wp2_with (go_at_call 47; refine (none_clk _ _ _ hw (cell_alloc h0)).mono ?_; rintro e w' ⟨rfl, rfl⟩)
  go_rounds 5
  obtain ⟨W, hW⟩ : ∃ W : World, ((w.alloc (Obj.cells #[Value.int IntKind.i64 x1, Value.int IntKind.i64 x2, Value.int IntKind.i64 x3, Value.int IntKind.i64 x4] 48)).alloc
      (Obj.cells #[Value.int IntKind.i64 x1, Value.int IntKind.i64 x2, Value.int IntKind.i64 x3, Value.int IntKind.i64 x4] 3)).alloc
      (Obj.cells #[Value.int IntKind.i64 x1, Value.int IntKind.i64 x2, Value.int IntKind.i64 x3, Value.int IntKind.i64 x4] 48) = W := ⟨_, rfl⟩
  have hB : Below w.heap.size w W := by rw [← hW]; exact (((Below.refl _ _).alloc (Nat.le_refl _) _).alloc (by simp) _).alloc (by simp; omega) _
  have hbox : ∀ i v, #[Value.int IntKind.i64 x1, Value.int IntKind.i64 x2, Value.int IntKind.i64 x3, Value.int IntKind.i64 x4][i]? = some v → W.cell? ⟨w.heap.size, i, none⟩ = some v := by
    intro i v hv
    rw [← hW]
    exact cell_alloc (cell_alloc ((World.cell?_alloc_new _ _ _ _).trans hv))
  have e1 := hbox 0 _ rfl
  have e2 := hbox 1 _ rfl
  have e3 := hbox 2 _ rfl
  have e4 := hbox 3 _ rfl
  have k0 := (hB.cell (p := ⟨b, 0, none⟩) hlt).trans h0
  have kf := (hB.cell (p := ⟨b, 129, none⟩) hlt).trans hcf
  have km := (hB.cell (p := ⟨b, 130, none⟩) hlt).trans hcm
  have kz : ∀ o, W.frozen? ⟨b, o, none⟩ = false := fun o => (hB.frozen (p := ⟨b, o, none⟩) hlt).trans (hfz o)
  have HB := Lib.hid hB
  have hsz := hB.size
  rw [hW]
  clear hW hbox hB h0 hcf hcm hfz
  go_quiet (fail)
  go_wp2
  have HN := Lib.hid ((HB.out).trans (below_drewN (Below.refl w.heap.size W) nq))
  have e1 := (show (W.drewN nq).cell? _ = _ from e1)
  have e2 := (show (W.drewN nq).cell? _ = _ from e2)
  have e3 := (show (W.drewN nq).cell? _ = _ from e3)
  have e4 := (show (W.drewN nq).cell? _ = _ from e4)
  have k0 := (show (W.drewN nq).cell? _ = _ from k0)
  have kf := (show (W.drewN nq).cell? _ = _ from kf)
  have km := (show (W.drewN nq).cell? _ = _ from km)
  have kz : ∀ o, (W.drewN nq).frozen? ⟨b, o, none⟩ = false := kz
  have hsz : w.heap.size ≤ (W.drewN nq).heap.size := hsz
  clear HB
  generalize W.drewN nq = V at *
  have HV := Lib.hid (HC.out.below HN.out)
  go_region
  go_wp2
  have HV2 := (clk_put2 HV.out ((f + 1) % win) (win - 1)).drew
  have HN2 := (((But.of_below HN.out hlt).setCell 129 (.int .i64 ((f + 1) % win))).setCell 130 (.int .i64 (win - 1))).drew
  have l1 := (sc_far V b w.heap.size 0 ((f + 1) % win) (win - 1) (by omega)).trans e1
  have l2 := (sc_far V b w.heap.size 1 ((f + 1) % win) (win - 1) (by omega)).trans e2
  have l3 := (sc_far V b w.heap.size 2 ((f + 1) % win) (win - 1) (by omega)).trans e3
  have l4 := (sc_far V b w.heap.size 3 ((f + 1) % win) (win - 1) (by omega)).trans e4
  generalize ((V.setCell { block := b, off := 129 } (Value.int IntKind.i64 ((f + 1) % win))).setCell { block := b, off := 130 } (Value.int IntKind.i64 (win - 1))).drew = V2 at *
  generalize hfe : (f + 1) % win = f2 at *
  have HFE := Lib.hid hfe
  clear hfe
  clear e1 e2 e3 e4 kf km kz k0 HV HN
  obtain ⟨k, hk⟩ : ∃ k : Nat, (f2 + (win - 1)) % win = k := ⟨((f2 + (win - 1)) % win).toNat, by omega⟩
  have hk32 : k < 32 := by omega
  have k0 := HV2.c0
  have kf := HV2.cf
  have km := HV2.cm
  have kz := HV2.fz
  have q1 := HV2.r1 k hk32
  have q2 := HV2.r2 k hk32
  have q3 := HV2.r3 k hk32
  have q4 := HV2.r4 k hk32
  have HV := Lib.hid HV2
  clear HV2
  have hf2' : 0 ≤ f2 + (win - 1) ∧ f2 + (win - 1) < 64 := by omega
  clear hidx
  have HK := Lib.hid hk
  go_region
  go_wp2
  go_ret
  refine ⟨rfl, ?_, ?_⟩
  · rw [HFE.out, HK.out, show win - 1 + 1 = win by omega]; exact (clk_put HV.out k hk32 ⟨x1, x2, x3, x4⟩ win).drew
  · exact (((((HN2.setCell _ _).setCell _ _).setCell _ _).setCell _ _).setCell _ _).drew

end Go.Proofs.Ytfjdooloikofoaa.SyncA
