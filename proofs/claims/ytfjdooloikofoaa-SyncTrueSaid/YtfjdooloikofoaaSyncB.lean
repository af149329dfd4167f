/- more contracts of sync.Clock. -/
import Derived.Test.YtfjdooloikofoaaSyncA
import Derived.Handy
import Derived.WalkSmall
namespace Go.Proofs.Ytfjdooloikofoaa.SyncA
open Go.RowKit Go.Proofs.Ytfjdooloikofoaa.StampA
set_option linter.unusedVariables false

def zc : Array Value := (List.replicate 131 (Value.int .i64 0)).toArray
theorem zc_ne : (zc = #[]) = False := by
  apply eq_false
  intro h
  have := congrArg Array.size h
  simp [zc] at this
theorem zc_size : zc.size = 131 := by simp [zc]
theorem rep_get (n o : Nat) (v : Value) (h : o < n) : (List.replicate n v).toArray[o]? = some v := by simp [h]
theorem zc_get (o : Nat) (h : o < 131) : zc[o]? = some (.int .i64 0) := rep_get 131 o _ h
theorem cell_alloc {w : World} {o : Obj} {b off : Nat} {v : Value} (h : w.cell? ⟨b, off, none⟩ = some v) : (w.alloc o).cell? ⟨b, off, none⟩ = some v := by
  exact (World.cell?_alloc_lt w o ⟨b, off, none⟩ (World.block_lt_of_cell? w _ h)).trans h
theorem frozen_alloc {w : World} {o : Obj} {b off : Nat} (hb : b < w.heap.size) (h : w.frozen? ⟨b, off, none⟩ = false) : (w.alloc o).frozen? ⟨b, off, none⟩ = false :=
  (World.frozen?_alloc_old w o ⟨b, off, none⟩ (Nat.ne_of_lt hb)).trans h

theorem new_good (win : Int) (w : World) (hw : 1 ≤ win) (hw2 : win ≤ 32) :
    Calls Try.prog 30 #[.int .i64 win] w fun e w' => ∃ b, e = .returned (.tuple #[.pointer (some ⟨b, 0, none⟩), .int .i64 0]) ∧ w.heap.size ≤ b ∧ Clk w' b win 0 0 (fun _ => ⟨0, 0, 0, 0⟩) ∧ Below w.heap.size w w' := by
  have hzv : ∀ w, Sem.run Try.prog (zeroValue 62) w = .ok (.agg zc) w := fun _ => by kernel_rfl
  have hzn := zc_ne
  go_enter Try.func30, Try.ntmps30
  go_wp2
  go_ret2
  have hcell : ∀ o, 1 ≤ o → o < 131 → (w.alloc (.cells (zc.setIfInBounds 0 (.int .i64 win)) 62)).cell? ⟨w.heap.size, o, none⟩ = some (.int .i64 0) := by
    intro o h1 h2
    rw [World.cell?_alloc_new, Array.getElem?_setIfInBounds, if_neg (by omega), zc_get o h2]
  refine ⟨_, rfl, Nat.le_refl _, ⟨by simp, ?_, hcell _ (by omega) (by omega), hcell _ (by omega) (by omega), fun j hj => hcell _ (by omega) (by omega), fun j hj => hcell _ (by omega) (by omega), fun j hj => hcell _ (by omega) (by omega), fun j hj => hcell _ (by omega) (by omega), fun o => ?_⟩, (Below.refl _ _).alloc (Nat.le_refl _) _⟩
  · rw [World.cell?_alloc_new, Array.getElem?_setIfInBounds, if_pos rfl, zc_size]; rfl
  · exact World.frozen?_alloc_new _ _ _ _

theorem Clk.below {w w' : World} {b : Nat} {win f m : Int} {g : Nat → Sw} (h : Clk w b win f m g) (hb : Below w.heap.size w w') : Clk w' b win f m g :=
  have c : ∀ o v, w.cell? ⟨b, o, none⟩ = some v → w'.cell? ⟨b, o, none⟩ = some v := fun o v hv => (hb.cell (p := ⟨b, o, none⟩) h.lt).trans hv
  ⟨Nat.lt_of_lt_of_le h.lt hb.size, c _ _ h.c0, c _ _ h.cf, c _ _ h.cm, fun j hj => c _ _ (h.r1 j hj), fun j hj => c _ _ (h.r2 j hj), fun j hj => c _ _ (h.r3 j hj), fun j hj => c _ _ (h.r4 j hj), fun o => (hb.frozen (p := ⟨b, o, none⟩) h.lt).trans (h.fz o)⟩

structure ClkAdd (w w' : World) (b : Nat) (win : Int) (g : Nat → Sw) (f m : Int) (x : Sw) : Prop where
  clk : Clk w' b win f (m + 1) (fun j => if (j : Int) = (f + m) % win then x else g j)
  but : But b w w'

theorem But.of_below {b : Nat} {w w' : World} (h : Below w.heap.size w w') (_ : b < w.heap.size) : But b w w' := ⟨h.os, h.tape, h.output, h.size, fun k hk _ => h.block k hk⟩

theorem Clk.drew {w : World} {b : Nat} {win f m : Int} {g : Nat → Sw} (h : Clk w b win f m g) : Clk w.drew b win f m g :=
  ⟨h.lt, h.c0, h.cf, h.cm, h.r1, h.r2, h.r3, h.r4, h.fz⟩

theorem sc_ne (w : World) (b o o' : Nat) (v : Value) (h : o ≠ o') : (w.setCell ⟨b, o, none⟩ v).cell? ⟨b, o', none⟩ = w.cell? ⟨b, o', none⟩ :=
  World.cell?_setCell_other w ⟨b, o, none⟩ ⟨b, o', none⟩ v (fun e => h (by injection e))
theorem sc_eq {w : World} {b o : Nat} {u : Value} (v : Value) (h : w.cell? ⟨b, o, none⟩ = some u) : (w.setCell ⟨b, o, none⟩ v).cell? ⟨b, o, none⟩ = some v :=
  World.cell?_setCell_same w ⟨b, o, none⟩ v h

theorem clk_put {V : World} {b : Nat} {win f m : Int} {g : Nat → Sw} (h : Clk V b win f m g) (k : Nat) (hk : k < 32) (x : Sw) (m' : Int) :
    Clk (((((V.setCell ⟨b, 1 + k * 4, none⟩ (.int .i64 x.t1)).setCell ⟨b, 1 + k * 4 + 1, none⟩ (.int .i64 x.t2)).setCell ⟨b, 1 + k * 4 + 2, none⟩ (.int .i64 x.t3)).setCell ⟨b, 1 + k * 4 + 3, none⟩ (.int .i64 x.t4)).setCell ⟨b, 130, none⟩ (.int .i64 m'))
      b win f m' (fun j => if (j : Int) = (k : Int) then x else g j) := by
  have q1 := h.r1 k hk
  have q2 := h.r2 k hk
  have q3 := h.r3 k hk
  have q4 := h.r4 k hk
  refine ⟨by simpa using h.lt, ?_, ?_, ?_, fun j hj => ?_, fun j hj => ?_, fun j hj => ?_, fun j hj => ?_, fun o => ?_⟩
  · rw [sc_ne _ _ _ _ _ (by omega), sc_ne _ _ _ _ _ (by omega), sc_ne _ _ _ _ _ (by omega), sc_ne _ _ _ _ _ (by omega), sc_ne _ _ _ _ _ (by omega)]; exact h.c0
  · rw [sc_ne _ _ _ _ _ (by omega), sc_ne _ _ _ _ _ (by omega), sc_ne _ _ _ _ _ (by omega), sc_ne _ _ _ _ _ (by omega), sc_ne _ _ _ _ _ (by omega)]; exact h.cf
  · refine sc_eq (u := .int .i64 m) _ ?_
    rw [sc_ne _ _ _ _ _ (by omega), sc_ne _ _ _ _ _ (by omega), sc_ne _ _ _ _ _ (by omega), sc_ne _ _ _ _ _ (by omega)]; exact h.cm
  · by_cases e : j = k
    · subst e
      rw [sc_ne _ _ _ _ _ (by omega), sc_ne _ _ _ _ _ (by omega), sc_ne _ _ _ _ _ (by omega), sc_ne _ _ _ _ _ (by omega), sc_eq _ q1, if_pos rfl]
    · rw [sc_ne _ _ _ _ _ (by omega), sc_ne _ _ _ _ _ (by omega), sc_ne _ _ _ _ _ (by omega), sc_ne _ _ _ _ _ (by omega), sc_ne _ _ _ _ _ (by omega), if_neg (by omega)]; exact h.r1 j hj
  · by_cases e : j = k
    · subst e
      rw [sc_ne _ _ _ _ _ (by omega), sc_ne _ _ _ _ _ (by omega), sc_ne _ _ _ _ _ (by omega), sc_eq (u := .int .i64 (g j).t2) _ (by rw [sc_ne _ _ _ _ _ (by omega)]; exact q2), if_pos rfl]
    · rw [sc_ne _ _ _ _ _ (by omega), sc_ne _ _ _ _ _ (by omega), sc_ne _ _ _ _ _ (by omega), sc_ne _ _ _ _ _ (by omega), sc_ne _ _ _ _ _ (by omega), if_neg (by omega)]; exact h.r2 j hj
  · by_cases e : j = k
    · subst e
      rw [sc_ne _ _ _ _ _ (by omega), sc_ne _ _ _ _ _ (by omega), sc_eq (u := .int .i64 (g j).t3) _ (by rw [sc_ne _ _ _ _ _ (by omega), sc_ne _ _ _ _ _ (by omega)]; exact q3), if_pos rfl]
    · rw [sc_ne _ _ _ _ _ (by omega), sc_ne _ _ _ _ _ (by omega), sc_ne _ _ _ _ _ (by omega), sc_ne _ _ _ _ _ (by omega), sc_ne _ _ _ _ _ (by omega), if_neg (by omega)]; exact h.r3 j hj
  · by_cases e : j = k
    · subst e
      rw [sc_ne _ _ _ _ _ (by omega), sc_eq (u := .int .i64 (g j).t4) _ (by rw [sc_ne _ _ _ _ _ (by omega), sc_ne _ _ _ _ _ (by omega), sc_ne _ _ _ _ _ (by omega)]; exact q4), if_pos rfl]
    · rw [sc_ne _ _ _ _ _ (by omega), sc_ne _ _ _ _ _ (by omega), sc_ne _ _ _ _ _ (by omega), sc_ne _ _ _ _ _ (by omega), sc_ne _ _ _ _ _ (by omega), if_neg (by omega)]; exact h.r4 j hj
  · rw [World.frozen?_setCell, World.frozen?_setCell, World.frozen?_setCell, World.frozen?_setCell, World.frozen?_setCell]; exact h.fz o

theorem add_part (b : Nat) (w : World) (win f m : Int) (g : Nat → Sw) (x : Sw) (hw : 1 ≤ win) (hw2 : win ≤ 32) (hf : 0 ≤ f) (hf2 : f < win) (hm : 0 ≤ m) (hm2 : m < win) (ht : Tm x) (h1 : x.t1 ≤ x.t4) (h2 : x.t2 ≤ x.t3) (h3 : 0 ≤ rnd x) (h : Clk w b win f m g) :
    Calls Try.prog 27 #[.pointer (some ⟨b, 0, none⟩), x.val] w fun e w' => e = .returned (.int .i64 0) ∧ ClkAdd w w' b win g f m x := by
  obtain ⟨x1, x2, x3, x4⟩ := x
  obtain ⟨⟨a1, a2⟩, ⟨b1, b2⟩, ⟨c1, c2⟩, ⟨d1, d2⟩⟩ := ht
  dsimp only at *
  have h0 := h.c0
  have hcf := h.cf
  have hcm := h.cm
  have hlt := h.lt
  have hfz := h.fz
  have HC := Lib.hid h
  clear h
  have hfm : 0 ≤ f + m ∧ f + m < 64 := by omega
  have hidx : 0 ≤ (f + m) % win ∧ (f + m) % win < 32 := ⟨Int.emod_nonneg _ (by omega), Int.lt_of_lt_of_le (Int.emod_lt_of_pos _ (by omega)) hw2⟩
  have hne : (m == win) = false := by simp; omega
  have h3' : 0 ≤ x4 - x1 - (x3 - x2) := h3
  unfold Sw.val
  go_enter Try.func27, Try.ntmps27
  go_wp2_with (go_at_call 47; refine (none_clk _ _ _ hw (cell_alloc h0)).mono ?_; rintro e w' ⟨rfl, rfl⟩)
  go_rounds 5
  obtain ⟨W, hW⟩ : ∃ W : World, ((w.alloc (Obj.cells #[Value.int IntKind.i64 x1, Value.int IntKind.i64 x2, Value.int IntKind.i64 x3, Value.int IntKind.i64 x4] 48)).alloc
      (Obj.cells #[Value.int IntKind.i64 x1, Value.int IntKind.i64 x2, Value.int IntKind.i64 x3, Value.int IntKind.i64 x4] 3)).alloc
      (Obj.cells #[Value.int IntKind.i64 x1, Value.int IntKind.i64 x2, Value.int IntKind.i64 x3, Value.int IntKind.i64 x4] 48) = W := ⟨_, rfl⟩
  have hB : Below w.heap.size w W := by rw [← hW]; exact (((Below.refl _ _).alloc (Nat.le_refl _) _).alloc (by simp) _).alloc (by simp; omega) _
  have hbox : ∀ i v, #[Value.int IntKind.i64 x1, Value.int IntKind.i64 x2, Value.int IntKind.i64 x3, Value.int IntKind.i64 x4][i]? = some v → W.cell? ⟨w.heap.size, i, none⟩ = some v := by
    intro i v hv
    rw [← hW]
    exact cell_alloc (cell_alloc ((World.cell?_alloc_new _ _ _ _).trans hv))
  have e1 := hbox 0 _ rfl
  have e2 := hbox 1 _ rfl
  have e3 := hbox 2 _ rfl
  have e4 := hbox 3 _ rfl
  have k0 := (hB.cell (p := ⟨b, 0, none⟩) hlt).trans h0
  have kf := (hB.cell (p := ⟨b, 129, none⟩) hlt).trans hcf
  have km := (hB.cell (p := ⟨b, 130, none⟩) hlt).trans hcm
  have kz : ∀ o, W.frozen? ⟨b, o, none⟩ = false := fun o => (hB.frozen (p := ⟨b, o, none⟩) hlt).trans (hfz o)
  have HB := Lib.hid hB
  have hsz := hB.size
  rw [hW]
  clear hW hbox hB h0 hcf hcm hfz
  go_quiet (fail)
  go_wp2
  have HN := Lib.hid ((HB.out).trans (below_drewN (Below.refl w.heap.size W) nq))
  have e1 := (show (W.drewN nq).cell? _ = _ from e1)
  have e2 := (show (W.drewN nq).cell? _ = _ from e2)
  have e3 := (show (W.drewN nq).cell? _ = _ from e3)
  have e4 := (show (W.drewN nq).cell? _ = _ from e4)
  have k0 := (show (W.drewN nq).cell? _ = _ from k0)
  have kf := (show (W.drewN nq).cell? _ = _ from kf)
  have km := (show (W.drewN nq).cell? _ = _ from km)
  have kz : ∀ o, (W.drewN nq).frozen? ⟨b, o, none⟩ = false := kz
  have hsz : w.heap.size ≤ (W.drewN nq).heap.size := hsz
  clear HB
  generalize W.drewN nq = V at *
  have HV := Lib.hid (HC.out.below HN.out)
  obtain ⟨k, hk⟩ : ∃ k : Nat, (f + m) % win = k := ⟨((f + m) % win).toNat, by omega⟩
  have hk32 : k < 32 := by omega
  have q1 := HV.out.r1 k hk32
  have q2 := HV.out.r2 k hk32
  have q3 := HV.out.r3 k hk32
  have q4 := HV.out.r4 k hk32
  clear hidx
  have HK := Lib.hid hk
  go_region
  go_wp2
  go_ret
  refine ⟨rfl, ?_, ?_⟩
  · rw [HK.out]; exact (clk_put HV.out k hk32 ⟨x1, x2, x3, x4⟩ (m + 1)).drew
  · exact ((((((But.of_below HN.out hlt).setCell _ _).setCell _ _).setCell _ _).setCell _ _).setCell _ _).drew

end Go.Proofs.Ytfjdooloikofoaa.SyncA
