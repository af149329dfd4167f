/- Matrices that come in. Chapter 9, program and reference side by side: what they tell of any input; the law's same, the kit's CopyMat. -/
import Derived.Test.YtkjbidpafnmogaaGreatMatA
import Derived.Test.YtkjbidpafnmogaaGreatRefW
import Derived.Test.YtkjbidpafnmogaaGreatPolM
namespace Go.Proofs.YtkjbidpafnmogaaGreat.Base
open Go.RowKit Go.Joins Go.ChangeShapes Go.WideShapes Go.ChangeAt Go.Deep
set_option linter.unusedVariables false

/-- A matrix value whose list may be read. -/
structure MV (W : World) (v : Value) (m : Mt) : Prop where
  ex : ∃ a k, v = .agg #[.int .i64 m.r, .int .i64 m.c, .slice a m.v.length k] ∧ MI 0 W a k m.v
  r : I64 m.r
  c : I64 m.c
/-- At x there are these matrices, to be read. -/
structure MAt (W : World) (x : Addr) (ms : List Mt) : Prop where
  at_ : ∀ j, (h : j < ms.length) → ∃ a k, (W.cell? (x.add (j * 3)) = some (.int .i64 ms[j].r) ∧ W.cell? ⟨(x.add (j * 3)).block, (x.add (j * 3)).off + 1, none⟩ = some (.int .i64 ms[j].c) ∧
    W.cell? ⟨(x.add (j * 3)).block, (x.add (j * 3)).off + 2, none⟩ = some (.slice a ms[j].v.length k)) ∧ MI 0 W a k ms[j].v
  rng : ∀ m ∈ ms, I64 m.r ∧ I64 m.c
theorem MAt.keep {W W' : World} {x : Addr} {ms : List Mt} (h : MAt W x ms) (hb : Below W.heap.size W W') : MAt W' x ms := by
  have k : ∀ (y : Addr) v, W.cell? y = some v → W'.cell? y = some v := fun y v hv => (hb.cell (World.block_lt_of_cell? W _ hv)).trans hv
  refine ⟨fun j hj => ?_, h.rng⟩
  obtain ⟨a, c, ⟨h1, h2, h3⟩, h4⟩ := h.at_ j hj
  exact ⟨a, c, ⟨k _ _ h1, k _ _ h2, k _ _ h3⟩, h4.keep hb⟩

section
variable {H : Type} {enc : TypeId × Value → H} {P : Program} {w : World} {base : Nat} {spare : Nat → Bool} {held : Bool}
theorem okWide_three {r : Reach} {b0 : Nat} {t : TypeId} {fs : Array Field} {v : Value} (hs : P.underlying t = some (.struct fs)) (hC : P.cellsOf t = 3) (hv : Value.okWide P w r b0 t v) : ∃ v0 v1 v2, v = .agg #[v0, v1, v2] := by
  obtain ⟨cs, rfl, hsz⟩ := okWide_struct hs hv
  rw [hC] at hsz
  obtain ⟨l⟩ := cs
  match l, hsz with
  | [v0, v1, v2], _ => exact ⟨v0, v1, v2, rfl⟩
theorem trod_three {t : TypeId} {f0 f1 f2 : Field} {fuel : Nat} {v0 v1 v2 : Value} {x : DataW H × List MemPlace} (hs : P.underlying t = some (.struct #[f0, f1, f2]))
    (o : f0.offset = 0 ∧ f1.offset = 1 ∧ f2.offset = 2) (c : P.cellsOf f0.type = 1 ∧ P.cellsOf f1.type = 1 ∧ P.cellsOf f2.type = 1)
    (h : DataW.trod enc P w base spare held fuel t [v0, v1, v2] = some x) :
    ∃ (n : Nat) (y0 y1 y2 : DataW H × List MemPlace), DataW.trod enc P w base spare held n f0.type [v0] = some y0 ∧ DataW.trod enc P w base spare held n f1.type [v1] = some y1 ∧ DataW.trod enc P w base spare held n f2.type [v2] = some y2 := by
  obtain ⟨xs, n, _, _, _, hxl, hff⟩ := DataW.trod_struct hs h
  match xs, hxl with
  | [y0, y1, y2], _ =>
    have g0 := hff 0 f0 rfl
    have g1 := hff 1 f1 rfl
    have g2 := hff 2 f2 rfl
    simp [o, c] at g0 g1 g2
    exact ⟨n, y0, y1, y2, g0, g1, g2⟩
theorem open_ms {t e : TypeId} {f0 f1 f2 : Field} {ei : TypeId} {fuel : Nat} {v : Value} {x : DataW H × List MemPlace}
    (ht : P.underlying t = some (.slice e)) (he : P.underlying e = some (.struct #[f0, f1, f2])) (ce : P.cellsOf e = 3)
    (o0 : f0.offset = 0) (o1 : f1.offset = 1) (o2 : f2.offset = 2)
    (u0 : P.underlying f0.type = some (.int .i64)) (u1 : P.underlying f1.type = some (.int .i64)) (u2 : P.underlying f2.type = some (.slice ei)) (ui : P.underlying ei = some (.int .i64))
    (c0 : P.cellsOf f0.type = 1) (c1 : P.cellsOf f1.type = 1) (c2 : P.cellsOf f2.type = 1) (ci : P.cellsOf ei = 1)
    (h : DataW.trod enc P w base spare held fuel t [v] = some x) : ∃ a c ms, v = .slice a ms.length c ∧ (0 < ms.length → ∃ x, a = some x ∧ MAt w x ms) ∧ ms.length ≤ c := by
  rcases open_slice ht h with ⟨hcs, _⟩ | ⟨a, l, c, m, n, D, Pl, hcs, hb, hl, hm, hmm, _, hx⟩
  · simp at hcs
    exact ⟨none, 0, [], by simp [hcs], fun h => absurd h (by simp), Nat.le_refl _⟩
  · simp at hcs
    have hlm : l ≤ m := by rw [hmm]; split <;> omega
    have each : ∀ i, i < l → ∃ q : Mt, (∃ aH cH, (w.cell? (a.add (i * 3)) = some (.int .i64 q.r) ∧ w.cell? ⟨(a.add (i * 3)).block, (a.add (i * 3)).off + 1, none⟩ = some (.int .i64 q.c) ∧ w.cell? ⟨(a.add (i * 3)).block, (a.add (i * 3)).off + 2, none⟩ = some (.slice aH q.v.length cH)) ∧ MI 0 w aH cH q.v) ∧ I64 q.r ∧ I64 q.c := by
      intro i hi
      obtain ⟨cs', h1, h2⟩ := hx i (by omega)
      rw [ce] at h1
      obtain ⟨_, hlen, hcell⟩ := World.cells?_some h1
      obtain ⟨xs, k, hk, hxy, _, hxl, hff⟩ := DataW.trod_struct he h2
      match xs, hxl, cs', hlen with
      | [y0, y1, y2], _, [v0, v1, v2], _ =>
        have g0 := hff 0 f0 rfl
        have g1 := hff 1 f1 rfl
        have g2 := hff 2 f2 rfl
        simp [o0, o1, o2, c0, c1, c2] at g0 g1 g2
        have e0 := hcell 0 (by omega)
        have e1 := hcell 1 (by omega)
        have e2 := hcell 2 (by omega)
        have e0 : w.cell? (a.add (i * 3)) = _ := e0
        have e1 : w.cell? ⟨(a.add (i * 3)).block, (a.add (i * 3)).off + 1, none⟩ = _ := e1
        have e2 : w.cell? ⟨(a.add (i * 3)).block, (a.add (i * 3)).off + 2, none⟩ = _ := e2
        obtain ⟨n0, k0, _, w0⟩ := DataW.trod_int u0 g0
        obtain ⟨n1, k1, _, w1⟩ := DataW.trod_int u1 g1
        obtain ⟨aH, cH, zs, k2, hH⟩ := open_mi u2 ui ci g2
        simp at k0 k1
        subst k0 k1 k2
        exact ⟨⟨n0, n1, zs⟩, ⟨aH, cH, ⟨by simpa using e0, by simpa using e1, by simpa using e2⟩, hH⟩, bounds_i64 w0, bounds_i64 w1⟩
    obtain ⟨q, hq⟩ := choose_lt each
    have hll : ((List.range l).map q).length = l := by simp
    refine ⟨some a, c, (List.range l).map q, by rw [hll]; exact hcs, fun _ => ⟨a, rfl, ⟨fun k hk => ?_, fun m hm => ?_⟩⟩, by rw [hll]; omega⟩
    · simp at hk
      simpa using (hq k hk).1
    · obtain ⟨k, hk, rfl⟩ := List.mem_map.1 hm
      exact (hq k (List.mem_range.1 hk)).2
end
section
variable {H : Type} {enc : TypeId × Value → H} {w : World} {base : Nat} {spare : Nat → Bool} {held : Bool}
set_option maxRecDepth 100000 in
theorem open_mat {r : Reach} {b0 : Nat} {v : Value} {d : DataW H} {p : List MemPlace} (hv : Value.okWide Tryz.prog w r b0 24 v) (h : DataW.Trod enc Tryz.prog w base spare held 24 v d p) : ∃ m, MV w v m := by
  obtain ⟨v0, v1, v2, rfl⟩ := okWide_three (P := Tryz.prog) Tryz.underlying24 (by kernel_rfl) hv
  obtain ⟨fuel, hf⟩ := h
  obtain ⟨n, y0, y1, y2, g0, g1, g2⟩ := trod_three (P := Tryz.prog) Tryz.underlying24 ⟨rfl, rfl, rfl⟩ ⟨by kernel_rfl, by kernel_rfl, by kernel_rfl⟩ hf
  obtain ⟨n0, k0, _, w0⟩ := DataW.trod_int Tryz.underlying3 g0
  obtain ⟨n1, k1, _, w1⟩ := DataW.trod_int Tryz.underlying3 g1
  obtain ⟨rfl, i0⟩ := one_int k0 w0
  obtain ⟨rfl, i1⟩ := one_int k1 w1
  obtain ⟨a, c, zs, rfl, hz⟩ := open_mi (P := Tryz.prog) Tryz.underlying22 Tryz.underlying3 (by kernel_rfl) g2
  exact ⟨⟨n0, n1, zs⟩, ⟨⟨a, c, rfl, hz⟩, i0, i1⟩⟩
set_option maxRecDepth 100000 in
theorem open_mats {fuel : Nat} {v : Value} {x : DataW H × List MemPlace} (h : DataW.trod enc Tryz.prog w base spare held fuel 31 [v] = some x) : ∃ a c ms, v = .slice a ms.length c ∧ (0 < ms.length → ∃ x, a = some x ∧ MAt w x ms) ∧ ms.length ≤ c :=
  open_ms (P := Tryz.prog) Tryz.underlying31 Tryz.underlying24 (by kernel_rfl) rfl rfl rfl Tryz.underlying3 Tryz.underlying3 Tryz.underlying22 Tryz.underlying3 (by kernel_rfl) (by kernel_rfl) (by kernel_rfl) (by kernel_rfl) h
end
end Go.Proofs.YtkjbidpafnmogaaGreat.Base
namespace Go.Proofs.YtkjbidpafnmogaaGreat.Base
open Go.RowKit Go Go.Shelf Go.Deep
set_option linter.unusedVariables false
set_option linter.unusedSimpArgs false

def tAll (m : Mt) (n : Int) : List Mt × Int × Bool := if sqM m ∧ 0 ≤ n ∧ n ≤ 24 then (termsL m (n.toNat + 1), 0, (termM m n.toNat).2) else ([], if sqM m then 2 else 3, false)
def fAll (m : Mt) (t : Int) : Mt × Int × Bool := if upM m then ((flowM m t).1, 0, (flowM m t).2) else (⟨0, 0, []⟩, if sqM m then 2 else 3, false)
def aAll (ms : List Mt) (t : Int) : Mt × Int × Bool := if polyM ms then ((hornM t ms).1, 0, (hornM t ms).2) else (⟨0, 0, []⟩, 3, false)
theorem mo_none (B : Nat) (W : World) : MO B W noMat ⟨0, 0, []⟩ := ⟨⟨none, 0, rfl, LI.nil B W⟩, ⟨by decide, by decide⟩, ⟨by decide, by decide⟩⟩
theorem terms_all {w0 : World} {b : Nat} {c0 : Bool} (hU : UP w0 b c0) {m : Mt} {a : Option Addr} {k : Nat} (hl : ML b w0 a k m.v) (n : Int) :
    Calls Tryz.prog 14 #[.pointer (some ⟨b, 0, none⟩), .agg #[.int .i64 m.r, .int .i64 m.c, .slice a m.v.length k], .int .i64 n] w0 fun e w' => ∃ v, e = .returned (.tuple #[v, .int .i64 (tAll m n).2.1]) ∧ OMs w0.heap.size w' v (tAll m n).1 ∧ UP w' b (c0 || (tAll m n).2.2) ∧ But b w0 w' := by
  unfold tAll
  by_cases hs : sqM m
  · by_cases h0 : 0 ≤ n
    · by_cases h1 : n ≤ 24
      · rw [if_pos ⟨hs, h0, h1⟩]
        obtain ⟨q, rfl⟩ := Int.eq_ofNat_of_zero_le h0
        simp only [Int.toNat_natCast]
        exact Terms_is hU hl hs.1 hs.2 q (by omega)
      · rw [if_neg (fun h => h1 h.2.2), if_pos hs]
        exact (Terms_high hU hs n (by omega) (by omega)).mono fun e w' h => ⟨_, h.1, OMs.nil _ _, by simpa using hU.below h.2 hU.lt, But.of h.2⟩
    · rw [if_neg (fun h => h0 h.2.1), if_pos hs]
      exact (Terms_low hU hs n (by omega)).mono fun e w' h => ⟨_, h.1, OMs.nil _ _, by simpa using hU.below h.2 hU.lt, But.of h.2⟩
  · rw [if_neg (fun h => hs h.1), if_neg hs]
    exact (Terms_size hU hs n).mono fun e w' h => ⟨_, h.1, OMs.nil _ _, by simpa using hU.below h.2 hU.lt, But.of h.2⟩
theorem termsR_all {w0 : World} {b : Nat} {c0 : Bool} (hU : UR w0 b c0) {m : Mt} {a : Option Addr} {k : Nat} (hl : ML b w0 a k m.v) (n : Int) :
    Calls Tryz.prog 15 #[.pointer (some ⟨b, 0, none⟩), .agg #[.int .i64 m.r, .int .i64 m.c, .slice a m.v.length k], .int .i64 n] w0 fun e w' => ∃ v, e = .returned (.tuple #[v, .int .i64 (tAll m n).2.1]) ∧ OMs w0.heap.size w' v (tAll m n).1 ∧ UR w' b (c0 || (tAll m n).2.2) ∧ But b w0 w' := by
  unfold tAll
  by_cases hs : sqM m
  · by_cases h0 : 0 ≤ n
    · by_cases h1 : n ≤ 24
      · rw [if_pos ⟨hs, h0, h1⟩]
        obtain ⟨q, rfl⟩ := Int.eq_ofNat_of_zero_le h0
        simp only [Int.toNat_natCast]
        exact termsR_is hU hl hs.1 hs.2 q (by omega)
      · rw [if_neg (fun h => h1 h.2.2), if_pos hs]
        exact (termsR_high _ hs n (by omega) (by omega)).mono fun e w' h => ⟨_, h.1, OMs.nil _ _, by simpa using hU.below h.2 hU.lt, But.of h.2⟩
    · rw [if_neg (fun h => h0 h.2.1), if_pos hs]
      exact (termsR_low _ hs n (by omega)).mono fun e w' h => ⟨_, h.1, OMs.nil _ _, by simpa using hU.below h.2 hU.lt, But.of h.2⟩
  · rw [if_neg (fun h => hs h.1), if_neg hs]
    exact (termsR_size _ hs n).mono fun e w' h => ⟨_, h.1, OMs.nil _ _, by simpa using hU.below h.2 hU.lt, But.of h.2⟩
theorem flow_all {w0 : World} {b : Nat} {c0 : Bool} (hU : UP w0 b c0) {m : Mt} {a : Option Addr} {k : Nat} (hl : ML b w0 a k m.v) (t : Int) (ht : I64 t) :
    Calls Tryz.prog 16 #[.pointer (some ⟨b, 0, none⟩), .agg #[.int .i64 m.r, .int .i64 m.c, .slice a m.v.length k], .int .i64 t] w0 fun e w' => ∃ v, e = .returned (.tuple #[v, .int .i64 (fAll m t).2.1]) ∧ MO w0.heap.size w' v (fAll m t).1 ∧ UP w' b (c0 || (fAll m t).2.2) ∧ But b w0 w' := by
  unfold fAll
  by_cases hu : upM m
  · rw [if_pos hu]
    exact Flow_is hU hl hu t ht
  · rw [if_neg hu]
    by_cases hs : sqM m
    · rw [if_pos hs]
      exact (Flow_arg hU hl.mi hs hu t).mono fun e w' h => ⟨_, h.1, mo_none _ _, by simpa using hU.below h.2 hU.lt, But.of h.2⟩
    · rw [if_neg hs]
      exact (Flow_size hU hs t).mono fun e w' h => ⟨_, h.1, mo_none _ _, by simpa using hU.below h.2 hU.lt, But.of h.2⟩
theorem flowR_all {w0 : World} {b : Nat} {c0 : Bool} (hU : UR w0 b c0) {m : Mt} {a : Option Addr} {k : Nat} (hl : ML b w0 a k m.v) (t : Int) (ht : I64 t) :
    Calls Tryz.prog 17 #[.pointer (some ⟨b, 0, none⟩), .agg #[.int .i64 m.r, .int .i64 m.c, .slice a m.v.length k], .int .i64 t] w0 fun e w' => ∃ v, e = .returned (.tuple #[v, .int .i64 (fAll m t).2.1]) ∧ MO w0.heap.size w' v (fAll m t).1 ∧ UR w' b (c0 || (fAll m t).2.2) ∧ But b w0 w' := by
  unfold fAll
  by_cases hu : upM m
  · rw [if_pos hu]
    exact flowR_is hU hl hu t ht
  · rw [if_neg hu]
    by_cases hs : sqM m
    · rw [if_pos hs]
      exact (flowR_arg _ hl.mi hs hu t).mono fun e w' h => ⟨_, h.1, mo_none _ _, by simpa using hU.below h.2 hU.lt, But.of h.2⟩
    · rw [if_neg hs]
      exact (flowR_size _ hs t).mono fun e w' h => ⟨_, h.1, mo_none _ _, by simpa using hU.below h.2 hU.lt, But.of h.2⟩
theorem at_all {w0 : World} {b : Nat} {c0 : Bool} (hU : UP w0 b c0) {a : Option Addr} {k : Nat} {ms : List Mt} (hm : 0 < ms.length → ∃ x, a = some x ∧ MLs b w0 x ms) (hk : ms.length ≤ k) (t : Int) (ht : I64 t) :
    Calls Tryz.prog 25 #[.pointer (some ⟨b, 0, none⟩), .slice a ms.length k, .int .i64 t] w0 fun e w' => ∃ v, e = .returned (.tuple #[v, .int .i64 (aAll ms t).2.1]) ∧ MO w0.heap.size w' v (aAll ms t).1 ∧ UP w' b (c0 || (aAll ms t).2.2) ∧ But b w0 w' := by
  unfold aAll
  by_cases hp : polyM ms
  · rw [if_pos hp]
    obtain ⟨x, rfl, hx⟩ := hm hp.1
    exact At_is hU hx hk hp t ht
  · rw [if_neg hp]
    exact (At_size hU (fun h => by obtain ⟨x, h1, h2⟩ := hm h; exact ⟨x, h1, h2.msc⟩) hp t).mono fun e w' h => ⟨_, h.1, mo_none _ _, by simpa using hU.below h.2 hU.lt, But.of h.2⟩
theorem atR_all {w0 : World} {b : Nat} {c0 : Bool} (hU : UR w0 b c0) {a : Option Addr} {k : Nat} {ms : List Mt} (hm : 0 < ms.length → ∃ x, a = some x ∧ MLs b w0 x ms) (hk : ms.length ≤ k) (t : Int) (ht : I64 t) :
    Calls Tryz.prog 26 #[.pointer (some ⟨b, 0, none⟩), .slice a ms.length k, .int .i64 t] w0 fun e w' => ∃ v, e = .returned (.tuple #[v, .int .i64 (aAll ms t).2.1]) ∧ MO w0.heap.size w' v (aAll ms t).1 ∧ UR w' b (c0 || (aAll ms t).2.2) ∧ But b w0 w' := by
  unfold aAll
  by_cases hp : polyM ms
  · rw [if_pos hp]
    obtain ⟨x, rfl, hx⟩ := hm hp.1
    exact atR_is hU hx hk hp t ht
  · rw [if_neg hp]
    exact (atR_size (fun h => by obtain ⟨x, h1, h2⟩ := hm h; exact ⟨x, h1, h2.msc⟩) hp t).mono fun e w' h => ⟨_, h.1, mo_none _ _, by simpa using hU.below h.2 hU.lt, But.of h.2⟩

/-- A list of matrices, to be read. -/
def MsV (W : World) (v : Value) (ms : List Mt) : Prop := ∃ a k, v = .slice a ms.length k ∧ (0 < ms.length → ∃ x, a = some x ∧ MAt W x ms)
theorem MsV.keep {W W' : World} {v : Value} {ms : List Mt} (h : MsV W v ms) (hb : Below W.heap.size W W') : MsV W' v ms := by
  obtain ⟨a, k, h1, h2⟩ := h
  exact ⟨a, k, h1, fun h => by obtain ⟨x, hx, hm⟩ := h2 h; exact ⟨x, hx, hm.keep hb⟩⟩
theorem OMs.msv {B : Nat} {W : World} {v : Value} {ms : List Mt} (h : OMs B W v ms) : MsV W v ms := by
  obtain ⟨vs, ho, hr⟩ := h.ex
  obtain ⟨hl2, ⟨rfl, h0⟩ | ⟨g, cap, cur, rfl, hB, hh, hn, hm, hs, ht⟩⟩ := ho
  · exact ⟨none, 0, by rw [h0], fun h => absurd h (by omega)⟩
  · refine ⟨some ⟨g, 0, none⟩, cap, rfl, fun _ => ⟨_, rfl, ⟨fun j hj => ?_, h.rng⟩⟩⟩
    obtain ⟨a, c, e0, e1, e2, e3⟩ := (hr j hj).ex
    have hcur : ∀ j u, vs[j]? = some u → W.cell? ⟨g, j, none⟩ = some u := by
      intro j u hj
      have := (World.ownsRow.cells ⟨hl2, .inr ⟨g, cap, cur, rfl, hB, hh, hn, hm, hs, ht⟩⟩ (g := g) (by simp [Value.ownBlock])) j u hj
      rwa [Addr.add_lit, Nat.zero_add] at this
    refine ⟨a, c, ⟨?_, ?_, ?_⟩, e3.mi.mono (Nat.zero_le _)⟩
    · rw [Addr.add_lit, Nat.zero_add]; exact hcur _ _ e0
    · rw [Addr.add_lit, Nat.zero_add]; exact hcur _ _ e1
    · rw [Addr.add_lit, Nat.zero_add]; exact hcur _ _ e2
theorem same_mm {W : World} {m : Mt} {a1 a2 : Option Addr} {k1 k2 : Nat} (h1 : MI 0 W a1 k1 m.v) (h2 : MI 0 W a2 k2 m.v) :
    Calls Tryz.prog 19 #[.agg #[.int .i64 m.r, .int .i64 m.c, .slice a1 m.v.length k1], .agg #[.int .i64 m.r, .int .i64 m.c, .slice a2 m.v.length k2]] W fun e w' => e = .returned (.bool true) ∧ Below W.heap.size W w' := by
  have := sameMat_is (m1 := m) (m2 := m) h1 h2
  rw [decide_eq_true ⟨rfl, rfl, rfl⟩] at this
  exact this

set_option maxHeartbeats 4000000 in
set_option maxRecDepth 100000 in
theorem same09_is {W : World} {v1 v2 : Value} {ms : List Mt} (h1 : MsV W v1 ms) (h2 : MsV W v2 ms) (hl : ms.length ≤ 1000) :
    Calls Tryz.prog 18 #[v1, v2] W fun e w' => e = .returned (.bool true) ∧ Below W.heap.size W w' := by
  obtain ⟨a1, k1, rfl, hm1⟩ := h1
  obtain ⟨a2, k2, rfl, hm2⟩ := h2
  obtain ⟨n, hn⟩ : ∃ n, ms.length = n := ⟨_, rfl⟩
  have HN := Lib.hid hn
  rw [hn] at hl ⊢
  have HM1 := Lib.hid hm1
  have HM2 := Lib.hid hm2
  clear hn hm1 hm2
  go_enter Tryz.func18, Tryz.ntmps18
  go_wp2_with fail
  go_loopw [5] (fun i wr => ∃ j : Nat, j ≤ n ∧ i = .int .i64 j ∧ Below W.heap.size W wr) (fun i _ => n - (intOf i).toNat)
  case atStart => exact ⟨0, Nat.zero_le _, rfl, Below.refl _ _⟩
  case round =>
    obtain ⟨j, hj, rfl, hB⟩ := hrel
    by_cases hjl : j < n
    · have hjl' : (j : Int) < (n : Int) := by omega
      have hj0 : (0 : Int) ≤ (j : Int) := by omega
      have hjz : j < ms.length := by rw [HN.out]; exact hjl
      obtain ⟨x1, rfl, hx1⟩ := HM1.out (by omega)
      obtain ⟨x2, rfl, hx2⟩ := HM2.out (by omega)
      obtain ⟨b1, q1, hc1, hi1⟩ := hx1.at_ j hjz
      obtain ⟨b2, q2, hc2, hi2⟩ := hx2.at_ j hjz
      have hSM := fun (w : World) (hB : Below W.heap.size W w) => same_mm (hi1.keep hB) (hi2.keep hB)
      have hC1 : ∀ w, Below W.heap.size W w → w.cell? (x1.add (j * 3)) = some (.int .i64 ms[j].r) ∧ w.cell? ⟨(x1.add (j * 3)).block, (x1.add (j * 3)).off + 1, none⟩ = some (.int .i64 ms[j].c) ∧ w.cell? ⟨(x1.add (j * 3)).block, (x1.add (j * 3)).off + 2, none⟩ = some (.slice b1 ms[j].v.length q1) := fun w hB =>
        ⟨(hB.cell (World.block_lt_of_cell? W _ hc1.1)).trans hc1.1, (hB.cell (World.block_lt_of_cell? W _ hc1.2.1)).trans hc1.2.1, (hB.cell (World.block_lt_of_cell? W _ hc1.2.2)).trans hc1.2.2⟩
      have hC2 : ∀ w, Below W.heap.size W w → w.cell? (x2.add (j * 3)) = some (.int .i64 ms[j].r) ∧ w.cell? ⟨(x2.add (j * 3)).block, (x2.add (j * 3)).off + 1, none⟩ = some (.int .i64 ms[j].c) ∧ w.cell? ⟨(x2.add (j * 3)).block, (x2.add (j * 3)).off + 2, none⟩ = some (.slice b2 ms[j].v.length q2) := fun w hB =>
        ⟨(hB.cell (World.block_lt_of_cell? W _ hc2.1)).trans hc2.1, (hB.cell (World.block_lt_of_cell? W _ hc2.2.1)).trans hc2.2.1, (hB.cell (World.block_lt_of_cell? W _ hc2.2.2)).trans hc2.2.2⟩
      clear hc1 hc2 hi1 hi2 hx1 hx2
      generalize ms[j] = mm at *
      obtain ⟨mr, mc, mv⟩ := mm
      dsimp only at hSM hC1 hC2
      generalize mv.length = vl at *
      have hS0 : Below W.heap.size W wr.drew := hB.drew
      go_wp2_with fail
      refine region_fp [some 17, some 18, some 19, some 20, some 21, some 22, some 23, some 24, some 25, some 26] [] [some (Value.slice (some x1) n k1), some (Value.int .i64 (j : Int)), some (Value.pointer (some (x1.add (j * 3)))), some (Value.agg #[.int .i64 mr, .int .i64 mc, .slice b1 vl q1]), some (Value.slice (some x2) n k2), some (Value.int .i64 (j : Int)), some (Value.pointer (some (x2.add (j * 3)))), some (Value.agg #[.int .i64 mr, .int .i64 mc, .slice b2 vl q2]), some (Value.bool true), some (Value.bool false)]
        (fun _ _ _ => True) (fun W W' => Below W.heap.size W W') (fun _ _ w => Below W.heap.size W w)
        (by kernel_rfl) (by kernel_rfl) (by kernel_rfl) (by kernel_rfl) (by kernel_rfl) (fun _ => Below.refl _ _) (fun _ _ _ _ h _ => h) (fun _ _ _ _ _ _ h => h) hS0 ?_ ?_
      · intro i hi b' L f W9 hSW hL hdep hsh he hsv hsl hFF K hK1 hK2
        replace hi : i < 10 := hi
        have hcs : i = 0 ∨ i = 1 ∨ i = 2 ∨ i = 3 ∨ i = 4 ∨ i = 5 ∨ i = 6 ∨ i = 7 ∨ i = 8 ∨ i = 9 := by omega
        clear hi
        rcases hcs with rfl | rfl | rfl | rfl | rfl | rfl | rfl | rfl | rfl | rfl
        · refine wpOpS_go rfl rfl ?_
          have t0 : b'.tmps[0]?.getD undef = Value.slice (some x1) n k1 := he 0 (by kernel_rfl)
          have HK := Lib.hid hK1
          clear hK1 hK2 hdep hsh he hsv hsl hFF hL hSW
          go_simp
          exact HK.out rfl _ (fp_mk rfl rfl trivial)
        · refine wpOpS_go rfl rfl ?_
          have t5 : b'.tmps[5]?.getD undef = Value.int .i64 (j : Int) := he 5 (by kernel_rfl)
          have HK := Lib.hid hK1
          clear hK1 hK2 hdep hsh he hsv hsl hFF hL hSW
          go_simp
          exact HK.out rfl _ (fp_mk rfl rfl trivial)
        · refine wpOpS_go rfl rfl ?_
          have t17 : b'.tmps[17]?.getD undef = Value.slice (some x1) n k1 := hsv 0 17 _ (by kernel_rfl) (by kernel_rfl) rfl
          have t18 : b'.tmps[18]?.getD undef = Value.int .i64 (j : Int) := hsv 1 18 _ (by kernel_rfl) (by kernel_rfl) rfl
          have HK := Lib.hid hK1
          clear hK1 hK2 hdep hsh he hsv hsl hFF hL hSW
          go_simp
          exact HK.out rfl _ (fp_mk rfl rfl trivial)
        · refine wpOpS_go rfl rfl ?_
          have t19 : b'.tmps[19]?.getD undef = Value.pointer (some (x1.add (j * 3))) := hsv 2 19 _ (by kernel_rfl) (by kernel_rfl) rfl
          obtain ⟨c0, c1, c2⟩ := hC1 _ hSW
          have HK := Lib.hid hK1
          clear hK1 hK2 hdep hsh he hsv hsl hFF hL
          go_simp
          exact HK.out rfl _ (fp_mk rfl rfl trivial)
        · refine wpOpS_go rfl rfl ?_
          have t1 : b'.tmps[1]?.getD undef = Value.slice (some x2) n k2 := he 1 (by kernel_rfl)
          have HK := Lib.hid hK1
          clear hK1 hK2 hdep hsh he hsv hsl hFF hL hSW
          go_simp
          exact HK.out rfl _ (fp_mk rfl rfl trivial)
        · refine wpOpS_go rfl rfl ?_
          have t5 : b'.tmps[5]?.getD undef = Value.int .i64 (j : Int) := he 5 (by kernel_rfl)
          have HK := Lib.hid hK1
          clear hK1 hK2 hdep hsh he hsv hsl hFF hL hSW
          go_simp
          exact HK.out rfl _ (fp_mk rfl rfl trivial)
        · refine wpOpS_go rfl rfl ?_
          have t21 : b'.tmps[21]?.getD undef = Value.slice (some x2) n k2 := hsv 4 21 _ (by kernel_rfl) (by kernel_rfl) rfl
          have t22 : b'.tmps[22]?.getD undef = Value.int .i64 (j : Int) := hsv 5 22 _ (by kernel_rfl) (by kernel_rfl) rfl
          have HK := Lib.hid hK1
          clear hK1 hK2 hdep hsh he hsv hsl hFF hL hSW
          go_simp
          exact HK.out rfl _ (fp_mk rfl rfl trivial)
        · refine wpOpS_go rfl rfl ?_
          have t23 : b'.tmps[23]?.getD undef = Value.pointer (some (x2.add (j * 3))) := hsv 6 23 _ (by kernel_rfl) (by kernel_rfl) rfl
          obtain ⟨c0, c1, c2⟩ := hC2 _ hSW
          have HK := Lib.hid hK1
          clear hK1 hK2 hdep hsh he hsv hsl hFF hL
          go_simp
          exact HK.out rfl _ (fp_mk rfl rfl trivial)
        · refine wpOpS_go rfl rfl ?_
          have t20 : b'.tmps[20]?.getD undef = Value.agg #[.int .i64 mr, .int .i64 mc, .slice b1 vl q1] := hsv 3 20 _ (by kernel_rfl) (by kernel_rfl) rfl
          have t24 : b'.tmps[24]?.getD undef = Value.agg #[.int .i64 mr, .int .i64 mc, .slice b2 vl q2] := hsv 7 24 _ (by kernel_rfl) (by kernel_rfl) rfl
          have hA := hSM _ hSW
          have HK := Lib.hid hK2
          clear hK1 hK2 hdep hsh he hsv hsl hFF hL
          go_simp
          refine hA.mono ?_
          rintro e w6 ⟨rfl, hK⟩
          exact HK.out _ _ (fp_mk rfl rfl trivial) hK (more hSW hK)
        · refine wpOpS_go rfl rfl ?_
          have t25 : b'.tmps[25]?.getD undef = Value.bool true := hsv 8 25 _ (by kernel_rfl) (by kernel_rfl) rfl
          have HK := Lib.hid hK1
          clear hK1 hK2 hdep hsh he hsv hsl hFF hL hSW
          go_simp
          exact HK.out rfl _ (fp_mk rfl rfl trivial)
      · intro f W9 hf L hL hS
        have e0 : f 0 = Value.slice (some x1) n k1 := (hf 0 (by decide)).1 _ rfl
        have e1 : f 1 = Value.int .i64 (j : Int) := (hf 1 (by decide)).1 _ rfl
        have e2 : f 2 = Value.pointer (some (x1.add (j * 3))) := (hf 2 (by decide)).1 _ rfl
        have e3 : f 3 = Value.agg #[.int .i64 mr, .int .i64 mc, .slice b1 vl q1] := (hf 3 (by decide)).1 _ rfl
        have e4 : f 4 = Value.slice (some x2) n k2 := (hf 4 (by decide)).1 _ rfl
        have e5 : f 5 = Value.int .i64 (j : Int) := (hf 5 (by decide)).1 _ rfl
        have e6 : f 6 = Value.pointer (some (x2.add (j * 3))) := (hf 6 (by decide)).1 _ rfl
        have e7 : f 7 = Value.agg #[.int .i64 mr, .int .i64 mc, .slice b2 vl q2] := (hf 7 (by decide)).1 _ rfl
        have e8 : f 8 = Value.bool true := (hf 8 (by decide)).1 _ rfl
        have e9 : f 9 = Value.bool false := (hf 9 (by decide)).1 _ rfl
        have hB2 : Below W.heap.size W W9 := hS
        clear hf hL hS hS0 hB hSM hC1 hC2
        simp only [puts2, Act.put, e0, e1, e2, e3, e4, e5, e6, e7, e8, e9]
        try simp only [List.setIfInBounds_toArray, List.set_cons_zero, List.set_cons_succ]
        clear e0 e1 e2 e3 e4 e5 e6 e7 e8 e9
        go_wp2_with fail
        go_roundw
        case rel => exact ⟨j + 1, by omega, by go_num, hB2⟩
        case measure => simp [intOf]; omega
    · have hjn : j = n := by omega
      subst hjn
      go_wp2_with fail
      go_ret
      exact ⟨rfl, hB⟩

theorem oi_ty {B : Nat} {W W' : World} {g cap : Nat} {zs : List Int} (h : OI B W g cap zs) (hb : ∀ k, B ≤ k → Ty W k 3 → W'.heap[k]? = W.heap[k]?) : OI B W' g cap zs := by
  obtain ⟨cur, hc, hs, hx⟩ := h.ex
  exact ⟨⟨cur, (hb g h.lo ⟨_, _, hc⟩).trans hc, hs, hx⟩, h.rng, h.fit, h.len, h.lo⟩
set_option maxHeartbeats 4000000 in
set_option maxRecDepth 100000 in
theorem copyMat_is {w0 : World} {m : Mt} {a : Option Addr} {k : Nat} (hm : MI 0 w0 a k m.v) (hl : m.v.length ≤ 100000) :
    Calls Tryz.prog 13 #[.agg #[.int .i64 m.r, .int .i64 m.c, .slice a m.v.length k]] w0 fun e w' => ∃ g kg, e = .returned (.agg #[.int .i64 m.r, .int .i64 m.c, .slice (some ⟨g, 0, none⟩) m.v.length kg]) ∧ OI w0.heap.size w' g kg m.v ∧ Below w0.heap.size w0 w' := by
  obtain ⟨r, c, zs⟩ := m
  dsimp only at hm hl ⊢
  have hCI := fun (W : World) (hB : Below w0.heap.size w0 W) => copyInts_is (hm.keep hB) hl
  generalize hn : zs.length = n at *
  have HN := Lib.hid hn
  clear hn hm
  have hB := below_allocs w0 [Obj.cells #[.int .i64 r, .int .i64 c, .slice a n k] 24, Obj.cells #[.int .i64 0, .int .i64 0, .slice none 0 0] 24]
  have g0 := blk_at w0 [Obj.cells #[.int .i64 r, .int .i64 c, .slice a n k] 24, Obj.cells #[.int .i64 0, .int .i64 0, .slice none 0 0] 24] 0 _ _ rfl
  have g1 := blk_at w0 [Obj.cells #[.int .i64 r, .int .i64 c, .slice a n k] 24, Obj.cells #[.int .i64 0, .int .i64 0, .slice none 0 0] 24] 1 _ _ rfl
  simp only [List.foldl_cons, List.foldl_nil, Nat.add_zero] at hB g0 g1
  replace hB := hB.1
  go_enter Tryz.func13, Tryz.ntmps13
  go_wp2_with fail
  have HS0 : Blk ((w0.alloc (.cells #[.int .i64 r, .int .i64 c, .slice a n k] 24)).alloc (.cells #[.int .i64 0, .int .i64 0, .slice none 0 0] 24)).drew w0.heap.size #[.int .i64 r, .int .i64 c, .slice a n k] 24 ∧ Blk ((w0.alloc (.cells #[.int .i64 r, .int .i64 c, .slice a n k] 24)).alloc (.cells #[.int .i64 0, .int .i64 0, .slice none 0 0] 24)).drew (w0.heap.size + 1) #[.int .i64 0, .int .i64 0, .slice none 0 0] 24 ∧ Below w0.heap.size w0 ((w0.alloc (.cells #[.int .i64 r, .int .i64 c, .slice a n k] 24)).alloc (.cells #[.int .i64 0, .int .i64 0, .slice none 0 0] 24)).drew := ⟨g0.drew, g1.drew, hB.drew⟩
  refine region_fp [some 3, some 4, some 5, some 6, some 7, some 8, some 9, some 10, none] [7, 8] [some (Value.pointer (some ⟨w0.heap.size, 0, none⟩)), some (Value.int .i64 r), some (Value.pointer (some ⟨w0.heap.size, 1, none⟩)), some (Value.int .i64 c), some (Value.pointer (some ⟨w0.heap.size, 2, none⟩)), some (Value.slice a n k), none, none, none]
    (fun i v W => match i with | 6 => ∃ g kg, v = Value.slice (some ⟨g, 0, none⟩) n kg ∧ OI w0.heap.size W g kg zs | 7 => ∃ g kg, v = Value.agg #[.int .i64 r, .int .i64 c, .slice (some ⟨g, 0, none⟩) n kg] ∧ OI w0.heap.size W g kg zs | _ => True) (fun W W' => ∀ k, w0.heap.size ≤ k → Ty W k 3 → W'.heap[k]? = W.heap[k]?) (fun L f W => Blk W w0.heap.size #[.int .i64 r, .int .i64 c, .slice a n k] 24 ∧ (L 8 = false → Blk W (w0.heap.size + 1) #[.int .i64 0, .int .i64 0, .slice none 0 0] 24) ∧ (L 8 = true → Blk W (w0.heap.size + 1) (f 7).cells 24) ∧ Below w0.heap.size w0 W)
    (by kernel_rfl) (by kernel_rfl) (by kernel_rfl) (by kernel_rfl) (by kernel_rfl) (fun _ _ _ _ => rfl) (fun i v W W' h hb => by
      match i, h with
      | 6, ⟨g, kg, h1, h2⟩ => exact ⟨g, kg, h1, oi_ty h2 hb⟩
      | 7, ⟨g, kg, h1, h2⟩ => exact ⟨g, kg, h1, oi_ty h2 hb⟩
      | 0, _ | 1, _ | 2, _ | 3, _ | 4, _ | 5, _ | 8, _ => trivial
      | (n + 9), _ => trivial) (fun L L' f f' W h hs => by have q7 := (h 7 (by decide)).2; have q8 := (h 8 (by decide)).1; (try dsimp only at hs ⊢); rw [← q7, ← q8]; exact hs) ⟨HS0.1, fun _ => HS0.2.1, fun h => (Bool.false_ne_true h).elim, HS0.2.2⟩ ?_ ?_
  · intro i hi b' L f W hSW hL hdep hsh he hsv hsl hFF K hK1 hK2
    replace hi : i < 9 := hi
    have hcs : i = 0 ∨ i = 1 ∨ i = 2 ∨ i = 3 ∨ i = 4 ∨ i = 5 ∨ i = 6 ∨ i = 7 ∨ i = 8 := by omega
    clear hi
    rcases hcs with rfl | rfl | rfl | rfl | rfl | rfl | rfl | rfl | rfl
    · refine wpOpS_go rfl rfl ?_
      have t1 : b'.tmps[1]?.getD undef = Value.pointer (some ⟨w0.heap.size, 0, none⟩) := he 1 (by kernel_rfl)
      have HK := Lib.hid hK1
      clear hK1 hK2 hdep hsh he hsv hsl hFF hL
      clear hSW
      go_simp
      exact HK.out rfl _ (fp_mk rfl rfl trivial)
    · refine wpOpS_go rfl rfl ?_
      have t3 : b'.tmps[3]?.getD undef = Value.pointer (some ⟨w0.heap.size, 0, none⟩) := hsv 0 3 _ (by kernel_rfl) (by kernel_rfl) rfl
      obtain ⟨s0, s1, s2, s3⟩ := hSW
      have c0 := s0.cell
      have HK := Lib.hid hK1
      clear hK1 hK2 hdep hsh he hsv hsl hFF hL
      clear s0 s1 s2 s3
      go_simp
      exact HK.out rfl _ (fp_mk rfl rfl trivial)
    · refine wpOpS_go rfl rfl ?_
      have t1 : b'.tmps[1]?.getD undef = Value.pointer (some ⟨w0.heap.size, 0, none⟩) := he 1 (by kernel_rfl)
      have HK := Lib.hid hK1
      clear hK1 hK2 hdep hsh he hsv hsl hFF hL
      clear hSW
      go_simp
      exact HK.out rfl _ (fp_mk rfl rfl trivial)
    · refine wpOpS_go rfl rfl ?_
      have t5 : b'.tmps[5]?.getD undef = Value.pointer (some ⟨w0.heap.size, 1, none⟩) := hsv 2 5 _ (by kernel_rfl) (by kernel_rfl) rfl
      obtain ⟨s0, s1, s2, s3⟩ := hSW
      have c0 := s0.cell
      have HK := Lib.hid hK1
      clear hK1 hK2 hdep hsh he hsv hsl hFF hL
      clear s0 s1 s2 s3
      go_simp
      exact HK.out rfl _ (fp_mk rfl rfl trivial)
    · refine wpOpS_go rfl rfl ?_
      have t1 : b'.tmps[1]?.getD undef = Value.pointer (some ⟨w0.heap.size, 0, none⟩) := he 1 (by kernel_rfl)
      have HK := Lib.hid hK1
      clear hK1 hK2 hdep hsh he hsv hsl hFF hL
      clear hSW
      go_simp
      exact HK.out rfl _ (fp_mk rfl rfl trivial)
    · refine wpOpS_go rfl rfl ?_
      have t7 : b'.tmps[7]?.getD undef = Value.pointer (some ⟨w0.heap.size, 2, none⟩) := hsv 4 7 _ (by kernel_rfl) (by kernel_rfl) rfl
      obtain ⟨s0, s1, s2, s3⟩ := hSW
      have c0 := s0.cell
      have HK := Lib.hid hK1
      clear hK1 hK2 hdep hsh he hsv hsl hFF hL
      clear s0 s1 s2 s3
      go_simp
      exact HK.out rfl _ (fp_mk rfl rfl trivial)
    · refine wpOpS_go rfl rfl ?_
      have t8 : b'.tmps[8]?.getD undef = Value.slice a n k := hsv 5 8 _ (by kernel_rfl) (by kernel_rfl) rfl
      obtain ⟨s0, s1, s2, s3⟩ := hSW
      have hA := hCI _ s3
      have HK := Lib.hid hK2
      have h8 := hsh 8 (by kernel_rfl)
      have hws := s3.size
      clear hK1 hK2 hdep hsh he hsv hsl hFF hL
      go_simp
      refine hA.mono ?_
      rintro e w6 ⟨g, kg, rfl, hO, hK⟩
      exact HK.out _ _ (fp_x rfl ⟨g, kg, rfl, hO.mono hws⟩) (fun k hk ht => hK.block k ht.lt) ⟨s0.keep hK, fun h => (s1 h).keep hK, fun h => absurd h (by show ¬ L 8 = true; rw [h8]; decide), more s3 hK⟩
    · refine wpOpS_go rfl rfl ?_
      have t4 : b'.tmps[4]?.getD undef = Value.int .i64 r := hsv 1 4 _ (by kernel_rfl) (by kernel_rfl) rfl
      have t6 : b'.tmps[6]?.getD undef = Value.int .i64 c := hsv 3 6 _ (by kernel_rfl) (by kernel_rfl) rfl
      obtain ⟨t9, hx⟩ := hsl 6 9 (by kernel_rfl) (by kernel_rfl)
      obtain ⟨g, kg, e5, hO⟩ := hx
      rw [e5] at t9
      obtain ⟨s0, s1, s2, s3⟩ := hSW
      have HK := Lib.hid hK2
      have h8 := hsh 8 (by kernel_rfl)
      clear hK1 hK2 hdep hsh he hsv hsl hFF hL e5
      go_simp
      exact HK.out _ _ (fp_x rfl ⟨g, kg, rfl, hO⟩) (fun _ _ _ => rfl) ⟨s0, s1, fun h => absurd h (by show ¬ L 8 = true; rw [h8]; decide), s3⟩
    · refine wpOpS_go rfl rfl ?_
      have t2 : b'.tmps[2]?.getD undef = Value.pointer (some ⟨w0.heap.size + 1, 0, none⟩) := he 2 (by kernel_rfl)
      obtain ⟨t10, hxx⟩ := hsl 7 10 (by kernel_rfl) (by kernel_rfl)
      obtain ⟨g, kg, e3, hO⟩ := hxx
      rw [e3] at t10
      obtain ⟨s0, s1, s2, s3⟩ := hSW
      have HK := Lib.hid hK2
      have hmb := s1 hL
      clear hK1 hK2 hdep hsh he hsv hsl hFF
      refine op_store 24 _ _ rfl rfl hmb 0 (eval_tmp t2) (eval_tmp t10) ([.int .i64 r, .int .i64 c, .slice (some ⟨g, 0, none⟩) n kg] : List Value) (by rfl) (by kernel_rfl) (by rfl) (by rfl) #[.int .i64 r, .int .i64 c, .slice (some ⟨g, 0, none⟩) n kg] rfl ?_
      intro w6 g6 ef hz
      exact HK.out undef _ (fp_x (v := undef) rfl trivial) (fun k hk ht => ef.block k ht.lt (fun e => by subst e; exact absurd (ht.inj hmb.ty) (by decide))) ⟨ef.blk s0 (by omega), fun h => absurd h (by rw [updF_same]; decide), fun _ => by rw [updF_ne _ _ (by decide), e3]; exact g6, ef.below s3 (fun k hk => by omega)⟩
  · intro f W hf L hL hS
    obtain ⟨s0, s1, s2, s3⟩ := (hS : _ ∧ _ ∧ _ ∧ _)
    obtain ⟨g5, kg5, e6, _⟩ := (hf 6 (by decide)).2
    obtain ⟨g, kg, e7, hO⟩ := (hf 7 (by decide)).2
    replace s2 := s2 (hL 8 (by decide))
    rw [e7] at s2
    replace s2 : Blk W (w0.heap.size + 1) #[.int .i64 r, .int .i64 c, .slice (some ⟨g, 0, none⟩) n kg] 24 := s2
    have e0 : f 0 = Value.pointer (some ⟨w0.heap.size, 0, none⟩) := (hf 0 (by decide)).1 _ rfl
    have e1 : f 1 = Value.int .i64 r := (hf 1 (by decide)).1 _ rfl
    have e2 : f 2 = Value.pointer (some ⟨w0.heap.size, 1, none⟩) := (hf 2 (by decide)).1 _ rfl
    have e3 : f 3 = Value.int .i64 c := (hf 3 (by decide)).1 _ rfl
    have e4 : f 4 = Value.pointer (some ⟨w0.heap.size, 2, none⟩) := (hf 4 (by decide)).1 _ rfl
    have e5 : f 5 = Value.slice a n k := (hf 5 (by decide)).1 _ rfl
    clear hf hL s0 s1
    simp only [puts2, Act.put, e0, e1, e2, e3, e4, e5, e6, e7]
    try simp only [List.setIfInBounds_toArray, List.set_cons_zero, List.set_cons_succ]
    clear e0 e1 e2 e3 e4 e5 e6 e7
    go_wp2_with fail
    refine bodyPost_ret (results_cell_row rfl _ _ _ 24 #[.int .i64 r, .int .i64 c, .slice (some ⟨g, 0, none⟩) n kg] (0, 0) _ rfl s2 Tryz.underlying24 rfl (by kernel_rfl)) rfl ?_
    exact ⟨g, kg, rfl, hO, s3⟩
end Go.Proofs.YtkjbidpafnmogaaGreat.Base
