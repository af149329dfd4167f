/- poly.At: the walk. -/
import Derived.Test.YtkjbidpafnmogaaGreatPolI
namespace Go.Proofs.YtkjbidpafnmogaaGreat.Base
open Go.RowKit Go.Shelf Go.Deep
set_option linter.unusedVariables false
set_option linter.unusedSimpArgs false
attribute [local go_sem] Oper.semAt_some

def hstep (t : Int) (p : Mt × Bool) (m : Mt) : Mt × Bool := ((sumM (scaleM p.1 t).1 m).1, p.2 || (scaleM p.1 t).2 || (sumM (scaleM p.1 t).1 m).2)
theorem horn_app (t : Int) (q : Mt) : ∀ init : List Mt, hornM t (init ++ [q]) = init.foldr (fun m p => hstep t p m) (q, false)
  | [] => rfl
  | m :: l => by
    rw [List.cons_append, hornM_cons t m (by simp), horn_app t q l]
    rfl
theorem hstep_ok {t : Int} {p0 : Mt} {p : Mt × Bool} {m : Mt} (h : okMt p.1 ∧ p.1.r = p0.r ∧ p.1.c = p0.c) : okMt (hstep t p m).1 ∧ (hstep t p m).1.r = p0.r ∧ (hstep t p m).1.c = p0.c := by
  obtain ⟨h1, h2, h3⟩ := h
  obtain ⟨k1, k2, k3⟩ := ok_each (fun x _ => timesL [x, t]) p.1 p.1 h1
  obtain ⟨j1, j2, j3⟩ := ok_each (fun x y => plusL [x, y]) (scaleM p.1 t).1 m k1
  exact ⟨j1, j2.trans (k2.trans h2), j3.trans (k3.trans h3)⟩
theorem fold_ok {t : Int} {p0 : Mt} : ∀ (l : List Mt) (p : Mt × Bool), (okMt p.1 ∧ p.1.r = p0.r ∧ p.1.c = p0.c) → okMt (l.foldl (hstep t) p).1 ∧ (l.foldl (hstep t) p).1.r = p0.r ∧ (l.foldl (hstep t) p).1.c = p0.c
  | [], _, h => h
  | m :: l, p, h => fold_ok l _ (hstep_ok h)

/-- Within At: the value so far. -/
structure AtI (w0 : World) (b : Nat) (c0 : Bool) (n₀ ob : Nat) (p0 q : Mt) (t : Int) (l : List Mt) (W : World) : Prop where
  out : ∃ a' k', Blk W ob #[.int .i64 p0.r, .int .i64 p0.c, .slice a' (l.foldl (hstep t) (q, false)).1.v.length k'] 24 ∧ LI w0.heap.size W a' k' (l.foldl (hstep t) (q, false)).1.v
  up : UP W b (c0 || (l.foldl (hstep t) (q, false)).2)
  eff : Eff (fun k => k = b) w0 W
  sz : n₀ ≤ W.heap.size
  ub : Blk W w0.heap.size #[.pointer (some ⟨b, 0, none⟩)] 25
  tb : Blk W (w0.heap.size + 1) #[.int .i64 t] 3
  rb : Blk W (w0.heap.size + 2) #[.int .i64 0, .int .i64 0, .slice none 0 0] 24
theorem AtI.kc {w0 : World} {b : Nat} {c0 : Bool} {n₀ ob : Nat} {p0 q : Mt} {t : Int} {l : List Mt} {X Y : World} (h : AtI w0 b c0 n₀ ob p0 q t l X) (hk : KC X Y) (he : Eff (fun k => k = b) w0 Y) : AtI w0 b c0 n₀ ob p0 q t l Y := by
  obtain ⟨a', k', h1, h2⟩ := h.out
  obtain ⟨mm, hm⟩ := h.up
  exact ⟨⟨a', k', h1.kc hk, h2.kc hk⟩, ⟨mm, hm.kc hk⟩, he, Nat.le_trans h.sz hk.size, h.ub.kc hk, h.tb.kc hk, h.rb.kc hk⟩
theorem AtI.keep {w0 : World} {b : Nat} {c0 : Bool} {n₀ ob : Nat} {p0 q : Mt} {t : Int} {l : List Mt} {X Y : World} (h : AtI w0 b c0 n₀ ob p0 q t l X) (k : Below X.heap.size X Y) : AtI w0 b c0 n₀ ob p0 q t l Y :=
  h.kc (kc_of k) (h.eff.trans (Eff.of (P := fun k => k = b) k) (fun _ _ h => h))
theorem AtI.own {β : Type} (w0 : World) (b : Nat) (c0 : Bool) (n₀ ob : Nat) (p0 q : Mt) (t : Int) (f : β → List Mt) (B : Nat) (hB : w0.heap.size ≤ B) : OwnFrom B (fun s => AtI w0 b c0 n₀ ob p0 q t (f s)) := fun s X Y row hs hg hr => by
  have hb : Below w0.heap.size X Y := ⟨hg.os, hg.tape, hg.output, hg.size, fun k hk => hg.block k (Nat.lt_of_lt_of_le hk hs.eff.size) (fun e => by have := (hr k e.symm).1; omega)⟩
  exact hs.kc (kc_grown hg (fun r e => (hr r e).2)) ⟨hg.os.trans hs.eff.os, hg.tape.trans hs.eff.tape, hg.output.trans hs.eff.output, Nat.le_trans hs.eff.size hg.size, fun k hk hn => (hb.block k hk).trans (hs.eff.block k hk hn)⟩
theorem UP.off {W W' : World} {b ob : Nat} {c : Bool} (h : UP W b c) (hE : Eff (fun k => k = ob) W W') (hn : b ≠ ob) : UP W' b c := by
  obtain ⟨mm, hm⟩ := h
  exact ⟨mm, hE.blk hm hn⟩
/-- Three cells of a block stored. -/
theorem set3 {W : World} {ob : Nat} {u0 u1 u2 : Value} {t : TypeId} (h : Blk W ob #[u0, u1, u2] t) (v0 v1 v2 : Value) :
    Blk (((W.setCell ⟨ob, 0, none⟩ v0).setCell ⟨ob, 1, none⟩ v1).setCell ⟨ob, 2, none⟩ v2) ob #[v0, v1, v2] t ∧ Eff (fun k => k = ob) W (((W.setCell ⟨ob, 0, none⟩ v0).setCell ⟨ob, 1, none⟩ v1).setCell ⟨ob, 2, none⟩ v2) :=
  ⟨((h.set 0 v0).set 1 v1).set 2 v2, ((Eff.set (P := fun k => k = ob) ⟨ob, 0, none⟩ v0 rfl).trans (Eff.set (P := fun k => k = ob) ⟨ob, 1, none⟩ v1 rfl) (fun _ _ h => h)).trans (Eff.set (P := fun k => k = ob) ⟨ob, 2, none⟩ v2 rfl) (fun _ _ h => h)⟩

set_option maxHeartbeats 8000000 in
set_option maxRecDepth 100000 in
theorem At_is {w0 : World} {b : Nat} {c0 : Bool} (hU : UP w0 b c0) {x : Addr} {k : Nat} {ms : List Mt} (hms : MLs b w0 x ms) (hk : ms.length ≤ k) (hp : polyM ms) (t : Int) (ht : I64 t) :
    Calls Tryz.prog 25 #[.pointer (some ⟨b, 0, none⟩), .slice (some x) ms.length k, .int .i64 t] w0 fun e w' => ∃ v, e = .returned (.tuple #[v, .int .i64 0]) ∧ MO w0.heap.size w' v (hornM t ms).1 ∧ UP w' b (c0 || (hornM t ms).2) ∧ But b w0 w' := by
  have hPOL := fun (W : World) h => polynomial_is (W := W) (a := some x) (k := k) (ms := ms) h
  rw [decide_eq_true hp] at hPOL
  obtain ⟨hp1, hp2, hp3⟩ := hp
  obtain ⟨init, q, rfl⟩ : ∃ init q, ms = init ++ [q] := ⟨ms.dropLast, ms.getLast (by intro h; rw [h] at hp1; simp at hp1), (List.dropLast_concat_getLast _).symm⟩
  generalize (init ++ [q]).headD default = p0 at hp3
  obtain ⟨N, hN⟩ : ∃ N, init.length = N := ⟨_, rfl⟩
  have hlen : (init ++ [q]).length = N + 1 := by simp [hN]
  rw [hlen] at hPOL hp2 hk ⊢
  have hq := hp3 q (by simp)
  have hin : ∀ m ∈ init, okMt m ∧ m.r = p0.r ∧ m.c = p0.c := fun m hm => hp3 m (by simp [hm])
  obtain ⟨aq, kq, ⟨q1, q2, q3⟩, qml⟩ := hms.at_ N (by omega)
  have hqe : (init ++ [q])[N]'(by omega) = q := by simp [← hN]
  rw [hqe] at q1 q2 q3 qml
  have hmi : MLs b w0 x init := ⟨fun j hj => by
    obtain ⟨a', k', h1, h2⟩ := hms.at_ j (by simp; omega)
    rw [List.getElem_append_left hj] at h1 h2
    exact ⟨a', k', h1, h2⟩, hms.ne⟩
  obtain ⟨f, hf1, hf2⟩ := hmi.mfm hin ⟨⟨q, aq, kq⟩, ⟨qml, hq.1, hq.2.1, hq.2.2⟩⟩
  rw [hN] at hf1
  have HFIN := Lib.hid (show hornM t (init ++ [q]) = ((backL f N N).map fun y => y.2.1.m).foldl (hstep t) (q, false) by
    rw [horn_app, List.foldr_eq_foldl_reverse]
    congr 1
    refine List.ext_getElem (by simp [backL, hN]) fun i h1 h2 => ?_
    simp only [List.length_reverse] at h1
    rw [List.getElem_reverse]
    simp only [backL, List.getElem_map, List.getElem_range]
    rw [hf2 _ (by omega)]
    congr 1
    omega)
  have HMS := Lib.hid hms
  have hnx : x.block ≠ b := hms.ne
  have hxl : x.block < w0.heap.size := by have := World.block_lt_of_cell? w0 _ q1; rwa [add_block] at this
  have HPOL := Lib.hid (fun W (hb : Below w0.heap.size w0 W) => hPOL W (fun _ => ⟨x, rfl, (hms.but (But.of hb)).msc⟩))
  have hblt := hU.lt
  obtain ⟨hqo, hqr, hqc⟩ := hq
  have HQO := Lib.hid hqo
  have HQR := Lib.hid hqr
  have HQC := Lib.hid hqc
  have HP64 := Lib.hid (show I64 p0.r ∧ I64 p0.c by obtain ⟨o1, o2⟩ := hqo.1; obtain ⟨o3, o4⟩ := hqo.2.1; rw [hqr] at o1 o2; rw [hqc] at o3 o4; unfold I64; omega)
  rw [hqr] at q1
  rw [hqc] at q2
  clear hqr hqc hqo hqe hmi hin hp1 hp3 hlen hPOL hms hN
  have hNb : N ≤ 24 := by omega
  have hN0 : (0 : Int) ≤ (N : Int) := by omega
  refine (callsIn_wide (n := 3)).1 ?_
  refine callsIn_of_wp_marks Tryz.func25 rfl trivial ?_ rfl
  simp only [Tryz.ntmps25, List.size_toArray, List.length_cons, List.length_nil, Nat.reduceAdd, Nat.reduceSub, Array.replicate_succ, Array.replicate_zero, List.push_toArray, List.append_toArray, List.nil_append, List.cons_append]
  gi_wp2_with fail
  have hB := below_allocs w0 [Obj.cells #[Value.pointer (some ⟨b, 0, none⟩)] 25, Obj.cells #[Value.int .i64 t] 3, Obj.cells #[Value.int .i64 0, .int .i64 0, .slice none 0 0] 24]
  have g0 := blk_at w0 [Obj.cells #[Value.pointer (some ⟨b, 0, none⟩)] 25, Obj.cells #[Value.int .i64 t] 3, Obj.cells #[Value.int .i64 0, .int .i64 0, .slice none 0 0] 24] 0 _ _ rfl
  have g1 := blk_at w0 [Obj.cells #[Value.pointer (some ⟨b, 0, none⟩)] 25, Obj.cells #[Value.int .i64 t] 3, Obj.cells #[Value.int .i64 0, .int .i64 0, .slice none 0 0] 24] 1 _ _ rfl
  have g2 := blk_at w0 [Obj.cells #[Value.pointer (some ⟨b, 0, none⟩)] 25, Obj.cells #[Value.int .i64 t] 3, Obj.cells #[Value.int .i64 0, .int .i64 0, .slice none 0 0] 24] 2 _ _ rfl
  simp only [List.foldl_cons, List.foldl_nil, Nat.add_zero] at hB g0 g1 g2
  obtain ⟨hB, hsz⟩ := hB
  have hU1 := hU.keep hB
  generalize ((w0.alloc (Obj.cells #[Value.pointer (some ⟨b, 0, none⟩)] 25)).alloc (Obj.cells #[Value.int .i64 t] 3)).alloc (Obj.cells #[Value.int .i64 0, .int .i64 0, .slice none 0 0] 24) = w1 at *
  clear hsz
  refine ⟨trivial, ?_⟩
  refine (callsIn_wide.2 (pnone_ok hU1)).mono ?_
  rintro e w2 ⟨rfl, hw⟩
  rw [← hw]
  clear hw
  gi_wp2_with fail
  refine ⟨trivial, ?_⟩
  refine (callsIn_wide.2 (HPOL.out _ hB)).mono ?_
  rintro e w2 ⟨rfl, hK⟩
  replace hB := more hB hK
  replace g0 := g0.keep hK
  replace g1 := g1.keep hK
  replace g2 := g2.keep hK
  replace hU1 := hU1.keep hK
  have hqm := qml.keep hB
  have z1 := cell_kp q1 hB
  have z2 := cell_kp q2 hB
  have z3 := cell_kp q3 hB
  obtain ⟨nq, hnq⟩ : ∃ nq, q.v.length = nq := ⟨_, rfl⟩
  rw [hnq] at z3
  have HNQ := Lib.hid hnq
  have hw1 : wrap64 ((N : Int) + 1 - 1) = (N : Int) := by unfold wrap64; omega
  have hxn : (N : Int) < (N : Int) + 1 := by omega
  clear hK HPOL q1 q2 q3 hnq
  gi_wp2_with fail
  have hcl := fun (W : World) (h : MI 0 W aq kq q.v) => clone_is h (by obtain ⟨r', c', e1, e2, _, h3, _, h4, h5⟩ := HQO.out.nat; have := Nat.mul_le_mul h3 h4; omega)
  rw [HNQ.out] at hcl
  obtain ⟨ob, hob⟩ : ∃ ob, w2.heap.size = ob := ⟨_, rfl⟩
  have hobl : w0.heap.size + 3 ≤ ob := by have := g2.lt; omega
  have hBA := upA (upR w2) (Obj.cells #[Value.int .i64 p0.r, .int .i64 p0.c, .slice aq nq kq] 24)
  have g3 := Blk.new w2 #[Value.int .i64 p0.r, .int .i64 p0.c, .slice aq nq kq] 24
  have hcl2 := hcl _ (hqm.mi.keep hBA)
  replace g0 := g0.keep hBA
  replace g1 := g1.keep hBA
  replace g2 := g2.keep hBA
  replace hU1 := hU1.keep hBA
  replace hB := more hB hBA
  rw [hob] at g3 ⊢
  refine ⟨trivial, ?_⟩
  refine (callsIn_wide.2 hcl2).mono ?_
  rintro e w3 ⟨ac, kc, rfl, hLI, hK⟩
  have hLIo := hLI.mono hB.size
  replace g0 := g0.keep hK
  replace g1 := g1.keep hK
  replace g2 := g2.keep hK
  replace g3 := g3.keep hK
  replace hU1 := hU1.keep hK
  replace hB := more hB hK
  clear hK hBA hcl hcl2 hLI hqm z1 z2 z3
  have d3 := g3.cell
  have f3 := g3.frozen
  have lt3 : ob < w3.heap.size := g3.lt
  have hkk : N ≤ k := by omega
  clear hob hk
  gi_wp2_with fail
  refine ⟨trivial, ?_⟩
  refine (callsIn_wide.2 (backward_is (some x) N k _)).mono ?_
  rintro e W0 ⟨rfl, hW0⟩
  have hne3 : ob ≠ b := by omega
  have g3' := g3.set 2 (.slice ac nq kc)
  have hE3 : Eff (fun k => k = ob) w3 (w3.setCell ⟨ob, 2, none⟩ (.slice ac nq kc)) := Eff.set _ _ rfl
  have hBs := hB.setCell (p := ⟨ob, 2, none⟩) (show w0.heap.size ≤ ob by omega) (.slice ac nq kc)
  replace g0 := hE3.blk g0 (by omega)
  replace g1 := hE3.blk g1 (by omega)
  replace g2 := hE3.blk g2 (by omega)
  replace hLIo := hLIo.eff hE3 (fun k hk ht => by subst hk; exact absurd (ht.inj g3.ty) (by decide))
  have hU3 : UP (w3.setCell ⟨ob, 2, none⟩ (.slice ac nq kc)) b c0 := by obtain ⟨mm, hm⟩ := hU1; exact ⟨mm, hE3.blk hm (Ne.symm hne3)⟩
  have hBb := upA (upR (w3.setCell ⟨ob, 2, none⟩ (.slice ac nq kc))) (Obj.cells #[Value.slice (some x) N k] 31)
  have gb := Blk.new (w3.setCell ⟨ob, 2, none⟩ (.slice ac nq kc)) #[Value.slice (some x) N k] 31
  rw [World.size_setCell] at gb
  rw [hW0] at hBb gb
  have hlt0 : ob < W0.heap.size := Nat.lt_of_lt_of_le (by rw [World.size_setCell]; exact lt3) hBb.size
  replace g0 := g0.keep hBb
  replace g1 := g1.keep hBb
  replace g2 := g2.keep hBb
  replace g3' := g3'.keep hBb
  replace hLIo := hLIo.keep hBb
  replace hU3 := hU3.keep hBb
  have hBw := more hBs hBb
  obtain ⟨bb, hbb⟩ : ∃ bb, w3.heap.size = bb := ⟨_, rfl⟩
  rw [World.size_setCell]
  rw [hbb] at gb lt3 ⊢
  clear hW0 hBb hBs hE3 hbb hU1 d3 f3 g3 hB hU
  have hI0 : AtI w0 b c0 W0.heap.size ob p0 q t [] W0 := ⟨⟨ac, kc, by simpa [HNQ.out] using g3', by simpa using hLIo⟩, by simpa using hU3, Eff.of hBw, Nat.le_refl _, g0, g1, g2⟩
  have hxm : 0 < N → ∃ x', some x = some x' ∧ MFm W0 x' N (fun j => (f j).1) ∧ x'.block < W0.heap.size ∧ ¬ (x'.block = b ∨ x'.block = ob) := fun _ => ⟨x, rfl, hf1.x (n₀ := w0.heap.size) (ex := fun _ => False) (below_x hBw _) ⟨hxl, id⟩, Nat.lt_of_lt_of_le hxl hBw.size, fun h => by rcases h with h | h; exact hnx h; omega⟩
  have hsb : w0.heap.size ≤ W0.heap.size := hBw.size
  clear g0 g1 g2 g3' hLIo hU3 hf1 hf2 qml
  gi_wp2_with fail
  refine wpIn_rangeFunc_ownH rfl (by omega) (gf := 106) (lb := #[.pointer (some ⟨bb, 0, none⟩)]) rfl trivial (enters_of Tryz.func106 (by kernel_rfl) rfl)
    (back_stops (fun y : { y : YM // GdM b w0 p0 y } => y.1) (fun j => j = b ∨ j = ob) Fence.wide free_wide (3 - 1) rfl (by omega) bb W0.heap.size (some x) N k f (by omega) W0 (by simpa using gb.cell 0) ⟨gb.lt, fun h => by rcases h with h | h <;> omega⟩ hxm (Nat.le_refl _)) belowX_t (belowX_b (Nat.le_refl _)) (Below.refl _ _) (fun _ => rfl)
    (fun pre W => AtI w0 b c0 W0.heap.size ob p0 q t (pre.map fun y => y.2.1.m) W) (fun _ _ _ => False)
    (AtI.own _ _ _ _ _ _ _ _ _ _ hsb) (fun _ _ _ _ _ hs _ _ => hs) hI0
    (fun y a' W => ∃ bx, Blk W bx #[.int .i64 y.2.1.m.r, .int .i64 y.2.1.m.c, .slice y.2.1.a y.2.1.m.v.length y.2.1.k] 24 ∧ W0.heap.size ≤ bx ∧ a' = { tmps := #[.pointer (some ⟨b, 0, none⟩), .slice (some x) (N + 1) k, .int .i64 t, .pointer (some ⟨w0.heap.size, 0, none⟩), undef, .pointer (some ⟨w0.heap.size + 1, 0, none⟩), .pointer (some ⟨w0.heap.size + 1 + 1, 0, none⟩), .int .i64 0, .int .i64 N, .pointer (some ⟨ob, 0, none⟩), undef, .pointer (some ⟨bx, 0, none⟩), .bool false, .pointer (some ⟨b, 0, none⟩), .bool false, undef, .bool false, .slice (some x) (N + 1) k, .bool true, .bool false, undef, .slice (some x) (N + 1) k, .int .i64 ((N : Int) + 1), .int .i64 N, .slice (some x) (N + 1) k, .int .i64 N, .pointer (some (x.add (N * 3))), .agg #[.int .i64 p0.r, .int .i64 p0.c, .slice aq nq kq], .pointer (some ⟨ob, 2, none⟩), .slice aq nq kq, .slice ac nq kc, .pointer (some ⟨ob, 2, none⟩), .slice (some x) (N + 1) k, .int .i64 N, .slice (some x) N k, .func (.func 106) #[] #[.pointer (some ⟨bb, 0, none⟩)], .int .i64 y.1, .agg #[.int .i64 y.2.1.m.r, .int .i64 y.2.1.m.c, .slice y.2.1.a y.2.1.m.v.length y.2.1.k], undef, undef, undef, undef, undef, undef, undef, undef, undef, undef, undef, undef, undef, undef, undef], defers := [] })
    (fun y a' _ X Y row hs hg hr => by obtain ⟨bx, h1, h2, h3⟩ := hs; exact ⟨bx, h1.kc (kc_grown hg (fun r e => (hr r e).2)), h2, h3⟩)
    ?assign ?body ?done ?stop
  case assign =>
    rintro l pre y W K hi hK
    obtain ⟨yi, ⟨⟨m, am, km⟩, hgd⟩⟩ := y
    unfold encB at hK ⊢
    dsimp only at hK ⊢
    have hszW := hi.sz
    have HK := Lib.hid hK
    have HI := Lib.hid hi
    clear hK hi
    obtain ⟨nm, hnm⟩ : ∃ nm, m.v.length = nm := ⟨_, rfl⟩
    have HNM := Lib.hid hnm
    rw [hnm] at HK ⊢
    clear hnm hgd
    gi_wp2
    have hBA := upA (upR W) (Obj.cells #[Value.int .i64 m.r, .int .i64 m.c, .slice am nm km] 24)
    exact HK.out _ _ ((KeepsOthers.alloc _ _).from _) (below_x (hBA.mono hszW) _) (HI.out.keep hBA) ⟨W.heap.size, Blk.new _ _ _, hszW, rfl⟩
  case body =>
    rintro l pre y a' W hl2 ⟨r0, hr0⟩ hi ⟨bx, hbx, hbn, rfl⟩ hlt
    obtain ⟨yi, ⟨⟨m, am, km⟩, hgd⟩⟩ := y
    dsimp only at hbx ⊢
    have hgml := hgd.ml
    have hgok := hgd.ok
    have HGR := Lib.hid (show m.r = p0.r from hgd.r)
    have HGC := Lib.hid (show m.c = p0.c from hgd.c)
    dsimp only at hgml hgok
    have HNX := Lib.hid (show ((pre ++ [(yi, (⟨⟨m, am, km⟩, hgd⟩ : { y : YM // GdM b w0 p0 y }))]).map fun y => y.2.1.m).foldl (hstep t) (q, false) = hstep t ((pre.map fun y => y.2.1.m).foldl (hstep t) (q, false)) m by
      rw [List.map_append, List.foldl_append]; rfl)
    have hpok := fold_ok (t := t) (p0 := p0) (pre.map fun y => y.2.1.m) (q, false) ⟨HQO.out, HQR.out, HQC.out⟩
    obtain ⟨a1, k1, hob1, hLI1⟩ := hi.out
    have hup1 := hi.up
    have heff := hi.eff
    have hub1 := hi.ub
    have htb1 := hi.tb
    have hrb1 := hi.rb
    have hszW := hi.sz
    have HNXS := Lib.hid (show ∀ Y, AtI w0 b c0 W0.heap.size ob p0 q t ((pre.map fun y => y.2.1.m) ++ [m]) Y → AtI w0 b c0 W0.heap.size ob p0 q t ((pre ++ [(yi, (⟨⟨m, am, km⟩, hgd⟩ : { y : YM // GdM b w0 p0 y }))]).map fun y => y.2.1.m) Y from fun Y h => by rw [List.map_append]; exact h)
    generalize (pre.map fun y => y.2.1.m) = lp at *
    have HPP := Lib.hid (show (lp ++ [m]).foldl (hstep t) (q, false) = hstep t (lp.foldl (hstep t) (q, false)) m by rw [List.foldl_append]; rfl)
    clear hi HNX
    generalize lp.foldl (hstep t) (q, false) = pp at *
    obtain ⟨hpo, hpr, hpc⟩ := hpok
    obtain ⟨so, sr, sc⟩ := ok_each (fun x _ => timesL [x, t]) pp.1 pp.1 hpo
    have hSC := mscale_is hup1 (hLI1.ml hup1) hpo t ht
    have sr' : (scaleM pp.1 t).1.r = p0.r := sr.trans hpr
    have sc' : (scaleM pp.1 t).1.c = p0.c := sc.trans hpc
    have so' : okMt (scaleM pp.1 t).1 := so
    obtain ⟨to', tr', tc'⟩ := ok_each (fun x y => plusL [x, y]) (scaleM pp.1 t).1 m so'
    have tr : (sumM (scaleM pp.1 t).1 m).1.r = p0.r := tr'.trans sr'
    have tc : (sumM (scaleM pp.1 t).1 m).1.c = p0.c := tc'.trans sc'
    rw [hpr, hpc] at hSC
    have HPP2 := Lib.hid (show (hstep t pp m).1 = (sumM (scaleM pp.1 t).1 m).1 ∧ (c0 || (hstep t pp m).2) = (c0 || pp.2 || (scaleM pp.1 t).2 || (sumM (scaleM pp.1 t).1 m).2) from ⟨rfl, by show (c0 || (pp.2 || (scaleM pp.1 t).2 || (sumM (scaleM pp.1 t).1 m).2)) = _; simp only [Bool.or_assoc]⟩)
    have HSUM := Lib.hid (fun (W2 : World) (cc : Bool) (a2 : Option Addr) (k2 : Nat) (hU2 : UP W2 b cc) (h2 : ML b W2 a2 k2 (scaleM pp.1 t).1.v) (h3 : ML b W2 am km m.v) => msum_is hU2 h2 h3 so' hgok (sr'.trans HGR.out.symm) (sc'.trans HGC.out.symm))
    rw [sr', sc'] at HSUM
    have HSR := Lib.hid sr'
    have HSCC := Lib.hid sc'
    have HTR := Lib.hid tr
    have HTC := Lib.hid tc
    obtain ⟨np, hnp⟩ : ∃ np, pp.1.v.length = np := ⟨_, rfl⟩
    rw [hnp] at hob1 hSC
    obtain ⟨nm, hnm⟩ : ∃ nm, m.v.length = nm := ⟨_, rfl⟩
    rw [hnm] at hbx HSUM
    have HNM := Lib.hid hnm
    generalize hsq : (scaleM pp.1 t) = sq at *
    generalize (sumM sq.1 m) = tq at *
    clear hpo hpr hpc so sr sc sr' sc' so' to' tr' tc' tr tc hgok hnp hnm hsq hLI1
    have ub0 := hub1.cell
    have o0 := hob1.cell
    have tb0 := htb1.cell
    have ne1 : ¬ (w0.heap.size = ob) := by omega
    have ne2 : ¬ (bx = ob) := by omega
    have ne3 : w0.heap.size ≠ b := by omega
    have ne4 : w0.heap.size + 1 ≠ b := by omega
    have ne5 : w0.heap.size + 2 ≠ b := by omega
    have ne6 : bx ≠ b := by omega
    have HSC := Lib.hid hSC
    clear hSC
    gi_wp2_with fail
    refine ⟨trivial, ?_⟩
    refine (CallsIn.inRound l (callsIn_wide.2 HSC.out)).mono ?_
    rintro e W1 ⟨v, rfl, hmo, hU1, hB1⟩
    obtain ⟨a2, k2, rfl, hL2⟩ := hmo.ex
    rw [HSR.out, HSCC.out]
    have ub1 := hB1.blk hub1 ne3
    have tb1 := hB1.blk htb1 ne4
    have rb1 := hB1.blk hrb1 ne5
    have ob1 := hB1.blk hob1 hne3
    have bx1 := hB1.blk hbx ne6
    obtain ⟨ns, hns⟩ : ∃ ns, sq.1.v.length = ns := ⟨_, rfl⟩
    rw [hns]
    have ⟨ob2, hE2⟩ := set3 ob1 (.int .i64 p0.r) (.int .i64 p0.c) (.slice a2 ns k2)
    have hU2 := hU1.off hE2 (Ne.symm hne3)
    have hL2' := (hL2.mono (show w0.heap.size ≤ W.heap.size from heff.size)).eff hE2 (fun k hk ht => by subst hk; exact absurd (ht.inj ob1.ty) (by decide))
    have hEt := (heff.trans (but_eff hB1) (fun _ _ h => h)).trans hE2 (fun k hk h => by omega)
    have hml2 := hgml.but (eff_but hEt)
    have hSM := HSUM.out _ _ a2 k2 hU2 (hL2'.ml hU2) hml2
    rw [hns] at hSM
    have ub2 := hE2.blk ub1 ne1
    have tb2 := hE2.blk tb1 (show ¬ (w0.heap.size + 1 = ob) by omega)
    have rb2 := hE2.blk rb1 (show ¬ (w0.heap.size + 2 = ob) by omega)
    have HSM := Lib.hid hSM
    have c1 := ub1.cell
    have c2 := ob1.cell
    have f2 := ob1.frozen
    have c3 := bx1.cell
    clear hSM hmo HSUM ub0 o0 tb0 hns hL2 hml2
    gi_wp2_with fail
    refine ⟨trivial, ?_⟩
    refine (CallsIn.inRound l (callsIn_wide.2 HSM.out)).mono ?_
    rintro e W3 ⟨v, rfl, hmo, hU3, hB3⟩
    obtain ⟨a4, k4, rfl, hL4⟩ := hmo.ex
    rw [HTR.out, HTC.out]
    have ub3 := hB3.blk ub2 ne3
    have tb3 := hB3.blk tb2 ne4
    have rb3 := hB3.blk rb2 ne5
    have ob3 := hB3.blk ob2 hne3
    obtain ⟨nt, hnt⟩ : ∃ nt, tq.1.v.length = nt := ⟨_, rfl⟩
    rw [hnt]
    have ⟨ob4, hE4⟩ := set3 ob3 (.int .i64 p0.r) (.int .i64 p0.c) (.slice a4 nt k4)
    have hU4 := hU3.off hE4 (Ne.symm hne3)
    have hEt4 := (hEt.trans (but_eff hB3) (fun _ _ h => h)).trans hE4 (fun k hk h => by omega)
    have hL4' := (hL4.mono hEt.size).eff hE4 (fun k hk ht => by subst hk; exact absurd (ht.inj ob3.ty) (by decide))
    have hEW : Eff (fun k => k = b ∨ k = ob) W _ := (((((but_eff hB1).mono (P' := fun k => k = b ∨ k = ob) (fun _ _ h => .inl h)).trans hE2 (fun k _ h => .inr h)).trans (but_eff hB3) (fun k _ h => .inl h)).trans hE4 (fun k _ h => .inr h))
    have F1 := Lib.hid (HNXS.out _ (show AtI w0 b c0 W0.heap.size ob p0 q t (lp ++ [m]) _ from ⟨⟨a4, k4, by rw [HPP.out, HPP2.out.1, hnt]; exact ob4, by rw [HPP.out, HPP2.out.1]; exact hL4'⟩, by rw [HPP.out, HPP2.out.2]; exact hU4, hEt4, Nat.le_trans hszW hEW.size, hE4.blk ub3 ne1, hE4.blk tb3 (show ¬ (w0.heap.size + 1 = ob) by omega), hE4.blk rb3 (show ¬ (w0.heap.size + 2 = ob) by omega)⟩))
    have F2 := Lib.hid ((others_of_eff hEW (fun k hk => by rcases hk with h | h; obtain ⟨mm, hm⟩ := hup1; exact ⟨_, h ▸ hm.ty⟩; exact ⟨_, h ▸ hob1.ty⟩)).from W0.heap.size)
    have F3 : Hid (BelowX W0.heap.size (fun j => j = b ∨ j = ob) W _) := Lib.hid ⟨hEW.os, hEW.tape, hEW.output, hEW.size, fun k hk he => hEW.block k (Nat.lt_of_lt_of_le hk hszW) he⟩
    have c5 := ob3.cell
    have f5 := ob3.frozen
    clear hnt hEW hL4' hEt4 hU4 hE4 ob4 ub3 tb3 rb3 hmo hL4 HSM c1 c2 c3 f2 ub2 tb2 rb2 hEt hL2' hU2 hE2 ob2 hB3 hU3 hB1 hU1
    gi_wp2_with fail
    exact ⟨F2.out, F3.out, F1.out⟩
  case done =>
    rintro D ys W hD rfl hi hK
    obtain ⟨a1, k1, hob1, hLI1⟩ := hi.out
    have HI := Lib.hid hi
    rw [← HFIN.out] at hob1 hLI1
    have hpok := fold_ok (t := t) (p0 := p0) ((backL f N N).map fun y => y.2.1.m) (q, false) ⟨HQO.out, HQR.out, HQC.out⟩
    rw [← HFIN.out] at hpok
    have hup := hi.up
    rw [← HFIN.out] at hup
    have hrb := hi.rb
    have heff := hi.eff
    obtain ⟨hh, hhe⟩ : ∃ hh, hornM t (init ++ [q]) = hh := ⟨_, rfl⟩
    rw [hhe] at hob1 hLI1 hpok hup
    have HHE := Lib.hid hhe
    clear hhe
    obtain ⟨nh, hnh⟩ : ∃ nh, hh.1.v.length = nh := ⟨_, rfl⟩
    rw [hnh] at hob1
    have c0' := hob1.cell
    have d0 := hrb.cell
    have f0 := hrb.frozen
    clear hi HFIN HI
    gi_wp2_with fail
    have ⟨r4, hE4⟩ := set3 hrb (.int .i64 p0.r) (.int .i64 p0.c) (.slice a1 nh k1)
    have hKO : (((W.setCell ⟨w0.heap.size + 2, 0, none⟩ (.int .i64 p0.r)).setCell ⟨w0.heap.size + 2, 1, none⟩ (.int .i64 p0.c)).setCell ⟨w0.heap.size + 2, 2, none⟩ (.slice a1 nh k1)).heap[D]? = some (.deferred (some [])) := (((KeepsOthers.setCell W _ _).trans (KeepsOthers.setCell _ _ _)).trans (KeepsOthers.setCell _ _ _)).same _ _ hK rfl
    have hKC := kc_grown (grownBy_putObj' (((W.setCell ⟨w0.heap.size + 2, 0, none⟩ (.int .i64 p0.r)).setCell ⟨w0.heap.size + 2, 1, none⟩ (.int .i64 p0.c)).setCell ⟨w0.heap.size + 2, 2, none⟩ (.slice a1 nh k1)) D (.deferred none)) (fun r e => by cases e; exact ⟨_, hKO, rfl⟩)
    refine ⟨by simp, .inl ⟨_, _, rfl, run_takeDeferred hKO, ?_⟩⟩
    have hE5 := heff.trans hE4 (fun k hk h => by omega)
    have hL5 := hLI1.eff hE4 (fun k hk ht => by subst hk; exact absurd (ht.inj hrb.ty) (by decide))
    have hb2 := belowK_b (w := w0) (Nat.le_refl _) _ D _ (.deferred none) (by omega) hKO rfl rfl
    rw [HHE.out]
    refine ⟨_, results_ct (g := w0.heap.size + 2) (cs := #[.int .i64 p0.r, .int .i64 p0.c, .slice a1 nh k1]) rfl _ _ rfl (r4.kc hKC) Tryz.underlying24 rfl (by kernel_rfl), _, rfl, ⟨⟨a1, k1, by rw [hpok.2.1, hpok.2.2, hnh], hL5.kc hKC⟩, by rw [hpok.2.1]; exact HP64.out.1, by rw [hpok.2.2]; exact HP64.out.2⟩, ?_, ?_⟩
    · obtain ⟨mm, hm⟩ := hup
      exact ⟨mm, (hE4.blk hm (show ¬ (b = w0.heap.size + 2) by omega)).kc hKC⟩
    · exact ⟨hb2.os.trans hE5.os, hb2.tape.trans hE5.tape, hb2.output.trans hE5.output, Nat.le_trans hE5.size hb2.size, fun k hk hn => (hb2.block k hk).trans (hE5.block k hk hn)⟩
  case stop =>
    rintro D c pre W _ _ h _
    exact h.elim

end Go.Proofs.YtkjbidpafnmogaaGreat.Base
