/- sync.best: the best of a clock's exchanges. -/
import Derived.Test.YtfjdooloikofoaaSyncG
namespace Go.Proofs.Ytfjdooloikofoaa.SyncA
open Go.RowKit Go.Shelf Go.Proofs.Ytfjdooloikofoaa.StampA Go.Proofs.Ytfjdooloikofoaa.Base
set_option linter.unusedVariables false
attribute [local go_sem] Oper.semAt_some

def bstep (o : Option TSw) (x : TSw) : Option TSw :=
  match o with
  | none => some x
  | some y => if rnd x.1 ≤ rnd y.1 then some x else some y
def bst (l : List TSw) : Option TSw := l.foldl bstep none
theorem bst_snoc (l : List TSw) (x : TSw) : bst (l ++ [x]) = bstep (bst l) x := by simp [bst, List.foldl_append]

def outc : Option TSw → Array Value
  | none => #[.int .i64 0, .int .i64 0, .int .i64 0, .int .i64 0]
  | some x => swc x.1

theorem all_stops (F : Fence) (hF : Base.Free F) (n : Nat) (hro : F.round = none) (hn : 1 ≤ n) (Bn n₀ b : Nat) (win f : Int) (g : Nat → Sw) (xs : List TSw) (w : World)
    (hBn : w.cell? ⟨Bn, 0, none⟩ = some (.pointer (some ⟨b, 0, none⟩))) (hBl : Bn < n₀) (hbl : b < n₀) (hn0 : n₀ ≤ w.heap.size) (hC : Clk w b win f xs.length g)
    (hw : 1 ≤ win) (hw2 : win ≤ 32) (hf : 0 ≤ f) (hf2 : f < win) (hlen : xs.length ≤ 32) (hI : Is g win f xs) :
    SeqStopsK F n Try.prog 56 #[.pointer (some ⟨Bn, 0, none⟩)] (fun x : TSw => #[x.1.val]) (Below n₀) (fun ys => ys = xs) (fun pre => pre <+: xs) xs.length w := fun l J Jx W hW hJ _ hY h0 =>
  all1_in F hF n hro hn l Bn n₀ b win f g xs J Jx hY (fun pre W' h => abides_drew hJ pre W' h) W ((hW.cell (p := ⟨Bn, 0, none⟩) (Nat.lt_of_lt_of_le hBl hn0)).trans hBn) hBl hbl (Nat.le_trans hn0 hW.size) (hC.below hW) hw hw2 hf hf2 hlen hI h0

structure BestI (w : World) (pre : List TSw) (W : World) : Prop where
  out : Blk W (w.heap.size + 1) (outc (bst pre)) 48
  is : Blk W (w.heap.size + 1 + 1) #[.bool (bst pre).isSome] 4
  fn : Blk W w.heap.size #[.func (.func 53) #[] #[]] 84
  below : Below w.heap.size w W

theorem bestI_own (w : World) (B : Nat) (hB : w.heap.size ≤ B) : OwnFrom B (fun pre W => BestI w pre W) := fun s X Y row hs hg hr =>
  ⟨blk_ownF B _ _ (fun s => outc (bst s)) s X Y row hs.out hg hr, blk_ownF B _ _ (fun s => #[.bool (bst s).isSome]) s X Y row hs.is hg hr, blk_ownF B _ _ (fun _ : List TSw => #[.func (.func 53) #[] #[]]) s X Y row hs.fn hg hr,
   ownFrom_below (Nat.le_refl _) hB s X Y row hs.below hg hr⟩

theorem BestI.keep {w W W' : World} {pre : List TSw} (h : BestI w pre W) (hK : Below W.heap.size W W') : BestI w pre W' :=
  ⟨h.out.keep hK, h.is.keep hK, h.fn.keep hK, h.below.trans (hK.mono h.below.size)⟩

theorem best_store {w W : World} {pre : List TSw} {B : Nat} (h : BestI w pre W) (x : TSw) (hb : bst (pre ++ [x]) = some x) :
    let W' := ((((W.setCell ⟨w.heap.size + 1, 0, none⟩ (.int .i64 x.1.t1)).setCell ⟨w.heap.size + 1, 1, none⟩ (.int .i64 x.1.t2)).setCell ⟨w.heap.size + 1, 2, none⟩ (.int .i64 x.1.t3)).setCell ⟨w.heap.size + 1, 3, none⟩ (.int .i64 x.1.t4)).setCell ⟨w.heap.size + 1 + 1, 0, none⟩ (.bool true)
    KeepsFrom B W W' ∧ Below w.heap.size W W' ∧ BestI w (pre ++ [x]) W' := by
  intro W'
  have hl := h.is.lt
  refine ⟨(((((KeepsOthers.setCell _ _ _).trans (KeepsOthers.setCell _ _ _)).trans (KeepsOthers.setCell _ _ _)).trans (KeepsOthers.setCell _ _ _)).trans (KeepsOthers.setCell _ _ _)).from _, ?_, ?_⟩
  · exact (((((Below.refl _ W).setCell (by simp) _).setCell (by simp) _).setCell (by simp) _).setCell (by simp) _).setCell (by simp; omega) _
  · refine ⟨?_, ?_, ?_, ?_⟩
    · rw [hb]
      have := ((((h.out.set 0 (.int .i64 x.1.t1)).set 1 (.int .i64 x.1.t2)).set 2 (.int .i64 x.1.t3)).set 3 (.int .i64 x.1.t4)).other (c := w.heap.size + 1 + 1) (by omega) 0 (.bool true)
      have e : ((((outc (bst pre)).setIfInBounds 0 (.int .i64 x.1.t1)).setIfInBounds 1 (.int .i64 x.1.t2)).setIfInBounds 2 (.int .i64 x.1.t3)).setIfInBounds 3 (.int .i64 x.1.t4) = outc (some x) := by
        cases bst pre <;> rfl
      rw [e] at this
      exact this
    · rw [hb]
      exact ((((h.is.other (c := w.heap.size + 1) (by omega) _ _).other (c := w.heap.size + 1) (by omega) _ _).other (c := w.heap.size + 1) (by omega) _ _).other (c := w.heap.size + 1) (by omega) _ _).set 0 (.bool true)
    · exact ((((h.fn.other (c := w.heap.size + 1) (by omega) _ _).other (c := w.heap.size + 1) (by omega) _ _).other (c := w.heap.size + 1) (by omega) _ _).other (c := w.heap.size + 1) (by omega) _ _).other (by omega) _ _
    · exact ((((h.below.setCell (by simp) _).setCell (by simp) _).setCell (by simp) _).setCell (by simp) _).setCell (by simp; omega) _

theorem best_pass {w W : World} {pre : List TSw} {y : TSw} (h : BestI w pre W) (x : TSw) (hb : bst (pre ++ [x]) = some y) (hy : bst pre = some y) : BestI w (pre ++ [x]) W :=
  ⟨by rw [hb, ← hy]; exact h.out, by rw [hb, ← hy]; exact h.is, h.fn, h.below⟩

theorem Blk.putObj {W : World} {b l : Nat} {cs : Array Value} {t : TypeId} {o : Obj} (h : Blk W b cs t) (o' : Obj) (hl : W.heap[l]? = some o) (ho : o.isCells = false) : Blk (W.putObj l o') b cs t :=
  (blk_own b t (fun (_ : Unit) => cs)).putObj (s := ()) o' h hl ho

structure _root_.Go.World.EndI (V w : World) (D : Nat) (cs : Array Value) (bi : Bool) : Prop where
  d : V.heap[D]? = some (.deferred (some []))
  out : Blk V (w.heap.size + 1) cs 48
  is : Blk V (w.heap.size + 1 + 1) #[.bool bi] 4
  below : Below w.heap.size w V

theorem best_end {w W : World} {ys : List TSw} {y : Sw} {D : Nat} (h : BestI w ys W) (ho : Blk W (w.heap.size + 1) (swc y) 48) (hK : W.heap[D]? = some (.deferred (some []))) (bi : Bool) (he : (bst ys).isSome = bi) :
    ((((W.setCell ⟨w.heap.size + 1, 0, none⟩ (.int .i64 y.t1)).setCell ⟨w.heap.size + 1, 1, none⟩ (.int .i64 y.t2)).setCell ⟨w.heap.size + 1, 2, none⟩ (.int .i64 y.t3)).setCell ⟨w.heap.size + 1, 3, none⟩ (.int .i64 y.t4)).setCell ⟨w.heap.size + 1 + 1, 0, none⟩ (.bool bi) |>.EndI w D (swc y) bi := by
  have hl := h.is.lt
  refine ⟨?_, ?_, ?_, ?_⟩
  · exact ((((KeepsOthers.setCell W _ _).trans (KeepsOthers.setCell _ _ _)).trans (KeepsOthers.setCell _ _ _)).trans (KeepsOthers.setCell _ _ _)).trans (KeepsOthers.setCell _ _ _) |>.same D _ hK rfl
  · exact ((((ho.set 0 (.int .i64 y.t1)).set 1 (.int .i64 y.t2)).set 2 (.int .i64 y.t3)).set 3 (.int .i64 y.t4)).other (c := w.heap.size + 1 + 1) (by omega) 0 (.bool bi)
  · exact ((((h.is.other (c := w.heap.size + 1) (by omega) _ _).other (c := w.heap.size + 1) (by omega) _ _).other (c := w.heap.size + 1) (by omega) _ _).other (c := w.heap.size + 1) (by omega) _ _).set 0 (.bool bi)
  · exact ((((h.below.setCell (by simp) _).setCell (by simp) _).setCell (by simp) _).setCell (by simp) _).setCell (by simp; omega) _

set_option maxHeartbeats 4000000 in
set_option maxRecDepth 100000 in
theorem best_any (Bn b : Nat) (win f : Int) (g : Nat → Sw) (xs : List TSw) (w : World)
    (hBn : w.cell? ⟨Bn, 0, none⟩ = some (.pointer (some ⟨b, 0, none⟩))) (hC : Clk w b win f xs.length g)
    (hw : 1 ≤ win) (hw2 : win ≤ 32) (hf : 0 ≤ f) (hf2 : f < win) (hlen : xs.length ≤ 32) (hI : Is g win f xs) :
    Calls Try.prog 51 #[.func (.func 56) #[] #[.pointer (some ⟨Bn, 0, none⟩)], .func (.func 53) #[] #[]] w
      fun e w' => e = .returned (.tuple #[.agg (outc (bst xs)), .bool (bst xs).isSome]) ∧ Below w.heap.size w w' := by
  have hBnl : Bn < w.heap.size := World.block_lt_of_cell? w _ hBn
  have hbl := hC.lt
  refine (callsIn_wide (n := 3)).1 ?_
  refine callsIn_of_wp_marks Try.func51 rfl trivial ?_ rfl
  simp only [Try.ntmps51, List.size_toArray, List.length_cons, List.length_nil, Nat.reduceAdd, Nat.reduceSub, Array.replicate_succ, Array.replicate_zero, List.push_toArray, List.append_toArray, List.nil_append, List.cons_append]
  gi_wp2
  obtain ⟨W0, hW0⟩ : ∃ W0, ((w.alloc (.cells #[.func (.func 53) #[] #[]] 84)).alloc (.cells #[.int .i64 0, .int .i64 0, .int .i64 0, .int .i64 0] 48)).alloc (.cells #[.bool false] 4) = W0 := ⟨_, rfl⟩
  have hB0 : Below w.heap.size w W0 := by rw [← hW0]; exact (((Below.refl _ _).alloc (Nat.le_refl _) _).alloc (by simp) _).alloc (by simp; omega) _
  have hsz : W0.heap.size = w.heap.size + 3 := by rw [← hW0]; simp
  have hI0 : BestI w [] W0 := by
    refine ⟨?_, ?_, ?_, hB0⟩
    · rw [← hW0]
      have := (Blk.new (w.alloc (.cells #[.func (.func 53) #[] #[]] 84)) #[.int .i64 0, .int .i64 0, .int .i64 0, .int .i64 0] 48).alloc (.cells #[.bool false] 4)
      rw [World.size_alloc] at this; exact this
    · rw [← hW0]
      have := Blk.new ((w.alloc (.cells #[.func (.func 53) #[] #[]] 84)).alloc (.cells #[.int .i64 0, .int .i64 0, .int .i64 0, .int .i64 0] 48)) #[.bool false] 4
      rw [World.size_alloc, World.size_alloc] at this; exact this
    · rw [← hW0]; exact ((Blk.new w _ _).alloc _).alloc _
  rw [hW0]
  clear hW0
  refine wpIn_rangeFunc_ownH rfl (by omega) (gf := 56) (lb := #[.pointer (some ⟨Bn, 0, none⟩)]) rfl trivial (enters_of Try.func56 (by kernel_rfl) rfl)
    (all_stops Fence.wide free_wide (3 - 1) rfl (by omega) Bn w.heap.size b win f g xs W0 ((hB0.cell (p := ⟨Bn, 0, none⟩) hBnl).trans hBn) hBnl hbl (by omega) (hC.below hB0) hw hw2 hf hf2 hlen hI) belowK_t (belowK_b (by omega)) (Below.refl _ _) (fun _ => rfl)
    (fun pre W => BestI w pre W) (fun _ _ _ => False)
    (bestI_own w _ (by omega)) (fun _ _ _ _ _ hs _ _ => hs) hI0
    (fun x a' W => ∃ Bx, w.heap.size + 1 + 1 < Bx ∧ Blk W Bx (swc x.1) 48 ∧ a' = { tmps := #[.func (.func 56) #[] #[.pointer (some ⟨Bn, 0, none⟩)], .func (.func 53) #[] #[], undef, .pointer (some ⟨w.heap.size, 0, none⟩), .pointer (some ⟨w.heap.size + 1, 0, none⟩), .pointer (some ⟨w.heap.size + 1 + 1, 0, none⟩), .pointer (some ⟨Bx, 0, none⟩), .func (.func 56) #[] #[.pointer (some ⟨Bn, 0, none⟩)], x.1.val, undef, undef, undef, undef, undef, undef, undef, undef, undef, undef, undef], defers := [] })
    (fun x a' _ X Y row hs hg hr => by obtain ⟨Bx, h1, h2, h3⟩ := hs; exact ⟨Bx, h1, blk_own Bx 48 (fun (_ : Unit) => swc x.1) () X Y row h2 hg (fun r e => (hr r e).2), h3⟩)
    ?assign ?body ?done ?stop
  case assign =>
    rintro l pre x W K hi hK
    obtain ⟨⟨x1, x2, x3, x4⟩, hx⟩ := x
    unfold Sw.val
    dsimp only
    gi_wp2
    have hsW := hi.below.size
    exact hK _ _ ((KeepsOthers.alloc _ _).from _) ((Below.refl _ W).alloc hsW _) ⟨hi.out.alloc _, hi.is.alloc _, hi.fn.alloc _, hi.below.alloc hsW _⟩ ⟨W.heap.size, hi.is.lt, Blk.new W _ _, rfl⟩
  case body =>
    rintro l pre x a' W hl ⟨r, hr⟩ hi ⟨Bx, hBx, bX, rfl⟩ hlt
    obtain ⟨⟨x1, x2, x3, x4⟩, hx⟩ := x
    have hsW := hi.below.size
    have cf := hi.fn.cell 0
    have ci := hi.is.cell 0
    have fi := hi.is.frozen 0
    have o0 := hi.out.cell 0
    have o1 := hi.out.cell 1
    have o2 := hi.out.cell 2
    have o3 := hi.out.cell 3
    have f0 := hi.out.frozen 0
    have f1 := hi.out.frozen 1
    have f2 := hi.out.frozen 2
    have f3 := hi.out.frozen 3
    have x0 := bX.cell 0
    have x1' := bX.cell 1
    have x2' := bX.cell 2
    have x3' := bX.cell 3
    have h1' : 1 ≤ 3 - 1 - 1 := by omega
    cases hb : bst pre with
    | none =>
      rw [hb] at ci o0 o1 o2 o3
      simp [outc, swc] at cf ci o0 o1 o2 o3 x0 x1' x2' x3'
      have HS := Lib.hid (fun W' (hK : Below W.heap.size W W') => best_store (B := W0.heap.size) (hi.keep hK) ⟨⟨x1, x2, x3, x4⟩, hx⟩ (by rw [bst_snoc, hb]; rfl))
      have HB := Lib.hid hb
      clear hb hr
      unfold Sw.val
      dsimp only
      gi_wp2
      refine ⟨fun _ _ => trivial, ?_⟩
      gi_wp2
      exact HS.out W (.refl _ _)
    | some y =>
      obtain ⟨⟨y1, y2, y3, y4⟩, hy⟩ := y
      rw [hb] at ci o0 o1 o2 o3
      simp [outc, swc] at cf ci o0 o1 o2 o3 x0 x1' x2' x3'
      have HB := Lib.hid hb
      by_cases hle : x4 - x1 - (x3 - x2) ≤ y4 - y1 - (y3 - y2)
      · have HS := Lib.hid (fun W' (hK : Below W.heap.size W W') => best_store (B := W0.heap.size) (hi.keep hK) ⟨⟨x1, x2, x3, x4⟩, hx⟩ (by rw [bst_snoc, hb]; exact if_pos hle))
        clear hb hr
        unfold Sw.val
        dsimp only
        gi_wp2
        refine ⟨trivial, ?_⟩
        gi_wp2_with fail
        refine (CallsIn.inRound l (callsIn_wide.2 (better_any x1 x2 x3 x4 y1 y2 y3 y4 _ hx hy))).mono ?_
        rintro e W2 ⟨rfl, hK⟩
        have hi2 := hi.keep hK
        have bX2 := bX.keep hK
        have m0 := hi2.is.cell 0
        have m1 := hi2.is.frozen 0
        have p0 := hi2.out.cell 0
        have p1 := hi2.out.cell 1
        have p2 := hi2.out.cell 2
        have p3 := hi2.out.cell 3
        have g0 := hi2.out.frozen 0
        have g1 := hi2.out.frozen 1
        have g2 := hi2.out.frozen 2
        have g3 := hi2.out.frozen 3
        have z0 := bX2.cell 0
        have z1 := bX2.cell 1
        have z2 := bX2.cell 2
        have z3 := bX2.cell 3
        rw [HB.out] at m0 p0 p1 p2 p3
        simp [outc, swc] at m0 p0 p1 p2 p3 z0 z1 z2 z3
        have HF := Lib.hid hK
        clear hK hi2 bX2
        gi_wp2
        obtain ⟨s1, s2, s3⟩ := HS.out W2 HF.out
        exact ⟨((keeps_of_below HF.out).from _).trans s1, (HF.out.mono hsW).trans s2, s3⟩
      · have HS := Lib.hid (fun W' (hK : Below W.heap.size W W') => best_pass (hi.keep hK) ⟨⟨x1, x2, x3, x4⟩, hx⟩ (by rw [bst_snoc, hb]; exact if_neg hle) hb)
        clear hb hr
        unfold Sw.val
        dsimp only
        gi_wp2
        refine ⟨trivial, ?_⟩
        gi_wp2_with fail
        refine (CallsIn.inRound l (callsIn_wide.2 (better_any x1 x2 x3 x4 y1 y2 y3 y4 _ hx hy))).mono ?_
        rintro e W2 ⟨rfl, hK⟩
        gi_wp2
        exact ⟨(keeps_of_below hK).from _, hK.mono hsW, HS.out W2 hK⟩
  case done =>
    rintro D ys W hD rfl hi hK
    have hsW := hi.below.size
    have m0 := hi.is.cell 0
    have m1 := hi.is.frozen 0
    have g0 := hi.out.frozen 0
    have g1 := hi.out.frozen 1
    have g2 := hi.out.frozen 2
    have g3 := hi.out.frozen 3
    obtain ⟨⟨y1, y2, y3, y4⟩, hy⟩ : ∃ y : Sw, outc (bst ys) = swc y := by
      cases bst ys with
      | none => exact ⟨⟨0, 0, 0, 0⟩, rfl⟩
      | some z => exact ⟨z.1, rfl⟩
    have ho := hi.out
    rw [hy] at ho
    have p0 := ho.cell 0
    have p1 := ho.cell 1
    have p2 := ho.cell 2
    have p3 := ho.cell 3
    simp [swc] at m0 p0 p1 p2 p3
    have HY := Lib.hid hy
    have HO := Lib.hid ho
    have HI := Lib.hid hi
    clear hi ho hy
    have HK := Lib.hid hK
    clear hK
    generalize he : (bst ys).isSome = bi at *
    have HE := Lib.hid he
    clear he
    gi_wp2
    gi_region
    gi_wp2
    have hV := best_end HI.out HO.out HK.out bi HE.out
    generalize ((((W.setCell { block := w.heap.size + 1, off := 0 } (Value.int IntKind.i64 y1)).setCell { block := w.heap.size + 1, off := 1 } (Value.int IntKind.i64 y2)).setCell { block := w.heap.size + 1, off := 2 } (Value.int IntKind.i64 y3)).setCell { block := w.heap.size + 1, off := 3 } (Value.int IntKind.i64 y4)).setCell { block := w.heap.size + 1 + 1, off := 0 } (Value.bool bi) = V at *
    have hVK : V.drew.heap[D]? = some (.deferred (some [])) := hV.d
    have v1 := hV.out.drew
    have v2 := hV.is.drew
    have vB := hV.below.drew
    refine ⟨by simp, .inl ⟨_, _, rfl, run_takeDeferred hVK, ?_⟩⟩
    have u1 := SyncA.Blk.putObj v1 (.deferred none) hVK rfl
    have u2 := SyncA.Blk.putObj v2 (.deferred none) hVK rfl
    have q0 := u1.cell 0
    have q1 := u1.cell 1
    have q2 := u1.cell 2
    have q3 := u1.cell 3
    have q4 := u2.cell 0
    simp [swc] at q0 q1 q2 q3 q4
    refine ⟨.tuple #[.agg #[.int .i64 y1, .int .i64 y2, .int .i64 y3, .int .i64 y4], .bool bi], ?_, ?_, ?_⟩
    · simp [results, Try.f51, go_sem, q0, q1, q2, q3, q4]
    · rw [HY.out, HE.out]; rfl
    · exact vB.trans (belowK_b (w := w) (Nat.le_refl _) V.drew D _ _ (by omega) hVK rfl rfl)
  case stop =>
    rintro D c pre W _ _ h _
    exact h.elim

end Go.Proofs.Ytfjdooloikofoaa.SyncA
