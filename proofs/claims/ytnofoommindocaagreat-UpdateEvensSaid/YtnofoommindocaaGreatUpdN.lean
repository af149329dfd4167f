/- binnacleref02, binnacleref04: differences, halves; a flag that is set. update: the chapter's examples: one number that is seen as it is. update: the chapter's example is answered as it says (law 13's awake). Even of update and of its reference, whole. UpdateEvens: the walk. -/
import Derived.Test.YtnofoommindocaaGreatRefU
import Derived.Test.YtnofoommindocaaGreatUpdM
import Derived.Test.YtnofoommindocaaGreatUpdD
namespace Go.Proofs.YtnofoommindocaaGreat.Base
open Go.RowKit Go Go.Shelf Go.Deep
set_option linter.unusedVariables false
set_option linter.unusedSimpArgs false

theorem rHalf2_is (a b : Int) (ha : I64 a) (hb : I64 b) (W : World) : Calls Tryz.prog 229 #[.int .i64 a, .int .i64 b] W fun e w' => e = .returned (RetF (halfF a b)) ∧ Below W.heap.size W w' := by
  go_enter Tryz.func229, Tryz.ntmps229
  go_wp2_with fail
  refine (rsum_is a b 1 (by decide) ha hb _).mono ?_
  rintro e w1 ⟨rfl, hK⟩
  rw [sumF_half]
  unfold RetF
  go_wp2_with fail
  go_ret2
  exact ⟨rfl, hK⟩

set_option maxHeartbeats 1000000 in
set_option maxRecDepth 100000 in
theorem rSub2_is (a b : Int) (ha : I64 a) (hb : I64 b) (W : World) : Calls Tryz.prog 105 #[.int .i64 a, .int .i64 b] W fun e w' => e = .returned (RetF (subF a b)) ∧ Below W.heap.size W w' := by
  have fa := heldI_fx ha
  have fb := heldI_fx hb
  have hv : W127 (heldI a - heldI b) := by unfold Fx at fa fb; unfold W127; omega
  have hO : ∀ z W, I64 z → Calls Tryz.prog 164 #[.int .i64 z] W fun e w' => e = .returned (.agg #[.int .i64 (hiW z), .int .u64 (loW z)]) ∧ Below W.heap.size W w' := fun z W hz => rOf_is z hz W
  have hA := rAddA_is (heldI a) (-(heldI b))
  rw [show heldI a + -heldI b = heldI a - heldI b by omega] at hA
  go_enter Tryz.func105, Tryz.ntmps105
  go_wp2_with fail
  refine (taken_is a _).mono ?_
  rintro e w1 ⟨rfl, rfl⟩
  go_wp2_with fail
  refine (taken_is b _).mono ?_
  rintro e w1 ⟨rfl, rfl⟩
  go_wp2_with fail
  refine (hO (heldI a) _ fa.i64).mono ?_
  rintro e w2 ⟨rfl, hB⟩
  go_wp2_with fail
  refine (hO (heldI b) _ fb.i64).mono ?_
  rintro e w3 ⟨rfl, hK⟩
  replace hB := more hB hK
  clear hK
  go_wp2_with fail
  refine (rNegA_is (heldI b) _).mono ?_
  rintro e w3' ⟨rfl, hK⟩
  replace hB := more hB hK
  clear hK
  go_wp2_with fail
  refine (hA _).mono ?_
  rintro e w4 ⟨rfl, hK⟩
  replace hB := more hB hK
  clear hK fa fb hO hA
  obtain ⟨V, hV⟩ : ∃ V, heldI a - heldI b = V := ⟨_, rfl⟩
  obtain ⟨oa, hoa⟩ : ∃ o, oddI a = o := ⟨_, rfl⟩
  obtain ⟨ob, hob⟩ : ∃ o, oddI b = o := ⟨_, rfl⟩
  rw [hV] at hv ⊢
  rw [hoa, hob]
  have HR := Lib.hid (show subF a b = (fitN V, (fitC V || oa) || ob) by rw [← hV, ← hoa, ← hob]; rfl)
  clear hV hoa hob
  cases oa <;>
  · go_wp2_with fail
    refine (rfits_fx V hv _ _).mono ?_
    rintro e w7 ⟨rfl, hK⟩
    have hE := more hB hK
    clear hB hK
    go_wp2_with fail
    go_ret2
    refine ⟨?_, hE⟩
    rw [HR.out]
    unfold RetF
    simp

theorem uSubR_is {W : World} {b : Nat} {c : Bool} (h : UR W b c) (x y : Int) (hx : I64 x) (hy : I64 y) :
    Calls Tryz.prog 63 #[.pointer (some ⟨b, 0, none⟩), .int .i64 x, .int .i64 y] W fun e w' => e = .returned (.int .i64 (subF x y).1) ∧ UR w' b (c || (subF x y).2) ∧ But b W w' := by
  have hC := fun W => rSub2_is x y hx hy W
  obtain ⟨p, hp⟩ : ∃ p, subF x y = p := ⟨_, rfl⟩
  rw [hp] at hC ⊢
  clear hp
  go_enter Tryz.func63, Tryz.ntmps63
  go_wp2_with fail
  refine (hC _).mono ?_
  rintro e w1 ⟨rfl, hK⟩
  unfold RetF
  have h1 := h.keep hK
  go_wp2_with fail
  refine (didR_is h1 p.1 p.2).mono ?_
  rintro e w2 ⟨rfl, h2, hB⟩
  have hB2 := (But.of (b := b) hK).trans hB
  clear hB hK h h1
  go_wp2_with fail
  go_ret
  exact ⟨rfl, h2, hB2⟩
theorem uHalfR_is {W : World} {b : Nat} {c : Bool} (h : UR W b c) (x y : Int) (hx : I64 x) (hy : I64 y) :
    Calls Tryz.prog 197 #[.pointer (some ⟨b, 0, none⟩), .int .i64 x, .int .i64 y] W fun e w' => e = .returned (.int .i64 (halfF x y).1) ∧ UR w' b (c || (halfF x y).2) ∧ But b W w' := by
  have hC := fun W => rHalf2_is x y hx hy W
  obtain ⟨p, hp⟩ : ∃ p, halfF x y = p := ⟨_, rfl⟩
  rw [hp] at hC ⊢
  clear hp
  go_enter Tryz.func197, Tryz.ntmps197
  go_wp2_with fail
  refine (hC _).mono ?_
  rintro e w1 ⟨rfl, hK⟩
  unfold RetF
  have h1 := h.keep hK
  go_wp2_with fail
  refine (didR_is h1 p.1 p.2).mono ?_
  rintro e w2 ⟨rfl, h2, hB⟩
  have hB2 := (But.of (b := b) hK).trans hB
  clear hB hK h h1
  go_wp2_with fail
  go_ret
  exact ⟨rfl, h2, hB2⟩
theorem uSetR_is {W : World} {b : Nat} {c : Bool} (h : UR W b c) (k : Bool) :
    Calls Tryz.prog 20 #[.pointer (some ⟨b, 0, none⟩), .bool k] W fun e w' => e = .returned (.tuple #[]) ∧ UR w' b (c || k) ∧ But b W w' := by
  obtain ⟨m, hb⟩ := h
  have c0 := hb.cell
  have f0 := hb.frozen
  have hB := But.refl b W
  cases c with
  | true =>
    rw [Bool.true_or]
    have h2 := hb.set 0 (.bool true)
    have hB2 := hB.set 0 (.bool true)
    clear hb hB
    go_enter Tryz.func20, Tryz.ntmps20
    go_wp2_with fail
    go_returns
    exact ⟨rfl, ⟨_, h2⟩, hB2⟩
  | false =>
    rw [Bool.false_or]
    have h2 := hb.set 0 (.bool k)
    have hB2 := hB.set 0 (.bool k)
    clear hb hB
    go_enter Tryz.func20, Tryz.ntmps20
    go_wp2_with fail
    go_returns
    exact ⟨rfl, ⟨_, h2⟩, hB2⟩

end Go.Proofs.YtnofoommindocaaGreat.Base
namespace Go.Proofs.YtnofoommindocaaGreat.Base
open Go.RowKit
set_option linter.unusedVariables false
set_option linter.unusedSimpArgs false

def mdl1 (gate : Int) : Mdl := ⟨1, [0], [0], 4294967296, gate, 1, []⟩
def row1 (r : Int) : Rw := ⟨1, [4294967296], r⟩
theorem okM_one {gate : Int} (h : 1 ≤ gate) : okM (mdl1 gate) := by
  refine ⟨⟨show (1 : Int) ≤ 1 by decide, show (1 : Int) ≤ 6 by decide⟩, ⟨fun j hb => ?_, rfl⟩, ⟨rfl, fun ⟨z, hz, ho⟩ => ?_⟩, ⟨⟨show (1 : Int) ≤ 4294967296 by decide, show (4294967296 : Int) ≤ 4294967296 by decide⟩, h, show (1 : Int) ≤ 1 by decide⟩, ⟨fun j ⟨h, _⟩ => absurd h (Nat.not_lt_zero j), Nat.zero_le _⟩⟩
  · obtain ⟨h, hne, hor⟩ := hb
    have h4 : j < 1 := h
    obtain rfl : j = 0 := by omega
    exact hne rfl
  · have hz' : z ∈ [(0 : Int)] := hz
    simp at hz'
    subst hz'
    exact ho (by decide)
theorem seen_one {gate r : Int} (h : 1 ≤ r) : seenP (mdl1 gate) (row1 r) := by
  refine ⟨rfl, h, fun ⟨z, hz, hf⟩ => ?_⟩
  have hz' : z ∈ [(4294967296 : Int)] := hz
  simp at hz'
  subst hz'
  exact absurd hf (by decide)
theorem fits_one {gate : Int} (hg : 1 ≤ gate) {b : Blf} {x p : Int} (hX : b.X = [x]) (hP : b.P = [p]) (hx : x ≠ lowest) (hp : 0 ≤ p) (ht : okBT b) : fitsV (mdl1 gate) b = 0 := by
  refine fitsV_iff.2 ⟨okM_one hg, ⟨by rw [hX]; rfl, by rw [hP]; rfl⟩, ht, fun i hi => ?_⟩
  have hi' : i < 1 := hi
  obtain rfl : i = 0 := by omega
  rw [hX, hP]
  refine ⟨hx, hp, fun k hk => ?_⟩
  have hk' : k < 1 := hk
  obtain rfl : k = 0 := by omega
  exact ⟨fun e => by have e' : p = lowest := e; unfold lowest at e'; omega, rfl⟩
section
variable {P : Program}
theorem results_cc {fn : Func} {p q : Tmp} {ty tz : TypeId} (h : fn.results = #[.cell p ty, .cell q tz]) (tmps : Array Value) (w : World) {g k : Nat} {t s : TypeId} {cs ds : Array Value} {d e : TypeDesc}
    (hp : tmps.getD p undef = .pointer (some ⟨g, 0, none⟩)) (hg : Blk w g cs t) (hu : P.underlying ty = some d) (hd : (match d with | .struct _ | .array _ _ => true | _ => false) = true) (hi : (P.info? ty).map (·.size) = some cs.size)
    (hq : tmps.getD q undef = .pointer (some ⟨k, 0, none⟩)) (hk : Blk w k ds s) (hv : P.underlying tz = some e) (he : (match e with | .struct _ | .array _ _ => true | _ => false) = true) (hj : (P.info? tz).map (·.size) = some ds.size) :
    (results fn tmps).run P w = .ok (.tuple #[.agg cs, .agg ds]) w := by
  have hp' : tmps[p]?.getD undef = .pointer (some ⟨g, 0, none⟩) := by simpa using hp
  have hq' : tmps[q]?.getD undef = .pointer (some ⟨k, 0, none⟩) := by simpa using hq
  simp [results, h, hp', hq', asAddr, run_loadVar_row w g t ty cs (0, 0) d hg hu hd hi, run_loadVar_row w k s tz ds (0, 0) e hk hv he hj]
end

set_option maxHeartbeats 2000000 in
set_option maxRecDepth 100000 in
theorem single_is (gate r : Int) (hg : I64 gate) (hr : I64 r) (W : World) : Calls Tryz.prog 36 #[.int .i64 gate, .int .i64 r] W fun e w' =>
    ∃ v1 aH, e = .returned (.tuple #[v1, .agg #[.int .i64 1, .slice aH 1 1, .int .i64 r]]) ∧ MM W.heap.size w' v1 (mdl1 gate) ∧ MI W.heap.size w' aH 1 [4294967296] ∧ Below W.heap.size W w' := by
  go_enter Tryz.func36, Tryz.ntmps36
  have hB := below_allocs W [Obj.cells #[.int .i64 0, .slice none 0 0, .slice none 0 0, .int .i64 0, .int .i64 0, .int .i64 0, .slice none 0 0] 25, Obj.cells #[.int .i64 0, .slice none 0 0, .int .i64 0] 29, Obj.cells #[.int .i64 0] 3, Obj.cells #[.int .i64 0] 3, Obj.cells #[.int .i64 4294967296] 3]
  have g0 := blk_at W [Obj.cells #[.int .i64 0, .slice none 0 0, .slice none 0 0, .int .i64 0, .int .i64 0, .int .i64 0, .slice none 0 0] 25, Obj.cells #[.int .i64 0, .slice none 0 0, .int .i64 0] 29, Obj.cells #[.int .i64 0] 3, Obj.cells #[.int .i64 0] 3, Obj.cells #[.int .i64 4294967296] 3] 0 _ _ rfl
  have g1 := blk_at W [Obj.cells #[.int .i64 0, .slice none 0 0, .slice none 0 0, .int .i64 0, .int .i64 0, .int .i64 0, .slice none 0 0] 25, Obj.cells #[.int .i64 0, .slice none 0 0, .int .i64 0] 29, Obj.cells #[.int .i64 0] 3, Obj.cells #[.int .i64 0] 3, Obj.cells #[.int .i64 4294967296] 3] 1 _ _ rfl
  have g2 := blk_at W [Obj.cells #[.int .i64 0, .slice none 0 0, .slice none 0 0, .int .i64 0, .int .i64 0, .int .i64 0, .slice none 0 0] 25, Obj.cells #[.int .i64 0, .slice none 0 0, .int .i64 0] 29, Obj.cells #[.int .i64 0] 3, Obj.cells #[.int .i64 0] 3, Obj.cells #[.int .i64 4294967296] 3] 2 _ _ rfl
  have g3 := blk_at W [Obj.cells #[.int .i64 0, .slice none 0 0, .slice none 0 0, .int .i64 0, .int .i64 0, .int .i64 0, .slice none 0 0] 25, Obj.cells #[.int .i64 0, .slice none 0 0, .int .i64 0] 29, Obj.cells #[.int .i64 0] 3, Obj.cells #[.int .i64 0] 3, Obj.cells #[.int .i64 4294967296] 3] 3 _ _ rfl
  have g4 := blk_at W [Obj.cells #[.int .i64 0, .slice none 0 0, .slice none 0 0, .int .i64 0, .int .i64 0, .int .i64 0, .slice none 0 0] 25, Obj.cells #[.int .i64 0, .slice none 0 0, .int .i64 0] 29, Obj.cells #[.int .i64 0] 3, Obj.cells #[.int .i64 0] 3, Obj.cells #[.int .i64 4294967296] 3] 4 _ _ rfl
  simp only [List.foldl_cons, List.foldl_nil, Nat.add_zero] at hB g0 g1 g2 g3 g4
  replace hB := hB.1
  go_wp2_with first
    | ((with_reducible refine at_st (p := 4) (q := 9) rfl ?_); refine ev_store rfl 25 _ _ rfl rfl g0 0 rfl rfl [.int .i64 1, .slice (some ⟨W.heap.size + 2, 0, none⟩) 1 1, .slice (some ⟨W.heap.size + 3, 0, none⟩) 1 1, .int .i64 4294967296, .int .i64 gate, .int .i64 1, .slice none 0 0] rfl (by kernel_rfl) rfl rfl #[.int .i64 1, .slice (some ⟨W.heap.size + 2, 0, none⟩) 1 1, .slice (some ⟨W.heap.size + 3, 0, none⟩) 1 1, .int .i64 4294967296, .int .i64 gate, .int .i64 1, .slice none 0 0] rfl ?_; intro w3 h0 ef3 hz3; have h1 := ef3.blk g1 (by omega))
    | ((with_reducible refine at_st (p := 5) (q := 12) rfl ?_); refine ev_store rfl 29 _ _ rfl rfl h1 0 rfl rfl [.int .i64 1, .slice (some ⟨W.heap.size + 4, 0, none⟩) 1 1, .int .i64 r] rfl (by kernel_rfl) rfl rfl #[.int .i64 1, .slice (some ⟨W.heap.size + 4, 0, none⟩) 1 1, .int .i64 r] rfl ?_; intro w4 k1 ef4 hz4; have k0 := ef4.blk h0 (by omega))
  have k2 := ef4.blk (ef3.blk g2 (by omega)) (by omega)
  have k3 := ef4.blk (ef3.blk g3 (by omega)) (by omega)
  have k4 := ef4.blk (ef3.blk g4 (by omega)) (by omega)
  have hB4 := ef4.below (ef3.below hB (fun k hk => by omega)) (fun k hk => by omega)
  refine bodyPost_ret (results_cc (g := W.heap.size) (cs := #[.int .i64 1, .slice (some ⟨W.heap.size + 2, 0, none⟩) 1 1, .slice (some ⟨W.heap.size + 3, 0, none⟩) 1 1, .int .i64 4294967296, .int .i64 gate, .int .i64 1, .slice none 0 0]) (k := W.heap.size + 1) (ds := #[.int .i64 1, .slice (some ⟨W.heap.size + 4, 0, none⟩) 1 1, .int .i64 r]) rfl _ _ rfl k0 Tryz.underlying25 rfl (by kernel_rfl) rfl k1 Tryz.underlying29 rfl (by kernel_rfl)) rfl ?_
  refine ⟨_, some ⟨W.heap.size + 4, 0, none⟩, rfl, ⟨⟨some ⟨W.heap.size + 2, 0, none⟩, 1, some ⟨W.heap.size + 3, 0, none⟩, 1, none, 0, rfl, ?_, ?_, ⟨fun k hk => absurd hk (Nat.not_lt_zero _), by simp [mdl1, maxLen], fun x hx => (by cases hx), fun _ => rfl, Nat.zero_le _⟩⟩, show I64 1 from ⟨by decide, by decide⟩, show I64 4294967296 from ⟨by decide, by decide⟩, hg, show I64 1 from ⟨by decide, by decide⟩⟩, ?_, hB4⟩
  · exact MI.of_blk (zs := [0]) k2 (by omega) (all_i64 (by decide)) (by decide)
  · exact MI.of_blk (zs := [0]) k3 (by omega) (all_i64 (by decide)) (by decide)
  · exact MI.of_blk (zs := [4294967296]) k4 (by omega) (all_i64 (by decide)) (by decide)

set_option maxRecDepth 100000 in
/-- The chapter's example. -/
theorem one_awake : OneIs (mdl1 17179869184) ⟨0, [0], [4294967296], false, 0, 0⟩ (row1 4294967296) 8589934592 false ⟨0, [4294967296], [2147483648], false, 1, 0⟩ ⟨true, [4294967296], [4294967296], 8589934592, 8589934592⟩ false :=
  .on 1 ([4294967296], false) (4294967296, false) (8589934592, false) (0, false) (8589934592, false) (17179869184, false) (8589934592, false) ([2147483648], false) ([4294967296], false) [2147483648] false
    rfl ⟨by kernel_rfl, by kernel_rfl, by kernel_rfl, by kernel_rfl, by kernel_rfl, by kernel_rfl, by kernel_rfl⟩ (by decide) (by kernel_rfl) (by kernel_rfl)
    (.mk ([2147483648], false) (⟨1, 1, [1073741824]⟩, false) (⟨1, 1, [2147483648]⟩, false) ([2147483648], false) (by kernel_rfl) (by kernel_rfl) (by kernel_rfl) (by kernel_rfl))

end Go.Proofs.YtnofoommindocaaGreat.Base
namespace Go.Proofs.YtnofoommindocaaGreat.Base
open Go.RowKit
set_option linter.unusedVariables false
set_option linter.unusedSimpArgs false

theorem uNew_is2 (W : World) : Calls Tryz.prog 14 #[] W fun e w' => e = .returned (.pointer (some ⟨W.heap.size, 0, none⟩)) ∧ UP w' W.heap.size false ∧ Below W.heap.size W w' := by
  go_enter Tryz.func14, Tryz.ntmps14
  go_wp2_with fail
  go_ret
  exact ⟨rfl, ⟨0, Blk.new _ _ _⟩, upA (upR W) _⟩
theorem LI.eqi {B : Nat} {W W' : World} {a : Option Addr} {c : Nat} {zs : List Int} (h : LI B W a c zs) (hb : ∀ k, Ty W k 3 → W'.heap[k]? = W.heap[k]?) : LI B W' a c zs := h.same fun x hx hn => hb _ (h.wj.ty x hx hn)
theorem BL.eqi {B : Nat} {W W' : World} {v : Value} {x : Blf} (h : BL B W v x) (hb : ∀ k, Ty W k 3 → W'.heap[k]? = W.heap[k]?) : BL B W' v x := by
  obtain ⟨aX, cX, aP, cP, hv, h1, h2⟩ := h.ex
  exact ⟨⟨aX, cX, aP, cP, hv, h1.eqi hb, h2.eqi hb⟩, h.t, h.pass, h.fail⟩
theorem TL.eqi {B : Nat} {W W' : World} {v : Value} {x : Tr} (h : TL B W v x) (hb : ∀ k, Ty W k 3 → W'.heap[k]? = W.heap[k]?) : TL B W' v x := by
  obtain ⟨aX, cX, aP, cP, hv, h1, h2⟩ := h.ex
  exact ⟨⟨aX, cX, aP, cP, hv, h1.eqi hb, h2.eqi hb⟩, h.s, h.n⟩
theorem BL.mono {B B' : Nat} {W : World} {v : Value} {x : Blf} (h : BL B W v x) (hB : B' ≤ B) : BL B' W v x := by
  obtain ⟨aX, cX, aP, cP, hv, h1, h2⟩ := h.ex
  exact ⟨⟨aX, cX, aP, cP, hv, h1.mono hB, h2.mono hB⟩, h.t, h.pass, h.fail⟩
theorem TL.mono {B B' : Nat} {W : World} {v : Value} {x : Tr} (h : TL B W v x) (hB : B' ≤ B) : TL B' W v x := by
  obtain ⟨aX, cX, aP, cP, hv, h1, h2⟩ := h.ex
  exact ⟨⟨aX, cX, aP, cP, hv, h1.mono hB, h2.mono hB⟩, h.s, h.n⟩
theorem BL.mb {B : Nat} {W : World} {v : Value} {x : Blf} (h : BL B W v x) : MB B W v x := by
  obtain ⟨aX, cX, aP, cP, hv, h1, h2⟩ := h.ex
  exact ⟨⟨aX, cX, aP, cP, hv, h1.mi, h2.mi⟩, h.t, h.pass, h.fail⟩
def b0A : Blf := ⟨0, [0], [4294967296], false, 0, 0⟩
def b1A : Blf := ⟨0, [4294967296], [2147483648], false, 1, 0⟩
def t1A : Tr := ⟨true, [4294967296], [4294967296], 8589934592, 8589934592⟩
theorem BLTL_b {B : Nat} {W : World} {v : Value} (h : BL B W v b1A) : ∃ aX cX aP cP, v = .agg #[.int .i64 0, .slice aX 1 cX, .slice aP 1 cP, .bool false, .int .i64 1, .int .i64 0] ∧ LI B W aX cX [4294967296] ∧ LI B W aP cP [2147483648] := by
  obtain ⟨aX, cX, aP, cP, hv, h1, h2⟩ := h.ex
  exact ⟨aX, cX, aP, cP, hv, h1, h2⟩
theorem BLTL_t {B : Nat} {W : World} {v : Value} (h : TL B W v t1A) : ∃ aX cX aP cP, v = .agg #[.bool true, .slice aX 1 cX, .slice aP 1 cP, .int .i64 8589934592, .int .i64 8589934592] ∧ LI B W aX cX [4294967296] ∧ LI B W aP cP [4294967296] := by
  obtain ⟨aX, cX, aP, cP, hv, h1, h2⟩ := h.ex
  exact ⟨aX, cX, aP, cP, hv, h1, h2⟩
theorem fitsA : fitsV (mdl1 17179869184) b0A = 0 := fits_one (by decide) rfl rfl (by decide) (by decide) ⟨by decide, by decide, by decide⟩
theorem updA : UpdV (mdl1 17179869184) b0A (row1 4294967296) 0 := .ok fitsA (seen_one (by decide))
theorem oneA_is {w0 : World} {b : Nat} (hU : UP w0 b false) {vM vB vq : Value} (hM : MW b w0 vM (mdl1 17179869184)) (hB : BW b w0 vB b0A) (hq : QW b w0 vq (row1 4294967296)) :
    Calls Tryz.prog 24 #[.pointer (some ⟨b, 0, none⟩), vM, vB, vq, .int .i64 8589934592] w0 fun e w' => ∃ v1 v2, e = .returned (.tuple #[v1, v2, .int .i64 0]) ∧ BL w0.heap.size w' v1 b1A ∧ TL w0.heap.size w' v2 t1A ∧ But b w0 w' := by
  refine (one_is hU hM hB hq (Nat.zero_le _) 8589934592 ⟨by decide, by decide⟩).mono ?_
  rintro e w' (⟨v, hv, rfl, hV, _⟩ | ⟨_, v1, v2, B', T', c', rfl, hO, h1, h2, _, h4⟩)
  · exact absurd (hV.inj updA) hv
  · obtain ⟨rfl, rfl, _⟩ := hO.inj one_awake
    exact ⟨v1, v2, rfl, h1, h2, h4⟩

set_option maxHeartbeats 8000000 in
set_option maxRecDepth 100000 in
theorem awake13_is (w0 : World) : Calls Tryz.prog 18 #[] w0 fun e w' => e = .returned (.bool true) ∧ Below w0.heap.size w0 w' := by
  go_enter Tryz.func18, Tryz.ntmps18
  go_wp2_with fail
  refine (single_is 17179869184 4294967296 (by unfold I64; omega) (by unfold I64; omega) w0).mono ?_
  rintro e w1 ⟨v1, aH, rfl, hM, hH, hB⟩
  have hM0 := hM
  obtain ⟨aA, cA, aQ, cQ, aR, cR, hv1, _⟩ := hM.ex
  replace hv1 : v1 = .agg #[Value.int .i64 1, Value.slice aA 1 cA, Value.slice aQ 1 cQ, Value.int .i64 4294967296, Value.int .i64 17179869184, Value.int .i64 1, Value.slice aR 0 cR] := hv1
  subst hv1
  go_wp2_with first
    | ((with_reducible refine at_dst (N := 1) rfl ?_); refine ev_new rfl (cs := #[.int .i64 0, .slice none 0 0, .slice none 0 0, .int .i64 0, .int .i64 0, .int .i64 0, .slice none 0 0]) (t := 25) (by go_simp) ?_; intro w2 g1 hB2 hz2)
    | ((with_reducible refine at_dst (N := 2) rfl ?_); refine ev_new rfl (cs := #[.int .i64 0, .slice none 0 0, .int .i64 0]) (t := 29) (by go_simp) ?_; intro w3 g2 hB3 hz3; have g1' := g1.keep hB3)
    | ((with_reducible refine at_st (p := 1) (q := 8) rfl ?_); refine ev_store rfl 25 _ _ rfl rfl g1' 0 rfl rfl [Value.int .i64 1, Value.slice aA 1 cA, Value.slice aQ 1 cQ, Value.int .i64 4294967296, Value.int .i64 17179869184, Value.int .i64 1, Value.slice aR 0 cR] rfl (by kernel_rfl) rfl rfl #[Value.int .i64 1, Value.slice aA 1 cA, Value.slice aQ 1 cQ, Value.int .i64 4294967296, Value.int .i64 17179869184, Value.int .i64 1, Value.slice aR 0 cR] rfl ?_; intro w4 g3 ef4 hz4; have g2' := ef4.blk g2 (by omega))
    | ((with_reducible refine at_st (p := 2) (q := 9) rfl ?_); refine ev_store rfl 29 _ _ rfl rfl g2' 0 rfl rfl [Value.int .i64 1, Value.slice aH 1 1, Value.int .i64 4294967296] rfl (by kernel_rfl) rfl rfl #[Value.int .i64 1, Value.slice aH 1 1, Value.int .i64 4294967296] rfl ?_; intro w5 gq ef5 hz5; have gm := ef5.blk g3 (by omega))
  have hB5 : Below w1.heap.size w1 w5 := ef5.below (ef4.below (more hB2 hB3) (fun k hk => by omega)) (fun k hk => by omega)
  have hB6 := more hB hB5
  have HMW := Lib.hid (fun (W : World) (u : Nat) (h : Below w5.heap.size w5 W) (hu : w5.heap.size ≤ u) => (⟨hM0.ex, hM0.n, hM0.tick, hM0.gate, hM0.rmin⟩ : MM w0.heap.size w1 _ _))
  have hMI : MM 0 w5 (.agg #[Value.int .i64 1, Value.slice aA 1 cA, Value.slice aQ 1 cQ, Value.int .i64 4294967296, Value.int .i64 17179869184, Value.int .i64 1, Value.slice aR 0 cR]) (mdl1 17179869184) := by
    have h := hM0.keep hB5
    obtain ⟨aA', cA', aQ', cQ', aR', cR', e0, h1, h2, h3⟩ := h.ex
    refine ⟨⟨aA', cA', aQ', cQ', aR', cR', e0, h1.mono (Nat.zero_le _), h2.mono (Nat.zero_le _), ⟨fun k hk => absurd hk (Nat.not_lt_zero _), h3.len, fun _ _ _ => Nat.zero_le _, h3.nn, h3.cap⟩⟩, h.n, h.tick, h.gate, h.rmin⟩
  have hHI : MI 0 w5 aH 1 [4294967296] := (hH.keep hB5).mono (Nat.zero_le _)
  have HONE := Lib.hid (fun (W : World) (u e1 e2 : Nat) (h : Below w5.heap.size w5 W) (hu : w5.heap.size ≤ u) (hU : UP W u false) (k1 : Blk W e1 #[.int .i64 0] 3) (k2 : Blk W e2 #[.int .i64 4294967296] 3) =>
    oneA_is hU (hMI.mw h hu) (vB := .agg #[.int .i64 0, .slice (some ⟨e1, 0, none⟩) 1 1, .slice (some ⟨e2, 0, none⟩) 1 1, .bool false, .int .i64 0, .int .i64 0])
      ⟨⟨some ⟨e1, 0, none⟩, 1, some ⟨e2, 0, none⟩, 1, rfl, ml_new (zs := [0]) k1 (by obtain ⟨n, hn⟩ := hU; exact blk_ne k1 hn (by decide)) (all_i64 (by decide)) (by decide), ml_new (zs := [4294967296]) k2 (by obtain ⟨n, hn⟩ := hU; exact blk_ne k2 hn (by decide)) (all_i64 (by decide)) (by decide)⟩, show I64 0 from ⟨by decide, by decide⟩, show I64 0 from ⟨by decide, by decide⟩, show I64 0 from ⟨by decide, by decide⟩⟩
      (vq := .agg #[Value.int .i64 1, Value.slice aH 1 1, Value.int .i64 4294967296]) ⟨⟨aH, 1, rfl, hHI.mlb h hu⟩, show I64 1 from ⟨by decide, by decide⟩, show I64 4294967296 from ⟨by decide, by decide⟩⟩)
  obtain ⟨mb, hmb⟩ : ∃ mb, w1.heap.size = mb := ⟨_, rfl⟩
  obtain ⟨qb, hqb⟩ : ∃ qb, w2.heap.size = qb := ⟨_, rfl⟩
  rw [hmb] at gm
  rw [hqb] at gq
  rw [hmb, hqb]
  clear hmb hqb HMW hMI hHI hM0 hM hH g1 g2 g1' g2' g3 ef4 ef5 hz2 hz3 hz4 hz5 hB2 hB3 hB5 hB
  go_wp2_with fail
  refine region_fp [some 11, some 12, some 13, some 14, some 15, some 16, some 17, some 10, some 18, some 19, some 20, some 3, some 4, none, none, some 5] [0, 6, 8, 9, 11, 12, 13, 14] [none, some (Value.agg #[Value.int .i64 1, Value.slice aA 1 cA, Value.slice aQ 1 cQ, Value.int .i64 4294967296, Value.int .i64 17179869184, Value.int .i64 1, Value.slice aR 0 cR]), none, none, none, some (Value.agg #[Value.int .i64 1, Value.slice aH 1 1, Value.int .i64 4294967296]), none, none, none, none, some (Value.int .i64 0), none, none, none, none, some (Value.int .i64 0)]
    (fun i v W => match i with | 0 => ∃ u, v = Value.pointer (some ⟨u, 0, none⟩) ∧ w5.heap.size ≤ u | 2 => ∃ e, v = Value.slice (some ⟨e, 0, none⟩) 1 1 ∧ Blk W e #[.int .i64 0] 3 | 3 => ∃ e, v = Value.slice (some ⟨e, 0, none⟩) 1 1 ∧ Blk W e #[.int .i64 4294967296] 3 | 4 => ∃ e1 e2, v = Value.agg #[Value.int .i64 0, Value.slice (some ⟨e1, 0, none⟩) 1 1, Value.slice (some ⟨e2, 0, none⟩) 1 1, Value.bool false, Value.int .i64 0, Value.int .i64 0] ∧ Blk W e1 #[.int .i64 0] 3 ∧ Blk W e2 #[.int .i64 4294967296] 3 | 6 => ∃ v1 v2, v = Value.tuple #[v1, v2, Value.int .i64 0] ∧ BL w5.heap.size W v1 b1A ∧ TL w5.heap.size W v2 t1A | 7 => ∃ v1 v2, v = Value.tuple #[v1, v2, Value.int .i64 0] ∧ BL w5.heap.size W v1 b1A ∧ TL w5.heap.size W v2 t1A | 8 => BL w5.heap.size W v b1A | 9 => TL w5.heap.size W v t1A | 11 => ∃ e, v = Value.pointer (some ⟨e, 0, none⟩) | 12 => ∃ e, v = Value.pointer (some ⟨e, 0, none⟩) | _ => True) (fun W W' => ∀ k, Ty W k 3 → W'.heap[k]? = W.heap[k]?) (fun L f W => Below w5.heap.size w5 W ∧ (∀ u, f 0 = Value.pointer (some ⟨u, 0, none⟩) → L 0 = true → L 6 = false → UP W u false) ∧ (∀ e, f 11 = Value.pointer (some ⟨e, 0, none⟩) → L 11 = true → w5.heap.size ≤ e ∧ (L 13 = false → Blk W e #[.int .i64 0, .slice none 0 0, .slice none 0 0, .bool false, .int .i64 0, .int .i64 0] 27) ∧ (L 13 = true → Blk W e (f 8).cells 27)) ∧ (∀ e, f 12 = Value.pointer (some ⟨e, 0, none⟩) → L 12 = true → w5.heap.size ≤ e ∧ (L 14 = false → Blk W e #[.bool false, .slice none 0 0, .slice none 0 0, .int .i64 0, .int .i64 0] 46) ∧ (L 14 = true → Blk W e (f 9).cells 46)))
    (by kernel_rfl) (by kernel_rfl) (by kernel_rfl) (by kernel_rfl) (by kernel_rfl) (fun _ _ _ => rfl) (fun i v W W' h hb => by
      match i, h with
      | 0, h => exact h
      | 2, ⟨e, h1, h2⟩ => exact ⟨e, h1, (hb e h2.ty).trans h2⟩
      | 3, ⟨e, h1, h2⟩ => exact ⟨e, h1, (hb e h2.ty).trans h2⟩
      | 4, ⟨e, e2, h1, h2, h3⟩ => exact ⟨e, e2, h1, (hb e h2.ty).trans h2, (hb e2 h3.ty).trans h3⟩
      | 6, ⟨v1, v2, h1, h2, h3⟩ => exact ⟨v1, v2, h1, h2.eqi hb, h3.eqi hb⟩
      | 7, ⟨v1, v2, h1, h2, h3⟩ => exact ⟨v1, v2, h1, h2.eqi hb, h3.eqi hb⟩
      | 8, h => exact h.eqi hb
      | 9, h => exact h.eqi hb
      | 11, h => exact h
      | 12, h => exact h
      | 1, _ | 5, _ | 10, _ | 13, _ | 14, _ | 15, _ => trivial
      | (m + 16), _ => trivial) (fun L L' f f' W h hs => by have q0 := h 0 (by decide); have q6 := (h 6 (by decide)).1; have q8 := (h 8 (by decide)).2; have q9 := (h 9 (by decide)).2; have q11 := h 11 (by decide); have q12 := h 12 (by decide); have q13 := (h 13 (by decide)).1; have q14 := (h 14 (by decide)).1; (try dsimp only at hs ⊢); rw [← q0.1, ← q0.2, ← q6, ← q8, ← q9, ← q11.1, ← q11.2, ← q12.1, ← q12.2, ← q13, ← q14]; exact hs) ⟨(Below.refl _ _).drew, fun _ _ h => (Bool.false_ne_true h).elim, fun _ _ h => (Bool.false_ne_true h).elim, fun _ _ h => (Bool.false_ne_true h).elim⟩ ?_ ?_
  · intro i hi b' L f W hSW hL hdep hsh he hsv hsl hFF K hK1 hK2
    replace hi : i < 16 := hi
    have hcs : i = 0 ∨ i = 1 ∨ i = 2 ∨ i = 3 ∨ i = 4 ∨ i = 5 ∨ i = 6 ∨ i = 7 ∨ i = 8 ∨ i = 9 ∨ i = 10 ∨ i = 11 ∨ i = 12 ∨ i = 13 ∨ i = 14 ∨ i = 15 := by omega
    clear hi
    rcases hcs with rfl | rfl | rfl | rfl | rfl | rfl | rfl | rfl | rfl | rfl | rfl | rfl | rfl | rfl | rfl | rfl
    · refine wpOpS_go rfl rfl ?_
      obtain ⟨s0, s1, s2, s3⟩ := hSW
      have HK := Lib.hid hK2
      have hws := s0.size
      clear hK1 hK2 hdep hsh he hsv hsl hFF
      go_simp
      refine (uNew_is2 W).mono ?_
      rintro e w6 ⟨rfl, hU6, hB⟩
      exact HK.out _ _ (fp_x rfl ⟨_, rfl, hws⟩) (fun k hk => hB.block k hk.lt) ⟨s0.trans (hB.mono s0.size), fun u h1 _ _ => by
        rw [updF_same] at h1
        cases h1
        exact hU6, fun e h1 h2 => ⟨(s2 e h1 h2).1, fun h => ((s2 e h1 h2).2.1 h).keep hB, fun h => ((s2 e h1 h2).2.2 h).keep hB⟩, fun e h1 h2 => ⟨(s3 e h1 h2).1, fun h => ((s3 e h1 h2).2.1 h).keep hB, fun h => ((s3 e h1 h2).2.2 h).keep hB⟩⟩
    · refine wpOpS_go rfl rfl ?_
      have t1 : b'.tmps[1]?.getD undef = Value.pointer (some ⟨mb, 0, none⟩) := he 1 (by kernel_rfl)
      obtain ⟨s0, s1, s2, s3⟩ := hSW
      have gb := s0.block mb gm.lt
      have gb2 : Blk W mb #[Value.int .i64 1, Value.slice aA 1 cA, Value.slice aQ 1 cQ, Value.int .i64 4294967296, Value.int .i64 17179869184, Value.int .i64 1, Value.slice aR 0 cR] 25 := gb.trans gm
      have HK := Lib.hid hK1
      clear hK1 hK2 hdep hsh he hsv hsl hFF hL
      clear s0 s1 s2 s3
      refine op_load 25 _ rfl gb2 0 (eval_tmp t1) [Value.int .i64 1, Value.slice aA 1 cA, Value.slice aQ 1 cQ, Value.int .i64 4294967296, Value.int .i64 17179869184, Value.int .i64 1, Value.slice aR 0 cR] rfl Tryz.underlying25 rfl (by kernel_rfl) ?_
      exact HK.out rfl _ (fp_mk rfl rfl trivial)
    · refine wpOpS_go rfl rfl ?_
      obtain ⟨s0, s1, s2, s3⟩ := hSW
      have HK := Lib.hid hK2
      clear hK1 hK2 hdep hsh he hsv hsl hFF hL
      refine op_slice1 (cs := #[.int .i64 0]) (t := 3) (by go_simp) ?_
      intro w6 hbn hB hz
      exact HK.out _ _ (fp_x rfl ⟨_, rfl, hbn⟩) (fun k hk => hB.block k hk.lt) ⟨s0.trans (hB.mono s0.size), fun u h1 h2 h3 => (s1 u h1 h2 h3).keep hB, fun e h1 h2 => ⟨(s2 e h1 h2).1, fun h => ((s2 e h1 h2).2.1 h).keep hB, fun h => ((s2 e h1 h2).2.2 h).keep hB⟩, fun e h1 h2 => ⟨(s3 e h1 h2).1, fun h => ((s3 e h1 h2).2.1 h).keep hB, fun h => ((s3 e h1 h2).2.2 h).keep hB⟩⟩
    · refine wpOpS_go rfl rfl ?_
      obtain ⟨s0, s1, s2, s3⟩ := hSW
      have HK := Lib.hid hK2
      clear hK1 hK2 hdep hsh he hsv hsl hFF hL
      refine op_slice1 (cs := #[.int .i64 4294967296]) (t := 3) (by go_simp) ?_
      intro w6 hbn hB hz
      exact HK.out _ _ (fp_x rfl ⟨_, rfl, hbn⟩) (fun k hk => hB.block k hk.lt) ⟨s0.trans (hB.mono s0.size), fun u h1 h2 h3 => (s1 u h1 h2 h3).keep hB, fun e h1 h2 => ⟨(s2 e h1 h2).1, fun h => ((s2 e h1 h2).2.1 h).keep hB, fun h => ((s2 e h1 h2).2.2 h).keep hB⟩, fun e h1 h2 => ⟨(s3 e h1 h2).1, fun h => ((s3 e h1 h2).2.1 h).keep hB, fun h => ((s3 e h1 h2).2.2 h).keep hB⟩⟩
    · refine wpOpS_go rfl rfl ?_
      obtain ⟨t13, hx⟩ := hsl 2 13 (by kernel_rfl) (by kernel_rfl)
      obtain ⟨e1, q1, hb1⟩ := hx
      rw [q1] at t13
      obtain ⟨t14, hx⟩ := hsl 3 14 (by kernel_rfl) (by kernel_rfl)
      obtain ⟨e2, q2, hb2⟩ := hx
      rw [q2] at t14
      have HK := Lib.hid hK1
      clear hK1 hK2 hdep hsh he hsv hsl hFF hL hSW q1 q2
      go_simp
      exact HK.out rfl _ (fp_x rfl ⟨e1, e2, rfl, hb1, hb2⟩)
    · refine wpOpS_go rfl rfl ?_
      have t2 : b'.tmps[2]?.getD undef = Value.pointer (some ⟨qb, 0, none⟩) := he 2 (by kernel_rfl)
      obtain ⟨s0, s1, s2, s3⟩ := hSW
      have gb := s0.block qb gq.lt
      have gb2 : Blk W qb #[Value.int .i64 1, Value.slice aH 1 1, Value.int .i64 4294967296] 29 := gb.trans gq
      have HK := Lib.hid hK1
      clear hK1 hK2 hdep hsh he hsv hsl hFF hL
      clear s0 s1 s2 s3
      refine op_load 29 _ rfl gb2 0 (eval_tmp t2) [Value.int .i64 1, Value.slice aH 1 1, Value.int .i64 4294967296] rfl Tryz.underlying29 rfl (by kernel_rfl) ?_
      exact HK.out rfl _ (fp_mk rfl rfl trivial)
    · refine wpOpS_go rfl rfl ?_
      have t12 : b'.tmps[12]?.getD undef = Value.agg #[Value.int .i64 1, Value.slice aA 1 cA, Value.slice aQ 1 cQ, Value.int .i64 4294967296, Value.int .i64 17179869184, Value.int .i64 1, Value.slice aR 0 cR] := hsv 1 12 _ (by kernel_rfl) (by kernel_rfl) rfl
      have t16 : b'.tmps[16]?.getD undef = Value.agg #[Value.int .i64 1, Value.slice aH 1 1, Value.int .i64 4294967296] := hsv 5 16 _ (by kernel_rfl) (by kernel_rfl) rfl
      obtain ⟨t11, hx⟩ := hsl 0 11 (by kernel_rfl) (by kernel_rfl)
      obtain ⟨u, q1, hu⟩ := hx
      rw [q1] at t11
      obtain ⟨t15, hx⟩ := hsl 4 15 (by kernel_rfl) (by kernel_rfl)
      obtain ⟨e1, e2, q2, hb1, hb2⟩ := hx
      rw [q2] at t15
      obtain ⟨s0, s1, s2, s3⟩ := hSW
      have hU := s1 u q1 (hdep 0 (by kernel_rfl)) hL
      have HK := Lib.hid hK2
      have hA := HONE.out W u e1 e2 s0 hu hU hb1 hb2
      clear hK1 hK2 hdep hsh he hsv hsl hFF q2
      go_simp
      refine hA.mono ?_
      rintro e w6 ⟨v1, v2, rfl, hv1, hv2, hB6⟩
      have hne : ∀ {p : Nat} {cs : Array Value} {t : TypeId}, t ≠ 41 → Blk W p cs t → Blk w6 p cs t := fun ht h => hB6.blk h (by obtain ⟨n, hn⟩ := hU; exact blk_ne h hn ht)
      exact HK.out _ _ (fp_x rfl ⟨v1, v2, rfl, hv1.mono s0.size, hv2.mono s0.size⟩) (fun k hk => hB6.block k hk.lt (fun e => by subst e; obtain ⟨n, hn⟩ := hU; exact absurd (hk.inj hn.ty) (by decide))) ⟨s0.trans (hB6.below hu s0.size), fun u h1 h2 h3 => absurd h3 (by rw [updF_same]; decide), fun e h1 h2 => ⟨(s2 e h1 h2).1, fun h => hne (by decide) ((s2 e h1 h2).2.1 h), fun h => hne (by decide) ((s2 e h1 h2).2.2 h)⟩, fun e h1 h2 => ⟨(s3 e h1 h2).1, fun h => hne (by decide) ((s3 e h1 h2).2.1 h), fun h => hne (by decide) ((s3 e h1 h2).2.2 h)⟩⟩
    · refine wpOpS_go rfl rfl ?_
      obtain ⟨t17, hx⟩ := hsl 6 17 (by kernel_rfl) (by kernel_rfl)
      obtain ⟨v1, v2, q1, h1, h2⟩ := hx
      rw [q1] at t17
      have HK := Lib.hid hK1
      clear hK1 hK2 hdep hsh he hsv hsl hFF hL hSW q1
      go_simp
      exact HK.out rfl _ (fp_x rfl ⟨v1, v2, rfl, h1, h2⟩)
    · refine wpOpS_go rfl rfl ?_
      obtain ⟨t10, hx⟩ := hsl 7 10 (by kernel_rfl) (by kernel_rfl)
      obtain ⟨v1, v2, q1, h1, h2⟩ := hx
      rw [q1] at t10
      obtain ⟨s0, s1, s2, s3⟩ := hSW
      have HK := Lib.hid hK2
      have hst := hsh 13 (by kernel_rfl)
      clear hK1 hK2 hdep hsh he hsv hsl hFF hL q1
      go_simp
      exact HK.out _ _ (fp_x rfl h1) (fun _ _ => rfl) ⟨s0, s1, fun e h1 h2 => ⟨(s2 e h1 h2).1, (s2 e h1 h2).2.1, fun h => absurd h (by show ¬ L 13 = true; rw [hst]; decide)⟩, s3⟩
    · refine wpOpS_go rfl rfl ?_
      obtain ⟨t10, hx⟩ := hsl 7 10 (by kernel_rfl) (by kernel_rfl)
      obtain ⟨v1, v2, q1, h1, h2⟩ := hx
      rw [q1] at t10
      obtain ⟨s0, s1, s2, s3⟩ := hSW
      have HK := Lib.hid hK2
      have hst := hsh 14 (by kernel_rfl)
      clear hK1 hK2 hdep hsh he hsv hsl hFF hL q1
      go_simp
      exact HK.out _ _ (fp_x rfl h2) (fun _ _ => rfl) ⟨s0, s1, s2, fun e h1 h2 => ⟨(s3 e h1 h2).1, (s3 e h1 h2).2.1, fun h => absurd h (by show ¬ L 14 = true; rw [hst]; decide)⟩⟩
    · refine wpOpS_go rfl rfl ?_
      obtain ⟨t10, hx⟩ := hsl 7 10 (by kernel_rfl) (by kernel_rfl)
      obtain ⟨v1, v2, q1, h1, h2⟩ := hx
      rw [q1] at t10
      have HK := Lib.hid hK1
      clear hK1 hK2 hdep hsh he hsv hsl hFF hL hSW q1
      go_simp
      exact HK.out rfl _ (fp_mk rfl rfl trivial)
    · refine wpOpS_go rfl rfl ?_
      obtain ⟨s0, s1, s2, s3⟩ := hSW
      have HK := Lib.hid hK2
      have hst := hsh 13 (by kernel_rfl)
      have hws := s0.size
      clear hK1 hK2 hdep hsh he hsv hsl hFF hL
      refine op_new (cs := #[.int .i64 0, .slice none 0 0, .slice none 0 0, .bool false, .int .i64 0, .int .i64 0]) (t := 27) (by go_simp) ?_
      intro w6 hbn hB hz
      exact HK.out _ _ (fp_x rfl ⟨_, rfl⟩) (fun k hk => hB.block k hk.lt) ⟨s0.trans (hB.mono s0.size), fun u h1 h2 h3 => (s1 u h1 h2 h3).keep hB, fun e h1 _ => by
        rw [updF_same] at h1
        cases h1
        exact ⟨hws, fun _ => hbn, fun h => absurd h (by show ¬ L 13 = true; rw [hst]; decide)⟩, fun e h1 h2 => ⟨(s3 e h1 h2).1, fun h => ((s3 e h1 h2).2.1 h).keep hB, fun h => ((s3 e h1 h2).2.2 h).keep hB⟩⟩
    · refine wpOpS_go rfl rfl ?_
      obtain ⟨s0, s1, s2, s3⟩ := hSW
      have HK := Lib.hid hK2
      have hst := hsh 14 (by kernel_rfl)
      have hws := s0.size
      clear hK1 hK2 hdep hsh he hsv hsl hFF hL
      refine op_new (cs := #[.bool false, .slice none 0 0, .slice none 0 0, .int .i64 0, .int .i64 0]) (t := 46) (by go_simp) ?_
      intro w6 hbn hB hz
      exact HK.out _ _ (fp_x rfl ⟨_, rfl⟩) (fun k hk => hB.block k hk.lt) ⟨s0.trans (hB.mono s0.size), fun u h1 h2 h3 => (s1 u h1 h2 h3).keep hB, fun e h1 h2 => ⟨(s2 e h1 h2).1, fun h => ((s2 e h1 h2).2.1 h).keep hB, fun h => ((s2 e h1 h2).2.2 h).keep hB⟩, fun e h1 _ => by
        rw [updF_same] at h1
        cases h1
        exact ⟨hws, fun _ => hbn, fun h => absurd h (by show ¬ L 14 = true; rw [hst]; decide)⟩⟩
    · refine wpOpS_go rfl rfl ?_
      obtain ⟨t3, hx⟩ := hsl 11 3 (by kernel_rfl) (by kernel_rfl)
      obtain ⟨e1, q1⟩ := hx
      rw [q1] at t3
      obtain ⟨t18, hx⟩ := hsl 8 18 (by kernel_rfl) (by kernel_rfl)
      obtain ⟨aX, cX, aP, cP, q3, hl1, hl2⟩ := BLTL_b hx
      rw [q3] at t18
      obtain ⟨s0, s1, s2, s3⟩ := hSW
      have l11 := hdep 11 (by kernel_rfl)
      obtain ⟨z1, z2, z3⟩ := s2 e1 q1 l11
      have hmb := z2 hL
      have HK := Lib.hid hK2
      clear hK1 hK2 hdep hsh he hsv hsl hFF z2 z3
      refine op_store 27 _ _ rfl rfl hmb 0 (eval_tmp t3) (eval_tmp t18) ([Value.int .i64 0, Value.slice aX 1 cX, Value.slice aP 1 cP, Value.bool false, Value.int .i64 1, Value.int .i64 0] : List Value) (by rfl) (by kernel_rfl) (by rfl) (by rfl) #[Value.int .i64 0, Value.slice aX 1 cX, Value.slice aP 1 cP, Value.bool false, Value.int .i64 1, Value.int .i64 0] rfl ?_
      intro w6 g6 ef hz
      have hne : ∀ {p : Nat} {cs : Array Value} {t : TypeId}, t ≠ 27 → Blk W p cs t → Blk w6 p cs t := fun ht h => ef.blk h (blk_ne h hmb ht)
      exact HK.out undef _ (fp_x (v := undef) rfl trivial) (fun k hk => ef.block k hk.lt (fun e => by subst e; exact absurd (hk.inj hmb.ty) (by decide))) ⟨ef.below s0 (fun k hk => by omega), fun u h1 h2 h3 => by
        obtain ⟨n, hn⟩ := s1 u h1 h2 h3
        exact ⟨n, hne (by decide) hn⟩, fun e h1 _ => by
        rw [updF_ne _ _ (by decide), q1] at h1
        cases h1
        exact ⟨z1, fun h => absurd h (by rw [updF_same]; decide), fun _ => by rw [updF_ne _ _ (by decide), q3]; exact g6⟩, fun e h1 h2 => ⟨(s3 e h1 h2).1, fun h => hne (by decide) ((s3 e h1 h2).2.1 h), fun h => hne (by decide) ((s3 e h1 h2).2.2 h)⟩⟩
    · refine wpOpS_go rfl rfl ?_
      obtain ⟨t4, hx⟩ := hsl 12 4 (by kernel_rfl) (by kernel_rfl)
      obtain ⟨e1, q1⟩ := hx
      rw [q1] at t4
      obtain ⟨t19, hx⟩ := hsl 9 19 (by kernel_rfl) (by kernel_rfl)
      obtain ⟨aX, cX, aP, cP, q3, hl1, hl2⟩ := BLTL_t hx
      rw [q3] at t19
      obtain ⟨s0, s1, s2, s3⟩ := hSW
      have l12 := hdep 12 (by kernel_rfl)
      obtain ⟨z1, z2, z3⟩ := s3 e1 q1 l12
      have hmb := z2 hL
      have HK := Lib.hid hK2
      clear hK1 hK2 hdep hsh he hsv hsl hFF z2 z3
      refine op_store 46 _ _ rfl rfl hmb 0 (eval_tmp t4) (eval_tmp t19) ([Value.bool true, Value.slice aX 1 cX, Value.slice aP 1 cP, Value.int .i64 8589934592, Value.int .i64 8589934592] : List Value) (by rfl) (by kernel_rfl) (by rfl) (by rfl) #[Value.bool true, Value.slice aX 1 cX, Value.slice aP 1 cP, Value.int .i64 8589934592, Value.int .i64 8589934592] rfl ?_
      intro w6 g6 ef hz
      have hne : ∀ {p : Nat} {cs : Array Value} {t : TypeId}, t ≠ 46 → Blk W p cs t → Blk w6 p cs t := fun ht h => ef.blk h (blk_ne h hmb ht)
      exact HK.out undef _ (fp_x (v := undef) rfl trivial) (fun k hk => ef.block k hk.lt (fun e => by subst e; exact absurd (hk.inj hmb.ty) (by decide))) ⟨ef.below s0 (fun k hk => by omega), fun u h1 h2 h3 => by
        obtain ⟨n, hn⟩ := s1 u h1 h2 h3
        exact ⟨n, hne (by decide) hn⟩, fun e h1 h2 => ⟨(s2 e h1 h2).1, fun h => hne (by decide) ((s2 e h1 h2).2.1 h), fun h => hne (by decide) ((s2 e h1 h2).2.2 h)⟩, fun e h1 _ => by
        rw [updF_ne _ _ (by decide), q1] at h1
        cases h1
        exact ⟨z1, fun h => absurd h (by rw [updF_same]; decide), fun _ => by rw [updF_ne _ _ (by decide), q3]; exact g6⟩⟩
    · refine wpOpS_go rfl rfl ?_
      have t20 : b'.tmps[20]?.getD undef = Value.int .i64 0 := hsv 10 20 _ (by kernel_rfl) (by kernel_rfl) rfl
      have HK := Lib.hid hK1
      clear hK1 hK2 hdep hsh he hsv hsl hFF hL hSW
      go_simp
      exact HK.out rfl _ (fp_mk rfl rfl trivial)
  · intro f W hf L hL hS
    obtain ⟨s0, s1, s2, s3⟩ := (hS : _ ∧ _ ∧ _ ∧ _)
    obtain ⟨xb, e11⟩ := (hf 11 (by decide)).2
    obtain ⟨tb, e12⟩ := (hf 12 (by decide)).2
    obtain ⟨hxb, _, gx⟩ := s2 xb e11 (hL 11 (by decide))
    replace gx := gx (hL 13 (by decide))
    obtain ⟨htb, _, gt⟩ := s3 tb e12 (hL 12 (by decide))
    replace gt := gt (hL 14 (by decide))
    obtain ⟨aX, cX, aP, cP, e8, hX1, hP1⟩ := BLTL_b (hf 8 (by decide)).2
    obtain ⟨aH', cH', aR', cR', e9, _, _⟩ := BLTL_t (hf 9 (by decide)).2
    rw [e8] at gx
    rw [e9] at gt
    replace gx : Blk W xb #[Value.int .i64 0, Value.slice aX 1 cX, Value.slice aP 1 cP, Value.bool false, Value.int .i64 1, Value.int .i64 0] 27 := gx
    replace gt : Blk W tb #[Value.bool true, Value.slice aH' 1 cH', Value.slice aR' 1 cR', Value.int .i64 8589934592, Value.int .i64 8589934592] 46 := gt
    obtain ⟨_, e0, _⟩ := (hf 0 (by decide)).2
    obtain ⟨_, e2, _⟩ := (hf 2 (by decide)).2
    obtain ⟨_, e3, _⟩ := (hf 3 (by decide)).2
    obtain ⟨_, _, e4, _⟩ := (hf 4 (by decide)).2
    obtain ⟨_, _, e6, _⟩ := (hf 6 (by decide)).2
    obtain ⟨_, _, e7, _⟩ := (hf 7 (by decide)).2
    have e1 : f 1 = Value.agg #[Value.int .i64 1, Value.slice aA 1 cA, Value.slice aQ 1 cQ, Value.int .i64 4294967296, Value.int .i64 17179869184, Value.int .i64 1, Value.slice aR 0 cR] := (hf 1 (by decide)).1 _ rfl
    have e5 : f 5 = Value.agg #[Value.int .i64 1, Value.slice aH 1 1, Value.int .i64 4294967296] := (hf 5 (by decide)).1 _ rfl
    have e10 : f 10 = Value.int .i64 0 := (hf 10 (by decide)).1 _ rfl
    have e15 : f 15 = Value.int .i64 0 := (hf 15 (by decide)).1 _ rfl
    clear hf hL s1 s2 s3
    simp only [puts2, Act.put, e0, e1, e2, e3, e4, e5, e6, e7, e8, e9, e10, e11, e12, e15]
    try simp only [List.setIfInBounds_toArray, List.set_cons_zero, List.set_cons_succ]
    clear e0 e1 e2 e3 e4 e5 e6 e7 e8 e9 e10 e11 e12 e15
    have hB7 := more hB6 s0
    have ha := upA (upA (upR W) (Obj.cells #[.int .i64 4294967296] 3)) (Obj.cells #[.int .i64 2147483648] 3)
    have ga : Blk _ W.heap.size #[.int .i64 4294967296] 3 := (Blk.new W #[.int .i64 4294967296] 3).alloc (Obj.cells #[.int .i64 2147483648] 3)
    have gb := Blk.new (W.alloc (Obj.cells #[.int .i64 4294967296] 3)) #[.int .i64 2147483648] 3
    rw [World.size_alloc] at gb
    have hSB := sameBelief_same (b := b1A) (v1 := .agg #[.int .i64 0, .slice aX 1 cX, .slice aP 1 cP, .bool false, .int .i64 1, .int .i64 0]) (v2 := .agg #[.int .i64 0, .slice (some ⟨W.heap.size, 0, none⟩) 1 1, .slice (some ⟨W.heap.size + 1, 0, none⟩) 1 1, .bool false, .int .i64 1, .int .i64 0])
      ⟨⟨aX, cX, aP, cP, rfl, hX1.mi.keep ha, hP1.mi.keep ha⟩, show I64 0 from ⟨by decide, by decide⟩, show I64 1 from ⟨by decide, by decide⟩, show I64 0 from ⟨by decide, by decide⟩⟩
      ⟨⟨some ⟨W.heap.size, 0, none⟩, 1, some ⟨W.heap.size + 1, 0, none⟩, 1, rfl, MI.of_blk (B := 0) (zs := [4294967296]) ga (Nat.zero_le _) (all_i64 (by decide)) (by decide), MI.of_blk (B := 0) (zs := [2147483648]) gb (Nat.zero_le _) (all_i64 (by decide)) (by decide)⟩, show I64 0 from ⟨by decide, by decide⟩, show I64 1 from ⟨by decide, by decide⟩, show I64 0 from ⟨by decide, by decide⟩⟩
    have HSB := Lib.hid hSB
    have HTT := Lib.hid gt
    have cx := gx.cell
    clear hSB ga gb s0 hX1 hP1 HONE gm gq hB6
    go_wp2_with ((with_reducible refine at_dst (N := 24) rfl ?_); refine ev_load rfl 27 _ rfl gx 0 rfl [Value.int .i64 0, Value.slice aX 1 cX, Value.slice aP 1 cP, Value.bool false, Value.int .i64 1, Value.int .i64 0] rfl Tryz.underlying27 rfl (by kernel_rfl) ?_)
    refine HSB.out.mono ?_
    rintro e w8 ⟨rfl, hK⟩
    have ct := ((HTT.out.keep ha).keep hK).cell
    have hB9 := more (more hB7 ha) hK
    clear HSB HTT cx gx gt hK hB7 ha
    go_wp2_with fail
    go_ret
    exact ⟨rfl, hB9⟩

end Go.Proofs.YtnofoommindocaaGreat.Base
namespace Go.Proofs.YtnofoommindocaaGreat.Base
open Go.RowKit
set_option linter.unusedVariables false
set_option linter.unusedSimpArgs false

theorem nn_of {n : Int} (h1 : 1 ≤ n) (h2 : n ≤ 12) : ∃ k N : Nat, n = k ∧ k * k = N ∧ 1 ≤ k ∧ k ≤ 12 ∧ (k : Int) * (k : Int) = (N : Int) ∧ wrap64 (N : Int) = (N : Int) := by
  obtain ⟨k, hk⟩ := Int.eq_ofNat_of_zero_le (show 0 ≤ n by omega)
  have hkk : k ≤ 12 := by omega
  have h3 : k * k ≤ 12 * 12 := Nat.mul_le_mul hkk hkk
  exact ⟨k, k * k, hk, rfl, by omega, hkk, by rw [Int.natCast_mul], wrap_small (by omega)⟩
/-- May a list be the entries of a square matrix of n rows? -/
def evOk (n : Int) (l : Nat) : Prop := 1 ≤ n ∧ n ≤ 12 ∧ l = n.toNat * n.toNat
set_option maxHeartbeats 2000000 in
set_option maxRecDepth 100000 in
theorem ueven_no {W : World} {b : Nat} {c0 : Bool} (hU : UP W b c0) (a1 : Option Addr) (k1 : Nat) (n : Int) (l : Nat) (h : ¬ evOk n l) :
    Calls Tryz.prog 34 #[.pointer (some ⟨b, 0, none⟩), .int .i64 n, .slice a1 l k1] W fun e w' => e = .returned (.tuple #[.slice none 0 0, .int .i64 2]) ∧ W = w' := by
  have hD := uDot_ok hU none none 0 0
  by_cases h1 : n < 1
  · clear h
    go_enter Tryz.func34, Tryz.ntmps34
    go_wp2_with fail
    refine hD.mono ?_
    rintro e w1 ⟨rfl, rfl⟩
    go_wp2_with fail
    go_ret2
    exact ⟨rfl, rfl⟩
  · by_cases h2 : 12 < n
    · clear h
      go_enter Tryz.func34, Tryz.ntmps34
      go_wp2_with fail
      refine hD.mono ?_
      rintro e w1 ⟨rfl, rfl⟩
      go_wp2_with fail
      go_ret2
      exact ⟨rfl, rfl⟩
    · obtain ⟨k, N, rfl, hkN, hk1, hk2, hm, hw⟩ := nn_of (n := n) (by omega) (by omega)
      have hne : ¬ l = N := fun e => h ⟨by omega, by omega, by rw [e, ← hkN]; simp⟩
      have hb : ((l : Int) == (N : Int)) = false := by simp; omega
      have hb2 : ¬ ((l : Int) = (N : Int)) := by omega
      have hb3 : ((l : Int) != (N : Int)) = true := by simp; omega
      have hb4 : ¬ ((k : Int) < 1) := by omega
      have hb5 : ¬ ((12 : Int) < (k : Int)) := by omega
      clear h hkN
      go_enter Tryz.func34, Tryz.ntmps34
      go_wp2_with fail
      refine hD.mono ?_
      rintro e w1 ⟨rfl, rfl⟩
      go_wp2_with fail
      go_ret2
      exact ⟨rfl, rfl⟩
set_option maxHeartbeats 2000000 in
set_option maxRecDepth 100000 in
theorem revenR_no {W : World} (u : Value) (a1 : Option Addr) (k1 : Nat) (n : Int) (l : Nat) (h : ¬ evOk n l) :
    Calls Tryz.prog 35 #[u, .int .i64 n, .slice a1 l k1] W fun e w' => e = .returned (.tuple #[.slice none 0 0, .int .i64 2]) ∧ W = w' := by
  by_cases h1 : n < 1
  · clear h
    go_enter Tryz.func35, Tryz.ntmps35
    go_wp2_with fail
    go_ret2
    exact ⟨rfl, rfl⟩
  · by_cases h2 : 12 < n
    · clear h
      go_enter Tryz.func35, Tryz.ntmps35
      go_wp2_with fail
      go_ret2
      exact ⟨rfl, rfl⟩
    · obtain ⟨k, N, rfl, hkN, hk1, hk2, hm, hw⟩ := nn_of (n := n) (by omega) (by omega)
      have hne : ¬ l = N := fun e => h ⟨by omega, by omega, by rw [e, ← hkN]; simp⟩
      have hb : ((l : Int) == (N : Int)) = false := by simp; omega
      have hb2 : ¬ ((l : Int) = (N : Int)) := by omega
      have hb3 : ((l : Int) != (N : Int)) = true := by simp; omega
      have hb4 : ¬ ((k : Int) < 1) := by omega
      have hb5 : ¬ ((12 : Int) < (k : Int)) := by omega
      clear h hkN
      go_enter Tryz.func35, Tryz.ntmps35
      go_wp2_with fail
      go_ret2
      exact ⟨rfl, rfl⟩

theorem evr_small {n j : Nat} (h1 : 1 ≤ n) (h2 : n ≤ 12) (hj : j < n) : ∃ jn ix : Nat, j * n = jn ∧ j * n + j = ix ∧ ix < n * n ∧ wrap64 ((j : Int) * (n : Int)) = (jn : Int) ∧ wrap64 ((jn : Int) + (j : Int)) = (ix : Int) := by
  have h3 : j * n ≤ 12 * 12 := Nat.mul_le_mul (by omega) h2
  exact ⟨j * n, j * n + j, rfl, rfl, ix_lt hj hj, by rw [← Int.natCast_mul]; exact wrap_small (by omega), by rw [← Int.natCast_add]; exact wrap_small (by omega)⟩
theorem ur_effP {P : Nat → Prop} {W W' : World} {b : Nat} {c : Bool} (h : UR W b c) (k : Eff P W W') (hp : ¬ P b) : UR W' b c := by
  obtain ⟨m, hm⟩ := h
  exact ⟨m, k.blk hm hp⟩
set_option maxHeartbeats 4000000 in
set_option maxRecDepth 100000 in
theorem reven_is {W : World} {b : Nat} {c0 : Bool} (hU : UR W b c0) {a1 : Option Addr} {k1 : Nat} {zs : List Int} (h1 : MI 0 W a1 k1 zs) (n : Nat) (hn1 : 1 ≤ n) (hn2 : n ≤ 12) (hlen : zs.length = n * n) :
    Calls Tryz.prog 35 #[.pointer (some ⟨b, 0, none⟩), .int .i64 n, .slice a1 zs.length k1] W
      fun e w' => ∃ y k, e = .returned (.tuple #[.slice y zs.length k, .int .i64 0]) ∧ LI W.heap.size w' y k (evenD n zs).1 ∧ UR w' b (c0 || (evenD n zs).2) ∧ But b W w' := by
  obtain ⟨N, hN⟩ : ∃ N, n * n = N := ⟨_, rfl⟩
  have hN1 : 1 ≤ N := by rw [← hN]; exact Nat.mul_le_mul hn1 hn1
  have hN2 : N ≤ 144 := by rw [← hN]; exact Nat.mul_le_mul hn2 hn2
  have hNN : (n : Int) * (n : Int) = (N : Int) := by rw [← hN, Int.natCast_mul]
  have hNw : wrap64 (N : Int) = (N : Int) := wrap_small (by omega)
  have hne : ((N : Int) == (N : Int)) = true := by simp
  rw [hN] at hlen
  have HN := Lib.hid hN
  rw [hlen]
  have HLEN := Lib.hid hlen
  have q1 : ¬ (n : Int) < 1 := by omega
  have q2 : ¬ (12 : Int) < (n : Int) := by omega
  have hbW := hU.lt
  have hB0 := upA (upR W) (Obj.cells #[] 3)
  have ge := Blk.new W #[] 3
  have h10 := h1.keep hB0
  have hN5 : N ≤ 100000 := Nat.le_trans hN2 (by decide)
  clear hN hlen
  go_enter Tryz.func35, Tryz.ntmps35
  go_wp2_with (at_builtin; refine app_copy (B := W.heap.size) rfl _ _ rfl (Nat.le_refl _) ge rfl h10 N HLEN.out rfl hN5 ?_)
  intro g cap w1 hoi hg
  have hB1 : Below W.heap.size W w1 := hB0.trans ⟨hg.os, hg.tape, hg.output, hg.size, fun k hk => hg.block k (by simp; omega) (by simp; omega)⟩
  have hli := hoi.li
  obtain ⟨y, hy⟩ : ∃ y : Addr, y = ⟨g, 0, none⟩ := ⟨_, rfl⟩
  rw [← hy] at hli
  have hT := But.of (b := b) hB1
  have hU1 := hU.keep hB1
  rw [← hy]
  clear hy hoi hg hB0 ge h10 hNN hNw hne q1 q2 hU
  go_wp2_with fail
  go_loopw [9] (fun i wr => ∃ j : Nat, j ≤ n ∧ i = .int .i64 (j : Int) ∧ LI W.heap.size wr (some y) cap (evD n zs j).1 ∧ UR wr b (c0 || (evD n zs j).2) ∧ But b W wr) (fun i _ => n - (intOf i).toNat)
  case atStart => exact ⟨0, Nat.zero_le _, rfl, hli, by simpa [evD] using hU1, hT⟩
  case round =>
    clear hli hU1 hT hB1
    obtain ⟨j, hj, rfl, hli, hU1, hT⟩ := hrel
    by_cases hjn : j < n
    · have hjn' : (j : Int) < (n : Int) := by omega
      obtain ⟨jn, ix, hjx, hix, hixN, a1', a2⟩ := evr_small hn1 hn2 hjn
      rw [HN.out] at hixN
      have HA := Lib.hid (⟨a1', a2⟩ : _ ∧ _)
      clear a1' a2
      have hz := ml_atD (hli.mlR hU1) (show ix < (evD n zs j).1.length by rw [evD_len, HLEN.out]; omega)
      obtain ⟨y', hy', hz1⟩ := hz
      cases hy'
      have HL := Lib.hid (show ix < (evD n zs j).1.length by rw [evD_len, HLEN.out]; omega)
      have e0 : (0 : Int) ≤ (ix : Int) := by omega
      have e1 : (ix : Int) < (N : Int) := by omega
      have HS := Lib.hid (evD_succ n zs j)
      by_cases hneg : (evD n zs j).1.getD ix 0 < 0
      · rw [evS_neg (by rw [hix]; exact hneg), hix] at HS
        obtain ⟨v0, hv0, hf0⟩ := li_put hli ix HL.out
        have hp := LI.putS hli ix HL.out 0 ⟨by decide, by decide⟩
        have hlo := hli.mi.lo y rfl (by have := HL.out; omega)
        have hUp : UR (wr.setCell (y.add ix) (.int .i64 0)) b (c0 || (evD n zs j).2) := ur_effP hU1 (Eff.set (P := fun k => k = y.block) _ _ (by rw [add_block])) (by omega)
        have hTp : But b W (wr.setCell (y.add ix) (.int .i64 0)) := but_eff2 hT (Eff.set (P := fun k => k = y.block) _ _ (by rw [add_block])) hlo
        generalize (evD n zs j).1.getD ix 0 = z at *
        have H3 := Lib.hid hp
        have H4 := Lib.hid hUp
        have H5 := Lib.hid hTp
        clear hp hUp hTp hjx hix hli hU1 hT hv0
        obtain ⟨a1', a2⟩ := HA.out
        go_wp2_with fail
        refine (uSetR_is H4.out true).mono ?_
        rintro e w5 ⟨rfl, hU5, hB5⟩
        have hli5 := H3.out.butR H4.out hB5
        have hT5 := H5.out.trans hB5
        clear hB5 e0 e1 hz1 hf0 a1' a2
        go_wp2_with fail
        go_roundw
        case rel => exact ⟨j + 1, hjn, by go_num, by rw [HS.out]; exact hli5, by rw [HS.out]; simpa using hU5, hT5⟩
        case measure => simp [intOf]; omega
      · rw [evS_pos (by rw [hix]; exact hneg)] at HS
        generalize hgz : (evD n zs j).1.getD ix 0 = z at *
        clear hjx hix hgz
        obtain ⟨a1', a2⟩ := HA.out
        go_wp2_with fail
        clear hz1 e0 e1 a1' a2
        go_roundw
        case rel => exact ⟨j + 1, hjn, by go_num, by rw [HS.out]; exact hli, by rw [HS.out]; exact hU1, hT⟩
        case measure => simp [intOf]; omega
    · have hge : ¬ (j : Int) < (n : Int) := by omega
      have HJ := Lib.hid (show j = n by omega)
      go_wp2_with fail
      go_ret2
      rw [HJ.out] at hli hU1
      exact ⟨_, _, rfl, hli, hU1, hT⟩

end Go.Proofs.YtnofoommindocaaGreat.Base
namespace Go.Proofs.YtnofoommindocaaGreat.Base
open Go.RowKit
set_option linter.unusedVariables false
set_option linter.unusedSimpArgs false

instance (n : Int) (l : Nat) : Decidable (evOk n l) := by unfold evOk; infer_instance
/-- What is made of a list's diagonal: the list, the error, whether something was cut. -/
def evAll (n : Int) (zs : List Int) : List Int × Int × Bool := if evOk n zs.length then ((evenD n.toNat zs).1, 0, (evenD n.toNat zs).2) else ([], 2, false)
theorem uev_all {W : World} {b : Nat} {c0 : Bool} (hU : UP W b c0) {a1 : Option Addr} {k1 : Nat} {zs : List Int} (h1 : ML b W a1 k1 zs) (n : Int) :
    Calls Tryz.prog 34 #[.pointer (some ⟨b, 0, none⟩), .int .i64 n, .slice a1 zs.length k1] W
      fun e w' => ∃ y k, e = .returned (.tuple #[.slice y (evAll n zs).1.length k, .int .i64 (evAll n zs).2.1]) ∧ LI W.heap.size w' y k (evAll n zs).1 ∧ UP w' b (c0 || (evAll n zs).2.2) ∧ But b W w' := by
  by_cases h : evOk n zs.length
  · rw [show evAll n zs = ((evenD n.toNat zs).1, 0, (evenD n.toNat zs).2) from if_pos h]
    obtain ⟨e1, e2, e3⟩ := h
    obtain ⟨m, rfl⟩ := Int.eq_ofNat_of_zero_le (show 0 ≤ n by omega)
    have e4 : ((m : Int)).toNat = m := Int.toNat_natCast m
    rw [e4] at e3
    rw [e4]
    refine (ueven_is hU h1 m (by omega) (by omega) e3).mono ?_
    rintro e w' ⟨y, k, rfl, hli, hu, hb⟩
    exact ⟨y, k, by dsimp only; rw [show (evenD m zs).1.length = zs.length from evD_len _ _ _], hli, hu, hb⟩
  · rw [show evAll n zs = ([], 2, false) from if_neg h]
    refine (ueven_no hU a1 k1 n zs.length h).mono ?_
    rintro e w' ⟨rfl, rfl⟩
    exact ⟨none, 0, rfl, LI.nil _ _, by simpa using hU, But.refl _ _⟩
theorem rev_all {W : World} {b : Nat} {c0 : Bool} (hU : UR W b c0) {a1 : Option Addr} {k1 : Nat} {zs : List Int} (h1 : MI 0 W a1 k1 zs) (n : Int) :
    Calls Tryz.prog 35 #[.pointer (some ⟨b, 0, none⟩), .int .i64 n, .slice a1 zs.length k1] W
      fun e w' => ∃ y k, e = .returned (.tuple #[.slice y (evAll n zs).1.length k, .int .i64 (evAll n zs).2.1]) ∧ LI W.heap.size w' y k (evAll n zs).1 ∧ UR w' b (c0 || (evAll n zs).2.2) ∧ But b W w' := by
  by_cases h : evOk n zs.length
  · rw [show evAll n zs = ((evenD n.toNat zs).1, 0, (evenD n.toNat zs).2) from if_pos h]
    obtain ⟨e1, e2, e3⟩ := h
    obtain ⟨m, rfl⟩ := Int.eq_ofNat_of_zero_le (show 0 ≤ n by omega)
    have e4 : ((m : Int)).toNat = m := Int.toNat_natCast m
    rw [e4] at e3
    rw [e4]
    refine (reven_is hU h1 m (by omega) (by omega) e3).mono ?_
    rintro e w' ⟨y, k, rfl, hli, hu, hb⟩
    exact ⟨y, k, by dsimp only; rw [show (evenD m zs).1.length = zs.length from evD_len _ _ _], hli, hu, hb⟩
  · rw [show evAll n zs = ([], 2, false) from if_neg h]
    refine (revenR_no _ a1 k1 n zs.length h).mono ?_
    rintro e w' ⟨rfl, rfl⟩
    exact ⟨none, 0, rfl, LI.nil _ _, by simpa using hU, But.refl _ _⟩

set_option maxHeartbeats 4000000 in
set_option maxRecDepth 100000 in
theorem evens_walk (n : Int) (a : Option Addr) (c : Nat) (zs : List Int) (w0 : World) (hn : (Lit.int .i64 n).wf = true) (hz : MI 0 w0 a c zs) :
    Calls Tryz.prog 4 #[.int .i64 n, .slice a zs.length c] w0 fun e w' => e = .returned (.bool true) ∧ Below w0.heap.size w0 w' := by
  obtain ⟨l, hl⟩ : ∃ l, zs.length = l := ⟨_, rfl⟩
  have HL := Lib.hid hl
  have hlm := hz.len
  unfold maxLen at hlm
  rw [hl] at hlm
  have HP := Lib.hid (fun (W : World) (b : Nat) (cc : Bool) (hU : UP W b cc) (a' : Option Addr) (k' : Nat) (hm : ML b W a' k' zs) => uev_all hU hm n)
  have HR := Lib.hid (fun (W : World) (b : Nat) (cc : Bool) (hU : UR W b cc) (hm : MI 0 W a c zs) => rev_all hU hm n)
  rw [hl] at HP HR
  rw [hl]
  obtain ⟨A, hA⟩ : ∃ A, evAll n zs = A := ⟨_, rfl⟩
  rw [hA] at HP HR
  obtain ⟨ys, code, f⟩ := A
  dsimp only at HP HR
  obtain ⟨ly, hly⟩ : ∃ ly, ys.length = ly := ⟨_, rfl⟩
  rw [hly] at HP HR
  have HLY := Lib.hid hly
  clear hl hA hly hn
  go_enter Tryz.func4, Tryz.ntmps4
  go_wp2_with fail
  refine (uNew_is2 _).mono ?_
  rintro e w1 ⟨rfl, hU, hB⟩
  go_wp2_with fail
  refine (uNewR_is _).mono ?_
  rintro e w2 ⟨rfl, hR, hK⟩
  replace hU := hU.keep hK
  have hs1 := hB.size
  have hlt1 := hU.lt
  replace hB := more hB hK
  clear hK
  obtain ⟨ub, hub⟩ : ∃ ub, w0.heap.size = ub := ⟨_, rfl⟩
  obtain ⟨rb, hrb⟩ : ∃ rb, w1.heap.size = rb := ⟨_, rfl⟩
  rw [hub] at hU hlt1
  rw [hrb] at hR
  rw [hub, hrb]
  have hne : ub ≠ rb := by obtain ⟨m, hm⟩ := hU; obtain ⟨m2, hm2⟩ := hR; exact blk_ne hm hm2 (by decide)
  have hub0 : w0.heap.size ≤ ub := Nat.le_of_eq hub
  have hrb0 : w0.heap.size ≤ rb := by omega
  clear hub hrb hs1
  by_cases h160 : 160 < l
  · have h160' : (160 : Int) < (l : Int) := by omega
    go_wp2_with fail
    refine (awake13_is _).mono ?_
    rintro e w3 ⟨rfl, hK⟩
    have hB3 := more hB hK
    clear hK
    go_wp2_with fail
    go_ret
    exact ⟨rfl, hB3⟩
  · have h160' : ¬ (160 : Int) < (l : Int) := by omega
    have hz2 := hz.keep hB
    have hCP := copyInts_is hz2 (by rw [HL.out]; omega)
    rw [HL.out] at hCP
    go_wp2_with fail
    refine hCP.mono ?_
    rintro e w3 ⟨g, cap, rfl, hO, hK⟩
    replace hU := hU.keep hK
    replace hR := hR.keep hK
    replace hB := more hB hK
    clear hK hCP hz2
    go_wp2_with fail
    refine (HP.out _ _ _ hU _ _ (hO.li.ml hU)).mono ?_
    rintro e w4 ⟨y, k, rfl, hli, hU4, hB4⟩
    have hO4 : LI w0.heap.size w4 (some ⟨g, 0, none⟩) cap zs := (hO.li.mono (by have := hB.size; have := hU.lt; omega)).but hU hB4
    have hgl : g < w3.heap.size := by obtain ⟨cur, hb, _⟩ := hO.ex; exact hb.lt
    have hR4 := hR.but hB4 (Ne.symm hne)
    have hB5 := hB.trans (hB4.below hub0 hB.size)
    have hz4 := hz.keep hB5
    have hs3 := hB.size
    clear hO hU hR hB hB4
    go_wp2_with fail
    refine (HR.out _ _ _ hR4 hz4).mono ?_
    rintro e w5 ⟨y2, k2, rfl, hli2, hR5, hB6⟩
    have hU5 := hU4.but hB6 hne
    have hli5 := hli.butR hR4 hB6
    have hO5 := hO4.butR hR4 hB6
    have hB7 := hB5.trans (hB6.below hrb0 hB5.size)
    clear hli hR4 hB6 hO4 hB5 hU4 hz4
    have hS1 := sameInts_same hli5.mi hli2.mi
    rw [HLY.out] at hS1
    have cU := hU5
    go_wp2_with fail
    refine hS1.mono ?_
    rintro e w6 ⟨rfl, nd, hw6⟩
    have hK6 : Below w5.heap.size w5 w6 := by rw [hw6]; exact below_drewN _ _
    replace hU5 := hU5.keep hK6
    replace hR5 := hR5.keep hK6
    replace hli5 := hli5.keep hK6
    replace hO5 := hO5.keep hK6
    replace hB7 := more hB7 hK6
    have hcode : (code == code) = true := by simp
    clear hw6 hK6 hS1 hli2 cU
    go_wp2_with fail
    refine (uCut_is2 hU5).mono ?_
    rintro e w7 ⟨rfl, rfl⟩
    go_wp2_with fail
    refine (uCutR_is hR5).mono ?_
    rintro e w7 ⟨rfl, rfl⟩
    have hff : ((false || f) == (false || f)) = true := by simp
    have hov := over_is (c := k) hli5.wj
    rw [HLY.out] at hov
    go_wp2_with fail
    refine hov.mono ?_
    rintro e w8 ⟨rfl, hWr⟩
    have hK8 : Below w3.heap.size w6 w8 := hWr.below
    have hBz := hB7.trans (hK8.mono hs3)
    have hO8 : MI 0 w8 (some ⟨g, 0, none⟩) cap zs := ⟨fun j hj => by
      obtain ⟨x, hx, hc⟩ := hO5.mi.cell j hj
      refine ⟨x, hx, (World.cell?_of_block (w := w6) ?_).trans hc⟩
      rw [add_block]
      cases hx
      exact hK8.block _ hgl, hO5.mi.rng, hO5.mi.len, fun _ _ _ => Nat.zero_le _, hO5.mi.nn, hO5.mi.cap⟩
    have hS2 := sameInts_same hO8 (hz.keep hBz)
    rw [HL.out] at hS2
    clear hov hWr hK8 hB7 hO5 hli5 hU5 hR5
    go_wp2_with fail
    refine hS2.mono ?_
    rintro e w9 ⟨rfl, nd2, hw9⟩
    have hB9 : Below w0.heap.size w0 w9 := by rw [hw9]; exact more hBz (below_drewN _ _)
    clear hw9 hS2 hO8
    go_wp2_with fail
    refine (awake13_is _).mono ?_
    rintro e w10 ⟨rfl, hK⟩
    have hB10 := more hB9 hK
    clear hK
    go_wp2_with fail
    go_ret
    exact ⟨rfl, hB10⟩

end Go.Proofs.YtnofoommindocaaGreat.Base
