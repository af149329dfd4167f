/- Models, beliefs, rows that a unit's work leaves as they are. mat: Apply. update: what one measurement makes of a belief: plain words. update: what is refused. update: Even. update: joseph. -/
import Derived.Test.YtnofoommindocaaGreatMdlC
import Derived.Test.YtnofoommindocaaGreatNumK
import Derived.Test.YtnofoommindocaaGreatSymP
import Derived.Test.YtnofoommindocaaGreatSymE
import Derived.Test.YtnofoommindocaaGreatMdlJ
namespace Go.Proofs.YtnofoommindocaaGreat.Base
open Go.RowKit Go
set_option linter.unusedVariables false
set_option linter.unusedSimpArgs false

/-- A model's cells. -/
def mdlV (M : Mdl) (aA : Option Addr) (cA : Nat) (aQ : Option Addr) (cQ : Nat) (aR : Option Addr) (cR : Nat) (la lq lr : Nat) : Value := .agg #[.int .i64 M.n, .slice aA la cA, .slice aQ lq cQ, .int .i64 M.tick, .int .i64 M.gate, .int .i64 M.rmin, .slice aR lr cR]
/-- A model that a unit's work leaves as it is. -/
structure MW (b : Nat) (W : World) (v : Value) (M : Mdl) : Prop where
  ex : ∃ aA cA aQ cQ aR cR, v = .agg #[.int .i64 M.n, .slice aA M.A.length cA, .slice aQ M.Q.length cQ, .int .i64 M.tick, .int .i64 M.gate, .int .i64 M.rmin, .slice aR M.rows.length cR] ∧ ML b W aA cA M.A ∧ ML b W aQ cQ M.Q
  mm : ∀ W', But b W W' → MM 0 W' v M
theorem MW.but {b : Nat} {W W' : World} {v : Value} {M : Mdl} (h : MW b W v M) (k : But b W W') : MW b W' v M := by
  obtain ⟨aA, cA, aQ, cQ, aR, cR, h1, h2, h3⟩ := h.ex
  exact ⟨⟨aA, cA, aQ, cQ, aR, cR, h1, h2.but k, h3.but k⟩, fun W2 k2 => h.mm W2 (k.trans k2)⟩
theorem MW.keep {b : Nat} {W W' : World} {v : Value} {M : Mdl} (h : MW b W v M) (k : Below W.heap.size W W') : MW b W' v M := h.but (But.of k)
theorem MW.m {b : Nat} {W : World} {v : Value} {M : Mdl} (h : MW b W v M) : MM 0 W v M := h.mm W (But.refl _ _)
theorem MI.mlb {b : Nat} {W w0 : World} {a : Option Addr} {c : Nat} {zs : List Int} (h : MI 0 w0 a c zs) (hb : Below w0.heap.size w0 W) (hl : w0.heap.size ≤ b) : ML b W a c zs := by
  refine ⟨h.keep hb, fun x hx h0 => ?_⟩
  obtain ⟨y, hy, hc⟩ := h.cell 0 h0
  rw [hx] at hy
  cases hy
  have := World.block_lt_of_cell? w0 _ hc
  rw [add_block] at this
  omega
theorem MM.mw {b : Nat} {W w0 : World} {v : Value} {M : Mdl} (h : MM 0 w0 v M) (hb : Below w0.heap.size w0 W) (hl : w0.heap.size ≤ b) : MW b W v M := by
  obtain ⟨aA, cA, aQ, cQ, aR, cR, h1, h2, h3, _⟩ := h.ex
  exact ⟨⟨aA, cA, aQ, cQ, aR, cR, h1, h2.mlb hb hl, h3.mlb hb hl⟩, fun W' k => h.keep (hb.trans (k.below hl hb.size))⟩
theorem tellsC_ok {e : Ending} {r : Int} {p : Prop} (h : TellsC e r p) (hp : p) : e = .returned (.int .i64 0) := by
  rcases h with h | h
  · exact h.2
  · exact absurd hp h.1
theorem tellsC_no {e : Ending} {r : Int} {p : Prop} (h : TellsC e r p) (hp : ¬ p) : e = .returned (.int .i64 r) := by
  rcases h with h | h
  · exact absurd h.1 hp
  · exact h.2
/-- A belief that a unit's work leaves as it is. -/
structure BW (b : Nat) (W : World) (v : Value) (B : Blf) : Prop where
  ex : ∃ aX cX aP cP, v = .agg #[.int .i64 B.t, .slice aX B.X.length cX, .slice aP B.P.length cP, .bool B.flag, .int .i64 B.pass, .int .i64 B.fail] ∧ ML b W aX cX B.X ∧ ML b W aP cP B.P
  t : I64 B.t
  pass : I64 B.pass
  fail : I64 B.fail
theorem BW.but {b : Nat} {W W' : World} {v : Value} {B : Blf} (h : BW b W v B) (k : But b W W') : BW b W' v B := by
  obtain ⟨aX, cX, aP, cP, h1, h2, h3⟩ := h.ex
  exact ⟨⟨aX, cX, aP, cP, h1, h2.but k, h3.but k⟩, h.t, h.pass, h.fail⟩
theorem BW.keep {b : Nat} {W W' : World} {v : Value} {B : Blf} (h : BW b W v B) (k : Below W.heap.size W W') : BW b W' v B := h.but (But.of k)
theorem BW.m {b : Nat} {W : World} {v : Value} {B : Blf} (h : BW b W v B) : MB 0 W v B := by
  obtain ⟨aX, cX, aP, cP, h1, h2, h3⟩ := h.ex
  exact ⟨⟨aX, cX, aP, cP, h1, h2.mi, h3.mi⟩, h.t, h.pass, h.fail⟩
theorem MB.bw {b : Nat} {W w0 : World} {v : Value} {B : Blf} (h : MB 0 w0 v B) (hb : Below w0.heap.size w0 W) (hl : w0.heap.size ≤ b) : BW b W v B := by
  obtain ⟨aX, cX, aP, cP, h1, h2, h3⟩ := h.ex
  exact ⟨⟨aX, cX, aP, cP, h1, h2.mlb hb hl, h3.mlb hb hl⟩, h.t, h.pass, h.fail⟩
/-- A row that a unit's work leaves as it is. -/
structure QW (b : Nat) (W : World) (v : Value) (q : Rw) : Prop where
  ex : ∃ aH cH, v = .agg #[.int .i64 q.s, .slice aH q.h.length cH, .int .i64 q.r] ∧ ML b W aH cH q.h
  s : I64 q.s
  r : I64 q.r
theorem QW.but {b : Nat} {W W' : World} {v : Value} {q : Rw} (h : QW b W v q) (k : But b W W') : QW b W' v q := by
  obtain ⟨aH, cH, h1, h2⟩ := h.ex
  exact ⟨⟨aH, cH, h1, h2.but k⟩, h.s, h.r⟩
theorem QW.keep {b : Nat} {W W' : World} {v : Value} {q : Rw} (h : QW b W v q) (k : Below W.heap.size W W') : QW b W' v q := h.but (But.of k)

end Go.Proofs.YtnofoommindocaaGreat.Base
namespace Go.Proofs.YtnofoommindocaaGreat.Base
open Go.RowKit
set_option linter.unusedVariables false
set_option linter.unusedSimpArgs false

theorem msc1 {W : World} {lb : Nat} {m1 : Mt} {a1 : Option Addr} {k1 : Nat} (h : Blk W lb #[.int .i64 m1.r, .int .i64 m1.c, .slice a1 m1.v.length k1] 78) : MsC W ⟨lb, 0, none⟩ [m1] := by
  refine ⟨fun j hj => ?_⟩
  have : j = 0 := by simp at hj; omega
  subst this
  exact ⟨a1, k1, h.cell 0, h.cell 1, h.cell 2⟩
theorem ref1_ok {m1 : Mt} (h1 : okMt m1) : refM [m1] true = 0 := if_pos ⟨fun m hm => by simp at hm; rcases hm with rfl; exact h1, rfl⟩
/-- 'append(v, x)', x one int. -/
theorem app_int1 {ops : Array Oper} {rest : List Oper} {o : Oper} {a : Act} {Q : Exit → Act → World → Prop} {w : World} (hg : o.guard = none) (s x : Operand) (hop : o.op = Op.call { callee := Callee.builtin Builtin.append, args := #[s, x], argTypes := #[22, 22] })
    {B n : Nat} {v : Value} {xs : List Value} (hs : a.eval s = v) (h : w.ownsRow B 3 1 v n xs) (hB : B ≤ w.heap.size) (e1 : Nat) {z : Int} (hx : a.eval x = .slice (some ⟨e1, 0, none⟩) 1 1) (he : Blk w e1 #[.int .i64 z] 3) (hlen : n ≤ 100000)
    (hK : ∀ g cap w', w'.ownsRow B 3 1 (.slice (some ⟨g, 0, none⟩) (n + 1) cap) (n + 1) (xs ++ [.int .i64 z]) → w.grownBy w' v.ownBlock → wpList Tryz.prog ops Q rest (a.put o.dst (.slice (some ⟨g, 0, none⟩) (n + 1) cap)) w') : wpList Tryz.prog ops Q (o :: rest) a w :=
  app_box (size := 1) (bytes := 8) (z := Value.int .i64 0) (xs := xs) Tryz.underlying22 (info_parts (by kernel_rfl)) rfl (by decide) (by decide) hg s x hop hs h hB e1 (cs := #[.int .i64 z]) rfl hx he (by intro u hu; simp at hu; subst hu; rfl) hlen hK
theorem any_range_succ (f : Nat → Bool) (n : Nat) : (List.range (n + 1)).any f = ((List.range n).any f || f n) := by rw [List.range_succ]; simp

set_option maxHeartbeats 4000000 in
set_option maxRecDepth 100000 in
theorem apply_is {W : World} {b : Nat} {c0 : Bool} (hU : UP W b c0) {m : Mt} {a1 : Option Addr} {k1 : Nat} (h1 : ML b W a1 k1 m.v) (ok : okMt m) {a2 : Option Addr} {k2 : Nat} {xs : List Int} (h2 : ML b W a2 k2 xs) (hl : (xs.length : Int) = m.c) :
    Calls Tryz.prog 51 #[.pointer (some ⟨b, 0, none⟩), .agg #[.int .i64 m.r, .int .i64 m.c, .slice a1 m.v.length k1], .slice a2 xs.length k2] W
      fun e w' => ∃ g k, e = .returned (.tuple #[.slice (some ⟨g, 0, none⟩) m.r.toNat k, .int .i64 0]) ∧ LI W.heap.size w' (some ⟨g, 0, none⟩) k (applyM m xs).1 ∧ UP w' b (c0 || (applyM m xs).2) ∧ But b W w' := by
  have hR := ref1_ok ok
  obtain ⟨r, c, hr, hc, hr1, hr2, hc1, hc2, hlen⟩ := ok.nat
  obtain ⟨mr, mc, vs⟩ := m
  dsimp only at *
  subst hr hc
  have hxl : xs.length = c := by omega
  have HREF := Lib.hid (fun (W' : World) (lb : Nat) (hU' : UP W' b c0) (h : Blk W' lb #[.int .i64 (r : Int), .int .i64 (c : Int), .slice a1 vs.length k1] 78) => refuses_is hU' (msc1 (m1 := ⟨(r : Int), (c : Int), vs⟩) h) (by simp) 1 true)
  rw [hR] at HREF
  obtain ⟨dt, hdt⟩ : ∃ dt : Nat → Int × Bool, dt = fun i => dotF (rowL vs c i) xs := ⟨_, rfl⟩
  have HT := Lib.hid (show applyM ⟨(r : Int), (c : Int), vs⟩ xs = ((List.range r).map fun i => (dt i).1, (List.range r).any fun i => (dt i).2) by rw [hdt]; simp [applyM])
  have hdfx : ∀ i, I64 (dt i).1 := fun i => by rw [hdt]; exact (dotF_fx _ _).i64
  obtain ⟨x, rfl⟩ : ∃ x, a1 = some x := by obtain ⟨x, hx, _⟩ := h1.mi.cell 0 (by rw [hlen]; exact Nat.mul_pos hr1 hc1); exact ⟨x, hx⟩
  have HDOT := Lib.hid (fun (W' : World) (cc : Bool) (hU' : UP W' b cc) (hv : ML b W' (some x) k1 vs) (hx : ML b W' a2 k2 xs) (i : Nat) (hi : i < r) => by
    have := uDot_is hU' (ml_row hv hlen hi hc1) hx ((rowL_len hlen hi).trans hxl.symm)
    rw [rowL_len hlen hi, hxl] at this
    exact this)
  have HDT := Lib.hid (show ∀ i, dotF (rowL vs c i) xs = dt i from fun i => by rw [hdt])
  have hcap := h1.mi.cap
  obtain ⟨n, hn⟩ : ∃ n, vs.length = n := ⟨_, rfl⟩
  have hnrc : n = r * c := by omega
  rw [hn] at hcap HREF ⊢
  rw [hxl]
  have HNRC := Lib.hid hnrc
  have e0 : (((r : Int)).toNat : Nat) = r := by simp
  rw [e0]
  clear hR hn hlen hdt hl hnrc hxl e0
  obtain ⟨i0, hi, hz0, hz1, hz2⟩ : ∃ i, Tryz.prog.info? 3 = some i ∧ i.zero = some (.int .i64 0) ∧ i.size = 1 ∧ i.bytes = 8 := info_parts (by kernel_rfl)
  have HI := Lib.hid (⟨hi, hz0, hz1, hz2⟩ : Tryz.prog.info? 3 = some i0 ∧ i0.zero = some (.int .i64 0) ∧ i0.size = 1 ∧ i0.bytes = 8)
  clear hi hz0 hz1 hz2
  go_enter Tryz.func51, Tryz.ntmps51
  go_wp2_with fail
  have hB := below_allocs W [Obj.cells #[Value.int .i64 (r : Int), .int .i64 (c : Int), .slice (some x) n k1] 78, Obj.cells #[Value.int .i64 (r : Int), .int .i64 (c : Int), .slice (some x) n k1] 78]
  have g0 := blk_at W [Obj.cells #[Value.int .i64 (r : Int), .int .i64 (c : Int), .slice (some x) n k1] 78, Obj.cells #[Value.int .i64 (r : Int), .int .i64 (c : Int), .slice (some x) n k1] 78] 0 _ _ rfl
  have g1 := blk_at W [Obj.cells #[Value.int .i64 (r : Int), .int .i64 (c : Int), .slice (some x) n k1] 78, Obj.cells #[Value.int .i64 (r : Int), .int .i64 (c : Int), .slice (some x) n k1] 78] 1 _ _ rfl
  simp only [List.foldl_cons, List.foldl_nil, Nat.add_zero, List.length_cons, List.length_nil, Nat.zero_add, Nat.reduceAdd] at hB g0 g1
  obtain ⟨hB, hs1⟩ := hB
  have hU1 := hU.keep hB
  have hbW := hU.lt
  refine (HREF.out _ _ hU1 g1).mono ?_
  rintro e w2 ⟨rfl, hK⟩
  replace g0 := g0.keep hK
  replace hB := more hB hK
  replace hU1 := hU1.keep hK
  have c0' := g0.cell
  clear hK HREF g1 hs1
  obtain ⟨mb, hmb⟩ : ∃ mb, W.heap.size = mb := ⟨_, rfl⟩
  have HMB := Lib.hid hmb
  rw [hmb] at g0 c0' hbW ⊢
  have hT : But b W w2 := But.of hB
  have hsz : mb ≤ w2.heap.size := by have := hB.size; omega
  clear hmb hB hU
  go_wp2_with fail
  go_loopw [9, 27] (fun v i wr => ∃ j : Nat, j ≤ r ∧ i = .int .i64 j ∧ wr.ownsRow mb 3 1 v j ((List.range j).map fun i => Value.int .i64 (dt i).1) ∧ UP wr b (c0 || (List.range j).any fun i => (dt i).2) ∧ But b W wr ∧ Blk wr mb #[.int .i64 (r : Int), .int .i64 (c : Int), .slice (some x) n k1] 78) (fun _ i _ => r - (intOf i).toNat)
  case atStart => exact ⟨0, Nat.zero_le _, rfl, ⟨rfl, .inl ⟨rfl, rfl⟩⟩, by simpa using hU1, hT, g0⟩
  case round =>
    clear g0 c0' hU1 hT hsz
    obtain ⟨j, hj, rfl, hrow, hUj, hT, g0⟩ := hrel
    by_cases hjr : j < r
    · have hjr' : (j : Int) < (r : Int) := by omega
      have hj0 : (0 : Int) ≤ (j : Int) := by omega
      have c0' := g0.cell
      have hx9 : (j + 1) * c ≤ r * c := Nat.mul_le_mul_right c hjr
      have hx8 : r * c ≤ 144 := Nat.mul_le_mul hr2 hc2
      rw [Nat.succ_mul] at hx9
      have HD := Lib.hid (HDOT.out _ _ hUj (h1.but hT) (h2.but hT) j hjr)
      obtain ⟨jc, hjc⟩ : ∃ jc, j * c = jc := ⟨_, rfl⟩
      have E1 := Lib.hid (show (j : Int) * (c : Int) = (jc : Int) by rw [← hjc, Int.natCast_mul])
      rw [hjc] at hx9 HD
      rw [HDT.out] at HD
      obtain ⟨je, hje⟩ : ∃ je, jc + c = je := ⟨_, rfl⟩
      have E3 := Lib.hid (show ((j : Int) + 1) * (c : Int) = (je : Int) by rw [Int.add_mul, Int.one_mul, E1.out, ← hje, Int.natCast_add])
      rw [hje] at hx9
      have hnr := HNRC.out
      have hmblt := g0.lt
      clear hjc
      generalize r * c = nn at *
      have h91 : je - jc = c := by omega
      have hi9 : jc ≤ je := by omega
      have hik : je ≤ k1 := by omega
      have nk1 : ¬ (k1 = jc) := by omega
      have hjs : j ≤ 12 := by omega
      have hms := mul_small (i := j) (j := j) (show jc ≤ 1000 by omega) (show jc ≤ 1000 by omega) (show je ≤ 1000 by omega) (show je ≤ 1000 by omega) (show j ≤ 1000 by omega) (show j ≤ 1000 by omega)
      have q1 : wrap64 (jc : Int) = (jc : Int) := wrap_small (by omega)
      have q2 : wrap64 (je : Int) = (je : Int) := wrap_small (by omega)
      have q3 : wrap64 ((j : Int) + 1) = (j : Int) + 1 := wrap_small (n := j + 1) (by omega)
      have e1 := E1.out
      have e3 := E3.out
      obtain ⟨f1, f2, f3, f4, f5, f6⟩ := hms
      clear hnr hx9 hx8 hje f2 f4 f6
      go_wp2_with fail
      refine HD.out.mono ?_
      rintro e w3 ⟨rfl, hU3, hB3⟩
      clear e1 e3 f1 f3 f5 q1 q2 q3
      have hrow3 := ownsRow_eff hrow (but_eff hB3) (fun k hk e => by have := (hrow.lt k hk).1; omega)
      have g03 := hB3.blk g0 (by omega)
      have hT3 := hT.trans hB3
      clear hT g0 c0' HD hB3 hUj
      have hA := upA (upR w3) (Obj.cells #[Value.int .i64 (dt j).1] 3)
      have gA := Blk.new w3 #[Value.int .i64 (dt j).1] 3
      have hsz3 : mb ≤ w3.heap.size := by have := hT3.size; have := HMB.out; omega
      have hAs : mb ≤ (w3.alloc (Obj.cells #[Value.int .i64 (dt j).1] 3)).heap.size := by rw [World.size_alloc]; omega
      have hj100 : j ≤ 100000 := Nat.le_trans hjs (by decide)

      have hrowA := ownsRow_keep hrow3 hA
      go_wp2_with (at_builtin; refine app_int1 rfl _ _ rfl rfl hrowA hAs w3.heap.size rfl gA hj100 ?_)
      intro g' c' w4 ho hg
      have hb4 : Below mb w3 w4 := ⟨hg.os, hg.tape, hg.output, by have := hg.size; simp at this; omega, fun k hk => (hg.block k (by simp; omega) (fun e => by have := (hrow3.lt k e.symm).1; omega)).trans (hA.block k (by omega))⟩
      have hU4 := hU3.below hb4 (by omega)
      have hT4 : But b W w4 := ⟨hb4.os.trans hT3.os, hb4.tape.trans hT3.tape, hb4.output.trans hT3.output, Nat.le_trans hT3.size hb4.size, fun k hk hn => (hb4.block k (by have := HMB.out; omega)).trans (hT3.block k hk hn)⟩
      have g4 : Blk w4 mb #[.int .i64 (r : Int), .int .i64 (c : Int), .slice (some x) n k1] 78 := (g03.keep hA).grown hg (fun e => by obtain ⟨cs', q, hc⟩ := (row_ty hrow3 mb e.symm).1; have := (show w3.heap[mb]? = _ from g03).symm.trans hc; simp at this)
      clear hrow hrow3 g03 hT3 hU3 gA hA hb4 hg hsz3
      go_wp2_with fail
      go_roundw
      case rel => exact ⟨j + 1, hjr, by go_num, by rw [List.range_succ, List.map_append]; exact ho, by rw [any_range_succ, ← Bool.or_assoc]; exact hU4, hT4, g4⟩
      case measure => simp [intOf]; omega
    · have hge : ¬ (j : Int) < (r : Int) := by omega
      have HJ := Lib.hid (show j = r by omega)
      rw [HJ.out] at hrow hUj
      obtain ⟨g', c', rfl⟩ := Joins.ownsRow_form hrow (by omega)
      have hli : LI W.heap.size wr (some ⟨g', 0, none⟩) c' (applyM ⟨(r : Int), (c : Int), vs⟩ xs).1 := by
        rw [HT.out, HMB.out]
        have h' : wr.ownsRow mb 3 1 (.slice (some ⟨g', 0, none⟩) r c') r (((List.range r).map fun i => (dt i).1).map fun z => .int .i64 z) := by rw [List.map_map]; exact hrow
        exact (OI.of_row (v := .slice none 0 0) h' (fun z hz => by obtain ⟨i, _, rfl⟩ := List.mem_map.1 hz; exact hdfx i)).1.li
      have hU5 : UP wr b (c0 || (applyM ⟨(r : Int), (c : Int), vs⟩ xs).2) := by rw [HT.out]; exact hUj
      clear hrow hUj g0
      go_wp2_with fail
      go_ret2
      exact ⟨g', c', rfl, hli, hU5, hT⟩

end Go.Proofs.YtnofoommindocaaGreat.Base
namespace Go.Proofs.YtnofoommindocaaGreat.Base
open Go.RowKit
set_option linter.unusedVariables false
set_option linter.unusedSimpArgs false

/-- What a step leaves. -/
structure Tr where
  is : Bool
  H : List Int
  P : List Int
  S : Int
  Nu : Int
def zeroB : Blf := ⟨0, [], [], false, 0, 0⟩
def zeroT : Tr := ⟨false, [], [], 0, 0⟩
/-- May a row be seen by a model? -/
structure seenP (M : Mdl) (q : Rw) : Prop where
  n : (q.h.length : Int) = M.n
  r : 1 ≤ q.r
  h : ¬ ∃ z ∈ q.h, farP z
/-- Why a measurement is not taken. -/
inductive UpdV (M : Mdl) (b : Blf) (q : Rw) : Int → Prop
  | fits : fitsV M b ≠ 0 → UpdV M b q (fitsV M b)
  | arg : fitsV M b = 0 → ¬ seenP M q → UpdV M b q 2
  | ok : fitsV M b = 0 → seenP M q → UpdV M b q 0
theorem UpdV.inj {M : Mdl} {b : Blf} {q : Rw} {x y : Int} (h : UpdV M b q x) (k : UpdV M b q y) : x = y := by
  cases h with
  | fits h1 =>
    cases k with
    | fits _ => rfl
    | arg h2 _ => exact absurd h2 h1
    | ok h2 _ => exact absurd h2 h1
  | arg h1 h2 =>
    cases k with
    | fits h3 => exact absurd h1 h3
    | arg _ _ => rfl
    | ok _ h3 => exact absurd h3 h2
  | ok h1 h2 =>
    cases k with
    | fits h3 => exact absurd h1 h3
    | arg _ h3 => exact absurd h2 h3
    | ok _ _ => rfl
theorem UpdV.zero {M : Mdl} {b : Blf} {q : Rw} (h : UpdV M b q 0) : fitsV M b = 0 ∧ seenP M q := by
  generalize hx : (0 : Int) = x at h
  cases h with
  | fits h1 => exact absurd hx.symm h1
  | arg _ _ => cases hx
  | ok h1 h2 => exact ⟨h1, h2⟩

/-- The diagonal evened out, place by place. -/
def evS (n : Nat) (p : List Int × Bool) (j : Nat) : List Int × Bool := if p.1.getD (j * n + j) 0 < 0 then (p.1.set (j * n + j) 0, true) else p
def evD (n : Nat) (v : List Int) (k : Nat) : List Int × Bool := (List.range k).foldl (evS n) (v, false)
def evenD (n : Nat) (v : List Int) : List Int × Bool := evD n v n
theorem evD_succ (n : Nat) (v : List Int) (k : Nat) : evD n v (k + 1) = evS n (evD n v k) k := by unfold evD; rw [List.range_succ, List.foldl_append]; rfl
theorem evS_len (n : Nat) (p : List Int × Bool) (j : Nat) : (evS n p j).1.length = p.1.length := by unfold evS; split <;> simp
theorem evD_len (n : Nat) (v : List Int) : ∀ k, (evD n v k).1.length = v.length
  | 0 => rfl
  | k + 1 => by rw [evD_succ, evS_len, evD_len n v k]
/-- One place of the identity less a product. -/
def jsF (e a b : Int) : Int × Bool := ((subF e (timesL [a, b]).1).1, (timesL [a, b]).2 || (subF e (timesL [a, b]).1).2)
def josM (n : Nat) (k h : List Int) : List Int × Bool := ((List.range (n * n)).map fun x => (jsF ((eyeM n).v.getD x 0) (k.getD (x / n) 0) (h.getD (x % n) 0)).1, (List.range (n * n)).any fun x => (jsF ((eyeM n).v.getD x 0) (k.getD (x / n) 0) (h.getD (x % n) 0)).2)
/-- The covariance behind a measurement. -/
inductive Jos (n : Nat) (p k h : List Int) (r : Int) : List Int → Bool → Prop
  | mk (j : List Int × Bool) (s a : Mt × Bool) (o : List Int × Bool) : josM n k h = j → sandM ⟨n, n, j.1⟩ ⟨n, n, p⟩ = s → rankM s.1 k r = a → evenD n a.1.v = o → Jos n p k h r o.1 (((j.2 || s.2) || a.2) || o.2)
theorem Jos.inj {n : Nat} {p k h : List Int} {r : Int} {o o' : List Int} {c c' : Bool} (h1 : Jos n p k h r o c) (h2 : Jos n p k h r o' c') : o = o' ∧ c = c' := by
  cases h1 with
  | mk j s a o a1 a2 a3 a4 =>
    cases h2 with
    | mk j' s' a' o' b1 b2 b3 b4 =>
      obtain rfl := a1.symm.trans b1
      obtain rfl := a2.symm.trans b2
      obtain rfl := a3.symm.trans b3
      obtain rfl := a4.symm.trans b4
      exact ⟨rfl, rfl⟩
/-- A gain, and what comes of a number. -/
def gnM (p : List Int) (s : Int) (n : Nat) : List Int × Bool := ((List.range n).map fun i => (divF (p.getD i 0) s).1, (List.range n).any fun i => (divF (p.getD i 0) s).2)
def xF (x k y : Int) : Int × Bool := ((plusL [x, (timesL [k, y]).1]).1, (timesL [k, y]).2 || (plusL [x, (timesL [k, y]).1]).2)
def xsM (X k : List Int) (y : Int) (n : Nat) : List Int × Bool := ((List.range n).map fun i => (xF (X.getD i 0) (k.getD i 0) y).1, (List.range n).any fun i => (xF (X.getD i 0) (k.getD i 0) y).2)
def v0F (v : Int) : Int := if v < 0 then 0 else v
theorem v0F_64 {v : Int} (h : I64 v) : I64 (v0F v) := by unfold v0F; split; exact ⟨by decide, by decide⟩; exact h
/-- How far off a measurement is. -/
structure Inno (n : Nat) (P X h : List Int) (r z : Int) (p : List Int × Bool) (v s e y yy d : Int × Bool) : Prop where
  hp : applyM ⟨n, n, P⟩ h = p
  hv : dotF h p.1 = v
  hs : plusL [v0F v.1, r] = s
  he : dotF h X = e
  hy : subF z e.1 = y
  hyy : timesL [y.1, y.1] = yy
  hd : divF yy.1 s.1 = d
def innoC (p : List Int × Bool) (v s e y yy d : Int × Bool) : Bool := ((((((p.2 || v.2) || decide (v.1 < 0)) || s.2) || e.2) || y.2) || yy.2) || d.2
def moreI (n : Int) : Int := if n + 1 ≤ 1099511627776 then n + 1 else 1099511627776
/-- What one measurement makes of a belief: the belief, the trace, what was cut. -/
inductive OneIs (M : Mdl) (b : Blf) (q : Rw) (z : Int) (c : Bool) : Blf → Tr → Bool → Prop
  | off (n : Nat) (p : List Int × Bool) (v s e y yy d : Int × Bool) : M.n = n → Inno n b.P b.X q.h q.r z p v s e y yy d → M.gate < d.1 →
      OneIs M b q z c { b with fail := moreI b.fail, flag := b.flag || (c || innoC p v s e y yy d) } zeroT (c || innoC p v s e y yy d)
  | on (n : Nat) (p : List Int × Bool) (v s e y yy d : Int × Bool) (k x : List Int × Bool) (P : List Int) (jc : Bool) : M.n = n → Inno n b.P b.X q.h q.r z p v s e y yy d → ¬ M.gate < d.1 →
      gnM p.1 s.1 n = k → xsM b.X k.1 y.1 n = x → Jos n b.P k.1 q.h q.r P jc →
      OneIs M b q z c ⟨b.t, x.1, P, b.flag || (((c || innoC p v s e y yy d) || (k.2 || x.2)) || jc), moreI b.pass, b.fail⟩ ⟨true, q.h, b.P, s.1, y.1⟩ (((c || innoC p v s e y yy d) || (k.2 || x.2)) || jc)
theorem Inno.inj {n : Nat} {P X h : List Int} {r z : Int} {p p' : List Int × Bool} {v s e y yy d v' s' e' y' yy' d' : Int × Bool} (h1 : Inno n P X h r z p v s e y yy d) (h2 : Inno n P X h r z p' v' s' e' y' yy' d') : p = p' ∧ v = v' ∧ s = s' ∧ e = e' ∧ y = y' ∧ yy = yy' ∧ d = d' := by
  obtain rfl := h1.hp.symm.trans h2.hp
  obtain rfl := h1.hv.symm.trans h2.hv
  obtain rfl := h1.hs.symm.trans h2.hs
  obtain rfl := h1.he.symm.trans h2.he
  obtain rfl := h1.hy.symm.trans h2.hy
  obtain rfl := h1.hyy.symm.trans h2.hyy
  obtain rfl := h1.hd.symm.trans h2.hd
  exact ⟨rfl, rfl, rfl, rfl, rfl, rfl, rfl⟩
theorem OneIs.inj {M : Mdl} {b : Blf} {q : Rw} {z : Int} {c : Bool} {B B' : Blf} {T T' : Tr} {f f' : Bool} (h1 : OneIs M b q z c B T f) (h2 : OneIs M b q z c B' T' f') : B = B' ∧ T = T' ∧ f = f' := by
  cases h1 with
  | off n p v s e y yy d hn hi hg =>
    cases h2 with
    | off n' p' v' s' e' y' yy' d' hn' hi' hg' =>
      obtain rfl : n = n' := by omega
      obtain ⟨rfl, rfl, rfl, rfl, rfl, rfl, rfl⟩ := hi.inj hi'
      exact ⟨rfl, rfl, rfl⟩
    | on n' p' v' s' e' y' yy' d' k' x' P' jc' hn' hi' hg' =>
      obtain rfl : n = n' := by omega
      obtain ⟨rfl, rfl, rfl, rfl, rfl, rfl, rfl⟩ := hi.inj hi'
      exact absurd hg hg'
  | on n p v s e y yy d k x P jc hn hi hg hk hx hj =>
    cases h2 with
    | off n' p' v' s' e' y' yy' d' hn' hi' hg' =>
      obtain rfl : n = n' := by omega
      obtain ⟨rfl, rfl, rfl, rfl, rfl, rfl, rfl⟩ := hi.inj hi'
      exact absurd hg' hg
    | on n' p' v' s' e' y' yy' d' k' x' P' jc' hn' hi' hg' hk' hx' hj' =>
      obtain rfl : n = n' := by omega
      obtain ⟨rfl, rfl, rfl, rfl, rfl, rfl, rfl⟩ := hi.inj hi'
      obtain rfl := hk.symm.trans hk'
      obtain rfl := hx.symm.trans hx'
      obtain ⟨rfl, rfl⟩ := hj.inj hj'
      exact ⟨rfl, rfl, rfl⟩

end Go.Proofs.YtnofoommindocaaGreat.Base
namespace Go.Proofs.YtnofoommindocaaGreat.Base
open Go.RowKit
set_option linter.unusedVariables false
set_option linter.unusedSimpArgs false

theorem ufar_is (z : Int) (W : World) : Calls Tryz.prog 95 #[.int .i64 z] W fun e w' => e = .returned (.bool (decide (farP z))) ∧ W = w' := by
  unfold farP
  by_cases h1 : z < -68719476736
  · go_enter Tryz.func95, Tryz.ntmps95
    go_wp2
    go_ret
    exact ⟨by simp [h1], rfl⟩
  · by_cases h2 : 68719476736 < z
    · go_enter Tryz.func95, Tryz.ntmps95
      go_wp2
      go_ret
      exact ⟨by simp [h2], rfl⟩
    · go_enter Tryz.func95, Tryz.ntmps95
      go_wp2
      go_ret
      exact ⟨by rw [decide_eq_false (show ¬ (z < -68719476736 ∨ 68719476736 < z) by omega)]; rfl, rfl⟩

set_option maxHeartbeats 1000000 in
theorem index_ufar {B : Nat} {W : World} {a : Option Addr} {c : Nat} {zs : List Int} (h : MI B W a c zs) :
    Calls Tryz.prog 150 #[.slice a zs.length c, .func (.func 95) #[] #[]] W fun e w' => ∃ r : Int, e = .returned (.int .i64 r) ∧ (0 ≤ r ↔ ∃ z ∈ zs, farP z) ∧ W = w' := by
  have hl := h.len
  unfold maxLen at hl
  obtain ⟨n, hn⟩ : ∃ n, zs.length = n := ⟨_, rfl⟩
  rw [hn] at hl ⊢
  go_enter Tryz.func150, Tryz.ntmps150
  go_wp2_with fail
  go_loopw [8] (fun i wr => ∃ (k : Nat), k ≤ n ∧ i = .int .i64 k ∧ Hid (∀ j, (hj : j < zs.length) → j < k → ¬ farP zs[j]) ∧ wr = W) (fun i _ => n - (intOf i).toNat)
  case atStart => exact ⟨0, Nat.zero_le _, rfl, fun j _ hj => absurd hj (by omega), rfl⟩
  case round =>
    obtain ⟨k, hk, rfl, hS, rfl⟩ := hrel
    by_cases hkl : k < n
    · have hkl' : (k : Int) < (n : Int) := by omega
      have hk0 : (0 : Int) ≤ (k : Int) := by omega
      have hkz : k < zs.length := by omega
      obtain ⟨x, rfl, hx, hxr⟩ := h.at k hkz
      obtain ⟨z, hz⟩ : ∃ z, zs[k] = z := ⟨_, rfl⟩
      rw [hz] at hx hxr
      have HZ := Lib.hid hz
      clear hz
      go_wp2_with fail
      refine (ufar_is z _).mono ?_
      rintro e w' ⟨rfl, rfl⟩
      by_cases hp : farP z
      · simp only [hp, decide_true]
        go_wp2_with fail
        go_ret
        exact ⟨_, rfl, ⟨fun _ => ⟨z, by rw [← HZ.out]; exact List.getElem_mem hkz, hp⟩, fun _ => hk0⟩, rfl⟩
      · simp only [hp, decide_false]
        go_wp2_with fail
        go_roundw
        case rel =>
          refine ⟨k + 1, by omega, by go_num, fun j hj hjk => ?_, by trivial⟩
          by_cases e : j = k
          · subst e; rw [HZ.out]; exact hp
          · exact hS.out j hj (by omega)
        case measure => simp [intOf]; omega
    · have hge : ¬ (k : Int) < (n : Int) := by omega
      go_wp2_with fail
      go_ret
      refine ⟨_, rfl, ⟨fun hh => absurd hh (by decide), fun ⟨z, hz, hp⟩ => ?_⟩, rfl⟩
      obtain ⟨j, hj, rfl⟩ := List.mem_iff_getElem.1 hz
      exact absurd hp (hS.out j hj (by omega))


theorem contains_ufar {B : Nat} {W : World} {a : Option Addr} {c : Nat} {zs : List Int} (h : MI B W a c zs) :
    Calls Tryz.prog 94 #[.slice a zs.length c, .func (.func 95) #[] #[]] W fun e w' => ∃ r : Bool, e = .returned (.bool r) ∧ (r = true ↔ ∃ z ∈ zs, farP z) ∧ W = w' := by
  go_enter Tryz.func94, Tryz.ntmps94
  go_wp2_with fail
  refine (index_ufar h).mono ?_
  rintro e w' ⟨r, rfl, hr, rfl⟩
  go_wp2_with fail
  go_ret
  exact ⟨_, rfl, decide_eq_true_iff, rfl⟩


theorem uref1_is {W : World} {b : Nat} {c0 : Bool} (hU : UP W b c0) {ub : Nat} (hub : Blk W ub #[.pointer (some ⟨b, 0, none⟩)] 30) :
    Calls Tryz.prog 91 #[.pointer (some ⟨ub, 0, none⟩)] W fun e w' => e = .returned (.int .i64 0) ∧ W = w' := by
  have c1 := hub.cell
  have hD := uDot_ok hU none none 0 0
  go_enter Tryz.func91, Tryz.ntmps91
  go_wp2_with fail
  refine hD.mono ?_
  rintro e w1 ⟨rfl, rfl⟩
  go_wp2_with fail
  go_ret
  exact ⟨rfl, rfl⟩
set_option maxHeartbeats 1000000 in
set_option maxRecDepth 100000 in
theorem uref2_is {W : World} {mb bb : Nat} {M : Mdl} {B : Blf} {aA aQ aR aX aP : Option Addr} {cA cQ cR cX cP la lq lr lx lp : Nat} (hm : Blk W mb #[.int .i64 M.n, .slice aA la cA, .slice aQ lq cQ, .int .i64 M.tick, .int .i64 M.gate, .int .i64 M.rmin, .slice aR lr cR] 25) (hb : Blk W bb #[.int .i64 B.t, .slice aX lx cX, .slice aP lp cP, .bool B.flag, .int .i64 B.pass, .int .i64 B.fail] 27)
    (hC : ∀ W', Below W.heap.size W W' → Calls Tryz.prog 37 #[.agg #[.int .i64 M.n, .slice aA la cA, .slice aQ lq cQ, .int .i64 M.tick, .int .i64 M.gate, .int .i64 M.rmin, .slice aR lr cR], .agg #[.int .i64 B.t, .slice aX lx cX, .slice aP lp cP, .bool B.flag, .int .i64 B.pass, .int .i64 B.fail]] W' fun e w' => e = .returned (.int .i64 (fitsV M B)) ∧ Below W'.heap.size W' w') :
    Calls Tryz.prog 92 #[.pointer (some ⟨mb, 0, none⟩), .pointer (some ⟨bb, 0, none⟩)] W fun e w' => e = .returned (.int .i64 (fitsV M B)) ∧ Below W.heap.size W w' := by
  have hC0 := hC W (upR W)
  clear hC
  generalize fitsV M B = f at *
  go_enter Tryz.func92, Tryz.ntmps92
  go_wp2_with first
    | ((with_reducible refine at_dst (N := 3) rfl ?_); refine ev_load rfl 25 _ rfl hm 0 rfl [.int .i64 M.n, .slice aA la cA, .slice aQ lq cQ, .int .i64 M.tick, .int .i64 M.gate, .int .i64 M.rmin, .slice aR lr cR] rfl Tryz.underlying25 rfl (by kernel_rfl) ?_)
    | ((with_reducible refine at_dst (N := 4) rfl ?_); refine ev_load rfl 27 _ rfl hb 0 rfl [.int .i64 B.t, .slice aX lx cX, .slice aP lp cP, .bool B.flag, .int .i64 B.pass, .int .i64 B.fail] rfl Tryz.underlying27 rfl (by kernel_rfl) ?_)
  refine hC0.mono ?_
  rintro e w1 ⟨rfl, hK⟩
  go_wp2_with fail
  go_ret
  exact ⟨rfl, hK⟩
/-- 0 if p is so, else 2. -/
def Tells2 (e : Ending) (p : Prop) : Prop := ∃ v : Int, e = .returned (.int .i64 v) ∧ (v = 0 ∧ p ∨ v = 2 ∧ ¬ p)
set_option maxHeartbeats 1000000 in
set_option maxRecDepth 100000 in
theorem uref3_is {W : World} {mb qb : Nat} {M : Mdl} {q : Rw} {aA aQ aR aH : Option Addr} {cA cQ cR cH la lq lr lh : Nat} (hm : Blk W mb #[.int .i64 M.n, .slice aA la cA, .slice aQ lq cQ, .int .i64 M.tick, .int .i64 M.gate, .int .i64 M.rmin, .slice aR lr cR] 25) (hq : Blk W qb #[.int .i64 q.s, .slice aH lh cH, .int .i64 q.r] 29) (hH : MI 0 W aH cH q.h) (hl : q.h.length = lh) :
    Calls Tryz.prog 93 #[.pointer (some ⟨qb, 0, none⟩), .pointer (some ⟨mb, 0, none⟩)] W fun e w' => Tells2 e (seenP M q) ∧ Below W.heap.size W w' := by
  have c0 := hm.cell
  have c1 := hq.cell
  have hC := contains_ufar hH
  rw [hl] at hC
  have HC := Lib.hid hC
  have HL := Lib.hid hl
  clear hC hl
  by_cases h1 : (lh : Int) = M.n
  · have h1' : ((lh : Int) == M.n) = true := by simp [h1]
    by_cases h2 : q.r < 1
    · go_enter Tryz.func93, Tryz.ntmps93
      go_wp2_with fail
      go_ret
      exact ⟨⟨2, rfl, .inr ⟨rfl, fun h => by have := h.r; omega⟩⟩, upR _⟩
    · have H1 := Lib.hid h1
      go_enter Tryz.func93, Tryz.ntmps93
      go_wp2_with fail
      refine HC.out.mono ?_
      rintro e w1 ⟨r, rfl, hr, hw⟩
      have hB : Below W.heap.size W w1 := by rw [hw]; exact upR _
      have HR := Lib.hid hr
      clear hw hr c0 c1
      cases r with
      | true =>
        go_wp2_with fail
        go_ret
        exact ⟨⟨2, rfl, .inr ⟨rfl, fun h => h.h (HR.out.1 (by first | trivial | rfl))⟩⟩, hB⟩
      | false =>
        go_wp2_with fail
        go_ret
        exact ⟨⟨0, rfl, .inl ⟨rfl, ⟨by rw [HL.out]; exact H1.out, by omega, fun h => by have := HR.out.2 h; cases this⟩⟩⟩, hB⟩
  · have h1' : ((lh : Int) == M.n) = false := by simp [h1]
    have H1 := Lib.hid h1
    go_enter Tryz.func93, Tryz.ntmps93
    go_wp2_with fail
    go_ret
    exact ⟨⟨2, rfl, .inr ⟨rfl, fun h => H1.out (by have := h.n; rw [HL.out] at this; exact this)⟩⟩, upR _⟩

set_option maxHeartbeats 4000000 in
set_option maxRecDepth 100000 in
theorem urefuses_is {W : World} {b : Nat} {c0 : Bool} (hU : UP W b c0) {vM vB vq : Value} {M : Mdl} {B : Blf} {q : Rw} (hM : MM 0 W vM M) (hB : MB 0 W vB B) {aH : Option Addr} {cH : Nat} (hvq : vq = .agg #[.int .i64 q.s, .slice aH q.h.length cH, .int .i64 q.r]) (hH : MI 0 W aH cH q.h) (hlen : M.rows.length ≤ 1000) :
    Calls Tryz.prog 49 #[.pointer (some ⟨b, 0, none⟩), vM, vB, vq] W fun e w' => (∃ v, e = .returned (.int .i64 v) ∧ UpdV M B q v) ∧ Below W.heap.size W w' := by
  have HFIT := Lib.hid (fun W' (hb : Below W.heap.size W W') => fits_is (hM.keep hb) (hB.keep hb) hlen)
  obtain ⟨aA, cA, aQ, cQ, aR, cR, rfl, _, _, _⟩ := hM.ex
  obtain ⟨aX, cX, aP, cP, rfl, _, _⟩ := hB.ex
  subst hvq
  obtain ⟨la, hla⟩ : ∃ n, M.A.length = n := ⟨_, rfl⟩
  obtain ⟨lq, hlq⟩ : ∃ n, M.Q.length = n := ⟨_, rfl⟩
  obtain ⟨lr, hlr⟩ : ∃ n, M.rows.length = n := ⟨_, rfl⟩
  obtain ⟨lx, hlx⟩ : ∃ n, B.X.length = n := ⟨_, rfl⟩
  obtain ⟨lp, hlp⟩ : ∃ n, B.P.length = n := ⟨_, rfl⟩
  obtain ⟨lh, hlh⟩ : ∃ n, q.h.length = n := ⟨_, rfl⟩
  rw [hla, hlq, hlr, hlx, hlp] at HFIT
  rw [hla, hlq, hlr, hlx, hlp, hlh]
  have HLH := Lib.hid hlh
  clear hM hB hla hlq hlr hlx hlp hlh
  go_enter Tryz.func49, Tryz.ntmps49
  go_wp2_with fail
  have hBB := below_allocs W [Obj.cells #[Value.pointer (some ⟨b, 0, none⟩)] 30, Obj.cells #[.int .i64 M.n, .slice aA la cA, .slice aQ lq cQ, .int .i64 M.tick, .int .i64 M.gate, .int .i64 M.rmin, .slice aR lr cR] 25, Obj.cells #[.int .i64 B.t, .slice aX lx cX, .slice aP lp cP, .bool B.flag, .int .i64 B.pass, .int .i64 B.fail] 27, Obj.cells #[.int .i64 q.s, .slice aH lh cH, .int .i64 q.r] 29, Obj.cells #[.func (.func 91) #[] #[.pointer (some ⟨W.heap.size, 0, none⟩)], .func (.func 92) #[] #[.pointer (some ⟨W.heap.size + 1, 0, none⟩), .pointer (some ⟨W.heap.size + 2, 0, none⟩)], .func (.func 93) #[] #[.pointer (some ⟨W.heap.size + 3, 0, none⟩), .pointer (some ⟨W.heap.size + 1, 0, none⟩)]] 105]
  have g0 := blk_at W [Obj.cells #[Value.pointer (some ⟨b, 0, none⟩)] 30, Obj.cells #[.int .i64 M.n, .slice aA la cA, .slice aQ lq cQ, .int .i64 M.tick, .int .i64 M.gate, .int .i64 M.rmin, .slice aR lr cR] 25, Obj.cells #[.int .i64 B.t, .slice aX lx cX, .slice aP lp cP, .bool B.flag, .int .i64 B.pass, .int .i64 B.fail] 27, Obj.cells #[.int .i64 q.s, .slice aH lh cH, .int .i64 q.r] 29, Obj.cells #[.func (.func 91) #[] #[.pointer (some ⟨W.heap.size, 0, none⟩)], .func (.func 92) #[] #[.pointer (some ⟨W.heap.size + 1, 0, none⟩), .pointer (some ⟨W.heap.size + 2, 0, none⟩)], .func (.func 93) #[] #[.pointer (some ⟨W.heap.size + 3, 0, none⟩), .pointer (some ⟨W.heap.size + 1, 0, none⟩)]] 105] 0 _ _ rfl
  have g1 := blk_at W [Obj.cells #[Value.pointer (some ⟨b, 0, none⟩)] 30, Obj.cells #[.int .i64 M.n, .slice aA la cA, .slice aQ lq cQ, .int .i64 M.tick, .int .i64 M.gate, .int .i64 M.rmin, .slice aR lr cR] 25, Obj.cells #[.int .i64 B.t, .slice aX lx cX, .slice aP lp cP, .bool B.flag, .int .i64 B.pass, .int .i64 B.fail] 27, Obj.cells #[.int .i64 q.s, .slice aH lh cH, .int .i64 q.r] 29, Obj.cells #[.func (.func 91) #[] #[.pointer (some ⟨W.heap.size, 0, none⟩)], .func (.func 92) #[] #[.pointer (some ⟨W.heap.size + 1, 0, none⟩), .pointer (some ⟨W.heap.size + 2, 0, none⟩)], .func (.func 93) #[] #[.pointer (some ⟨W.heap.size + 3, 0, none⟩), .pointer (some ⟨W.heap.size + 1, 0, none⟩)]] 105] 1 _ _ rfl
  have g2 := blk_at W [Obj.cells #[Value.pointer (some ⟨b, 0, none⟩)] 30, Obj.cells #[.int .i64 M.n, .slice aA la cA, .slice aQ lq cQ, .int .i64 M.tick, .int .i64 M.gate, .int .i64 M.rmin, .slice aR lr cR] 25, Obj.cells #[.int .i64 B.t, .slice aX lx cX, .slice aP lp cP, .bool B.flag, .int .i64 B.pass, .int .i64 B.fail] 27, Obj.cells #[.int .i64 q.s, .slice aH lh cH, .int .i64 q.r] 29, Obj.cells #[.func (.func 91) #[] #[.pointer (some ⟨W.heap.size, 0, none⟩)], .func (.func 92) #[] #[.pointer (some ⟨W.heap.size + 1, 0, none⟩), .pointer (some ⟨W.heap.size + 2, 0, none⟩)], .func (.func 93) #[] #[.pointer (some ⟨W.heap.size + 3, 0, none⟩), .pointer (some ⟨W.heap.size + 1, 0, none⟩)]] 105] 2 _ _ rfl
  have g3 := blk_at W [Obj.cells #[Value.pointer (some ⟨b, 0, none⟩)] 30, Obj.cells #[.int .i64 M.n, .slice aA la cA, .slice aQ lq cQ, .int .i64 M.tick, .int .i64 M.gate, .int .i64 M.rmin, .slice aR lr cR] 25, Obj.cells #[.int .i64 B.t, .slice aX lx cX, .slice aP lp cP, .bool B.flag, .int .i64 B.pass, .int .i64 B.fail] 27, Obj.cells #[.int .i64 q.s, .slice aH lh cH, .int .i64 q.r] 29, Obj.cells #[.func (.func 91) #[] #[.pointer (some ⟨W.heap.size, 0, none⟩)], .func (.func 92) #[] #[.pointer (some ⟨W.heap.size + 1, 0, none⟩), .pointer (some ⟨W.heap.size + 2, 0, none⟩)], .func (.func 93) #[] #[.pointer (some ⟨W.heap.size + 3, 0, none⟩), .pointer (some ⟨W.heap.size + 1, 0, none⟩)]] 105] 3 _ _ rfl
  have g4 := blk_at W [Obj.cells #[Value.pointer (some ⟨b, 0, none⟩)] 30, Obj.cells #[.int .i64 M.n, .slice aA la cA, .slice aQ lq cQ, .int .i64 M.tick, .int .i64 M.gate, .int .i64 M.rmin, .slice aR lr cR] 25, Obj.cells #[.int .i64 B.t, .slice aX lx cX, .slice aP lp cP, .bool B.flag, .int .i64 B.pass, .int .i64 B.fail] 27, Obj.cells #[.int .i64 q.s, .slice aH lh cH, .int .i64 q.r] 29, Obj.cells #[.func (.func 91) #[] #[.pointer (some ⟨W.heap.size, 0, none⟩)], .func (.func 92) #[] #[.pointer (some ⟨W.heap.size + 1, 0, none⟩), .pointer (some ⟨W.heap.size + 2, 0, none⟩)], .func (.func 93) #[] #[.pointer (some ⟨W.heap.size + 3, 0, none⟩), .pointer (some ⟨W.heap.size + 1, 0, none⟩)]] 105] 4 _ _ rfl
  simp only [List.foldl_cons, List.foldl_nil, Nat.add_zero, List.length_cons, List.length_nil, Nat.zero_add, Nat.reduceAdd] at hBB g0 g1 g2 g3 g4
  obtain ⟨hBB, hs1⟩ := hBB
  have hU1 := hU.keep hBB
  obtain ⟨w1, hw1⟩ : ∃ w1 : World, (((((W.alloc (Obj.cells #[Value.pointer (some ⟨b, 0, none⟩)] 30)).alloc (Obj.cells #[.int .i64 M.n, .slice aA la cA, .slice aQ lq cQ, .int .i64 M.tick, .int .i64 M.gate, .int .i64 M.rmin, .slice aR lr cR] 25)).alloc (Obj.cells #[.int .i64 B.t, .slice aX lx cX, .slice aP lp cP, .bool B.flag, .int .i64 B.pass, .int .i64 B.fail] 27)).alloc (Obj.cells #[.int .i64 q.s, .slice aH lh cH, .int .i64 q.r] 29)).alloc (Obj.cells #[.func (.func 91) #[] #[.pointer (some ⟨W.heap.size, 0, none⟩)], .func (.func 92) #[] #[.pointer (some ⟨W.heap.size + 1, 0, none⟩), .pointer (some ⟨W.heap.size + 2, 0, none⟩)], .func (.func 93) #[] #[.pointer (some ⟨W.heap.size + 3, 0, none⟩), .pointer (some ⟨W.heap.size + 1, 0, none⟩)]] 105)) = w1 := ⟨_, rfl⟩
  rw [hw1] at hBB g0 g1 g2 g3 g4 hs1 hU1
  rw [hw1]
  clear hw1 hs1
  refine wp_loop_rounds 4 ?_
  rw [rounds_succ]
  have f4 := g4.cell
  go_wp2_with fail
  refine (uref1_is hU1 g0).mono ?_
  rintro e w2 ⟨rfl, hw2⟩
  rw [← hw2]
  clear hw2
  go_wp2_with fail
  rw [rounds_succ]
  go_wp2_with fail
  refine (uref2_is (M := M) (B := B) g1 g2 (fun W' hb => HFIT.out W' (hBB.trans (hb.mono hBB.size)))).mono ?_
  rintro e w3 ⟨rfl, hK⟩
  replace g1 := g1.keep hK
  replace g3 := g3.keep hK
  replace g4 := g4.keep hK
  replace hBB := more hBB hK
  clear f4 hK g0 g2 hU1
  have f4 := g4.cell
  by_cases hf : fitsV M B = 0
  · rw [hf]
    have HF := Lib.hid hf
    clear hf
    go_wp2_with fail
    rw [rounds_succ]
    go_wp2_with fail
    refine (uref3_is (M := M) (q := q) g1 g3 (hH.keep hBB) HLH.out).mono ?_
    rintro e w4 ⟨⟨v, rfl, hv⟩, hK⟩
    replace hBB := more hBB hK
    replace g4 := g4.keep hK
    clear f4 hK
    have f4 := g4.cell
    rcases hv with ⟨rfl, hs⟩ | ⟨rfl, hs⟩
    · have HS := Lib.hid hs
      clear hs
      go_wp2_with fail
      rw [rounds_succ]
      go_wp2_with fail
      go_ret
      exact ⟨⟨0, rfl, .ok HF.out HS.out⟩, hBB⟩
    · have HS := Lib.hid hs
      clear hs
      go_wp2_with fail
      go_ret
      exact ⟨⟨2, rfl, .arg HF.out HS.out⟩, hBB⟩
  · have HF := Lib.hid hf
    have hf' : (fitsV M B == 0) = false := by simp [hf]
    obtain ⟨fv, hfv⟩ : ∃ fv, fitsV M B = fv := ⟨_, rfl⟩
    rw [hfv] at hf hf' ⊢
    have HV := Lib.hid hfv
    clear hfv
    go_wp2_with fail
    go_ret
    exact ⟨⟨_, rfl, by rw [← HV.out]; exact .fits HF.out⟩, hBB⟩

end Go.Proofs.YtnofoommindocaaGreat.Base
namespace Go.Proofs.YtnofoommindocaaGreat.Base
open Go.RowKit
set_option linter.unusedVariables false
set_option linter.unusedSimpArgs false

theorem ev_small {n j : Nat} (h1 : 1 ≤ n) (h2 : n ≤ 12) (hj : j < n) : ∃ ix ix' : Nat, j * n + j = ix ∧ (j + 1) * n + (j + 1) = ix' ∧ ix < n * n ∧ ix < ix' ∧ (ix : Int) + ((n : Int) + 1) = (ix' : Int) ∧ ix' ≤ 200 := by
  have h3 : j * n ≤ 12 * 12 := Nat.mul_le_mul (by omega) h2
  have h4 : (j + 1) * n = j * n + n := Nat.succ_mul j n
  exact ⟨j * n + j, (j + 1) * n + (j + 1), rfl, rfl, ix_lt hj hj, by omega, by rw [h4]; omega, by omega⟩
theorem ev_last {n j : Nat} (h1 : 1 ≤ n) (hj : j ≤ n) (h : ¬ j < n) : ¬ (j * n + j < n * n) ∧ j = n := by
  have e : j = n := by omega
  subst e
  exact ⟨by omega, rfl⟩
theorem evS_neg {n : Nat} {p : List Int × Bool} {j : Nat} (h : p.1.getD (j * n + j) 0 < 0) : evS n p j = (p.1.set (j * n + j) 0, true) := if_pos h
theorem evS_pos {n : Nat} {p : List Int × Bool} {j : Nat} (h : ¬ p.1.getD (j * n + j) 0 < 0) : evS n p j = p := if_neg h
theorem evD_rng {n : Nat} {v : List Int} (hv : ∀ z ∈ v, I64 z) : ∀ k, ∀ z ∈ (evD n v k).1, I64 z
  | 0 => hv
  | k + 1 => by
    rw [evD_succ]
    unfold evS
    split
    · intro z hz
      rcases List.mem_or_eq_of_mem_set hz with h | h
      · exact evD_rng hv k z h
      · rw [h]; exact ⟨by decide, by decide⟩
    · exact evD_rng hv k

set_option maxHeartbeats 4000000 in
set_option maxRecDepth 100000 in
theorem ueven_is {W : World} {b : Nat} {c0 : Bool} (hU : UP W b c0) {a1 : Option Addr} {k1 : Nat} {zs : List Int} (h1 : ML b W a1 k1 zs) (n : Nat) (hn1 : 1 ≤ n) (hn2 : n ≤ 12) (hlen : zs.length = n * n) :
    Calls Tryz.prog 34 #[.pointer (some ⟨b, 0, none⟩), .int .i64 n, .slice a1 zs.length k1] W
      fun e w' => ∃ y k, e = .returned (.tuple #[.slice y zs.length k, .int .i64 0]) ∧ LI W.heap.size w' y k (evenD n zs).1 ∧ UP w' b (c0 || (evenD n zs).2) ∧ But b W w' := by
  obtain ⟨N, hN⟩ : ∃ N, n * n = N := ⟨_, rfl⟩
  have hN1 : 1 ≤ N := by rw [← hN]; exact Nat.mul_le_mul hn1 hn1
  have hN2 : N ≤ 144 := by rw [← hN]; exact Nat.mul_le_mul hn2 hn2
  have hNN : (n : Int) * (n : Int) = (N : Int) := by rw [← hN, Int.natCast_mul]
  have hNw : wrap64 (N : Int) = (N : Int) := wrap_small (by omega)
  have hne : ((N : Int) == (N : Int)) = true := by simp
  rw [hN] at hlen
  have HN := Lib.hid hN
  have hD := uDot_ok hU none none 0 0
  have hCL := clone_is h1.mi (by omega)
  rw [hlen] at hCL ⊢
  have q1 : ¬ (n : Int) < 1 := by omega
  have q2 : ¬ (12 : Int) < (n : Int) := by omega
  have hbW := hU.lt
  clear hN
  go_enter Tryz.func34, Tryz.ntmps34
  go_wp2_with fail
  refine hD.mono ?_
  rintro e w1 ⟨rfl, hw1⟩
  rw [← hw1]
  clear hw1 hD
  go_wp2_with fail
  refine hCL.mono ?_
  rintro e w1 ⟨y, c, rfl, hli, hB⟩
  obtain ⟨y, rfl⟩ : ∃ y', y = some y' := by obtain ⟨x, hx, _⟩ := hli.mi.cell 0 (by omega); exact ⟨x, hx⟩
  have hU1 := hU.keep hB
  have hT := But.of (b := b) hB
  clear hCL hNN hNw hne q1 q2 hB hU
  go_wp2_with fail
  go_loopw [11] (fun i wr => ∃ j : Nat, j ≤ n ∧ i = .int .i64 ((j * n + j : Nat) : Int) ∧ LI W.heap.size wr (some y) c (evD n zs j).1 ∧ UP wr b (c0 || (evD n zs j).2) ∧ But b W wr) (fun i _ => N + 300 - (intOf i).toNat)
  case atStart => exact ⟨0, Nat.zero_le _, by simp, hli, by simpa [evD] using hU1, hT⟩
  case round =>
    clear hli hU1 hT
    obtain ⟨j, hj, rfl, hli, hU1, hT⟩ := hrel
    by_cases hjn : j < n
    · obtain ⟨ix, ix', hix, hix', hixN, hlt, hadd, h200⟩ := ev_small hn1 hn2 hjn
      rw [HN.out] at hixN
      have hz := ml_atD (hli.ml hU1) (show ix < (evD n zs j).1.length by rw [evD_len]; omega)
      obtain ⟨y', hy', hz1⟩ := hz
      cases hy'
      have hst := fun W' (h : LI W.heap.size W' (some y) c (evD n zs j).1) => li_put h ix (by rw [evD_len]; omega)
      have HL := Lib.hid (show ix < (evD n zs j).1.length by rw [evD_len]; omega)
      rw [hix]
      have e0 : (0 : Int) ≤ (ix : Int) := by omega
      have e1 : (ix : Int) < (N : Int) := by omega
      have HS := Lib.hid (evD_succ n zs j)
      by_cases hneg : (evD n zs j).1.getD ix 0 < 0
      · rw [evS_neg (by rw [hix]; exact hneg), hix] at HS
        obtain ⟨v0, hv0, hf0⟩ := hst wr hli
        have hp := LI.putS hli ix HL.out 0 ⟨by decide, by decide⟩
        have hlo := hli.mi.lo y rfl (by have := HL.out; omega)
        have hUp : UP (wr.setCell (y.add ix) (.int .i64 0)) b (c0 || (evD n zs j).2) := up_eff hU1 (Eff.set (P := fun k => k = y.block) _ _ (by rw [add_block])) (by omega)
        have hTp : But b W (wr.setCell (y.add ix) (.int .i64 0)) := but_eff2 hT (Eff.set (P := fun k => k = y.block) _ _ (by rw [add_block])) hlo
        generalize (evD n zs j).1.getD ix 0 = z at *
        clear hst hv0
        have H3 := Lib.hid hp
        have H4 := Lib.hid hUp
        have H5 := Lib.hid hTp
        have H6 := Lib.hid hadd
        have H7 := Lib.hid hix'
        have H8 := Lib.hid hlt
        clear hp hUp hTp hadd hix hix' hlt hli hU1 hT
        go_wp2_with fail
        refine (uSet_is H4.out true).mono ?_
        rintro e w5 ⟨rfl, hU5, hB5⟩
        have hli5 := H3.out.but H4.out hB5
        have hT5 := H5.out.trans hB5
        clear hB5 e0 e1 hz1 hf0
        have a1 := H6.out
        go_wp2_with fail
        clear a1
        go_roundw
        case rel => exact ⟨j + 1, hjn, by rw [H7.out], by rw [HS.out]; exact hli5, by rw [HS.out]; simpa using hU5, hT5⟩
        case measure => have := H6.out; have := H8.out; simp [intOf]; omega
      · rw [evS_pos (by rw [hix]; exact hneg)] at HS
        generalize hgz : (evD n zs j).1.getD ix 0 = z at *
        have H6 := Lib.hid hadd
        have H7 := Lib.hid hix'
        have H8 := Lib.hid hlt
        clear hst hix hix' hlt hgz
        have a1 := hadd
        clear hadd
        go_wp2_with fail
        clear a1 hz1 e0 e1
        go_roundw
        case rel => exact ⟨j + 1, hjn, by rw [H7.out], by rw [HS.out]; exact hli, by rw [HS.out]; exact hU1, hT⟩
        case measure => have := H6.out; have := H8.out; simp [intOf]; omega
    · obtain ⟨hx1, hx2⟩ := ev_last hn1 hj hjn
      rw [HN.out] at hx1
      obtain ⟨ix, hix⟩ : ∃ ix, j * n + j = ix := ⟨_, rfl⟩
      rw [hix] at hx1 ⊢
      have hge : ¬ (ix : Int) < (N : Int) := by omega
      have HJ := Lib.hid hx2
      clear hix hx2
      go_wp2_with fail
      go_ret2
      rw [HJ.out] at hli hU1
      exact ⟨_, _, rfl, hli, hU1, hT⟩

end Go.Proofs.YtnofoommindocaaGreat.Base
namespace Go.Proofs.YtnofoommindocaaGreat.Base
open Go.RowKit
set_option linter.unusedVariables false
set_option linter.unusedSimpArgs false

/-- The first k places of the identity less a product, the others of the identity. -/
def josL (n : Nat) (E k h : List Int) (m : Nat) : List Int := (List.range (n * n)).map fun x => if x < m then (jsF (E.getD x 0) (k.getD (x / n) 0) (h.getD (x % n) 0)).1 else E.getD x 0
def josB (n : Nat) (E k h : List Int) (m : Nat) : Bool := (List.range m).any fun x => (jsF (E.getD x 0) (k.getD (x / n) 0) (h.getD (x % n) 0)).2
theorem josL_zero {n : Nat} {E k h : List Int} (hE : E.length = n * n) : josL n E k h 0 = E := by
  refine List.ext_getElem (by simp [josL, hE]) fun x h1 h2 => ?_
  simp [josL, h2]
theorem josL_len (n : Nat) (E k h : List Int) (m : Nat) : (josL n E k h m).length = n * n := by simp [josL]
theorem josL_get {n : Nat} {E k h : List Int} {m : Nat} (hm : m < n * n) : (josL n E k h m).getD m 0 = E.getD m 0 := by
  unfold josL
  rw [List.getD_eq_getElem?_getD, List.getElem?_map, List.getElem?_range hm]
  simp
theorem josL_set {n : Nat} {E k h : List Int} {m : Nat} : (josL n E k h m).set m (jsF (E.getD m 0) (k.getD (m / n) 0) (h.getD (m % n) 0)).1 = josL n E k h (m + 1) := by
  simp only [josL]
  refine List.ext_getElem (by simp) fun x h1 h2 => ?_
  rw [List.getElem_set]
  simp only [List.getElem_map, List.getElem_range]
  by_cases e : m = x
  · subst e; rw [if_pos rfl, if_pos (by omega)]
  · rw [if_neg e]
    by_cases hx : x < m
    · rw [if_pos hx, if_pos (by omega)]
    · rw [if_neg hx, if_neg (by omega)]
theorem josM_eq (n : Nat) (k h : List Int) : josM n k h = (josL n (eyeM n).v k h (n * n), josB n (eyeM n).v k h (n * n)) := by
  unfold josM josL josB
  congr 1
  refine List.map_congr_left fun x hx => ?_
  rw [if_pos (List.mem_range.1 hx)]
theorem eye_ok {n : Nat} (h1 : 1 ≤ n) (h2 : n ≤ 12) : okMt (eyeM n) ∧ (eyeM n).r = n ∧ (eyeM n).c = n := by
  refine ⟨⟨⟨?_, ?_⟩, ⟨?_, ?_⟩, ?_⟩, ?_, ?_⟩ <;> simp [eyeM, diagM, madeM] <;> omega
theorem but_eff3 {b : Nat} {w w3 w4 : World} {p : Nat} (hB : But b w w3) (ef : Eff (fun k => k = b ∨ k = p) w3 w4) (hp : w.heap.size ≤ p) : But b w w4 :=
  ⟨ef.os.trans hB.os, ef.tape.trans hB.tape, ef.output.trans hB.output, Nat.le_trans hB.size ef.size, fun k hk hn => (ef.block k (Nat.lt_of_lt_of_le hk hB.size) (fun h => by rcases h with h | h; exact hn h; omega)).trans (hB.block k hk hn)⟩
theorem li_mp {B b : Nat} {W : World} {c : Bool} {a : Option Addr} {k : Nat} {m : Mt} (h : LI B W a k m.v) (hu : UP W b c) : ML b W a k m.v := h.ml hu
theorem rank_ok {m : Mt} (h : okMt m) (k : List Int) (s : Int) : okMt (rankM m k s).1 := chg_ok h _ _
theorem sand_ok {f p : Mt} (h1 : okMt f) (h2 : okMt p) : okMt (sandM f p).1 ∧ (sandM f p).1.r = f.r ∧ (sandM f p).1.c = f.r := by
  have a1 := h1.1.1
  have a2 := h1.2.1.1
  refine ⟨chg_ok (ok_mulM (ok_mulM h1 h2) (turn_ok h1)) _ _, ?_, ?_⟩
  · simp [sandM, evenM, chgM, mulM, madeF]; omega
  · simp [sandM, evenM, chgM, mulM, madeF, turnM, madeM]; omega

set_option maxHeartbeats 8000000 in
set_option maxRecDepth 100000 in
theorem joseph_is {W : World} {b : Nat} {c0 : Bool} (hU : UP W b c0) (n : Nat) (hn1 : 1 ≤ n) (hn2 : n ≤ 12) {ap ak : Option Addr} {kp kc : Nat} {ps ks : List Int} (hp : ML b W ap kp ps) (hk : ML b W ak kc ks) (hpl : ps.length = n * n) (hkl : ks.length = n)
    {ah : Option Addr} {hc : Nat} {s r : Int} {hs : List Int} (hh : ML b W ah hc hs) (hhl : hs.length = n) (h64 : I64 r) :
    Calls Tryz.prog 57 #[.pointer (some ⟨b, 0, none⟩), .int .i64 n, .slice ap ps.length kp, .slice ak ks.length kc, .agg #[.int .i64 s, .slice ah hs.length hc, .int .i64 r]] W
      fun e w' => ∃ y k P jc, e = .returned (.slice y P.length k) ∧ Jos n ps ks hs r P jc ∧ LI W.heap.size w' y k P ∧ UP w' b (c0 || jc) ∧ But b W w' := by
  obtain ⟨N, hN⟩ : ∃ N, n * n = N := ⟨_, rfl⟩
  have hN1 : 1 ≤ N := by rw [← hN]; exact Nat.mul_le_mul hn1 hn1
  have hN2 : N ≤ 144 := by rw [← hN]; exact Nat.mul_le_mul hn2 hn2
  obtain ⟨hEok, hEr, hEc⟩ := eye_ok hn1 hn2
  have hEl : (eyeM n).v.length = N := by simp [eyeM, diagM, madeM, hN]
  have heye := eye_is n hn1 hn2
  obtain ⟨E, hE⟩ : ∃ E, eyeM n = E := ⟨_, rfl⟩
  rw [hE] at hEok hEr hEc hEl heye
  have HE := Lib.hid hE
  clear hE
  obtain ⟨kx, rfl⟩ : ∃ x, ak = some x := by obtain ⟨x, hx, _⟩ := hk.mi.cell 0 (by omega); exact ⟨x, hx⟩
  obtain ⟨hx, rfl⟩ : ∃ x, ah = some x := by obtain ⟨x, hx, _⟩ := hh.mi.cell 0 (by omega); exact ⟨x, hx⟩
  obtain ⟨er, ec, ev⟩ := E
  dsimp only at hEr hEc hEl
  subst hEr hEc
  have hbW := hU.lt
  obtain ⟨nk, hnk⟩ : ∃ nk, ks.length = nk := ⟨_, rfl⟩
  obtain ⟨nh, hnh⟩ : ∃ nh, hs.length = nh := ⟨_, rfl⟩
  obtain ⟨np, hnp⟩ : ∃ np, ps.length = np := ⟨_, rfl⟩
  rw [hnk] at hkl
  rw [hnh] at hhl
  rw [hnp] at hpl
  rw [hnk, hnh, hnp]
  have HNK := Lib.hid (⟨hkl, hhl, hpl.trans hN⟩ : nk = n ∧ nh = n ∧ np = N)
  have HLN := Lib.hid (⟨hnk, hnh, hnp⟩ : ks.length = nk ∧ hs.length = nh ∧ ps.length = np)
  have HN := Lib.hid hN
  clear hkl hhl hpl hnk hnh hnp hN
  go_enter Tryz.func57, Tryz.ntmps57
  go_wp2_with fail
  have hB := upA (upR W) (Obj.cells #[.int .i64 s, .slice (some hx) nh hc, .int .i64 r] 29)
  have gq := Blk.new W #[.int .i64 s, .slice (some hx) nh hc, .int .i64 r] 29
  generalize W.alloc (Obj.cells #[.int .i64 s, .slice (some hx) nh hc, .int .i64 r] 29) = w1 at *
  refine (heye w1).mono ?_
  rintro e w2 ⟨ev', rfl, hmo, hK⟩
  have hsz1 := hB.size
  obtain ⟨y0, c, rfl, hli⟩ := hmo.ex
  dsimp only at hli
  have hli0 := hli.mono hsz1
  obtain ⟨y, rfl⟩ : ∃ y', y0 = some y' := by obtain ⟨x, hx, _⟩ := hli.mi.cell 0 (by omega); exact ⟨x, hx⟩
  replace gq := gq.keep hK
  replace hB := more hB hK
  dsimp only
  rw [hEl]
  clear hmo heye hli hK
  obtain ⟨qb, hqb⟩ : ∃ qb, W.heap.size = qb := ⟨_, rfl⟩
  have HQB := Lib.hid hqb
  rw [hqb] at gq ⊢
  clear hqb
  go_wp2_with first
    | ((with_reducible refine at_dst (N := 11) rfl ?_); refine ev_new rfl (cs := #[.int .i64 0, .int .i64 0, .slice none 0 0]) (t := 78) (by go_simp) ?_; intro w3 gj hB3 hz3)
    | ((with_reducible refine at_st (p := 11) (q := 23) rfl ?_); refine ev_store rfl 78 _ _ rfl rfl gj 0 rfl rfl [.int .i64 n, .int .i64 n, .slice (some y) N c] rfl (by kernel_rfl) rfl rfl #[.int .i64 n, .int .i64 n, .slice (some y) N c] rfl ?_; intro w4 gj4 ef4 hz4; have cj := gj4.cell)
  have hB4 : Below w2.heap.size w2 w4 := ef4.below hB3 (fun k hk => by omega)
  replace gq := gq.keep hB4
  have hB5 := more hB hB4
  have hli4 := hli0.keep hB4
  have hU4 := hU.keep hB5
  have hT := But.of (b := b) hB5
  have hz9 := hB5.size
  obtain ⟨jb, hjb⟩ : ∃ jb, w2.heap.size = jb := ⟨_, rfl⟩
  rw [hjb] at gj4 cj ⊢
  have hjW : W.heap.size ≤ jb := by rw [← hjb]; exact hB.size
  have hqbn : qb ≠ b := by have := HQB.out; omega
  have hjbn : jb ≠ b := by omega
  have HEL := Lib.hid hEl
  clear hjb hB4 gj hB3 ef4 hz3 hz4 hli0 hB hB5 hU hEl
  go_loopw [28] (fun i wr => ∃ m : Nat, m ≤ N ∧ i = .int .i64 m ∧ LI W.heap.size wr (some y) c (josL n ev ks hs m) ∧ UP wr b (c0 || josB n ev ks hs m) ∧ But b W wr ∧ Blk wr qb #[.int .i64 s, .slice (some hx) nh hc, .int .i64 r] 29 ∧ Blk wr jb #[.int .i64 n, .int .i64 n, .slice (some y) N c] 78) (fun i _ => N - (intOf i).toNat)
  case atStart => exact ⟨0, Nat.zero_le _, rfl, by rw [josL_zero (by rw [HEL.out, HN.out])]; exact hli4, by simpa [josB] using hU4, hT, gq, gj4⟩
  case round =>
    clear gq gj4 hli4 hU4 hT cj hz9
    obtain ⟨x, hxN, rfl, hli, hU, hT, gq, gj⟩ := hrel
    obtain ⟨B0, hB0⟩ : ∃ B0, W.heap.size = B0 := ⟨_, rfl⟩
    rw [hB0] at hli
    have HB0 := Lib.hid hB0
    clear hB0
    by_cases hlt : x < N
    · have hlt' : (x : Int) < (N : Int) := by omega
      have hx0 : (0 : Int) ≤ (x : Int) := by omega
      have hi : x / n < n := Nat.div_lt_of_lt_mul (by rw [HN.out]; exact hlt)
      have hj : x % n < n := Nat.mod_lt x (by omega)
      have hkl := HLN.out.1
      have hhl := HLN.out.2.1
      have hnk := HNK.out.1
      have hnh := HNK.out.2.1
      have hll : (josL n ev ks hs x).length = N := by rw [josL_len, HN.out]
      have hxl : x < (josL n ev ks hs x).length := by omega
      have hylt : y.block < wr.heap.size := by obtain ⟨cs, q, hc⟩ := hli.wj.ty y rfl (by omega); exact (Array.getElem?_eq_some_iff.1 hc).1
      have hyb := (hli.ml hU).ne y rfl (by omega)
      have hblt := hU.lt
      have hty := hli.wj.ty y rfl (by omega)
      have hyo : W.heap.size ≤ y.block := by rw [HB0.out]; exact hli.mi.lo y rfl (by omega)
      obtain ⟨y', hy', d2⟩ := ml_atD (hli.ml hU) hxl
      cases hy'
      rw [josL_get (by rw [HN.out]; exact hlt)] at d2
      have hkr := hk.but hT
      have hhr := hh.but hT
      obtain ⟨k', hk', d3⟩ := ml_atD hkr (show x / n < ks.length by omega)
      cases hk'
      obtain ⟨h', hh', d5⟩ := ml_atD hhr (show x % n < hs.length by omega)
      cases hh'
      have d1 := gj.cell 2
      have d4 := gq.cell 1
      simp at d1 d4
      have n1 := hjbn
      have n4 := hqbn
      have n2 : (y.add x).block ≠ b := by rw [add_block]; exact hyb
      have n3 : (kx.add (x / n)).block ≠ b := by rw [add_block]; exact hkr.ne _ rfl (by omega)
      have n5 : (hx.add (x % n)).block ≠ b := by rw [add_block]; exact hhr.ne _ rfl (by omega)
      have hki := getD_i64 hkr.mi.rng (x / n)
      have hhj := getD_i64 hhr.mi.rng (x % n)
      have hez : I64 (ev.getD x 0) := by have := getD_i64 hli.mi.rng x; rw [josL_get (by rw [HN.out]; exact hlt)] at this; exact this
      have HSET := Lib.hid (josL_set (n := n) (E := ev) (k := ks) (h := hs) (m := x))
      have HFL := Lib.hid (show josB n ev ks hs (x + 1) = (josB n ev ks hs x || (jsF (ev.getD x 0) (ks.getD (x / n) 0) (hs.getD (x % n) 0)).2) by unfold josB; rw [any_range_succ])
      have u4 : ¬ ((n : Int) = 0) := by omega
      have u5 : ¬ (n = 0) := by omega
      have u6 : (x : Int) / (n : Int) = ((x / n : Nat) : Int) := (Int.natCast_ediv _ _).symm
      have u7 : (x : Int) % (n : Int) = ((x % n : Nat) : Int) := (Int.natCast_emod _ _).symm
      have u1' : (x : Int).tdiv (n : Int) = ((x / n : Nat) : Int) := by rw [Int.tdiv_eq_ediv_of_nonneg hx0, ← Int.natCast_ediv]
      have u2 : (x : Int).tmod (n : Int) = ((x % n : Nat) : Int) := by rw [Int.tmod_eq_emod_of_nonneg hx0, ← Int.natCast_emod]
      generalize ks.getD (x / n) 0 = ki at *
      generalize hs.getD (x % n) 0 = hj' at *
      generalize ev.getD x 0 = ez at *
      generalize x / n = i at *
      generalize x % n = j at *
      obtain ⟨hj, rfl⟩ : ∃ q, q = hj' := ⟨_, rfl⟩
      rename_i hjlt _
      have v1 : (i : Int) < (nk : Int) := by omega
      have v2 : (j : Int) < (nh : Int) := by omega
      have v3 : (0 : Int) ≤ (i : Int) := by omega
      have v4 : (0 : Int) ≤ (j : Int) := by omega
      have u8 : IntKind.i64.wrap (i : Int) = (i : Int) := IntWalk.i64_in _ (by omega)
      have u3 : IntKind.i64.wrap (j : Int) = (j : Int) := IntWalk.i64_in _ (by omega)
      have u9 : wrap64 (i : Int) = (i : Int) := wrap_small (by omega)
      have u10 : wrap64 (j : Int) = (j : Int) := wrap_small (by omega)
      have u1 : IntKind.i64.wrap ((x : Int).tdiv (n : Int)) = (i : Int) := by rw [u1']; exact u8
      obtain ⟨p1, hp1e⟩ : ∃ p, timesL [ki, hj] = p := ⟨_, rfl⟩
      obtain ⟨p2, hp2e⟩ : ∃ p, subF ez p1.1 = p := ⟨_, rfl⟩
      have hPE : jsF ez ki hj = (p2.1, p1.2 || p2.2) := by unfold jsF; rw [hp1e, hp2e]
      have hp1 : I64 p1.1 := by rw [← hp1e]; exact (timesL_fx _).i64
      have hp2 : I64 p2.1 := by rw [← hp2e]; exact (opF_fx _ _ _).i64
      have HC1 := Lib.hid (fun (W : World) {c : Bool} (hu : UP W b c) {e : Nat} (hz : ML b W (some ⟨e, 0, none⟩) 2 [ki, hj]) => uMul_is hu hz)
      have HC2 := Lib.hid (fun (W : World) {c : Bool} (hu : UP W b c) => uSub_is hu ez p1.1 hez hp1)
      simp only [hp1e, hp2e, List.length_cons, List.length_nil, Nat.zero_add, Nat.reduceAdd] at HC1 HC2
      rw [hPE] at HSET HFL
      obtain ⟨cc, hcc⟩ : ∃ cc, (c0 || josB n ev ks hs x) = cc := ⟨_, rfl⟩
      rw [hcc] at hU
      have HCC := Lib.hid hcc
      obtain ⟨zs, hzs⟩ : ∃ zs, josL n ev ks hs x = zs := ⟨_, rfl⟩
      rw [hzs] at hli hxl HSET
      clear hPE hp1e hp2e hkl hhl hnk hnh hll hkr hhr hi hjlt hcc hzs
      go_wp2_with fail
      refine region_fp [some 31, some 32, some 33, some 34, some 35, some 36, some 37, some 38, some 39, some 40, some 41, some 42, some 43, some 44, some 45, some 46, some 47, some 48, some 49, some 50, some 51, some 52, some 53, some 54, some 55, some 56, some 57, none] [23, 24, 25, 27] [some (Value.pointer (some ⟨jb, 2, none⟩)), some (Value.slice (some y) N c), some (Value.int .i64 (x : Int)), some (Value.pointer (some ⟨b, 0, none⟩)), some (Value.pointer (some ⟨jb, 2, none⟩)), some (Value.slice (some y) N c), some (Value.int .i64 (x : Int)), some (Value.pointer (some (y.add x))), some (Value.int .i64 ez), some (Value.pointer (some ⟨b, 0, none⟩)), some (Value.slice (some kx) nk kc), some (Value.int .i64 (x : Int)), some (Value.int .i64 (n : Int)), some (Value.int .i64 (i : Int)), some (Value.pointer (some (kx.add i))), some (Value.int .i64 ki), some (Value.pointer (some ⟨qb, 1, none⟩)), some (Value.slice (some hx) nh hc), some (Value.int .i64 (x : Int)), some (Value.int .i64 (n : Int)), some (Value.int .i64 (j : Int)), some (Value.pointer (some (hx.add j))), some (Value.int .i64 hj), none, some (Value.int .i64 p1.1), some (Value.int .i64 p2.1), some (Value.pointer (some (y.add x))), none]
        (fun i v W => match i with | 23 => ∃ e, v = Value.slice (some ⟨e, 0, none⟩) 2 2 ∧ Blk W e #[.int .i64 ki, .int .i64 hj] 3 ∧ wr.heap.size ≤ e | _ => True) (fun W W' => ∀ k, wr.heap.size ≤ k → k < W.heap.size → W'.heap[k]? = W.heap[k]?) (fun L f W => (L 27 = false → But b wr W) ∧ (L 24 = false → UP W b cc) ∧ (L 24 = true → L 25 = false → UP W b (cc || p1.2)) ∧ (L 25 = true → L 27 = false → UP W b ((cc || p1.2) || p2.2)) ∧ (L 24 = true → L 23 = true) ∧ (L 25 = true → L 24 = true) ∧ (L 27 = true → L 25 = true) ∧ (L 27 = true → LI B0 W (some y) c (List.set zs x p2.1) ∧ Eff (fun k => k = b ∨ k = y.block) wr W ∧ UP W b ((cc || p1.2) || p2.2)))
        (by kernel_rfl) (by kernel_rfl) (by kernel_rfl) (by kernel_rfl) (by kernel_rfl) (fun _ _ _ _ => rfl) (fun i v W W' h hb => by
          match i, h with
          | 23, ⟨e1, h1, h2, h3⟩ => exact ⟨e1, h1, (hb e1 h3 h2.lt).trans h2, h3⟩
          | 0, _ | 1, _ | 2, _ | 3, _ | 4, _ | 5, _ | 6, _ | 7, _ | 8, _ | 9, _ | 10, _ | 11, _ | 12, _ | 13, _ | 14, _ | 15, _ | 16, _ | 17, _ | 18, _ | 19, _ | 20, _ | 21, _ | 22, _ | 24, _ | 25, _ | 26, _ | 27, _ => trivial
          | (m + 28), _ => trivial) (fun L L' f f' W h hs => by have q23 := (h 23 (by decide)).1; have q24 := (h 24 (by decide)).1; have q25 := (h 25 (by decide)).1; have q27 := (h 27 (by decide)).1; (try dsimp only at hs ⊢); rw [← q23, ← q24, ← q25, ← q27]; exact hs) ⟨fun _ => (But.refl _ wr).drew, fun _ => hU.drew, fun h => (Bool.false_ne_true h).elim, fun h => (Bool.false_ne_true h).elim, fun h => (Bool.false_ne_true h).elim, fun h => (Bool.false_ne_true h).elim, fun h => (Bool.false_ne_true h).elim, fun h => (Bool.false_ne_true h).elim⟩ ?_ ?_
      · intro i hi b' L f W hSW hL hdep hsh he hsv hsl hFF K hK1 hK2
        replace hi : i < 28 := hi
        have hcs : i = 0 ∨ i = 1 ∨ i = 2 ∨ i = 3 ∨ i = 4 ∨ i = 5 ∨ i = 6 ∨ i = 7 ∨ i = 8 ∨ i = 9 ∨ i = 10 ∨ i = 11 ∨ i = 12 ∨ i = 13 ∨ i = 14 ∨ i = 15 ∨ i = 16 ∨ i = 17 ∨ i = 18 ∨ i = 19 ∨ i = 20 ∨ i = 21 ∨ i = 22 ∨ i = 23 ∨ i = 24 ∨ i = 25 ∨ i = 26 ∨ i = 27 := by omega
        clear hi
        rcases hcs with rfl | rfl | rfl | rfl | rfl | rfl | rfl | rfl | rfl | rfl | rfl | rfl | rfl | rfl | rfl | rfl | rfl | rfl | rfl | rfl | rfl | rfl | rfl | rfl | rfl | rfl | rfl | rfl
        · refine wpOpS_go rfl rfl ?_
          have t11 : b'.tmps[11]?.getD undef = Value.pointer (some ⟨jb, 0, none⟩) := he 11 (by kernel_rfl)
          have HK := Lib.hid hK1
          clear hK1 hK2 hdep hsh he hsv hsl hFF hL
          clear hSW
          go_simp
          exact HK.out rfl _ (fp_mk rfl rfl trivial)
        · refine wpOpS_go rfl rfl ?_
          have t31 : b'.tmps[31]?.getD undef = Value.pointer (some ⟨jb, 2, none⟩) := hsv 0 31 _ (by kernel_rfl) (by kernel_rfl) rfl
          obtain ⟨sB, sU0, sU1, sU2, sC24, sC25, sC27, sF⟩ := hSW
          have bt := sB (hsh 27 (by kernel_rfl))
          have c0' := cell_but0 d1 n1 bt
          have HK := Lib.hid hK1
          clear hK1 hK2 hdep hsh he hsv hsl hFF hL
          clear sB sU0 sU1 sU2 sC24 sC25 sC27 sF bt
          go_simp
          exact HK.out rfl _ (fp_mk rfl rfl trivial)
        · refine wpOpS_go rfl rfl ?_
          have t13 : b'.tmps[13]?.getD undef = Value.int .i64 (x : Int) := he 13 (by kernel_rfl)
          have HK := Lib.hid hK1
          clear hK1 hK2 hdep hsh he hsv hsl hFF hL
          clear hSW
          go_simp
          exact HK.out rfl _ (fp_mk rfl rfl trivial)
        · refine wpOpS_go rfl rfl ?_
          have t0 : b'.tmps[0]?.getD undef = Value.pointer (some ⟨b, 0, none⟩) := he 0 (by kernel_rfl)
          have HK := Lib.hid hK1
          clear hK1 hK2 hdep hsh he hsv hsl hFF hL
          clear hSW
          go_simp
          exact HK.out rfl _ (fp_mk rfl rfl trivial)
        · refine wpOpS_go rfl rfl ?_
          have t11 : b'.tmps[11]?.getD undef = Value.pointer (some ⟨jb, 0, none⟩) := he 11 (by kernel_rfl)
          have HK := Lib.hid hK1
          clear hK1 hK2 hdep hsh he hsv hsl hFF hL
          clear hSW
          go_simp
          exact HK.out rfl _ (fp_mk rfl rfl trivial)
        · refine wpOpS_go rfl rfl ?_
          have t35 : b'.tmps[35]?.getD undef = Value.pointer (some ⟨jb, 2, none⟩) := hsv 4 35 _ (by kernel_rfl) (by kernel_rfl) rfl
          obtain ⟨sB, sU0, sU1, sU2, sC24, sC25, sC27, sF⟩ := hSW
          have bt := sB (hsh 27 (by kernel_rfl))
          have c0' := cell_but0 d1 n1 bt
          have HK := Lib.hid hK1
          clear hK1 hK2 hdep hsh he hsv hsl hFF hL
          clear sB sU0 sU1 sU2 sC24 sC25 sC27 sF bt
          go_simp
          exact HK.out rfl _ (fp_mk rfl rfl trivial)
        · refine wpOpS_go rfl rfl ?_
          have t13 : b'.tmps[13]?.getD undef = Value.int .i64 (x : Int) := he 13 (by kernel_rfl)
          have HK := Lib.hid hK1
          clear hK1 hK2 hdep hsh he hsv hsl hFF hL
          clear hSW
          go_simp
          exact HK.out rfl _ (fp_mk rfl rfl trivial)
        · refine wpOpS_go rfl rfl ?_
          have t36 : b'.tmps[36]?.getD undef = Value.slice (some y) N c := hsv 5 36 _ (by kernel_rfl) (by kernel_rfl) rfl
          have t37 : b'.tmps[37]?.getD undef = Value.int .i64 (x : Int) := hsv 6 37 _ (by kernel_rfl) (by kernel_rfl) rfl
          have HK := Lib.hid hK1
          clear hK1 hK2 hdep hsh he hsv hsl hFF hL
          clear hSW
          go_simp
          exact HK.out rfl _ (fp_mk rfl rfl trivial)
        · refine wpOpS_go rfl rfl ?_
          have t38 : b'.tmps[38]?.getD undef = Value.pointer (some (y.add x)) := hsv 7 38 _ (by kernel_rfl) (by kernel_rfl) rfl
          obtain ⟨sB, sU0, sU1, sU2, sC24, sC25, sC27, sF⟩ := hSW
          have bt := sB (hsh 27 (by kernel_rfl))
          have c0' := cell_but0 d2 n2 bt
          have HK := Lib.hid hK1
          clear hK1 hK2 hdep hsh he hsv hsl hFF hL
          clear sB sU0 sU1 sU2 sC24 sC25 sC27 sF bt
          go_simp
          exact HK.out rfl _ (fp_mk rfl rfl trivial)
        · refine wpOpS_go rfl rfl ?_
          have t0 : b'.tmps[0]?.getD undef = Value.pointer (some ⟨b, 0, none⟩) := he 0 (by kernel_rfl)
          have HK := Lib.hid hK1
          clear hK1 hK2 hdep hsh he hsv hsl hFF hL
          clear hSW
          go_simp
          exact HK.out rfl _ (fp_mk rfl rfl trivial)
        · refine wpOpS_go rfl rfl ?_
          have t3 : b'.tmps[3]?.getD undef = Value.slice (some kx) nk kc := he 3 (by kernel_rfl)
          have HK := Lib.hid hK1
          clear hK1 hK2 hdep hsh he hsv hsl hFF hL
          clear hSW
          go_simp
          exact HK.out rfl _ (fp_mk rfl rfl trivial)
        · refine wpOpS_go rfl rfl ?_
          have t13 : b'.tmps[13]?.getD undef = Value.int .i64 (x : Int) := he 13 (by kernel_rfl)
          have HK := Lib.hid hK1
          clear hK1 hK2 hdep hsh he hsv hsl hFF hL
          clear hSW
          go_simp
          exact HK.out rfl _ (fp_mk rfl rfl trivial)
        · refine wpOpS_go rfl rfl ?_
          have t1 : b'.tmps[1]?.getD undef = Value.int .i64 (n : Int) := he 1 (by kernel_rfl)
          have HK := Lib.hid hK1
          clear hK1 hK2 hdep hsh he hsv hsl hFF hL
          clear hSW
          go_simp
          exact HK.out rfl _ (fp_mk rfl rfl trivial)
        · refine wpOpS_go rfl rfl ?_
          have t42 : b'.tmps[42]?.getD undef = Value.int .i64 (x : Int) := hsv 11 42 _ (by kernel_rfl) (by kernel_rfl) rfl
          have t43 : b'.tmps[43]?.getD undef = Value.int .i64 (n : Int) := hsv 12 43 _ (by kernel_rfl) (by kernel_rfl) rfl
          have HK := Lib.hid hK1
          clear hK1 hK2 hdep hsh he hsv hsl hFF hL
          clear hSW
          go_simp
          exact HK.out rfl _ (fp_mk rfl rfl trivial)
        · refine wpOpS_go rfl rfl ?_
          have t41 : b'.tmps[41]?.getD undef = Value.slice (some kx) nk kc := hsv 10 41 _ (by kernel_rfl) (by kernel_rfl) rfl
          have t44 : b'.tmps[44]?.getD undef = Value.int .i64 (i : Int) := hsv 13 44 _ (by kernel_rfl) (by kernel_rfl) rfl
          have HK := Lib.hid hK1
          clear hK1 hK2 hdep hsh he hsv hsl hFF hL
          clear hSW
          go_simp
          exact HK.out rfl _ (fp_mk rfl rfl trivial)
        · refine wpOpS_go rfl rfl ?_
          have t45 : b'.tmps[45]?.getD undef = Value.pointer (some (kx.add i)) := hsv 14 45 _ (by kernel_rfl) (by kernel_rfl) rfl
          obtain ⟨sB, sU0, sU1, sU2, sC24, sC25, sC27, sF⟩ := hSW
          have bt := sB (hsh 27 (by kernel_rfl))
          have c0' := cell_but0 d3 n3 bt
          have HK := Lib.hid hK1
          clear hK1 hK2 hdep hsh he hsv hsl hFF hL
          clear sB sU0 sU1 sU2 sC24 sC25 sC27 sF bt
          go_simp
          exact HK.out rfl _ (fp_mk rfl rfl trivial)
        · refine wpOpS_go rfl rfl ?_
          have t9 : b'.tmps[9]?.getD undef = Value.pointer (some ⟨qb, 0, none⟩) := he 9 (by kernel_rfl)
          have HK := Lib.hid hK1
          clear hK1 hK2 hdep hsh he hsv hsl hFF hL
          clear hSW
          go_simp
          exact HK.out rfl _ (fp_mk rfl rfl trivial)
        · refine wpOpS_go rfl rfl ?_
          have t47 : b'.tmps[47]?.getD undef = Value.pointer (some ⟨qb, 1, none⟩) := hsv 16 47 _ (by kernel_rfl) (by kernel_rfl) rfl
          obtain ⟨sB, sU0, sU1, sU2, sC24, sC25, sC27, sF⟩ := hSW
          have bt := sB (hsh 27 (by kernel_rfl))
          have c0' := cell_but0 d4 n4 bt
          have HK := Lib.hid hK1
          clear hK1 hK2 hdep hsh he hsv hsl hFF hL
          clear sB sU0 sU1 sU2 sC24 sC25 sC27 sF bt
          go_simp
          exact HK.out rfl _ (fp_mk rfl rfl trivial)
        · refine wpOpS_go rfl rfl ?_
          have t13 : b'.tmps[13]?.getD undef = Value.int .i64 (x : Int) := he 13 (by kernel_rfl)
          have HK := Lib.hid hK1
          clear hK1 hK2 hdep hsh he hsv hsl hFF hL
          clear hSW
          go_simp
          exact HK.out rfl _ (fp_mk rfl rfl trivial)
        · refine wpOpS_go rfl rfl ?_
          have t1 : b'.tmps[1]?.getD undef = Value.int .i64 (n : Int) := he 1 (by kernel_rfl)
          have HK := Lib.hid hK1
          clear hK1 hK2 hdep hsh he hsv hsl hFF hL
          clear hSW
          go_simp
          exact HK.out rfl _ (fp_mk rfl rfl trivial)
        · refine wpOpS_go rfl rfl ?_
          have t49 : b'.tmps[49]?.getD undef = Value.int .i64 (x : Int) := hsv 18 49 _ (by kernel_rfl) (by kernel_rfl) rfl
          have t50 : b'.tmps[50]?.getD undef = Value.int .i64 (n : Int) := hsv 19 50 _ (by kernel_rfl) (by kernel_rfl) rfl
          have HK := Lib.hid hK1
          clear hK1 hK2 hdep hsh he hsv hsl hFF hL
          clear hSW
          go_simp
          exact HK.out rfl _ (fp_mk rfl rfl trivial)
        · refine wpOpS_go rfl rfl ?_
          have t48 : b'.tmps[48]?.getD undef = Value.slice (some hx) nh hc := hsv 17 48 _ (by kernel_rfl) (by kernel_rfl) rfl
          have t51 : b'.tmps[51]?.getD undef = Value.int .i64 (j : Int) := hsv 20 51 _ (by kernel_rfl) (by kernel_rfl) rfl
          have HK := Lib.hid hK1
          clear hK1 hK2 hdep hsh he hsv hsl hFF hL
          clear hSW
          go_simp
          exact HK.out rfl _ (fp_mk rfl rfl trivial)
        · refine wpOpS_go rfl rfl ?_
          have t52 : b'.tmps[52]?.getD undef = Value.pointer (some (hx.add j)) := hsv 21 52 _ (by kernel_rfl) (by kernel_rfl) rfl
          obtain ⟨sB, sU0, sU1, sU2, sC24, sC25, sC27, sF⟩ := hSW
          have bt := sB (hsh 27 (by kernel_rfl))
          have c0' := cell_but0 d5 n5 bt
          have HK := Lib.hid hK1
          clear hK1 hK2 hdep hsh he hsv hsl hFF hL
          clear sB sU0 sU1 sU2 sC24 sC25 sC27 sF bt
          go_simp
          exact HK.out rfl _ (fp_mk rfl rfl trivial)
        · refine wpOpS_go rfl rfl ?_
          have t46 : b'.tmps[46]?.getD undef = Value.int .i64 ki := hsv 15 46 _ (by kernel_rfl) (by kernel_rfl) rfl
          have t53 : b'.tmps[53]?.getD undef = Value.int .i64 hj := hsv 22 53 _ (by kernel_rfl) (by kernel_rfl) rfl
          obtain ⟨sB, sU0, sU1, sU2, sC24, sC25, sC27, sF⟩ := hSW
          have hst := hsh 27 (by kernel_rfl)
          have HK := Lib.hid hK2
          have hws : wr.heap.size ≤ W.heap.size := (sB hst).size
          clear hK1 hK2 hdep hsh he hsv hsl hFF hL
          refine op_slice2 (cs := #[.int .i64 ki, .int .i64 hj]) (t := 3) (by go_simp) ?_
          intro w6 hbn hB hz
          exact HK.out _ _ (fp_x rfl ⟨_, rfl, hbn, hws⟩) (fun k _ hk => hB.block k hk) ⟨fun h => (sB h).trans (But.of hB), fun h0 => (sU0 h0).keep hB, fun h0 h1 => (sU1 h0 h1).keep hB, fun h0 h1 => (sU2 h0 h1).keep hB, fun _ => by rw [updF_same], sC25, sC27, fun h => absurd h (by show ¬ L 27 = true; rw [hst]; decide)⟩
        · refine wpOpS_go rfl rfl ?_
          have t40 : b'.tmps[40]?.getD undef = Value.pointer (some ⟨b, 0, none⟩) := hsv 9 40 _ (by kernel_rfl) (by kernel_rfl) rfl
          obtain ⟨t54, hx⟩ := hsl 23 54 (by kernel_rfl) (by kernel_rfl)
          obtain ⟨e1, e2, hb1, hn1⟩ := hx
          rw [e2] at t54
          obtain ⟨sB, sU0, sU1, sU2, sC24, sC25, sC27, sF⟩ := hSW
          have l23 : L 23 = true := hdep 23 (by kernel_rfl)
          have hst := hsh 27 (by kernel_rfl)
          have hc25 := hsh 25 (by kernel_rfl)
          have hu := sU0 hL
          have HK := Lib.hid hK2
          clear hK1 hK2 hdep hsh he hsv hsl hFF e2
          go_simp
          refine (HC1.out _ hu (ml_new (zs := [ki, hj]) hb1 (by omega) (two_i64 hki hhj) (by simp))).mono ?_
          rintro e w6 ⟨rfl, hU6, hB6⟩
          exact HK.out _ _ (fp_mk rfl rfl trivial) (fun k hk hk' => hB6.block k hk' (by omega)) ⟨fun h => (sB h).trans hB6, fun h0 => absurd h0 (by rw [updF_same]; decide), fun _ _ => hU6, fun h0 h1 => absurd h0 (by show ¬ L 25 = true; rw [hc25]; decide), fun _ => l23, fun _ => by rw [updF_same], sC27, fun h => absurd h (by show ¬ L 27 = true; rw [hst]; decide)⟩
        · refine wpOpS_go rfl rfl ?_
          have t34 : b'.tmps[34]?.getD undef = Value.pointer (some ⟨b, 0, none⟩) := hsv 3 34 _ (by kernel_rfl) (by kernel_rfl) rfl
          have t39 : b'.tmps[39]?.getD undef = Value.int .i64 ez := hsv 8 39 _ (by kernel_rfl) (by kernel_rfl) rfl
          have t55 : b'.tmps[55]?.getD undef = Value.int .i64 p1.1 := hsv 24 55 _ (by kernel_rfl) (by kernel_rfl) rfl
          obtain ⟨sB, sU0, sU1, sU2, sC24, sC25, sC27, sF⟩ := hSW
          have l24 : L 24 = true := hdep 24 (by kernel_rfl)
          have l23 : L 23 = true := sC24 l24
          have hst := hsh 27 (by kernel_rfl)
          have hu := sU1 l24 hL
          have HK := Lib.hid hK2
          clear hK1 hK2 hdep hsh he hsv hsl hFF
          go_simp
          refine (HC2.out _ hu).mono ?_
          rintro e w6 ⟨rfl, hU6, hB6⟩
          exact HK.out _ _ (fp_mk rfl rfl trivial) (fun k hk hk' => hB6.block k hk' (by omega)) ⟨fun h => (sB h).trans hB6, fun h0 => absurd (show L 24 = false from h0) (by rw [l24]; decide), fun h0 h1 => absurd h1 (by rw [updF_same]; decide), fun _ _ => hU6, sC24, fun _ => l24, fun _ => by rw [updF_same], fun h => absurd h (by show ¬ L 27 = true; rw [hst]; decide)⟩
        · refine wpOpS_go rfl rfl ?_
          have t32 : b'.tmps[32]?.getD undef = Value.slice (some y) N c := hsv 1 32 _ (by kernel_rfl) (by kernel_rfl) rfl
          have t33 : b'.tmps[33]?.getD undef = Value.int .i64 (x : Int) := hsv 2 33 _ (by kernel_rfl) (by kernel_rfl) rfl
          have HK := Lib.hid hK1
          clear hK1 hK2 hdep hsh he hsv hsl hFF hL
          clear hSW
          go_simp
          exact HK.out rfl _ (fp_mk rfl rfl trivial)
        · refine wpOpS_go rfl rfl ?_
          have t56 : b'.tmps[56]?.getD undef = Value.int .i64 p2.1 := hsv 25 56 _ (by kernel_rfl) (by kernel_rfl) rfl
          have t57 : b'.tmps[57]?.getD undef = Value.pointer (some (y.add x)) := hsv 26 57 _ (by kernel_rfl) (by kernel_rfl) rfl
          obtain ⟨sB, sU0, sU1, sU2, sC24, sC25, sC27, sF⟩ := hSW
          have l25 : L 25 = true := hdep 25 (by kernel_rfl)
          have l24 : L 24 = true := sC25 l25
          have l23 : L 23 = true := sC24 l24
          have hbt := sB hL
          have hu := sU2 l25 hL
          have hs := hli.but hU hbt
          obtain ⟨v0, hv0, hf0⟩ := li_put hs x hxl
          have HK := Lib.hid hK2
          clear hK1 hK2 hdep hsh he hsv hsl hFF
          go_simp
          have hE : Eff (fun q => q = y.block) W (W.setCell (y.add x) (.int .i64 p2.1)) := Eff.set _ _ (by rw [add_block])
          exact HK.out undef _ (fp_x (v := undef) rfl trivial) (fun k hk hk' => hE.block k hk' (by omega)) ⟨fun h => absurd h (by rw [updF_same]; decide), fun h0 => absurd (show L 24 = false from h0) (by rw [l24]; decide), fun h0 h1 => absurd (show L 25 = false from h1) (by rw [l25]; decide), fun h0 h1 => absurd h1 (by rw [updF_same]; decide), sC24, sC25, fun _ => l25, fun _ => ⟨LI.putS hs x hxl p2.1 hp2, (Eff.trans (P := fun k => k = b ∨ k = y.block) ((but_eff hbt).mono fun _ _ h => .inl h) hE (fun _ _ h => .inr h)), up_eff hu hE (Ne.symm hyb)⟩⟩
      · intro f W hf L hL hS
        obtain ⟨sB, sU0, sU1, sU2, sC24, sC25, sC27, sF⟩ := (hS : _ ∧ _ ∧ _ ∧ _ ∧ _ ∧ _ ∧ _ ∧ _)
        obtain ⟨sL, sE, sU⟩ := sF (hL 27 (by decide))
        obtain ⟨z23, e23, _, _⟩ := (hf 23 (by decide)).2
        have e0 : f 0 = Value.pointer (some ⟨jb, 2, none⟩) := (hf 0 (by decide)).1 _ rfl
        have e1 : f 1 = Value.slice (some y) N c := (hf 1 (by decide)).1 _ rfl
        have e2 : f 2 = Value.int .i64 (x : Int) := (hf 2 (by decide)).1 _ rfl
        have e3 : f 3 = Value.pointer (some ⟨b, 0, none⟩) := (hf 3 (by decide)).1 _ rfl
        have e4 : f 4 = Value.pointer (some ⟨jb, 2, none⟩) := (hf 4 (by decide)).1 _ rfl
        have e5 : f 5 = Value.slice (some y) N c := (hf 5 (by decide)).1 _ rfl
        have e6 : f 6 = Value.int .i64 (x : Int) := (hf 6 (by decide)).1 _ rfl
        have e7 : f 7 = Value.pointer (some (y.add x)) := (hf 7 (by decide)).1 _ rfl
        have e8 : f 8 = Value.int .i64 ez := (hf 8 (by decide)).1 _ rfl
        have e9 : f 9 = Value.pointer (some ⟨b, 0, none⟩) := (hf 9 (by decide)).1 _ rfl
        have e10 : f 10 = Value.slice (some kx) nk kc := (hf 10 (by decide)).1 _ rfl
        have e11 : f 11 = Value.int .i64 (x : Int) := (hf 11 (by decide)).1 _ rfl
        have e12 : f 12 = Value.int .i64 (n : Int) := (hf 12 (by decide)).1 _ rfl
        have e13 : f 13 = Value.int .i64 (i : Int) := (hf 13 (by decide)).1 _ rfl
        have e14 : f 14 = Value.pointer (some (kx.add i)) := (hf 14 (by decide)).1 _ rfl
        have e15 : f 15 = Value.int .i64 ki := (hf 15 (by decide)).1 _ rfl
        have e16 : f 16 = Value.pointer (some ⟨qb, 1, none⟩) := (hf 16 (by decide)).1 _ rfl
        have e17 : f 17 = Value.slice (some hx) nh hc := (hf 17 (by decide)).1 _ rfl
        have e18 : f 18 = Value.int .i64 (x : Int) := (hf 18 (by decide)).1 _ rfl
        have e19 : f 19 = Value.int .i64 (n : Int) := (hf 19 (by decide)).1 _ rfl
        have e20 : f 20 = Value.int .i64 (j : Int) := (hf 20 (by decide)).1 _ rfl
        have e21 : f 21 = Value.pointer (some (hx.add j)) := (hf 21 (by decide)).1 _ rfl
        have e22 : f 22 = Value.int .i64 hj := (hf 22 (by decide)).1 _ rfl
        have e24 : f 24 = Value.int .i64 p1.1 := (hf 24 (by decide)).1 _ rfl
        have e25 : f 25 = Value.int .i64 p2.1 := (hf 25 (by decide)).1 _ rfl
        have e26 : f 26 = Value.pointer (some (y.add x)) := (hf 26 (by decide)).1 _ rfl
        clear hf hL sB sU0 sU1 sU2 sC24 sC25 sC27 sF
        simp only [puts2, Act.put, e0, e1, e2, e3, e4, e5, e6, e7, e8, e9, e10, e11, e12, e13, e14, e15, e16, e17, e18, e19, e20, e21, e22, e23, e24, e25, e26]
        try simp only [List.setIfInBounds_toArray, List.set_cons_zero, List.set_cons_succ]
        clear e0 e1 e2 e3 e4 e5 e6 e7 e8 e9 e10 e11 e12 e13 e14 e15 e16 e17 e18 e19 e20 e21 e22 e23 e24 e25 e26
        go_wp2_with fail
        have HU := Lib.hid sU
        have HSL := Lib.hid sL
        have HSE := Lib.hid sE
        clear sU sL sE HC1 HC2 d1 d2 d3 d4 d5 n1 n2 n3 n4 n5 u1 u2 u3 u4 u5 u6 u7 u8 u9 u10 u1' v1 v2 v3 v4 hki hhj hez
        go_roundw
        case rel =>
          exact ⟨x + 1, hlt, by go_num, by rw [← HSET.out, HB0.out]; exact HSL.out, by rw [HFL.out, ← Bool.or_assoc, HCC.out, ← Bool.or_assoc]; exact HU.out, but_eff3 hT HSE.out hyo, HSE.out.blk gq (fun h => by rcases h with h | h; exact hqbn h; exact blk_ity gq hty (by decide) h), HSE.out.blk gj (fun h => by rcases h with h | h; exact hjbn h; exact blk_ity gj hty (by decide) h)⟩
        case measure => simp [intOf]; omega
    · have hge : ¬ (x : Int) < (N : Int) := by omega
      have HXN := Lib.hid (show x = N by omega)
      obtain ⟨J, hJ⟩ : ∃ J, josM n ks hs = J := ⟨_, rfl⟩
      have hJE := josM_eq n ks hs
      rw [HE.out, HN.out, hJ] at hJE
      dsimp only at hJE
      rw [HXN.out, HB0.out.symm, show josL n ev ks hs N = J.1 by rw [hJE]] at hli
      rw [HXN.out, show josB n ev ks hs N = J.2 by rw [hJE]] at hU
      have HJ := Lib.hid hJ
      have hJl : J.1.length = N := by rw [hJE]; exact (josL_len _ _ _ _ _).trans HN.out
      have okJ : okMt ⟨(n : Int), (n : Int), J.1⟩ := ⟨⟨by dsimp only; omega, by dsimp only; omega⟩, ⟨by dsimp only; omega, by dsimp only; omega⟩, by dsimp only; rw [hJl, ← HN.out, Int.natCast_mul]⟩
      have okP : okMt ⟨(n : Int), (n : Int), ps⟩ := ⟨⟨by dsimp only; omega, by dsimp only; omega⟩, ⟨by dsimp only; omega, by dsimp only; omega⟩, by dsimp only; rw [HLN.out.2.2, HNK.out.2.2, ← HN.out, Int.natCast_mul]⟩
      have hSA := sandwich_is hU (f := ⟨(n : Int), (n : Int), J.1⟩) (p := ⟨(n : Int), (n : Int), ps⟩) (hli.ml hU) (hp.but hT) okJ okP rfl rfl
      obtain ⟨okS, hSr, hSc⟩ := sand_ok okJ okP
      dsimp only at hSA
      rw [hJl, HLN.out.2.2] at hSA
      obtain ⟨S, hS⟩ : ∃ S, sandM ⟨(n : Int), (n : Int), J.1⟩ ⟨(n : Int), (n : Int), ps⟩ = S := ⟨_, rfl⟩
      rw [hS] at hSA okS hSr hSc
      have HS := Lib.hid hS
      have HSA := Lib.hid hSA
      clear hS hSA hJE hJ hJl okJ hli
      have cj := gj.cell
      go_wp2_with ((with_reducible refine at_dst (N := 61) rfl ?_); refine ev_load rfl 78 _ rfl gj 0 rfl [.int .i64 n, .int .i64 n, .slice (some y) N c] rfl Tryz.underlying78 rfl (by kernel_rfl) ?_)
      refine HSA.out.mono ?_
      rintro e w5 ⟨sv, rfl, hms, hU5, hB5⟩
      have hbwr := hU.lt
      have hz5 := hT.size
      have hms2 := hms.mono (B' := W.heap.size) hz5
      obtain ⟨⟨sr, sc, sl⟩, sf⟩ := S
      dsimp only at *
      subst hSr hSc
      obtain ⟨ya, ka, rfl, hla⟩ := hms2.ex
      dsimp only at hla
      replace gq := hB5.blk gq hqbn
      replace hT := hT.trans hB5
      obtain ⟨ls, hls⟩ : ∃ ls, sl.length = ls := ⟨_, rfl⟩
      dsimp only
      rw [hls]
      have HLS := Lib.hid hls
      clear hls hms hms2 HSA hB5 hU cj gj hz5
      go_wp2_with first
        | ((with_reducible refine at_dst (N := 14) rfl ?_); refine ev_new rfl (cs := #[.int .i64 0, .int .i64 0, .slice none 0 0]) (t := 78) (by go_simp) ?_; intro w6 gs hB6 hz6)
        | ((with_reducible refine at_st (p := 14) (q := 67) rfl ?_); refine ev_store rfl 78 _ _ rfl rfl gs 0 rfl rfl [.int .i64 n, .int .i64 n, .slice ya ls ka] rfl (by kernel_rfl) rfl rfl #[.int .i64 n, .int .i64 n, .slice ya ls ka] rfl ?_; intro w7 gs7 ef7 hz7; have c7 := gs7.cell; have c8 := (ef7.blk (gq.keep hB6) (by have := gq.lt; omega)).cell)
      have hB7 : Below w5.heap.size w5 w7 := ef7.below hB6 (fun k hk => by omega)
      have hU7 := hU5.keep hB7
      have hT7 := hT.trans (But.of (b := b) hB7)
      have hRA := rank_is hU7 (m := ⟨(n : Int), (n : Int), sl⟩) ((hla.keep hB7).ml hU7) okS rfl (hk.but hT7) (by dsimp only; rw [HLN.out.1, HNK.out.1]) r h64
      have okR := rank_ok okS ks r
      dsimp only at hRA
      rw [HLS.out, HLN.out.1] at hRA
      obtain ⟨R, hR⟩ : ∃ R, rankM ⟨(n : Int), (n : Int), sl⟩ ks r = R := ⟨_, rfl⟩
      rw [hR] at hRA okR
      have hRr : R.1.r = (n : Int) := by rw [← hR]; rfl
      have hRc : R.1.c = (n : Int) := by rw [← hR]; rfl
      have HR := Lib.hid hR
      have HRA := Lib.hid hRA
      clear hR hRA
      refine HRA.out.mono ?_
      rintro e w8 ⟨rv, rfl, hmr, hU8, hB8⟩
      have hz8 := hT7.size
      have hmr2 := hmr.mono (B' := W.heap.size) hz8
      obtain ⟨⟨rr, rc, rl⟩, rf⟩ := R
      dsimp only at *
      subst hRr hRc
      obtain ⟨yb, kb, rfl, hlb⟩ := hmr2.ex
      dsimp only at hlb
      have hT8 := hT7.trans hB8
      obtain ⟨lr, hlr⟩ : ∃ lr, rl.length = lr := ⟨_, rfl⟩
      dsimp only
      rw [hlr]
      have HLR := Lib.hid hlr
      have hrl2 : rl.length = n * n := by
        have := okR.2.2
        dsimp only at this
        exact_mod_cast this
      clear hlr hmr hmr2 HRA hB8 hU7 c7 c8 gs gs7 ef7 hB6 hB7 hz6 hz7 hT7 hz8 hT hU5 gq
      go_wp2_with first
        | ((with_reducible refine at_dst (N := 16) rfl ?_); refine ev_new rfl (cs := #[.int .i64 0, .int .i64 0, .slice none 0 0]) (t := 78) (by go_simp) ?_; intro w9 gr hB9 hz9)
        | ((with_reducible refine at_st (p := 16) (q := 76) rfl ?_); refine ev_store rfl 78 _ _ rfl rfl gr 0 rfl rfl [.int .i64 n, .int .i64 n, .slice yb lr kb] rfl (by kernel_rfl) rfl rfl #[.int .i64 n, .int .i64 n, .slice yb lr kb] rfl ?_; intro w10 gr10 ef10 hz10; have c9 := gr10.cell)
      have hB10 : Below w8.heap.size w8 w10 := ef10.below hB9 (fun k hk => by omega)
      have hU10 := hU8.keep hB10
      have hT10 := hT8.trans (But.of (b := b) hB10)
      have hEV := ueven_is hU10 ((hlb.keep hB10).ml hU10) n hn1 hn2 hrl2
      rw [HLR.out] at hEV
      obtain ⟨O, hO⟩ : ∃ O, evenD n rl = O := ⟨_, rfl⟩
      rw [hO] at hEV
      have HO := Lib.hid hO
      have hOl : O.1.length = lr := by rw [← hO, ← HLR.out]; exact evD_len _ _ _
      have HOL := Lib.hid hOl
      have HEV := Lib.hid hEV
      clear hO hEV hOl hrl2
      refine HEV.out.mono ?_
      rintro e w11 ⟨yo, ko, rfl, hlo, hU11, hB11⟩
      have hT11 := hT10.trans hB11
      have hlo2 := hlo.mono (B' := W.heap.size) hT10.size
      clear hlo hB11 hU10 c9 gr10 ef10 hB9 hB10 hz9 hz10 gr HEV hT10
      go_wp2_with fail
      go_ret
      refine ⟨yo, ko, O.1, ((J.2 || sf) || rf) || O.2, by rw [HOL.out]; rfl, Jos.mk J (_, sf) (_, rf) O HJ.out HS.out HR.out HO.out, hlo2, ?_, hT11⟩
      simpa [Bool.or_assoc] using hU11

end Go.Proofs.YtnofoommindocaaGreat.Base
