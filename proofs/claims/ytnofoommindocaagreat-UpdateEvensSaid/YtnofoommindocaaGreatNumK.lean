/- unit: one operation, a product of lists; what they may change. -/
import Derived.Test.YtnofoommindocaaGreatNumJ
import Derived.Deep.RegionHeld3
namespace Go.Proofs.YtnofoommindocaaGreat.Base
open Go.RowKit
set_option linter.unusedVariables false
set_option linter.unusedSimpArgs false

theorem But.refl (b : Nat) (w : World) : But b w w := ⟨rfl, rfl, rfl, Nat.le_refl _, fun _ _ _ => rfl⟩
theorem But.of {b : Nat} {w w' : World} (h : Below w.heap.size w w') : But b w w' := ⟨h.os, h.tape, h.output, h.size, fun k hk _ => h.block k hk⟩
theorem But.trans {b : Nat} {w w' w2 : World} (h : But b w w') (k : But b w' w2) : But b w w2 :=
  ⟨k.os.trans h.os, k.tape.trans h.tape, k.output.trans h.output, Nat.le_trans h.size k.size, fun i hi hn => (k.block i (Nat.lt_of_lt_of_le hi h.size) hn).trans (h.block i hi hn)⟩
theorem But.set {b : Nat} {w w' : World} (h : But b w w') (o : Nat) (v : Value) : But b w (w'.setCell ⟨b, o, none⟩ v) :=
  h.trans ⟨rfl, rfl, rfl, by simp [World.setCell], fun k hk hn => Below.heap_setCell w' ⟨b, o, none⟩ v k hn⟩
theorem But.blk {b : Nat} {w w' : World} (h : But b w w') {x : Nat} {cs : Array Value} {t : TypeId} (hx : Blk w x cs t) (hn : x ≠ b) : Blk w' x cs t := (h.block x hx.lt hn).trans hx
theorem But.below {b n : Nat} {w w' : World} (h : But b w w') (hb : n ≤ b) (hs : n ≤ w.heap.size) : Below n w w' := ⟨h.os, h.tape, h.output, h.size, fun k hk => h.block k (by omega) (by omega)⟩
theorem But.drew {b : Nat} {w w' : World} (h : But b w w') : But b w w'.drew := h.trans (But.of (Below.refl _ _).drew)
/-- A list that does not lie in block b. -/
structure ML (b : Nat) (W : World) (a : Option Addr) (c : Nat) (zs : List Int) : Prop where
  mi : MI 0 W a c zs
  ne : ∀ x, a = some x → 0 < zs.length → x.block ≠ b
theorem ML.but {b : Nat} {W W' : World} {a : Option Addr} {c : Nat} {zs : List Int} (h : ML b W a c zs) (k : But b W W') : ML b W' a c zs := by
  refine ⟨⟨fun j hj => ?_, h.mi.rng, h.mi.len, fun _ _ _ => Nat.zero_le _, h.mi.nn, h.mi.cap⟩, h.ne⟩
  obtain ⟨x, hx, hc⟩ := h.mi.cell j hj
  have hlt := World.block_lt_of_cell? W _ hc
  rw [add_block] at hlt
  exact ⟨x, hx, (World.cell?_of_block (w := W) (by rw [add_block]; exact k.block _ hlt (h.ne x hx (by omega)))).trans hc⟩
theorem ML.keep {b : Nat} {W W' : World} {a : Option Addr} {c : Nat} {zs : List Int} (h : ML b W a c zs) (k : Below W.heap.size W W') : ML b W' a c zs := h.but (But.of k)
theorem ML.at {b : Nat} {W : World} {a : Option Addr} {c : Nat} {zs : List Int} (h : ML b W a c zs) (k : Nat) (hk : k < zs.length) :
    ∃ x : Addr, a = some x ∧ W.cell? (x.add k) = some (.int .i64 zs[k]) ∧ I64 zs[k] := h.mi.at k hk
/-- A unit of the program's: whether something was cut. -/
def UP (W : World) (b : Nat) (c : Bool) : Prop := ∃ n : Int, Blk W b #[.bool c, .int .i64 n, .bool true] 41
theorem UP.keep {W W' : World} {b : Nat} {c : Bool} (h : UP W b c) (k : Below W.heap.size W W') : UP W' b c := by
  obtain ⟨n, h⟩ := h
  exact ⟨n, h.keep k⟩
theorem UP.lt {W : World} {b : Nat} {c : Bool} (h : UP W b c) : b < W.heap.size := by
  obtain ⟨n, h⟩ := h
  exact h.lt
theorem LI.ml {B : Nat} {W : World} {b : Nat} {c : Bool} {a : Option Addr} {k : Nat} {zs : List Int} (h : LI B W a k zs) (hu : UP W b c) : ML b W a k zs := by
  obtain ⟨n, hb⟩ := hu
  refine ⟨h.mi.mono (Nat.zero_le _), fun x hx hn e => ?_⟩
  have := h.wj.ty x hx hn
  rw [e] at this
  exact noInts_of hb (by decide) this
theorem LI.but {B : Nat} {W W' : World} {b : Nat} {c : Bool} {a : Option Addr} {k : Nat} {zs : List Int} (h : LI B W a k zs) (hu : UP W b c) (hk : But b W W') : LI B W' a k zs := by
  refine h.same fun x hx hn => ?_
  have hlt : x.block < W.heap.size := by
    obtain ⟨cs, q, hc⟩ := h.wj.ty x hx hn
    exact (Array.getElem?_eq_some_iff.1 hc).1
  exact hk.block _ hlt ((h.ml hu).ne x hx hn)

theorem none_is0 {W : World} {b : Nat} {c : Bool} (h : UP W b c) : Calls Tryz.prog 70 #[.pointer (some ⟨b, 0, none⟩)] W fun e w' => e = .returned (.bool false) ∧ W = w' := by
  obtain ⟨n, hb⟩ := h
  have c0 := hb.cell
  clear hb
  go_enter Tryz.func70, Tryz.ntmps70
  go_wp2_with fail
  go_ret
  exact ⟨rfl, rfl⟩
theorem none_nil (W : World) : Calls Tryz.prog 70 #[.pointer none] W fun e w' => e = .returned (.bool true) ∧ W = w' := by
  go_enter Tryz.func70, Tryz.ntmps70
  go_wp2_with fail
  go_ret
  exact ⟨rfl, rfl⟩
theorem none_un {W : World} {b : Nat} {x y : Value} {t : TypeId} (hb : Blk W b #[x, y, .bool false] t) : Calls Tryz.prog 70 #[.pointer (some ⟨b, 0, none⟩)] W fun e w' => e = .returned (.bool true) ∧ W = w' := by
  have c0 := hb.cell
  clear hb
  go_enter Tryz.func70, Tryz.ntmps70
  go_wp2_with fail
  go_ret
  exact ⟨rfl, rfl⟩

theorem set_is {W : World} {b : Nat} {c : Bool} {x y : Value} {t : TypeId} (hb : Blk W b #[.bool c, x, y] t) (k : Bool) : Calls Tryz.prog 19 #[.pointer (some ⟨b, 0, none⟩), .bool k] W fun e w' => e = .returned (.tuple #[]) ∧ Blk w' b #[.bool (c || k), x, y] t ∧ But b W w' := by
  have c0 := hb.cell
  have f0 := hb.frozen
  cases k with
  | false =>
    rw [Bool.or_false]
    go_enter Tryz.func19, Tryz.ntmps19
    go_wp2_with fail
    go_returns
    exact ⟨rfl, hb, But.refl _ _⟩
  | true =>
    rw [Bool.or_true]
    have h1 := hb.set 0 (.bool true)
    go_enter Tryz.func19, Tryz.ntmps19
    go_wp2_with fail
    go_returns
    exact ⟨rfl, h1, (But.refl _ _).set _ _⟩

theorem did_is {W : World} {b : Nat} {c : Bool} (h : UP W b c) (n : Int) (k : Bool) : Calls Tryz.prog 119 #[.pointer (some ⟨b, 0, none⟩), .int .i64 n, .bool k] W fun e w' => e = .returned (.int .i64 n) ∧ UP w' b (c || k) ∧ But b W w' := by
  obtain ⟨m, hb⟩ := h
  have c0 := hb.cell
  have f0 := hb.frozen
  go_enter Tryz.func119, Tryz.ntmps119
  go_wp2_with fail
  refine (set_is (hb.set 1 (.int .i64 (wrap64 (m + 1)))) k).mono ?_
  rintro e w1 ⟨rfl, h1, hB⟩
  have hB2 := ((But.refl b W).set 1 (.int .i64 (wrap64 (m + 1)))).trans hB
  clear hB c0 f0 hb
  go_wp2_with fail
  go_ret
  exact ⟨rfl, ⟨_, h1⟩, hB2⟩

theorem one_is0 {W : World} {b : Nat} {c : Bool} (h : UP W b c) (g : FuncId) (eg : ∀ args w, (callFunc g args).run Tryz.prog w = .ok (.enter g args) w) (x y : Int) (p : Int × Bool)
    (hop : ∀ W, Calls Tryz.prog g #[.int .i64 x, .int .i64 y] W fun e w' => e = .returned (RetF p) ∧ Below W.heap.size W w') :
    Calls Tryz.prog 71 #[.pointer (some ⟨b, 0, none⟩), .func (.func g) #[] #[], .int .i64 x, .int .i64 y] W fun e w' => e = .returned (.int .i64 p.1) ∧ UP w' b (c || p.2) ∧ But b W w' := by
  go_enter Tryz.func71, Tryz.ntmps71
  go_wp2_with fail
  refine (none_is0 h).mono ?_
  rintro e w1 ⟨rfl, rfl⟩
  go_wp2_with fail
  refine (hop _).mono ?_
  rintro e w1 ⟨rfl, hK⟩
  unfold RetF
  have h1 := h.keep hK
  go_wp2_with fail
  refine (did_is h1 p.1 p.2).mono ?_
  rintro e w2 ⟨rfl, h2, hB⟩
  have hB2 := (But.of (b := b) hK).trans hB
  clear hB hK h h1
  go_wp2_with fail
  go_ret
  exact ⟨rfl, h2, hB2⟩

/-- An operation with each number, from a start on. -/
def foldF (f : Int → Int → Int × Bool) : Int → List Int → Int × Bool
  | s, [] => (s, false)
  | s, x :: l => ((foldF f (f s x).1 l).1, (f s x).2 || (foldF f (f s x).1 l).2)
theorem foldF_snoc (f : Int → Int → Int × Bool) (s : Int) (l : List Int) (x : Int) : foldF f s (l ++ [x]) = ((f (foldF f s l).1 x).1, (foldF f s l).2 || (f (foldF f s l).1 x).2) := by
  induction l generalizing s with
  | nil => simp [foldF]
  | cons y l ih => simp only [List.cons_append, foldF, ih, Bool.or_assoc]
theorem foldF_fx (f : Int → Int → Int × Bool) (hf : ∀ a b, Fx (f a b).1) (s : Int) (hs : Fx s) (l : List Int) : Fx (foldF f s l).1 := by
  induction l generalizing s with
  | nil => exact hs
  | cons x l ih => exact ih _ (hf _ _)

set_option maxHeartbeats 1000000 in
theorem all_is {W : World} {b : Nat} {c : Bool} (h : UP W b c) (g : FuncId) (eg : ∀ args w, (callFunc g args).run Tryz.prog w = .ok (.enter g args) w) (f : Int → Int → Int × Bool) (s : Int) (hs : Fx s) (hf : ∀ a b, Fx (f a b).1) {a : Option Addr} {k : Nat} {zs : List Int} (hz : ML b W a k zs)
    (hop : ∀ x y W, I64 x → I64 y → Calls Tryz.prog g #[.int .i64 x, .int .i64 y] W fun e w' => e = .returned (RetF (f x y)) ∧ Below W.heap.size W w') :
    Calls Tryz.prog 97 #[.pointer (some ⟨b, 0, none⟩), .int .i64 s, .func (.func g) #[] #[], .slice a zs.length k] W fun e w' => e = .returned (.int .i64 (foldF f s zs).1) ∧ UP w' b (c || (foldF f s zs).2) ∧ But b W w' := by
  have hl := hz.mi.len
  unfold maxLen at hl
  obtain ⟨n, hn⟩ : ∃ n, zs.length = n := ⟨_, rfl⟩
  rw [hn] at hl ⊢
  go_enter Tryz.func97, Tryz.ntmps97
  go_wp2_with fail
  refine (none_is0 h).mono ?_
  rintro e w1 ⟨rfl, rfl⟩
  go_wp2_with fail
  go_loopw [1, 15] (fun v i wr => ∃ (j : Nat), j ≤ n ∧ i = .int .i64 j ∧ v = .int .i64 (foldF f s (zs.take j)).1 ∧ UP wr b (c || (foldF f s (zs.take j)).2) ∧ But b W wr) (fun _ i _ => n - (intOf i).toNat)
  case atStart => exact ⟨0, Nat.zero_le _, rfl, rfl, by simpa [foldF] using h, But.refl _ _⟩
  case round =>
    obtain ⟨j, hj, rfl, rfl, hU, hB⟩ := hrel
    by_cases hjl : j < n
    · have hjl' : (j : Int) < (n : Int) := by omega
      have hj0 : (0 : Int) ≤ (j : Int) := by omega
      have hjz : j < zs.length := by omega
      obtain ⟨x, rfl, hx, hxr⟩ := (hz.but hB).at j hjz
      have hT := Lib.hid (List.take_succ_eq_append_getElem hjz)
      obtain ⟨z, hzj⟩ : ∃ z, zs[j] = z := ⟨_, rfl⟩
      rw [hzj] at hx hxr hT
      clear hzj
      have hS : I64 (foldF f s (zs.take j)).1 := (foldF_fx f hf s hs _).i64
      have hN := foldF_snoc f s (zs.take j) z
      generalize foldF f s (zs.take j) = q at *
      have HN := Lib.hid hN
      clear hN
      go_wp2_with fail
      refine (hop q.1 z _ hS hxr).mono ?_
      rintro e w1 ⟨rfl, hK⟩
      unfold RetF
      have h1 := hU.keep hK
      go_wp2_with fail
      refine (did_is h1 _ _).mono ?_
      rintro e w2 ⟨rfl, h2, hB2⟩
      have hB3 := hB.trans ((But.of (b := b) hK).trans hB2)
      clear hB hK h1 hB2 hU
      go_wp2_with fail
      go_roundw
      case rel => exact ⟨j + 1, by omega, by go_num, by rw [hT.out, HN.out], by rw [hT.out, HN.out, ← Bool.or_assoc]; exact h2, hB3⟩
      case measure => simp [intOf]; omega
    · have hge : ¬ (j : Int) < (n : Int) := by omega
      have hT := Lib.hid (show zs.take j = zs from List.take_of_length_le (by omega))
      go_wp2_with fail
      go_ret
      rw [hT.out] at hU ⊢
      exact ⟨rfl, hU, hB⟩

/-- A sum, a product of some numbers. -/
def plusL (l : List Int) : Int × Bool := foldF addF 0 l
def timesL (l : List Int) : Int × Bool := foldF mulF 4294967296 l
theorem addF_fx (a b : Int) : Fx (addF a b).1 := opF_fx _ _ _
theorem subF_fx (a b : Int) : Fx (subF a b).1 := opF_fx _ _ _
theorem halfF_fx (a b : Int) : Fx (halfF a b).1 := opF_fx _ _ _
theorem mulF_fx (a b : Int) : Fx (mulF a b).1 := opF_fx _ _ _
theorem plusL_fx (l : List Int) : Fx (plusL l).1 := foldF_fx _ addF_fx _ (by unfold Fx; omega) _
theorem timesL_fx (l : List Int) : Fx (timesL l).1 := foldF_fx _ mulF_fx _ (by unfold Fx; omega) _
theorem uAdd_is {W : World} {b : Nat} {c : Bool} (h : UP W b c) {a : Option Addr} {k : Nat} {zs : List Int} (hz : ML b W a k zs) :
    Calls Tryz.prog 52 #[.pointer (some ⟨b, 0, none⟩), .slice a zs.length k] W fun e w' => e = .returned (.int .i64 (plusL zs).1) ∧ UP w' b (c || (plusL zs).2) ∧ But b W w' := by
  go_enter Tryz.func52, Tryz.ntmps52
  go_wp2_with fail
  refine (all_is h 72 (enters_of Tryz.func72 (by kernel_rfl) rfl) addF 0 (by unfold Fx; omega) addF_fx hz (fun x y W hx hy => fixAdd_is x y hx hy W)).mono ?_
  rintro e w1 ⟨rfl, hU, hB⟩
  go_wp2_with fail
  go_ret
  exact ⟨rfl, hU, hB⟩
theorem uMul_is {W : World} {b : Nat} {c : Bool} (h : UP W b c) {a : Option Addr} {k : Nat} {zs : List Int} (hz : ML b W a k zs) :
    Calls Tryz.prog 55 #[.pointer (some ⟨b, 0, none⟩), .slice a zs.length k] W fun e w' => e = .returned (.int .i64 (timesL zs).1) ∧ UP w' b (c || (timesL zs).2) ∧ But b W w' := by
  go_enter Tryz.func55, Tryz.ntmps55
  go_wp2_with fail
  refine (all_is h 73 (enters_of Tryz.func73 (by kernel_rfl) rfl) mulF 4294967296 (by unfold Fx; omega) mulF_fx hz (fun x y W hx hy => fixMul_is x y hx hy W)).mono ?_
  rintro e w1 ⟨rfl, hU, hB⟩
  go_wp2_with fail
  go_ret
  exact ⟨rfl, hU, hB⟩
theorem uDiv_is {W : World} {b : Nat} {c : Bool} (h : UP W b c) (x y : Int) (hx : I64 x) (hy : I64 y) :
    Calls Tryz.prog 54 #[.pointer (some ⟨b, 0, none⟩), .int .i64 x, .int .i64 y] W fun e w' => e = .returned (.int .i64 (divF x y).1) ∧ UP w' b (c || (divF x y).2) ∧ But b W w' := by
  go_enter Tryz.func54, Tryz.ntmps54
  go_wp2_with fail
  refine (one_is0 h 99 (enters_of Tryz.func99 (by kernel_rfl) rfl) x y _ (fun W => fixDiv_is x y hx hy W)).mono ?_
  rintro e w1 ⟨rfl, hU, hB⟩
  go_wp2_with fail
  go_ret
  exact ⟨rfl, hU, hB⟩
theorem whole1_is (n y : Int) (hn : I64 n) (W : World) : Calls Tryz.prog 221 #[.int .i64 n, .int .i64 y] W fun e w' => e = .returned (RetF (wholeF n)) ∧ Below W.heap.size W w' := by
  go_enter Tryz.func221, Tryz.ntmps221
  go_wp2_with fail
  refine (fixWhole_is n hn _).mono ?_
  rintro e w1 ⟨rfl, hK⟩
  unfold RetF
  go_wp2_with fail
  go_ret2
  exact ⟨rfl, hK⟩
theorem uWhole_is {W : World} {b : Nat} {c : Bool} (h : UP W b c) (x : Int) (hx : I64 x) :
    Calls Tryz.prog 180 #[.pointer (some ⟨b, 0, none⟩), .int .i64 x] W fun e w' => e = .returned (.int .i64 (wholeF x).1) ∧ UP w' b (c || (wholeF x).2) ∧ But b W w' := by
  go_enter Tryz.func180, Tryz.ntmps180
  go_wp2_with fail
  refine (one_is0 h 221 (enters_of Tryz.func221 (by kernel_rfl) rfl) x 0 _ (fun W => whole1_is x 0 hx W)).mono ?_
  rintro e w1 ⟨rfl, hU, hB⟩
  go_wp2_with fail
  go_ret
  exact ⟨rfl, hU, hB⟩

structure DotS (w : World) (b : Nat) (p1 p2 : Addr) (j : Nat) (z y : Int) (W' : World) : Prop where
  c1 : W'.cell? (p1.add j) = some (.int .i64 z)
  c2 : W'.cell? (p2.add j) = some (.int .i64 y)
  bt : But b w W'
  n1 : p1.block ≠ b
  n2 : p2.block ≠ b
theorem DotS.cells {w : World} {b : Nat} {p1 p2 : Addr} {j : Nat} {z y : Int} {W' : World} (h : DotS w b p1 p2 j z y W') : DotS w b p1 p2 j z y W' ∧ W'.cell? (p1.add j) = some (.int .i64 z) ∧ W'.cell? (p2.add j) = some (.int .i64 y) := ⟨h, h.c1, h.c2⟩
theorem cell_but {b : Nat} {w w' : World} {p : Addr} {j : Nat} {v : Value} (hc : w.cell? (p.add j) = some v) (hn : p.block ≠ b) (h : But b w w') : w'.cell? (p.add j) = some v := by
  have hlt := World.block_lt_of_cell? w _ hc
  rw [add_block] at hlt
  exact (World.cell?_of_block (w := w) (by rw [add_block]; exact h.block _ hlt hn)).trans hc
theorem DotS.but {w : World} {b : Nat} {p1 p2 : Addr} {j : Nat} {z y : Int} {W' W'' : World} (h : DotS w b p1 p2 j z y W') (k : But b W' W'') : DotS w b p1 p2 j z y W'' := ⟨cell_but h.c1 h.n1 k, cell_but h.c2 h.n2 k, h.bt.trans k, h.n1, h.n2⟩

/-- One step of a product of lists. -/
def dotS (q : Int × Bool) (x y : Int) : Int × Bool := ((addF q.1 (mulF x y).1).1, q.2 || (mulF x y).2 || (addF q.1 (mulF x y).1).2)
def dotF (xs ys : List Int) : Int × Bool := (xs.zip ys).foldl (fun q p => dotS q p.1 p.2) (0, false)
theorem dot_fx (l : List (Int × Int)) (q : Int × Bool) (hq : Fx q.1) : Fx (l.foldl (fun q p => dotS q p.1 p.2) q).1 := by
  induction l generalizing q with
  | nil => exact hq
  | cons x l ih => exact ih _ (addF_fx _ _)
theorem dotF_fx (xs ys : List Int) : Fx (dotF xs ys).1 := dot_fx _ _ (by unfold Fx; simp)
theorem dot_take (xs ys : List Int) (j : Nat) (h1 : j < xs.length) (h2 : j < ys.length) : dotF (xs.take (j + 1)) (ys.take (j + 1)) = dotS (dotF (xs.take j) (ys.take j)) xs[j] ys[j] := by
  unfold dotF
  rw [List.take_succ_eq_append_getElem h1, List.take_succ_eq_append_getElem h2, List.zip_append (by simp; omega), List.foldl_append]
  rfl

theorem uDot_none {W : World} {p : Value} (hp : Calls Tryz.prog 70 #[p] W fun e w' => e = .returned (.bool true) ∧ W = w') (v1 v2 : Value) : Calls Tryz.prog 39 #[p, v1, v2] W fun e w' => e = .returned (.tuple #[.int .i64 0, .int .i64 1]) ∧ W = w' := by
  go_enter Tryz.func39, Tryz.ntmps39
  go_wp2_with fail
  refine hp.mono ?_
  rintro e w1 ⟨rfl, rfl⟩
  go_wp2_with fail
  go_ret2
  exact ⟨rfl, rfl⟩
theorem uDot_ok {W : World} {b : Nat} {c : Bool} (h : UP W b c) (v1 v2 : Option Addr) (c1 c2 : Nat) : Calls Tryz.prog 39 #[.pointer (some ⟨b, 0, none⟩), .slice v1 0 c1, .slice v2 0 c2] W fun e w' => e = .returned (.tuple #[.int .i64 0, .int .i64 0]) ∧ W = w' := by
  go_enter Tryz.func39, Tryz.ntmps39
  go_wp2_with fail
  refine (none_is0 h).mono ?_
  rintro e w1 ⟨rfl, rfl⟩
  go_wp2_with fail
  go_loopw [8, 21] (fun v i wr => v = .int .i64 0 ∧ i = .int .i64 0 ∧ wr = W) (fun _ _ _ => 0)
  case atStart => exact ⟨rfl, rfl, rfl⟩
  case round =>
    obtain ⟨rfl, rfl, rfl⟩ := hrel
    go_wp2_with fail
    go_ret2
    exact ⟨rfl, rfl⟩

set_option maxHeartbeats 2000000 in
set_option maxRecDepth 100000 in
theorem uDot_is {W : World} {b : Nat} {c : Bool} (h : UP W b c) {a1 a2 : Option Addr} {k1 k2 : Nat} {xs ys : List Int} (h1 : ML b W a1 k1 xs) (h2 : ML b W a2 k2 ys) (hl : xs.length = ys.length) :
    Calls Tryz.prog 39 #[.pointer (some ⟨b, 0, none⟩), .slice a1 xs.length k1, .slice a2 ys.length k2] W fun e w' => e = .returned (.tuple #[.int .i64 (dotF xs ys).1, .int .i64 0]) ∧ UP w' b (c || (dotF xs ys).2) ∧ But b W w' := by
  have hm := h1.mi.len
  unfold maxLen at hm
  obtain ⟨n, hn⟩ : ∃ n, xs.length = n := ⟨_, rfl⟩
  have hn2 : ys.length = n := by omega
  rw [hn] at hm
  rw [hn, hn2]
  clear hl
  go_enter Tryz.func39, Tryz.ntmps39
  go_wp2_with fail
  refine (none_is0 h).mono ?_
  rintro e w1 ⟨rfl, rfl⟩
  go_wp2_with fail
  go_loopw [8, 21] (fun v i wr => ∃ (j : Nat), j ≤ n ∧ i = .int .i64 j ∧ v = .int .i64 (dotF (xs.take j) (ys.take j)).1 ∧ UP wr b (c || (dotF (xs.take j) (ys.take j)).2) ∧ But b W wr) (fun _ i _ => n - (intOf i).toNat)
  case atStart => exact ⟨0, Nat.zero_le _, rfl, rfl, by simpa [dotF] using h, But.refl _ _⟩
  case round =>
    obtain ⟨j, hj, rfl, rfl, hU, hB⟩ := hrel
    by_cases hjl : j < n
    · have hjl' : (j : Int) < (n : Int) := by omega
      have hj0 : (0 : Int) ≤ (j : Int) := by omega
      have hx1 : j < xs.length := by omega
      have hx2 : j < ys.length := by omega
      obtain ⟨p1, rfl, hx, hxr⟩ := (h1.but hB).at j hx1
      obtain ⟨p2, rfl, hy, hyr⟩ := (h2.but hB).at j hx2
      have HN := Lib.hid (dot_take xs ys j hx1 hx2)
      have hq := (dotF_fx (xs.take j) (ys.take j)).i64
      obtain ⟨z, hz⟩ : ∃ z, xs[j] = z := ⟨_, rfl⟩
      obtain ⟨y, hyj⟩ : ∃ y, ys[j] = y := ⟨_, rfl⟩
      rw [hz] at hx hxr HN
      rw [hyj] at hy hyr HN
      clear hz hyj
      generalize dotF (xs.take j) (ys.take j) = q at *
      have n1 := (h1.ne _ rfl (by omega))
      have n2 := (h2.ne _ rfl (by omega))
      go_wp2_with fail
      have hU1 : UP wr.drew b (c || q.2) := by obtain ⟨m, hm⟩ := hU; exact ⟨m, hm.drew⟩
      have hS : DotS wr b p1 p2 j z y wr.drew := ⟨hx, hy, (But.refl _ _).drew, n1, n2⟩
      clear hx hy hU n1 n2
      go_region_held3 (fun W' => DotS wr b p1 p2 j z y W' ∧ W'.cell? (p1.add j) = some (.int .i64 z) ∧ W'.cell? (p2.add j) = some (.int .i64 y))
        (exact DotS.cells (by assumption))
        (first
          | (go_at_call_of 71 (Value.int IntKind.i64 z); refine (one_is0 hU1 73 (enters_of Tryz.func73 (by kernel_rfl) rfl) z y _ (fun W => fixMul_is z y hxr hyr W)).mono ?_; rintro e w3 ⟨rfl, hU3, hB3⟩; have hS3 := DotS.but (by assumption) hB3; clear hB3)
          | (go_at_call_of 71 (Value.int IntKind.i64 (mulF z y).1); refine (one_is0 (by assumption) 72 (enters_of Tryz.func72 (by kernel_rfl) rfl) q.1 (mulF z y).1 _ (fun W => fixAdd_is q.1 (mulF z y).1 hq (mulF_fx z y).i64 W)).mono ?_; rintro e w4 ⟨rfl, hU4, hB4⟩; have hS4 := DotS.but (by assumption) hB4; clear hB4))
      have hB5 := hB.trans hS4.bt
      clear hS hS3 hS4 hU1 hU3
      go_wp2_with fail
      go_roundw
      case rel => exact ⟨j + 1, by omega, by go_num, by rw [HN.out]; rfl, by rw [HN.out]; simpa [dotS, Bool.or_assoc] using hU4, hB5⟩
      case measure => simp [intOf]; omega
    · have hge : ¬ (j : Int) < (n : Int) := by omega
      have hT := Lib.hid (show xs.take j = xs from List.take_of_length_le (by omega))
      have hT2 := Lib.hid (show ys.take j = ys from List.take_of_length_le (by omega))
      go_wp2_with fail
      go_ret2
      rw [hT.out, hT2.out] at hU
      rw [hT.out, hT2.out]
      exact ⟨rfl, hU, hB⟩

end Go.Proofs.YtnofoommindocaaGreat.Base
