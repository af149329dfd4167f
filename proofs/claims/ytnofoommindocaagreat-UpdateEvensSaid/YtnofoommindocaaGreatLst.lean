/- Lists of ints of one's own: cloned, written over; rows that are kept. -/
import Derived.Test.YtnofoommindocaaGreatKitB
import Derived.Lib.SliceRun
namespace Go.Proofs.YtnofoommindocaaGreat.Base
open Go.RowKit
set_option linter.unusedVariables false
set_option linter.unusedSimpArgs false

def IntsB (W : World) (b : Nat) : Prop := ∃ cs q, W.heap[b]? = some (Obj.cells cs 3 q)
theorem IntsB.keep {W W' : World} {b : Nat} (h : IntsB W b) (hb : Below W.heap.size W W') : IntsB W' b := by
  obtain ⟨cs, q, h⟩ := h
  exact ⟨cs, q, (hb.block _ (Array.getElem?_eq_some_iff.1 h).1).trans h⟩
/-- The slice's elements are ints that may be written; they lie in none below block B. -/
structure WJ (B : Nat) (W : World) (a : Option Addr) (n : Nat) : Prop where
  wi : WI B W a n
  ty : ∀ x, a = some x → 0 < n → IntsB W x.block
theorem WJ.keep {B : Nat} {W W' : World} {a : Option Addr} {n : Nat} (h : WJ B W a n) (hb : Below W.heap.size W W') : WJ B W' a n := ⟨h.wi.keep hb, fun x hx hn => (h.ty x hx hn).keep hb⟩
theorem WI.mono {B B' : Nat} {W : World} {a : Option Addr} {n : Nat} (h : WI B W a n) (hB : B' ≤ B) : WI B' W a n :=
  ⟨fun k hk => by obtain ⟨x, h1, h2, h3, h4⟩ := h.at_ k hk; exact ⟨x, h1, h2, h3, Nat.le_trans hB h4⟩, h.len⟩
theorem WJ.mono {B B' : Nat} {W : World} {a : Option Addr} {n : Nat} (h : WJ B W a n) (hB : B' ≤ B) : WJ B' W a n := ⟨h.wi.mono hB, h.ty⟩
/-- A slice of one's own has these ints. -/
structure LI (B : Nat) (W : World) (a : Option Addr) (c : Nat) (zs : List Int) : Prop where
  mi : MI B W a c zs
  wj : WJ B W a zs.length
theorem LI.keep {B : Nat} {W W' : World} {a : Option Addr} {c : Nat} {zs : List Int} (h : LI B W a c zs) (hb : Below W.heap.size W W') : LI B W' a c zs := ⟨h.mi.keep hb, h.wj.keep hb⟩
theorem LI.mono {B B' : Nat} {W : World} {a : Option Addr} {c : Nat} {zs : List Int} (h : LI B W a c zs) (hB : B' ≤ B) : LI B' W a c zs := ⟨h.mi.mono hB, h.wj.mono hB⟩
theorem OI.li {B : Nat} {W : World} {g cap : Nat} {zs : List Int} (h : OI B W g cap zs) : LI B W (some ⟨g, 0, none⟩) cap zs := by
  obtain ⟨cur, hb, _⟩ := h.ex
  exact ⟨h.mi, h.wi, fun x hx _ => by cases hx; exact ⟨cur, (0, 0), hb⟩⟩
theorem LI.nil (B : Nat) (W : World) : LI B W none 0 [] := ⟨MI.nil B W, ⟨fun k hk => absurd hk (by simp), by simp [maxLen]⟩, fun x _ hn => absurd hn (by simp)⟩

/-- Nothing but ints has been written, and none below block B. -/
structure Wrote (B : Nat) (W W' : World) : Prop where
  os : W'.os = W.os
  tape : W'.tape = W.tape
  output : W'.output = W.output
  size : W'.heap.size = W.heap.size
  old : ∀ b : Nat, b < B → W'.heap[b]? = W.heap[b]?
  other : ∀ b : Nat, ¬ IntsB W b → W'.heap[b]? = W.heap[b]?
  ints : ∀ (b : Nat) (cs : Array Value) q, W.heap[b]? = some (Obj.cells cs 3 q) → ∃ cs' : Array Value, W'.heap[b]? = some (Obj.cells cs' 3 q) ∧ cs'.size = cs.size
theorem Wrote.refl (B : Nat) (W : World) : Wrote B W W := ⟨rfl, rfl, rfl, rfl, fun _ _ => rfl, fun _ _ => rfl, fun _ cs q h => ⟨cs, h, rfl⟩⟩
theorem Wrote.intsB {B : Nat} {W W' : World} {b : Nat} (h : Wrote B W W') (hb : IntsB W b) : IntsB W' b := by
  obtain ⟨cs, q, hc⟩ := hb
  obtain ⟨cs', hc', _⟩ := h.ints b cs q hc
  exact ⟨cs', q, hc'⟩
theorem Wrote.trans {B : Nat} {W W' W2 : World} (h : Wrote B W W') (k : Wrote B W' W2) : Wrote B W W2 := by
  refine ⟨k.os.trans h.os, k.tape.trans h.tape, k.output.trans h.output, k.size.trans h.size, fun b hb => (k.old b hb).trans (h.old b hb), fun b hb => ?_, fun b cs q hc => ?_⟩
  · refine (k.other b fun h2 => hb ?_).trans (h.other b hb)
    obtain ⟨cs, q, hc⟩ := h2
    rw [h.other b hb] at hc
    exact ⟨cs, q, hc⟩
  · obtain ⟨c1, h1, e1⟩ := h.ints b cs q hc
    obtain ⟨c2, h2, e2⟩ := k.ints b c1 q h1
    exact ⟨c2, h2, e2.trans e1⟩
theorem Wrote.mono {B B' : Nat} {W W' : World} (h : Wrote B W W') (hB : B' ≤ B) : Wrote B' W W' := ⟨h.os, h.tape, h.output, h.size, fun b hb => h.old b (Nat.lt_of_lt_of_le hb hB), h.other, h.ints⟩
theorem Wrote.below {B : Nat} {W W' : World} (h : Wrote B W W') : Below B W W' := ⟨h.os, h.tape, h.output, by rw [h.size]; exact Nat.le_refl _, h.old⟩
theorem Wrote.set {B : Nat} {W W1 : World} (h : Wrote B W W1) {y : Addr} (hy : B ≤ y.block) (hi : IntsB W1 y.block) (v : Value) : Wrote B W (W1.setCell y v) := by
  refine h.trans ⟨rfl, rfl, rfl, by simp [World.setCell], fun b hb => Below.heap_setCell W1 y v b (by omega), fun b hb => Below.heap_setCell W1 y v b (fun e => hb (by rw [e]; exact hi)), fun b cs q hc => ?_⟩
  by_cases e : b = y.block
  · subst e
    simp only [World.setCell, Array.getElem?_modify, if_true, hc, Option.map_some]
    refine ⟨_, rfl, ?_⟩
    split <;> simp
  · rw [Below.heap_setCell W1 y v b e]
    exact ⟨cs, hc, rfl⟩
theorem Wrote.wj {B B' : Nat} {W W' : World} {a : Option Addr} {n : Nat} (h : Wrote B W W') (hw : WJ B' W a n) : WJ B' W' a n := by
  refine ⟨⟨fun k hk => ?_, hw.wi.len⟩, fun x hx hn => h.intsB (hw.ty x hx hn)⟩
  obtain ⟨x, hx, ⟨v, hv⟩, hf, hB⟩ := hw.wi.at_ k hk
  obtain ⟨cs, q, hc⟩ := hw.ty x hx (by omega)
  obtain ⟨cs', hc', hs⟩ := h.ints _ cs q hc
  refine ⟨x, hx, ?_, ?_, hB⟩
  · unfold World.cell? at hv ⊢
    rw [add_block, hc] at hv
    rw [add_block, hc']
    dsimp only at hv ⊢
    split at hv
    · cases hv
    · rename_i hsp
      rw [if_neg hsp]
      have := (Array.getElem?_eq_some_iff.1 hv).1
      exact ⟨_, Array.getElem?_eq_some_iff.2 ⟨by omega, rfl⟩⟩
  · unfold World.frozen? at hf ⊢
    rw [add_block, hc] at hf
    rw [add_block, hc']
    exact hf
theorem Wrote.blk {B : Nat} {W W' : World} {b : Nat} {cs : Array Value} {t : TypeId} (h : Wrote B W W') (hb : Blk W b cs t) (ht : t ≠ 3) : Blk W' b cs t := by
  refine (h.other b ?_).trans hb
  rintro ⟨c, q, hc⟩
  have := hb.symm.trans hc
  simp at this
  exact ht this.2.1

theorem ownsRow_keep {W W' : World} {B : Nat} {e : TypeId} {size : Nat} {v : Value} {n : Nat} {xs : List Value} (h : W.ownsRow B e size v n xs) (hb : Below W.heap.size W W') : W'.ownsRow B e size v n xs := by
  refine ⟨h.1, ?_⟩
  rcases h.2 with hn | ⟨g, cap, cur, rfl, hB, hgg, rest⟩
  · exact .inl hn
  · exact .inr ⟨g, cap, cur, rfl, hB, (hb.block g (Array.getElem?_eq_some_iff.1 hgg).1).trans hgg, rest⟩
theorem ownsRow_mono {W : World} {B B' : Nat} {e : TypeId} {size : Nat} {v : Value} {n : Nat} {xs : List Value} (h : W.ownsRow B e size v n xs) (hB : B' ≤ B) : W.ownsRow B' e size v n xs := by
  refine ⟨h.1, ?_⟩
  rcases h.2 with hn | ⟨g, cap, cur, rfl, hB2, rest⟩
  · exact .inl hn
  · exact .inr ⟨g, cap, cur, rfl, Nat.le_trans hB hB2, rest⟩
theorem ownsRow_wrote {W W' : World} {B B' : Nat} {e : TypeId} {size : Nat} {v : Value} {n : Nat} {xs : List Value} (h : W.ownsRow B e size v n xs) (hw : Wrote B' W W') (he : e ≠ 3) : W'.ownsRow B e size v n xs := by
  refine ⟨h.1, ?_⟩
  rcases h.2 with hn | ⟨g, cap, cur, rfl, hB, hgg, rest⟩
  · exact .inl hn
  · exact .inr ⟨g, cap, cur, rfl, hB, hw.blk hgg he, rest⟩
theorem ownsRow_grown {W W' : World} {B : Nat} {e : TypeId} {size : Nat} {v : Value} {n : Nat} {xs : List Value} (h : W.ownsRow B e size v n xs) {W0 : World} (h0 : Below W0.heap.size W0 W) (hg : W.grownBy W' v.ownBlock) (hB : W0.heap.size ≤ B) : Below W0.heap.size W0 W' :=
  h0.grown hg h0.size (fun k hk => Nat.le_trans hB (h.lt k hk).1)

set_option maxHeartbeats 1000000 in
theorem over_is {B : Nat} {W : World} {a : Option Addr} {n c : Nat} (h : WJ B W a n) :
    Calls Tryz.prog 31 #[.slice a n c] W fun e w' => e = .returned (.tuple #[]) ∧ Wrote B W w' := by
  have hl := h.wi.len
  unfold maxLen at hl
  go_enter Tryz.func31, Tryz.ntmps31
  go_wp2_with fail
  go_loopw [2] (fun i wr => ∃ (k : Nat), k ≤ n ∧ i = .int .i64 k ∧ WJ B wr a n ∧ Wrote B W wr) (fun i _ => n - (intOf i).toNat)
  case atStart => exact ⟨0, Nat.zero_le _, rfl, h, Wrote.refl _ _⟩
  case round =>
    clear h
    obtain ⟨k, hk, rfl, hS, hB⟩ := hrel
    by_cases hkl : k < n
    · have hkl' : (k : Int) < (n : Int) := by omega
      have hk0 : (0 : Int) ≤ (k : Int) := by omega
      obtain ⟨x, rfl, ⟨u, hu⟩, hf, hx⟩ := hS.wi.at_ k hkl
      have hty := hS.ty x rfl (by omega)
      have HW := Lib.hid (fun v => (hB.set (y := x.add k) (by rw [add_block]; exact hx) (by rw [add_block]; exact hty) v))
      have HJ := Lib.hid (fun v => ((Wrote.refl B wr).set (y := x.add k) (by rw [add_block]; exact hx) (by rw [add_block]; exact hty) v).wj hS)
      go_wp2_with fail
      go_roundw
      case rel => exact ⟨k + 1, by omega, by go_num, HJ.out _, HW.out _⟩
      case measure => simp [intOf]; omega
    · have hge : ¬ (k : Int) < (n : Int) := by omega
      go_wp2_with fail
      go_returns
      exact ⟨rfl, hB⟩

set_option maxHeartbeats 1000000 in
theorem clone_is {B : Nat} {W : World} {a : Option Addr} {c : Nat} {zs : List Int} (h : MI B W a c zs) (hlen : zs.length ≤ 100000) :
    Calls Tryz.prog 50 #[.slice a zs.length c] W fun e w' => ∃ b k, e = .returned (.slice b zs.length k) ∧ LI W.heap.size w' b k zs ∧ Below W.heap.size W w' := by
  obtain ⟨i0, hi, hz0, hz1, hz2⟩ : ∃ i, Tryz.prog.info? 3 = some i ∧ i.zero = some (.int .i64 0) ∧ i.size = 1 ∧ i.bytes = 8 := info_parts (by kernel_rfl)
  have hE : (W.alloc (.cells #[] 3)).ownsRow W.heap.size 3 1 (.slice (some ⟨W.heap.size, 0, none⟩) 0 0) 0 [] := World.ownsRow_made W #[] 0 (Nat.le_refl _) (by simp [maxLen]) (by simp)
  have hB1 : Below W.heap.size W (W.alloc (.cells #[] 3)) := (Below.refl _ _).alloc (Nat.le_refl _) _
  have h1 := h.keep hB1
  have q0 : ∀ (w : World) (a : Option Addr) (n c n' c' : Nat), (binOp .eql 22 (.slice a n c) (.slice none n' c')).run Tryz.prog w = .ok (.bool a.isNone) w := fun w a n c n' c' => Lib.run_eql_slice_nil w _ _ a n c n' c' Tryz.underlying22
  cases a with
  | none =>
    have h0 : zs.length = 0 := by have := h.cap; have := h.nn rfl; omega
    have hz : zs = [] := List.eq_nil_of_length_eq_zero h0
    obtain rfl := h.nn rfl
    subst hz
    clear h1 h hE hB1
    go_enter Tryz.func50, Tryz.ntmps50
    go_wp2_with fail
    go_ret
    exact ⟨none, 0, rfl, LI.nil _ _, Below.refl _ _⟩
  | some x =>
  by_cases h0 : zs = []
  · subst h0
    go_enter Tryz.func50, Tryz.ntmps50
    go_wp2_with (at_builtin; refine wpList_append_fits_any _ rfl _ _ 22 rfl W.heap.size 3 i0 1 Tryz.underlying22 hi hz1 W.heap.size 0 0 [] rfl hE (some x) 0 c [] rfl rfl (fun e => by cases e) (by intro ad _ j u hj; simp at hj) (by simp) (by omega) ?_)
    intro w' ho hg
    go_wp2_with fail
    go_ret
    have hw : Below W.heap.size W w' := hB1.trans ⟨hg.os, hg.tape, hg.output, hg.size, fun k hk => hg.block k (by simp; omega) (by simp; omega)⟩
    obtain ⟨hO, hn⟩ := OI.of_row (v := .slice none 0 0) (zs := []) ho (by simp)
    exact ⟨_, _, rfl, hO.li, hw⟩
  · have hpos : 0 < zs.length := List.length_pos_iff.2 h0
    have hn : (zs.map fun z => Value.int .i64 z).length = zs.length * 1 := by simp
    have hcs : ∀ j u, (zs.map fun z => Value.int .i64 z)[j]? = some u → (W.alloc (.cells #[] 3)).cell? (x.add j) = some u := by
      intro j u hj
      have hjl : j < zs.length := by
        have := (List.getElem?_eq_some_iff.1 hj).1
        simpa using this
      obtain ⟨x, hx, hcx⟩ := h1.cell j hjl
      cases hx
      rw [hcx]
      simp [List.getElem?_eq_getElem hjl] at hj
      rw [hj]
    obtain ⟨n, hnn⟩ : ∃ n, zs.length = n := ⟨_, rfl⟩
    rw [hnn] at hn hlen hpos ⊢
    have H1 := Lib.hid h1
    clear h1 h
    go_enter Tryz.func50, Tryz.ntmps50
    go_wp2_with (at_builtin; refine wpList_append_own _ rfl _ _ 22 rfl W.heap.size 3 i0 _ 1 8 Tryz.underlying22 hi hz0 hz1 hz2 rfl (by decide) _ 0 [] rfl hE x n c _ rfl hn hcs (ints_one zs) (by unfold maxLen; omega) (by omega) hB1.size ?_)
    intro v' w' ho hg _
    try simp only [Nat.zero_add, List.nil_append] at ho
    obtain ⟨g, cap, rfl⟩ := Joins.ownsRow_form ho hpos
    go_wp2_with fail
    go_ret
    have hw : Below W.heap.size W w' := hB1.trans ⟨hg.os, hg.tape, hg.output, hg.size, fun k hk => hg.block k (by simp; omega) (by simp [Value.ownBlock]; omega)⟩
    obtain ⟨hO, _⟩ := OI.of_row (v := .slice none 0 0) ho H1.out.rng
    exact ⟨_, _, rfl, hO.li, hw⟩

end Go.Proofs.YtnofoommindocaaGreat.Base
