/- sym.changed: a matrix of which pairs of places are set. -/
import Derived.Test.YtnofoommindocaaGreatSymA
namespace Go.Proofs.YtnofoommindocaaGreat.Base
open Go.RowKit Go.Shelf Go.Deep
set_option linter.unusedVariables false
set_option linter.unusedSimpArgs false
attribute [local go_sem] Oper.semAt_some

theorem blk_ity {W : World} {p : Nat} {cs : Array Value} {t : TypeId} {y : Nat} (h : Blk W p cs t) (hi : IntsB W y) (ht : t ≠ 3) : ¬ (p = y) := by
  rintro rfl
  obtain ⟨cs', q, hc⟩ := hi
  have := (show W.heap[p]? = _ from h).symm.trans hc
  simp at this
  exact ht this.2.1
theorem add_inj2 {x : Addr} {i j : Nat} (h : x.add i = x.add j) : i = j := by
  have hh : ∀ k, (x.add k).off = x.off + k := fun k => by unfold Addr.add; split <;> simp_all
  have := congrArg Addr.off h
  rw [hh, hh] at this
  omega
theorem LI.putS {B : Nat} {W : World} {x : Addr} {c : Nat} {zs : List Int} (h : LI B W (some x) c zs) (j : Nat) (hj : j < zs.length) (z : Int) (hz : I64 z) : LI B (W.setCell (x.add j) (.int .i64 z)) (some x) c (zs.set j z) := by
  obtain ⟨u, hu, hc⟩ := h.mi.cell j hj
  cases hu
  refine ⟨⟨fun k hk => ?_, fun y hy => ?_, by simpa using h.mi.len, fun y hy hn => h.mi.lo y hy (by simpa using hn), fun e => (by cases e), by simpa using h.mi.cap⟩, ?_⟩
  · rw [List.length_set] at hk
    obtain ⟨u, hu, hck⟩ := h.mi.cell k hk
    cases hu
    refine ⟨x, rfl, ?_⟩
    by_cases e : j = k
    · subst e
      rw [List.getElem_set_self]
      exact World.cell?_setCell_same _ _ _ hc
    · rw [List.getElem_set_ne e]
      exact (World.cell?_setCell_other _ _ _ _ (fun h => e (add_inj2 h))).trans hck
  · rcases List.mem_or_eq_of_mem_set hy with h1 | h1
    · exact h.mi.rng y h1
    · rw [h1]; exact hz
  · rw [List.length_set]
    refine ⟨h.wj.wi.set _ _, fun y hy hn => ?_⟩
    cases hy
    have hi := h.wj.ty x rfl hn
    have := ((Wrote.refl 0 W).set (y := x.add j) (Nat.zero_le _) (by rw [add_block]; exact hi) (.int .i64 z)).intsB hi
    exact this
theorem li_put {B : Nat} {W : World} {y : Addr} {c : Nat} {zs : List Int} (h : LI B W (some y) c zs) (j : Nat) (hj : j < zs.length) : ∃ v, W.cell? (y.add j) = some v ∧ W.frozen? (y.add j) = false := by
  obtain ⟨u, hu, ⟨v, hv⟩, hf, _⟩ := h.wj.wi.at_ j hj
  cases hu
  exact ⟨v, hv, hf⟩
/-- Places a, b of a list, set or not. -/
def mixS (zs : List Int) (a b : Nat) (x : Int) : Bool → Bool → List Int
  | false, false => zs
  | true, false => zs.set a x
  | false, true => zs.set b x
  | true, true => (zs.set a x).set b x
theorem mixS_len (zs : List Int) (a b : Nat) (x : Int) (p q : Bool) : (mixS zs a b x p q).length = zs.length := by cases p <;> cases q <;> simp [mixS]
theorem mixS_a (zs : List Int) (a b : Nat) (x : Int) (q : Bool) : (mixS zs a b x false q).set a x = mixS zs a b x true q := by
  cases q with
  | false => rfl
  | true =>
    show (zs.set b x).set a x = (zs.set a x).set b x
    by_cases e : a = b
    · subst e; rfl
    · exact List.set_comm x x (Ne.symm e)
theorem mixS_b (zs : List Int) (a b : Nat) (x : Int) (p : Bool) : (mixS zs a b x p false).set b x = mixS zs a b x p true := by cases p <;> rfl

set_option maxHeartbeats 2000000 in
set_option maxRecDepth 100000 in
theorem chset_is {w0 : World} {B ob c nn : Nat} {y : Addr} {zs : List Int} {r0 r1 : Value} (g0 : Blk w0 ob #[r0, r1, .slice (some y) nn c] 78) (hz : LI B w0 (some y) c zs) (a b : Nat) (ha : a < zs.length) (hb : b < zs.length) (hn : zs.length = nn) (x : Int) (hx : I64 x) :
    Calls Tryz.prog 200 #[.int .i64 a, .int .i64 b, .int .i64 x, .pointer (some ⟨ob, 0, none⟩)] w0 fun e w' => e = .returned (.tuple #[]) ∧ LI B w' (some y) c ((zs.set a x).set b x) ∧ Eff (fun q => q = y.block) w0 w' := by
  have ha1 : (a : Int) < (nn : Int) := by omega
  have hb1 : (b : Int) < (nn : Int) := by omega
  have ha0 : (0 : Int) ≤ (a : Int) := by omega
  have hb0 : (0 : Int) ≤ (b : Int) := by omega
  have HN := Lib.hid hn
  clear hn
  go_enter Tryz.func200, Tryz.ntmps200
  refine region_fp [some 7, some 8, some 9, some 10, some 11, some 12, some 13, some 14, some 15, none, some 16, none] [9, 11] [some (Value.pointer (some ⟨ob, 2, none⟩)), some (Value.slice (some y) nn c), some (Value.int .i64 (a : Int)), some (Value.pointer (some ⟨ob, 2, none⟩)), some (Value.slice (some y) nn c), some (Value.int .i64 (b : Int)), some (Value.int .i64 x), some (Value.int .i64 x), some (Value.pointer (some (y.add a))), none, some (Value.pointer (some (y.add b))), none]
    (fun _ _ _ => True) (fun _ _ => True) (fun L f W => Blk W ob #[r0, r1, .slice (some y) nn c] 78 ∧ LI B W (some y) c (mixS zs a b x (L 9) (L 11)) ∧ Eff (fun q => q = y.block) w0 W)
    (by kernel_rfl) (by kernel_rfl) (by kernel_rfl) (by kernel_rfl) (by kernel_rfl) (fun _ => trivial) (fun _ _ _ _ _ _ => trivial) (fun L L' f f' W h hs => by have q9 := (h 9 (by decide)).1; have q11 := (h 11 (by decide)).1; (try dsimp only at hs ⊢); rw [← q9, ← q11]; exact hs) ⟨g0.drew, hz.keep (upD (upR _)), Eff.of (upD (upR _))⟩ ?_ ?_
  · intro i hi b' L f W hSW hL hdep hsh he hsv hsl hFF K hK1 hK2
    replace hi : i < 12 := hi
    have hcs : i = 0 ∨ i = 1 ∨ i = 2 ∨ i = 3 ∨ i = 4 ∨ i = 5 ∨ i = 6 ∨ i = 7 ∨ i = 8 ∨ i = 9 ∨ i = 10 ∨ i = 11 := by omega
    clear hi
    rcases hcs with rfl | rfl | rfl | rfl | rfl | rfl | rfl | rfl | rfl | rfl | rfl | rfl
    · refine wpOpS_go rfl rfl ?_
      have t3 : b'.tmps[3]?.getD undef = Value.pointer (some ⟨ob, 0, none⟩) := he 3 (by kernel_rfl)
      have HK := Lib.hid hK1
      clear hK1 hK2 hdep hsh he hsv hsl hFF hL
      clear hSW
      go_simp
      exact HK.out rfl _ (fp_mk rfl rfl trivial)
    · refine wpOpS_go rfl rfl ?_
      have t7 : b'.tmps[7]?.getD undef = Value.pointer (some ⟨ob, 2, none⟩) := hsv 0 7 _ (by kernel_rfl) (by kernel_rfl) rfl
      obtain ⟨s0, s1, s2⟩ := hSW
      have c0 := s0.cell
      have HK := Lib.hid hK1
      clear hK1 hK2 hdep hsh he hsv hsl hFF hL
      clear s0 s1 s2
      go_simp
      exact HK.out rfl _ (fp_mk rfl rfl trivial)
    · refine wpOpS_go rfl rfl ?_
      have t0 : b'.tmps[0]?.getD undef = Value.int .i64 (a : Int) := he 0 (by kernel_rfl)
      have HK := Lib.hid hK1
      clear hK1 hK2 hdep hsh he hsv hsl hFF hL
      clear hSW
      go_simp
      exact HK.out rfl _ (fp_mk rfl rfl trivial)
    · refine wpOpS_go rfl rfl ?_
      have t3 : b'.tmps[3]?.getD undef = Value.pointer (some ⟨ob, 0, none⟩) := he 3 (by kernel_rfl)
      have HK := Lib.hid hK1
      clear hK1 hK2 hdep hsh he hsv hsl hFF hL
      clear hSW
      go_simp
      exact HK.out rfl _ (fp_mk rfl rfl trivial)
    · refine wpOpS_go rfl rfl ?_
      have t10 : b'.tmps[10]?.getD undef = Value.pointer (some ⟨ob, 2, none⟩) := hsv 3 10 _ (by kernel_rfl) (by kernel_rfl) rfl
      obtain ⟨s0, s1, s2⟩ := hSW
      have c0 := s0.cell
      have HK := Lib.hid hK1
      clear hK1 hK2 hdep hsh he hsv hsl hFF hL
      clear s0 s1 s2
      go_simp
      exact HK.out rfl _ (fp_mk rfl rfl trivial)
    · refine wpOpS_go rfl rfl ?_
      have t1 : b'.tmps[1]?.getD undef = Value.int .i64 (b : Int) := he 1 (by kernel_rfl)
      have HK := Lib.hid hK1
      clear hK1 hK2 hdep hsh he hsv hsl hFF hL
      clear hSW
      go_simp
      exact HK.out rfl _ (fp_mk rfl rfl trivial)
    · refine wpOpS_go rfl rfl ?_
      have t2 : b'.tmps[2]?.getD undef = Value.int .i64 x := he 2 (by kernel_rfl)
      have HK := Lib.hid hK1
      clear hK1 hK2 hdep hsh he hsv hsl hFF hL
      clear hSW
      go_simp
      exact HK.out rfl _ (fp_mk rfl rfl trivial)
    · refine wpOpS_go rfl rfl ?_
      have t2 : b'.tmps[2]?.getD undef = Value.int .i64 x := he 2 (by kernel_rfl)
      have HK := Lib.hid hK1
      clear hK1 hK2 hdep hsh he hsv hsl hFF hL
      clear hSW
      go_simp
      exact HK.out rfl _ (fp_mk rfl rfl trivial)
    · refine wpOpS_go rfl rfl ?_
      have t8 : b'.tmps[8]?.getD undef = Value.slice (some y) nn c := hsv 1 8 _ (by kernel_rfl) (by kernel_rfl) rfl
      have t9 : b'.tmps[9]?.getD undef = Value.int .i64 (a : Int) := hsv 2 9 _ (by kernel_rfl) (by kernel_rfl) rfl
      have HK := Lib.hid hK1
      clear hK1 hK2 hdep hsh he hsv hsl hFF hL
      clear hSW
      go_simp
      exact HK.out rfl _ (fp_mk rfl rfl trivial)
    · refine wpOpS_go rfl rfl ?_
      have t13 : b'.tmps[13]?.getD undef = Value.int .i64 x := hsv 6 13 _ (by kernel_rfl) (by kernel_rfl) rfl
      have t15 : b'.tmps[15]?.getD undef = Value.pointer (some (y.add a)) := hsv 8 15 _ (by kernel_rfl) (by kernel_rfl) rfl
      obtain ⟨s0, s1, s2⟩ := hSW
      have hs : LI B W (some y) c (mixS zs a b x false (L 11)) := by rw [← hL]; exact s1
      obtain ⟨v0, hv0, hf0⟩ := li_put hs a (by rw [mixS_len]; exact ha)
      have HK := Lib.hid hK2
      clear hK1 hK2 hdep hsh he hsv hsl hFF s1
      go_simp
      have hE : Eff (fun q => q = y.block) W (W.setCell (y.add a) (.int .i64 x)) := Eff.set _ _ (by rw [add_block])
      have hty := hs.wj.ty y rfl (by rw [mixS_len]; omega)
      exact HK.out undef _ (fp_x (v := undef) rfl trivial) trivial ⟨hE.blk s0 (blk_ity s0 hty (by decide)), by rw [updF_same, updF_ne _ _ (by decide)]; rw [← mixS_a]; exact LI.putS hs a (by rw [mixS_len]; exact ha) x hx, s2.trans hE (fun _ _ h => h)⟩
    · refine wpOpS_go rfl rfl ?_
      have t11 : b'.tmps[11]?.getD undef = Value.slice (some y) nn c := hsv 4 11 _ (by kernel_rfl) (by kernel_rfl) rfl
      have t12 : b'.tmps[12]?.getD undef = Value.int .i64 (b : Int) := hsv 5 12 _ (by kernel_rfl) (by kernel_rfl) rfl
      have HK := Lib.hid hK1
      clear hK1 hK2 hdep hsh he hsv hsl hFF hL
      clear hSW
      go_simp
      exact HK.out rfl _ (fp_mk rfl rfl trivial)
    · refine wpOpS_go rfl rfl ?_
      have t14 : b'.tmps[14]?.getD undef = Value.int .i64 x := hsv 7 14 _ (by kernel_rfl) (by kernel_rfl) rfl
      have t16 : b'.tmps[16]?.getD undef = Value.pointer (some (y.add b)) := hsv 10 16 _ (by kernel_rfl) (by kernel_rfl) rfl
      obtain ⟨s0, s1, s2⟩ := hSW
      have hs : LI B W (some y) c (mixS zs a b x (L 9) false) := by rw [← hL]; exact s1
      obtain ⟨v0, hv0, hf0⟩ := li_put hs b (by rw [mixS_len]; exact hb)
      have HK := Lib.hid hK2
      clear hK1 hK2 hdep hsh he hsv hsl hFF s1
      go_simp
      have hE : Eff (fun q => q = y.block) W (W.setCell (y.add b) (.int .i64 x)) := Eff.set _ _ (by rw [add_block])
      have hty := hs.wj.ty y rfl (by rw [mixS_len]; omega)
      exact HK.out undef _ (fp_x (v := undef) rfl trivial) trivial ⟨hE.blk s0 (blk_ity s0 hty (by decide)), by rw [updF_same, updF_ne _ _ (by decide)]; rw [← mixS_b]; exact LI.putS hs b (by rw [mixS_len]; exact hb) x hx, s2.trans hE (fun _ _ h => h)⟩
  · intro f W hf L hL hS
    obtain ⟨s0, s1, s2⟩ := (hS : _ ∧ _ ∧ _)
    rw [hL 9 (by decide), hL 11 (by decide)] at s1
    have e0 : f 0 = Value.pointer (some ⟨ob, 2, none⟩) := (hf 0 (by decide)).1 _ rfl
    have e1 : f 1 = Value.slice (some y) nn c := (hf 1 (by decide)).1 _ rfl
    have e2 : f 2 = Value.int .i64 (a : Int) := (hf 2 (by decide)).1 _ rfl
    have e3 : f 3 = Value.pointer (some ⟨ob, 2, none⟩) := (hf 3 (by decide)).1 _ rfl
    have e4 : f 4 = Value.slice (some y) nn c := (hf 4 (by decide)).1 _ rfl
    have e5 : f 5 = Value.int .i64 (b : Int) := (hf 5 (by decide)).1 _ rfl
    have e6 : f 6 = Value.int .i64 x := (hf 6 (by decide)).1 _ rfl
    have e7 : f 7 = Value.int .i64 x := (hf 7 (by decide)).1 _ rfl
    have e8 : f 8 = Value.pointer (some (y.add a)) := (hf 8 (by decide)).1 _ rfl
    have e10 : f 10 = Value.pointer (some (y.add b)) := (hf 10 (by decide)).1 _ rfl
    clear hf hL
    simp only [puts2, Act.put, e0, e1, e2, e3, e4, e5, e6, e7, e8, e10]
    try simp only [List.setIfInBounds_toArray, List.set_cons_zero, List.set_cons_succ]
    clear e0 e1 e2 e3 e4 e5 e6 e7 e8 e10
    go_wp2_with fail
    go_returns
    exact ⟨rfl, s1, s2⟩

/-- Within changed: what has been set. -/
structure ChgI (w0 : World) (P : Nat → Prop) (rb ob cb fb n1 n N : Nat) (g : FuncId) (caps : Array Value) (y : Addr) (c : Nat) (val : Nat → Nat → Int) (zs : List Int) (J : List (Nat × Nat) → World → Prop) (pre : List (Nat × Nat)) (W : World) : Prop where
  fn : Blk W fb #[.func (.func g) #[] caps] 66
  res : Blk W rb #[.int .i64 0, .int .i64 0, .slice none 0 0] 78
  out : Blk W ob #[.int .i64 n, .int .i64 n, .slice (some y) N c] 78
  clo : Blk W cb #[.func (.func 200) #[] #[.pointer (some ⟨ob, 0, none⟩)]] 169
  li : LI w0.heap.size W (some y) c (chgL n val zs pre)
  j : J pre W
  eff : Eff P w0 W
  sz : n1 ≤ W.heap.size
theorem ChgI.own {β : Type} {w0 : World} {P : Nat → Prop} {rb ob cb fb n1 n N : Nat} {g : FuncId} {caps : Array Value} {y : Addr} {c : Nat} {val : Nat → Nat → Int} {zs : List Int} {J : List (Nat × Nat) → World → Prop} (hJ : ∀ pre W W', J pre W → Below w0.heap.size W W' → J pre W') (B : Nat) (hB : w0.heap.size ≤ B) (f : β → List (Nat × Nat)) :
    OwnFrom B (fun pre W => ChgI w0 P rb ob cb fb n1 n N g caps y c val zs J (f pre) W) := fun s X Y row hs hg hr => by
  have hk := kc_grown hg (fun r e => (hr r e).2)
  have hb : Below w0.heap.size X Y := ⟨hg.os, hg.tape, hg.output, hg.size, fun k hk => hg.block k (Nat.lt_of_lt_of_le hk hs.eff.size) (fun e => by have := (hr k e.symm).1; omega)⟩
  refine ⟨hs.fn.kc hk, hs.res.kc hk, hs.out.kc hk, hs.clo.kc hk, hs.li.kc hk, hJ _ _ _ hs.j hb, ?_, Nat.le_trans hs.sz hg.size⟩
  exact ⟨hg.os.trans hs.eff.os, hg.tape.trans hs.eff.tape, hg.output.trans hs.eff.output, Nat.le_trans hs.eff.size hg.size, fun k hk hn => (hb.block k hk).trans (hs.eff.block k hk hn)⟩

set_option maxHeartbeats 8000000 in
set_option maxRecDepth 100000 in
theorem changed_is {w0 : World} (P : Nat → Prop) (hP : ∀ k, P k → k < w0.heap.size) (g : FuncId) (eg : ∀ args w, (callFunc g args).run Tryz.prog w = .ok (.enter g args) w) (caps : Array Value) (n d N : Nat) (hN : n * n = N) (hn : 1 ≤ n ∧ n ≤ 12) (hd : d ≤ 1) {a0 : Option Addr} {k0 : Nat} {zs : List Int} (hz : MI 0 w0 a0 k0 zs) (hlen : zs.length = N)
    (val : Nat → Nat → Int) (h64 : ∀ i k, I64 (val i k)) (J : List (Nat × Nat) → World → Prop) (hJ : ∀ pre W W', J pre W → Below w0.heap.size W W' → J pre W')
    (hop : ∀ pre i k W, i + d ≤ k → k < n → J pre W → w0.heap.size ≤ W.heap.size → Calls Tryz.prog g (#[.int .i64 ((i * n + k : Nat) : Int), .int .i64 ((k * n + i : Nat) : Int)] ++ caps) W fun e w' => e = .returned (.int .i64 (val i k)) ∧ J (pre ++ [(i, k)]) w' ∧ Eff P W w') (h0 : J [] w0) :
    Calls Tryz.prog 155 #[.agg #[.int .i64 n, .int .i64 n, .slice a0 N k0], .int .i64 d, .func (.func g) #[] caps] w0 fun e w' => ∃ v, e = .returned v ∧ MO w0.heap.size w' v ⟨n, n, chgL n val zs (prU n d n)⟩ ∧ J (prU n d n) w' ∧ Eff P w0 w' := by
  have hN1 : 1 ≤ N := by rw [← hN]; exact Nat.mul_le_mul hn.1 hn.1
  have hN2 : N ≤ 144 := by rw [← hN]; exact Nat.mul_le_mul hn.2 hn.2
  refine (callsIn_wide (n := 3)).1 ?_
  refine callsIn_of_wp_marks Tryz.func155 rfl trivial ?_ rfl
  simp only [Tryz.ntmps155, List.size_toArray, List.length_cons, List.length_nil, Nat.reduceAdd, Nat.reduceSub, Array.replicate_succ, Array.replicate_zero, List.push_toArray, List.append_toArray, List.nil_append, List.cons_append]
  refine wpIn_wide.2 ?_
  go_wp2_with fail
  have hB2 := below_allocs w0 [Obj.cells #[Value.int .i64 n, .int .i64 n, .slice a0 N k0] 78, Obj.cells #[Value.func (.func g) #[] caps] 66, Obj.cells #[Value.int .i64 0, .int .i64 0, .slice none 0 0] 78]
  have g0 := blk_at w0 [Obj.cells #[Value.int .i64 n, .int .i64 n, .slice a0 N k0] 78, Obj.cells #[Value.func (.func g) #[] caps] 66, Obj.cells #[Value.int .i64 0, .int .i64 0, .slice none 0 0] 78] 0 _ _ rfl
  have g1 := blk_at w0 [Obj.cells #[Value.int .i64 n, .int .i64 n, .slice a0 N k0] 78, Obj.cells #[Value.func (.func g) #[] caps] 66, Obj.cells #[Value.int .i64 0, .int .i64 0, .slice none 0 0] 78] 1 _ _ rfl
  have g2 := blk_at w0 [Obj.cells #[Value.int .i64 n, .int .i64 n, .slice a0 N k0] 78, Obj.cells #[Value.func (.func g) #[] caps] 66, Obj.cells #[Value.int .i64 0, .int .i64 0, .slice none 0 0] 78] 2 _ _ rfl
  simp only [List.foldl_cons, List.foldl_nil, Nat.add_zero, List.length_cons, List.length_nil, Nat.zero_add, Nat.reduceAdd] at hB2 g0 g1 g2
  obtain ⟨hB2, hs2⟩ := hB2
  generalize ((w0.alloc (Obj.cells #[Value.int .i64 n, .int .i64 n, .slice a0 N k0] 78)).alloc (Obj.cells #[Value.func (.func g) #[] caps] 66)).alloc (Obj.cells #[Value.int .i64 0, .int .i64 0, .slice none 0 0] 78) = w2 at *
  have HOP := Lib.hid hop
  have HH0 := Lib.hid h0
  clear hop h0
  have HCL : ∀ W, Below w2.heap.size w2 W → Calls Tryz.prog 50 #[.slice a0 N k0] W fun e w' => ∃ b k, e = .returned (.slice b N k) ∧ LI W.heap.size w' b k zs ∧ Below W.heap.size W w' := fun W hW => by
    have := clone_is ((hz.keep hB2).keep hW) (by omega)
    rw [hlen] at this
    exact this
  refine region_fp [some 11, some 12, some 13, some 14, some 15, some 16, some 17, some 18, some 7, none] [7, 8, 9] [some (Value.pointer (some ⟨w0.heap.size, 0, none⟩)), some (Value.int .i64 (n : Int)), some (Value.pointer (some ⟨w0.heap.size, 1, none⟩)), some (Value.int .i64 (n : Int)), some (Value.pointer (some ⟨w0.heap.size, 2, none⟩)), some (Value.slice a0 N k0), none, none, none, none]
    (fun i v W => match i with | 6 => ∃ y c, v = Value.slice y N c ∧ LI w0.heap.size W y c zs | 7 => ∃ y c, v = Value.agg #[Value.int .i64 (n : Int), Value.int .i64 (n : Int), Value.slice y N c] ∧ LI w0.heap.size W y c zs | 8 => ∃ e, v = Value.pointer (some ⟨e, 0, none⟩) | _ => True) (fun W W' => ∀ k, Ty W k 3 → W'.heap[k]? = W.heap[k]?) (fun L f W => Blk W w0.heap.size #[Value.int .i64 (n : Int), Value.int .i64 (n : Int), Value.slice a0 N k0] 78 ∧ Eff (fun q => w2.heap.size ≤ q) w2 W ∧ (∀ e, f 8 = Value.pointer (some ⟨e, 0, none⟩) → L 8 = true → w2.heap.size ≤ e ∧ (L 9 = false → Blk W e #[.int .i64 0, .int .i64 0, .slice none 0 0] 78) ∧ (L 9 = true → Blk W e (f 7).cells 78)))
    (by kernel_rfl) (by kernel_rfl) (by kernel_rfl) (by kernel_rfl) (by kernel_rfl) (fun _ _ _ => rfl) (fun i v W W' h hb => by
      match i, h with
      | 6, ⟨y, c, h1, h2⟩ => exact ⟨y, c, h1, h2.same fun x hx hn => hb _ (h2.wj.ty x hx hn)⟩
      | 7, ⟨y, c, h1, h2⟩ => exact ⟨y, c, h1, h2.same fun x hx hn => hb _ (h2.wj.ty x hx hn)⟩
      | 8, h => exact h
      | 0, _ | 1, _ | 2, _ | 3, _ | 4, _ | 5, _ | 9, _ => trivial
      | (m + 10), _ => trivial) (fun L L' f f' W h hs => by have q7 := (h 7 (by decide)).2; have q8 := (h 8 (by decide)); have q9 := (h 9 (by decide)).1; (try dsimp only at hs ⊢); rw [← q7, ← q8.1, ← q8.2, ← q9]; exact hs) ⟨g0.drew, Eff.of (upD (upR _)), fun e _ h => (Bool.false_ne_true h).elim⟩ ?_ ?_
  · intro i hi b' L f W hSW hL hdep hsh he hsv hsl hFF K hK1 hK2
    replace hi : i < 10 := hi
    have hcs : i = 0 ∨ i = 1 ∨ i = 2 ∨ i = 3 ∨ i = 4 ∨ i = 5 ∨ i = 6 ∨ i = 7 ∨ i = 8 ∨ i = 9 := by omega
    clear hi
    rcases hcs with rfl | rfl | rfl | rfl | rfl | rfl | rfl | rfl | rfl | rfl
    · refine wpOpS_go rfl rfl ?_
      have t3 : b'.tmps[3]?.getD undef = Value.pointer (some ⟨w0.heap.size, 0, none⟩) := he 3 (by kernel_rfl)
      have HK := Lib.hid hK1
      clear hK1 hK2 hdep hsh he hsv hsl hFF hL
      clear hSW
      go_simp
      exact HK.out rfl _ (fp_mk rfl rfl trivial)
    · refine wpOpS_go rfl rfl ?_
      have t11 : b'.tmps[11]?.getD undef = Value.pointer (some ⟨w0.heap.size, 0, none⟩) := hsv 0 11 _ (by kernel_rfl) (by kernel_rfl) rfl
      obtain ⟨s0, s1, s2⟩ := hSW
      have c0 := s0.cell
      have HK := Lib.hid hK1
      clear hK1 hK2 hdep hsh he hsv hsl hFF hL
      clear s0 s1 s2
      go_simp
      exact HK.out rfl _ (fp_mk rfl rfl trivial)
    · refine wpOpS_go rfl rfl ?_
      have t3 : b'.tmps[3]?.getD undef = Value.pointer (some ⟨w0.heap.size, 0, none⟩) := he 3 (by kernel_rfl)
      have HK := Lib.hid hK1
      clear hK1 hK2 hdep hsh he hsv hsl hFF hL
      clear hSW
      go_simp
      exact HK.out rfl _ (fp_mk rfl rfl trivial)
    · refine wpOpS_go rfl rfl ?_
      have t13 : b'.tmps[13]?.getD undef = Value.pointer (some ⟨w0.heap.size, 1, none⟩) := hsv 2 13 _ (by kernel_rfl) (by kernel_rfl) rfl
      obtain ⟨s0, s1, s2⟩ := hSW
      have c0 := s0.cell
      have HK := Lib.hid hK1
      clear hK1 hK2 hdep hsh he hsv hsl hFF hL
      clear s0 s1 s2
      go_simp
      exact HK.out rfl _ (fp_mk rfl rfl trivial)
    · refine wpOpS_go rfl rfl ?_
      have t3 : b'.tmps[3]?.getD undef = Value.pointer (some ⟨w0.heap.size, 0, none⟩) := he 3 (by kernel_rfl)
      have HK := Lib.hid hK1
      clear hK1 hK2 hdep hsh he hsv hsl hFF hL
      clear hSW
      go_simp
      exact HK.out rfl _ (fp_mk rfl rfl trivial)
    · refine wpOpS_go rfl rfl ?_
      have t15 : b'.tmps[15]?.getD undef = Value.pointer (some ⟨w0.heap.size, 2, none⟩) := hsv 4 15 _ (by kernel_rfl) (by kernel_rfl) rfl
      obtain ⟨s0, s1, s2⟩ := hSW
      have c0 := s0.cell
      have HK := Lib.hid hK1
      clear hK1 hK2 hdep hsh he hsv hsl hFF hL
      clear s0 s1 s2
      go_simp
      exact HK.out rfl _ (fp_mk rfl rfl trivial)
    · refine wpOpS_go rfl rfl ?_
      have t16 : b'.tmps[16]?.getD undef = Value.slice a0 N k0 := hsv 5 16 _ (by kernel_rfl) (by kernel_rfl) rfl
      obtain ⟨s0, s1, s2⟩ := hSW
      have HK := Lib.hid hK2
      have hbel : Below w2.heap.size w2 W := ⟨s1.os, s1.tape, s1.output, s1.size, fun k hk => s1.block k hk (by omega)⟩
      have hA := HCL W hbel
      have h9 := hsh 9 (by kernel_rfl)
      clear hK1 hK2 hdep hsh he hsv hsl hFF hL
      go_simp
      refine hA.mono ?_
      rintro e w6 ⟨y, c, rfl, hli, hB⟩
      exact HK.out _ _ (fp_x rfl ⟨y, c, rfl, hli.mono (by have := s1.size; omega)⟩) (fun k hk => hB.block k hk.lt) ⟨s0.keep hB, s1.trans (Eff.of (P := fun _ => False) hB) (fun _ _ h => h.elim), fun e h1 h2 => ⟨(s2 e h1 h2).1, fun h => ((s2 e h1 h2).2.1 h).keep hB, fun h => ((s2 e h1 h2).2.2 h).keep hB⟩⟩
    · refine wpOpS_go rfl rfl ?_
      have t12 : b'.tmps[12]?.getD undef = Value.int .i64 (n : Int) := hsv 1 12 _ (by kernel_rfl) (by kernel_rfl) rfl
      have t14 : b'.tmps[14]?.getD undef = Value.int .i64 (n : Int) := hsv 3 14 _ (by kernel_rfl) (by kernel_rfl) rfl
      obtain ⟨t17, hx⟩ := hsl 6 17 (by kernel_rfl) (by kernel_rfl)
      obtain ⟨y, c, e1, hli⟩ := hx
      rw [e1] at t17
      obtain ⟨s0, s1, s2⟩ := hSW
      have HK := Lib.hid hK2
      have h9 := hsh 9 (by kernel_rfl)
      clear hK1 hK2 hdep hsh he hsv hsl hFF hL e1
      go_simp
      exact HK.out _ _ (fp_x rfl ⟨y, c, rfl, hli⟩) (fun _ _ => rfl) ⟨s0, s1, fun e h1 h2 => ⟨(s2 e h1 h2).1, (s2 e h1 h2).2.1, fun h => absurd h (by show ¬ L 9 = true; rw [h9]; decide)⟩⟩
    · refine wpOpS_go rfl rfl ?_
      obtain ⟨s0, s1, s2⟩ := hSW
      have HK := Lib.hid hK2
      have h9 := hsh 9 (by kernel_rfl)
      have hws := s1.size
      clear hK1 hK2 hdep hsh he hsv hsl hFF hL
      refine op_new (cs := #[.int .i64 0, .int .i64 0, .slice none 0 0]) (t := 78) (by go_simp) ?_
      intro w6 hb hB hz
      exact HK.out _ _ (fp_x rfl ⟨_, rfl⟩) (fun k hk => hB.block k hk.lt) ⟨s0.keep hB, s1.trans (Eff.of (P := fun _ => False) hB) (fun _ _ h => h.elim), fun e h1 _ => by
        rw [updF_same] at h1
        cases h1
        exact ⟨hws, fun _ => hb, fun h => absurd h (by show ¬ L 9 = true; rw [h9]; decide)⟩⟩
    · refine wpOpS_go rfl rfl ?_
      obtain ⟨t7, hxa⟩ := hsl 8 7 (by kernel_rfl) (by kernel_rfl)
      obtain ⟨t18, hxx⟩ := hsl 7 18 (by kernel_rfl) (by kernel_rfl)
      obtain ⟨e1, e2⟩ := hxa
      obtain ⟨y, c, e3, hli⟩ := hxx
      rw [e2] at t7
      rw [e3] at t18
      obtain ⟨s0, s1, s2⟩ := hSW
      have HK := Lib.hid hK2
      have l8 := hdep 8 (by kernel_rfl)
      obtain ⟨z1, z2, z3⟩ := s2 e1 e2 l8
      have hmb := z2 hL
      clear hK1 hK2 hdep hsh he hsv hsl hFF z2 z3
      refine op_store 78 _ _ rfl rfl hmb 0 (eval_tmp t7) (eval_tmp t18) ([Value.int .i64 (n : Int), Value.int .i64 (n : Int), Value.slice y N c] : List Value) (by rfl) (by kernel_rfl) (by rfl) (by rfl) #[Value.int .i64 (n : Int), Value.int .i64 (n : Int), Value.slice y N c] rfl ?_
      intro w6 g6 ef hz
      exact HK.out undef _ (fp_x (v := undef) rfl trivial) (fun k hk => ef.block k hk.lt (fun e => by subst e; exact absurd (hk.inj hmb.ty) (by decide))) ⟨ef.blk s0 (by omega), s1.trans ef (fun k hk e => by omega), fun e h1 _ => by
        rw [updF_ne _ _ (by decide), e2] at h1
        cases h1
        exact ⟨z1, fun h => absurd h (by rw [updF_same]; decide), fun _ => by rw [updF_ne _ _ (by decide), e3]; exact g6⟩⟩
  · intro f W hf L hL hS
    obtain ⟨s0, s1, s2⟩ := (hS : _ ∧ _ ∧ _)
    obtain ⟨y1, c1, e6, _⟩ := (hf 6 (by decide)).2
    obtain ⟨y, c, e7, hli⟩ := (hf 7 (by decide)).2
    obtain ⟨ob, e8⟩ := (hf 8 (by decide)).2
    obtain ⟨hob, _, z3⟩ := s2 ob e8 (hL 8 (by decide))
    replace z3 := z3 (hL 9 (by decide))
    rw [e7] at z3
    have e0 : f 0 = Value.pointer (some ⟨w0.heap.size, 0, none⟩) := (hf 0 (by decide)).1 _ rfl
    have e1 : f 1 = Value.int .i64 (n : Int) := (hf 1 (by decide)).1 _ rfl
    have e2 : f 2 = Value.pointer (some ⟨w0.heap.size, 1, none⟩) := (hf 2 (by decide)).1 _ rfl
    have e3 : f 3 = Value.int .i64 (n : Int) := (hf 3 (by decide)).1 _ rfl
    have e4 : f 4 = Value.pointer (some ⟨w0.heap.size, 2, none⟩) := (hf 4 (by decide)).1 _ rfl
    have e5 : f 5 = Value.slice a0 N k0 := (hf 5 (by decide)).1 _ rfl
    replace z3 : Blk W ob #[Value.int .i64 (n : Int), Value.int .i64 (n : Int), Value.slice y N c] 78 := z3
    clear hf hL s2
    simp only [puts2, Act.put, e0, e1, e2, e3, e4, e5, e6, e7, e8]
    try simp only [List.setIfInBounds_toArray, List.set_cons_zero, List.set_cons_succ]
    clear e0 e1 e2 e3 e4 e5 e6 e7 e8
    have hB3 : Below w0.heap.size w0 W := hB2.trans ⟨s1.os, s1.tape, s1.output, s1.size, fun k hk => s1.block k (by omega) (by omega)⟩
    have g1' := s1.blk g1 (by omega)
    have g2' := s1.blk g2 (by omega)
    have hj1 := hJ _ _ _ HH0.out hB3
    have hWs := s1.size
    have HS1 := Lib.hid s1
    obtain ⟨y, rfl⟩ : ∃ y', y = some y' := by obtain ⟨x, hx, _⟩ := hli.mi.cell 0 (by omega); exact ⟨x, hx⟩
    have hyl : y.block < W.heap.size := by obtain ⟨cs, q, hc⟩ := hli.wj.ty y rfl (by omega); exact (Array.getElem?_eq_some_iff.1 hc).1
    have hyo := hli.mi.lo y rfl (by omega)
    have c0 := s0.cell
    clear s1 HCL g1 g2 g0
    go_wp2_with first | ((with_reducible refine at_dst (N := 8) rfl ?_); refine ev_new rfl (cs := #[Value.nilFunc]) (t := 169) (by go_simp) ?_; intro w4 gn hB4 hz4) | ((with_reducible refine at_st (p := 8) (q := 19) rfl ?_); refine ev_store rfl 169 _ _ rfl rfl gn 0 rfl rfl [.func (.func 200) #[] #[.pointer (some ⟨ob, 0, none⟩)]] rfl (by kernel_rfl) rfl rfl #[.func (.func 200) #[] #[.pointer (some ⟨ob, 0, none⟩)]] rfl ?_; intro w5 gc ef5 hz5; have c5 := (ef5.blk (s0.keep hB4) (by omega)).cell; clear c0)
    refine (pairs_is n d _).mono ?_
    rintro e W0 ⟨rfl, hW0⟩
    have hB5 : Below W.heap.size W w5 := ef5.below hB4 (fun k hk => by omega)
    obtain ⟨cb, hcb⟩ : ∃ cb, W.heap.size = cb := ⟨_, rfl⟩
    obtain ⟨pb, hpb⟩ : ∃ pb, w5.heap.size = pb := ⟨_, rfl⟩
    have hB6 : Below w5.heap.size w5 W0 := by rw [← hW0]; exact upA (upA (upR w5) _) _
    have hsz0 : W0.heap.size ≤ pb + 2 := by rw [← hW0, ← hpb]; simp
    have hsz1 : pb + 2 ≤ W0.heap.size := by rw [← hW0, ← hpb]; simp
    have hb1 : W0.cell? ⟨pb, 0, none⟩ = some (.int .i64 n) := by
      rw [← hW0, ← hpb]
      exact ((Blk.new w5 #[.int .i64 n] 3).alloc (.cells #[.int .i64 d] 3)).cell 0
    have hb2 : W0.cell? ⟨pb + 1, 0, none⟩ = some (.int .i64 d) := by
      rw [← hW0, ← hpb]
      have := Blk.new (w5.alloc (.cells #[.int .i64 n] 3)) #[.int .i64 d] 3
      rw [World.size_alloc] at this
      exact this.cell 0
    have hcb1 : cb + 1 = pb := by omega
    have hB7 : Below W.heap.size W W0 := more hB5 hB6
    have hI0 : ChgI w0 P (w0.heap.size + 2) ob cb (w0.heap.size + 1) W0.heap.size n N g caps y c val zs J [] W0 :=
      ⟨g1'.keep hB7, g2'.keep hB7, z3.keep hB7, by rw [← hcb]; exact gc.keep hB6, hli.keep hB7, hJ _ _ _ hj1 (hB7.mono hB3.size), Eff.of (hB3.trans (hB7.mono hB3.size)), Nat.le_refl _⟩
    have hob2 : ob < cb := by rw [← hcb]; exact z3.lt
    rw [hpb, hcb]
    rw [hcb] at hyl hWs
    have HW0 := Lib.hid (show Below w0.heap.size w0 W0 from hB3.trans (hB7.mono hB3.size))
    clear hW0 gn gc g1' g2' z3 hli hj1 hB7 hB5 hB6 hB3 hB4 ef5 hz4 hz5 c5 s0 HS1 HH0 hB2 hcb hpb
    go_wp2_with fail
    refine (wpIn_wide (n := 3)).1 ?_
    refine wpIn_rangeFunc_ownH rfl (by omega) (gf := 231) (lb := #[.pointer (some ⟨pb, 0, none⟩), .pointer (some ⟨pb + 1, 0, none⟩)]) rfl trivial (enters_of Tryz.func231 (by kernel_rfl) rfl)
      (pairs_stops (fun k => P k ∨ (w0.heap.size ≤ k ∧ k ≠ pb ∧ k ≠ pb + 1)) Fence.wide free_wide (3 - 1) rfl (by omega) pb (pb + 1) W0.heap.size n d hn.2 hd W0 hb1 ⟨by omega, fun h => by rcases h with h | h; have := hP _ h; omega; exact h.2.1 rfl⟩ hb2 ⟨by omega, fun h => by rcases h with h | h; have := hP _ h; omega; exact h.2.2 rfl⟩ (Nat.le_refl _)) belowX_t (belowX_b (Nat.le_refl _)) (Below.refl _ _) (fun _ => rfl)
      (fun pre W => ChgI w0 P (w0.heap.size + 2) ob cb (w0.heap.size + 1) W0.heap.size n N g caps y c val zs J (pre.map fun x => x.1) W) (fun _ _ _ => False)
      (ChgI.own hJ _ (by omega) _) (fun _ _ _ _ _ hs _ _ => hs) hI0
      (fun x a' W => a' = { tmps := #[.agg #[.int .i64 n, .int .i64 n, .slice a0 N k0], .int .i64 d, .func (.func g) #[] caps, .pointer (some ⟨w0.heap.size, 0, none⟩), undef, .pointer (some ⟨w0.heap.size + 1, 0, none⟩), .pointer (some ⟨w0.heap.size + 1 + 1, 0, none⟩), .pointer (some ⟨ob, 0, none⟩), .pointer (some ⟨cb, 0, none⟩), .int .i64 ((x.1.1 * n + x.1.2 : Nat) : Int), .int .i64 ((x.1.2 * n + x.1.1 : Nat) : Int), .pointer (some ⟨w0.heap.size, 0, none⟩), .int .i64 n, .pointer (some ⟨w0.heap.size, 1, none⟩), .int .i64 n, .pointer (some ⟨w0.heap.size, 2, none⟩), .slice a0 N k0, .slice y1 N c1, .agg #[.int .i64 n, .int .i64 n, .slice (some y) N c], .func (.func 200) #[] #[.pointer (some ⟨ob, 0, none⟩)], .pointer (some ⟨w0.heap.size, 0, none⟩), .int .i64 n, .int .i64 d, .func (.func 231) #[] #[.pointer (some ⟨pb, 0, none⟩), .pointer (some ⟨pb + 1, 0, none⟩)], .int .i64 ((x.1.1 * n + x.1.2 : Nat) : Int), .int .i64 ((x.1.2 * n + x.1.1 : Nat) : Int), undef, undef, undef, undef, undef, undef, undef, undef, undef], defers := [] })
      (fun x a' _ X Y row hs hg hr => hs)
      ?assign ?body ?done ?stop
    case assign =>
      rintro l pre x W K hi hK
      unfold encQ at hK ⊢
      dsimp only at hK ⊢
      generalize ((x.1.1 * n + x.1.2 : Nat)) = a at *
      generalize ((x.1.2 * n + x.1.1 : Nat)) = b at *
      gi_wp2
      exact hK _ _ (KeepsFrom.refl _ _) (BelowX.refl _ _ _) hi rfl
    case body =>
      rintro l pre0 x0 a' Wb hl2 ⟨r0, hr0⟩ hi2 rfl hlt
      obtain ⟨⟨i, k⟩, hik, hkn⟩ := x0
      dsimp only at hik hkn hi2 ⊢
      obtain ⟨pre, hpre⟩ : ∃ pre, (pre0.map fun x : Pr n d => x.1) = pre := ⟨_, rfl⟩
      rw [hpre] at hi2
      have HPRE := Lib.hid hpre
      obtain ⟨a, ha⟩ : ∃ a, i * n + k = a := ⟨_, rfl⟩
      obtain ⟨b, hb⟩ : ∃ b, k * n + i = b := ⟨_, rfl⟩
      have haN : a < N := by rw [← ha, ← hN]; exact ix_lt (by omega) hkn
      have hbN : b < N := by rw [← hb, ← hN]; exact ix_lt hkn (by omega)
      rw [ha, hb]
      have HA := Lib.hid ha
      have HC := Lib.hid hb
      have hwb := hi2.eff.size
      obtain ⟨n1, hn1⟩ : ∃ n1, W0.heap.size = n1 := ⟨_, rfl⟩
      rw [hn1] at hi2 hsz0 hsz1 ⊢
      obtain ⟨fb, hfb'⟩ : ∃ fb, w0.heap.size + 1 = fb := ⟨_, rfl⟩
      obtain ⟨rb, hrb'⟩ : ∃ rb, w0.heap.size + 2 = rb := ⟨_, rfl⟩
      have hfb : w0.heap.size ≤ fb := by omega
      have hrb : w0.heap.size ≤ rb := by omega
      have hcb : w0.heap.size ≤ cb := by omega
      have hob : w0.heap.size ≤ ob := by omega
      rw [hfb', hrb'] at hi2 ⊢
      clear hpre hlt ha hb hb1 hb2 hI0 hn1
      gi_wp2_with fail
      refine region_fpI (free_wide.inRound l) (by kernel_rfl) (by kernel_rfl) (region_any2 [some 26, some 27, some 28, some 29, some 30, some 31, some 32, some 33] [6, 7] [some (Value.func (.func 200) #[] #[.pointer (some ⟨ob, 0, none⟩)]), some (Value.int .i64 (a : Int)), some (Value.int .i64 (b : Int)), some (Value.func (.func g) #[] caps), some (Value.int .i64 (a : Int)), some (Value.int .i64 (b : Int)), some (Value.int .i64 (val i k)), some (Value.tuple #[])]
        (fun _ _ _ => True) (fun _ _ => True) (fun L f W => Blk W fb #[Value.func (.func g) #[] caps] 66 ∧ Blk W cb #[Value.func (.func 200) #[] #[.pointer (some ⟨ob, 0, none⟩)]] 169 ∧ Blk W ob #[Value.int .i64 (n : Int), Value.int .i64 (n : Int), Value.slice (some y) N c] 78 ∧ Blk W rb #[.int .i64 0, .int .i64 0, .slice none 0 0] 78 ∧ (L 7 = false → LI w0.heap.size W (some y) c (chgL n val zs pre)) ∧ (L 7 = true → LI w0.heap.size W (some y) c (chgL n val zs (pre ++ [(i, k)]))) ∧ (L 6 = false → J pre W) ∧ (L 6 = true → J (pre ++ [(i, k)]) W) ∧ Eff (fun q => P q ∨ q = y.block) Wb W)
        (by kernel_rfl) (by kernel_rfl) (by kernel_rfl) (by kernel_rfl) (fun _ => trivial) (fun _ _ _ _ _ _ => trivial) (fun L L' f f' W h hs => by have q6 := (h 6 (by decide)).1; have q7 := (h 7 (by decide)).1; (try dsimp only at hs ⊢); rw [← q6, ← q7]; exact hs) ⟨hi2.fn.drew, hi2.clo.drew, hi2.out.drew, hi2.res.drew, fun _ => hi2.li.keep (upD (upR _)), fun h => (Bool.false_ne_true h).elim, fun _ => hJ _ _ _ hi2.j ((upD (upR Wb)).mono hi2.eff.size), fun h => (Bool.false_ne_true h).elim, Eff.of (upD (upR _))⟩ ?_ ?_)
      · intro i hi b' L f W hSW hL hdep hsh he hsv hsl hFF K hK1 hK2
        replace hi : i < 8 := hi
        have hcs : i = 0 ∨ i = 1 ∨ i = 2 ∨ i = 3 ∨ i = 4 ∨ i = 5 ∨ i = 6 ∨ i = 7 := by omega
        clear hi
        rcases hcs with rfl | rfl | rfl | rfl | rfl | rfl | rfl | rfl
        · refine wpOpS_go rfl rfl ?_
          have t8 : b'.tmps[8]?.getD undef = Value.pointer (some ⟨cb, 0, none⟩) := he 8 (by kernel_rfl)
          obtain ⟨s0, s1, s2, s3, s4, s5, s6, s7, s8⟩ := hSW
          have c0 := s1.cell
          have HK := Lib.hid hK1
          clear hK1 hK2 hdep hsh he hsv hsl hFF hL
          clear s0 s1 s2 s3 s4 s5 s6 s7 s8
          go_simp
          exact HK.out rfl _ (fp_mk rfl rfl trivial)
        · refine wpOpS_go rfl rfl ?_
          have t9 : b'.tmps[9]?.getD undef = Value.int .i64 (a : Int) := he 9 (by kernel_rfl)
          have HK := Lib.hid hK1
          clear hK1 hK2 hdep hsh he hsv hsl hFF hL
          clear hSW
          go_simp
          exact HK.out rfl _ (fp_mk rfl rfl trivial)
        · refine wpOpS_go rfl rfl ?_
          have t10 : b'.tmps[10]?.getD undef = Value.int .i64 (b : Int) := he 10 (by kernel_rfl)
          have HK := Lib.hid hK1
          clear hK1 hK2 hdep hsh he hsv hsl hFF hL
          clear hSW
          go_simp
          exact HK.out rfl _ (fp_mk rfl rfl trivial)
        · refine wpOpS_go rfl rfl ?_
          have t5 : b'.tmps[5]?.getD undef = Value.pointer (some ⟨fb, 0, none⟩) := he 5 (by kernel_rfl)
          obtain ⟨s0, s1, s2, s3, s4, s5, s6, s7, s8⟩ := hSW
          have c0 := s0.cell
          have HK := Lib.hid hK1
          clear hK1 hK2 hdep hsh he hsv hsl hFF hL
          clear s0 s1 s2 s3 s4 s5 s6 s7 s8
          go_simp
          exact HK.out rfl _ (fp_mk rfl rfl trivial)
        · refine wpOpS_go rfl rfl ?_
          have t9 : b'.tmps[9]?.getD undef = Value.int .i64 (a : Int) := he 9 (by kernel_rfl)
          have HK := Lib.hid hK1
          clear hK1 hK2 hdep hsh he hsv hsl hFF hL
          clear hSW
          go_simp
          exact HK.out rfl _ (fp_mk rfl rfl trivial)
        · refine wpOpS_go rfl rfl ?_
          have t10 : b'.tmps[10]?.getD undef = Value.int .i64 (b : Int) := he 10 (by kernel_rfl)
          have HK := Lib.hid hK1
          clear hK1 hK2 hdep hsh he hsv hsl hFF hL
          clear hSW
          go_simp
          exact HK.out rfl _ (fp_mk rfl rfl trivial)
        · refine wpOpS_go rfl rfl ?_
          have t29 : b'.tmps[29]?.getD undef = Value.func (.func g) #[] caps := hsv 3 29 _ (by kernel_rfl) (by kernel_rfl) rfl
          have t30 : b'.tmps[30]?.getD undef = Value.int .i64 (a : Int) := hsv 4 30 _ (by kernel_rfl) (by kernel_rfl) rfl
          have t31 : b'.tmps[31]?.getD undef = Value.int .i64 (b : Int) := hsv 5 31 _ (by kernel_rfl) (by kernel_rfl) rfl
          obtain ⟨s0, s1, s2, s3, s4, s5, s6, s7, s8⟩ := hSW
          have hj := s6 hL
          have h7 := hsh 7 (by kernel_rfl)
          have hsz : w0.heap.size ≤ W.heap.size := Nat.le_trans hwb s8.size
          have hx := HOP.out pre i k W hik hkn hj hsz
          rw [HA.out, HC.out] at hx
          have HK := Lib.hid hK2
          clear hK1 hK2 hdep hsh he hsv hsl hFF
          go_simp
          refine hx.mono ?_
          rintro e w6 ⟨rfl, hj', hE⟩
          have hk : ∀ {p : Nat} {cs : Array Value} {t : TypeId}, w0.heap.size ≤ p → Blk W p cs t → Blk w6 p cs t := fun hb h => hE.blk h (fun h => by have := hP _ h; omega)
          have hl6 : ∀ {l}, LI w0.heap.size W (some y) c l → LI w0.heap.size w6 (some y) c l := fun h => h.same fun x hx hn => hE.block _ (by obtain ⟨cs, q, hc⟩ := h.wj.ty x hx hn; exact (Array.getElem?_eq_some_iff.1 hc).1) (fun hp => by have := hP _ hp; have := h.mi.lo x hx hn; omega)
          exact HK.out _ _ (fp_mk rfl rfl trivial) trivial ⟨hk hfb s0, hk hcb s1, hk hob s2, hk hrb s3, fun h => hl6 (s4 h), fun h => hl6 (s5 h), fun h => absurd h (by rw [updF_same]; decide), fun _ => hj', s8.trans hE (fun _ _ h => .inl h)⟩
        · refine wpOpS_go rfl rfl ?_
          have t26 : b'.tmps[26]?.getD undef = Value.func (.func 200) #[] #[.pointer (some ⟨ob, 0, none⟩)] := hsv 0 26 _ (by kernel_rfl) (by kernel_rfl) rfl
          have t27 : b'.tmps[27]?.getD undef = Value.int .i64 (a : Int) := hsv 1 27 _ (by kernel_rfl) (by kernel_rfl) rfl
          have t28 : b'.tmps[28]?.getD undef = Value.int .i64 (b : Int) := hsv 2 28 _ (by kernel_rfl) (by kernel_rfl) rfl
          have t32 : b'.tmps[32]?.getD undef = Value.int .i64 (val i k) := hsv 6 32 _ (by kernel_rfl) (by kernel_rfl) rfl
          obtain ⟨s0, s1, s2, s3, s4, s5, s6, s7, s8⟩ := hSW
          have hli := s4 hL
          have l6 := hdep 6 (by kernel_rfl)
          have hA := chset_is s2 hli a b (by rw [chgL_len]; omega) (by rw [chgL_len]; omega) (by rw [chgL_len]; exact hlen) (val i k) (h64 i k)
          have HK := Lib.hid hK2
          clear hK1 hK2 hdep hsh he hsv hsl hFF
          go_simp
          refine hA.mono ?_
          rintro e w6 ⟨rfl, hli6, hE⟩
          have hty := hli.wj.ty y rfl (by rw [chgL_len]; omega)
          have hlo := hli.mi.lo y rfl (by rw [chgL_len]; omega)
          have hb0 : Below w0.heap.size W w6 := ⟨hE.os, hE.tape, hE.output, hE.size, fun q hq => hE.block q (by have := hwb; have := s8.size; omega) (fun e => by omega)⟩
          exact HK.out _ _ (fp_mk rfl rfl trivial) trivial ⟨hE.blk s0 (blk_ity s0 hty (by decide)), hE.blk s1 (blk_ity s1 hty (by decide)), hE.blk s2 (blk_ity s2 hty (by decide)), hE.blk s3 (blk_ity s3 hty (by decide)), fun h => absurd h (by rw [updF_same]; decide), fun _ => by rw [chgL_snoc]; unfold setP; dsimp only; rw [HA.out, HC.out]; exact hli6, fun h => absurd (show L 6 = false from h) (by rw [l6]; decide), fun _ => hJ _ _ _ (s7 l6) hb0, s8.trans hE (fun _ _ h => .inr h)⟩
      · intro f W hf L hL hS
        obtain ⟨s0, s1, s2, s3, s4, s5, s6, s7, s8⟩ := (hS : _ ∧ _ ∧ _ ∧ _ ∧ _ ∧ _ ∧ _ ∧ _ ∧ _)
        replace s5 := s5 (hL 7 (by decide))
        replace s7 := s7 (hL 6 (by decide))
        have e0 : f 0 = Value.func (.func 200) #[] #[.pointer (some ⟨ob, 0, none⟩)] := (hf 0 (by decide)).1 _ rfl
        have e1 : f 1 = Value.int .i64 (a : Int) := (hf 1 (by decide)).1 _ rfl
        have e2 : f 2 = Value.int .i64 (b : Int) := (hf 2 (by decide)).1 _ rfl
        have e3 : f 3 = Value.func (.func g) #[] caps := (hf 3 (by decide)).1 _ rfl
        have e4 : f 4 = Value.int .i64 (a : Int) := (hf 4 (by decide)).1 _ rfl
        have e5 : f 5 = Value.int .i64 (b : Int) := (hf 5 (by decide)).1 _ rfl
        have e6 : f 6 = Value.int .i64 (val i k) := (hf 6 (by decide)).1 _ rfl
        have e7 : f 7 = Value.tuple #[] := (hf 7 (by decide)).1 _ rfl
        clear hf hL s4 s6
        simp only [puts2, Act.put, e0, e1, e2, e3, e4, e5, e6, e7]
        try simp only [List.setIfInBounds_toArray, List.set_cons_zero, List.set_cons_succ]
        clear e0 e1 e2 e3 e4 e5 e6 e7
        gi_wp2_with fail
        refine ⟨⟨s8.size, fun q o hq ho hc => ?_⟩, ⟨s8.os, s8.tape, s8.output, s8.size, fun q hq hn => ?_⟩, ?_⟩
        · refine (s8.block q (Array.getElem?_eq_some_iff.1 ho).1 (fun h => ?_)).trans ho
          rcases h with h | h
          · have := hP _ h; omega
          · obtain ⟨cs, z, hh⟩ := hi2.li.wj.ty y rfl (by rw [chgL_len]; omega)
            rw [← h, ho] at hh; cases hh; cases hc
        · refine s8.block q (by have := hi2.sz; omega) (fun h => hn ?_)
          rcases h with h | h
          · exact .inl h
          · exact .inr ⟨by omega, by omega, by omega⟩
        · show ChgI w0 P rb ob cb fb n1 n N g caps y c val zs J (List.map _ (_ ++ _)) _
          rw [List.map_append, HPRE.out]
          refine ⟨s0, s3, s2, s1, s5, s7, hi2.eff.trans s8 (fun q hq h => ?_), by have := s8.size; have := hi2.sz; omega⟩
          rcases h with h | h
          · exact h
          · omega
    case done =>
      rintro D ys W hD hys hi hK
      have hi' : ChgI w0 P (w0.heap.size + 2) ob cb (w0.heap.size + 1) W0.heap.size n N g caps y c val zs J (prU n d n) W := by rw [← hys]; exact hi
      clear hi
      have g7 := hi'.out
      have g6 := hi'.res
      go_wp2_with first | ((with_reducible refine at_dst (N := 34) rfl ?_); refine ev_load rfl 78 _ rfl g7 0 rfl [.int .i64 n, .int .i64 n, .slice (some y) N c] rfl Tryz.underlying78 rfl (by kernel_rfl) ?_) | ((with_reducible refine at_st (p := 6) (q := 34) rfl ?_); refine ev_store rfl 78 _ _ rfl rfl g6 0 rfl rfl [.int .i64 n, .int .i64 n, .slice (some y) N c] rfl (by kernel_rfl) rfl rfl #[.int .i64 n, .int .i64 n, .slice (some y) N c] rfl ?_; intro w9 g9 ef9 hz9)
      have hKD : w9.heap[D]? = some (.deferred (some [])) := (ef9.block D (Array.getElem?_eq_some_iff.1 hK).1 (fun e => by
        have := (show W.heap[w0.heap.size + 2]? = _ from g6)
        rw [← e, hK] at this
        cases this)).trans hK
      have hKC := kc_grown (grownBy_putObj' w9 D (.deferred none)) (fun r e => by cases e; exact ⟨_, hKD, rfl⟩)
      have hb9 : Below w0.heap.size W w9 := ⟨ef9.os, ef9.tape, ef9.output, ef9.size, fun k hk => ef9.block k (by have := hi'.eff.size; omega) (fun e => by omega)⟩
      have hbf := hb9.trans (belowK_b (n₀ := w0.heap.size) (w := w0) (Nat.le_refl _) _ D _ (.deferred none) (by have := HW0.out.size; omega) hKD rfl rfl)
      have hE := hi'.eff
      have hli9 := (hi'.li.eff ef9 (fun k hk ht => by subst hk; exact absurd (ht.inj g6.ty) (by decide))).kc hKC
      refine ⟨by simp, .inl ⟨_, _, rfl, run_takeDeferred hKD, ?_⟩⟩
      refine ⟨.agg #[.int .i64 n, .int .i64 n, .slice (some y) N c], results_cell_row rfl _ _ _ 78 #[.int .i64 n, .int .i64 n, .slice (some y) N c] (0, 0) _ rfl (g9.kc hKC) Tryz.underlying78 rfl (by kernel_rfl), _, rfl, ?_, ?_, ?_⟩
      · exact ⟨⟨some y, c, by dsimp only; rw [chgL_len, hlen], hli9⟩, by unfold I64; dsimp only; omega, by unfold I64; dsimp only; omega⟩
      · exact hJ _ _ _ hi'.j hbf
      · exact ⟨hbf.os.trans hE.os, hbf.tape.trans hE.tape, hbf.output.trans hE.output, Nat.le_trans hE.size hbf.size, fun k hk hn => (hbf.block k hk).trans (hE.block k hk hn)⟩
    case stop =>
      rintro D c pre W _ _ h _
      exact h.elim
    
end Go.Proofs.YtnofoommindocaaGreat.Base
