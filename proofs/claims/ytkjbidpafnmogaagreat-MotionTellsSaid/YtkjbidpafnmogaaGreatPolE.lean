/- poly.Terms. -/
import Derived.Test.YtkjbidpafnmogaaGreatPolD
namespace Go.Proofs.YtkjbidpafnmogaaGreat.Base
open Go.RowKit Go.Shelf Go.Deep
set_option linter.unusedVariables false
set_option linter.unusedSimpArgs false
attribute [local go_sem] Oper.semAt_some

set_option maxHeartbeats 8000000 in
set_option maxRecDepth 100000 in
theorem Terms_is {w0 : World} {b : Nat} {c0 : Bool} (hU : UP w0 b c0) {m : Mt} {a : Option Addr} {k : Nat} (hl : ML b w0 a k m.v) (ok : okMt m) (sq : m.r = m.c) (n : Nat) (hn : n ≤ 24) :
    Calls Tryz.prog 14 #[.pointer (some ⟨b, 0, none⟩), .agg #[.int .i64 m.r, .int .i64 m.c, .slice a m.v.length k], .int .i64 n] w0 fun e w' => ∃ v, e = .returned (.tuple #[v, .int .i64 0]) ∧ OMs w0.heap.size w' v (termsL m (n + 1)) ∧ UP w' b (c0 || (termM m n).2) ∧ But b w0 w' := by
  have hSQ := fun w => square_is m a k w
  rw [decide_eq_true (show sqM m from ⟨ok, sq⟩)] at hSQ
  rw [← sq] at hSQ ⊢
  have SQ := Lib.hid sq
  clear sq
  have hnl : ¬ (n : Int) < 0 := by omega
  have hnl2 : ¬ (25 : Int) ≤ (n : Int) := by omega
  refine (callsIn_wide (n := 3)).1 ?_
  refine callsIn_of_wp_marks Tryz.func14 rfl trivial ?_ rfl
  simp only [Tryz.ntmps14, List.size_toArray, List.length_cons, List.length_nil, Nat.reduceAdd, Nat.reduceSub, Array.replicate_succ, Array.replicate_zero, List.push_toArray, List.append_toArray, List.nil_append, List.cons_append]
  have hblt := hU.lt
  have xlt : ∀ x, a = some x → x.block < w0.heap.size := fun x hx => by
    have hv0 : 0 < m.v.length := by
      obtain ⟨r', c', e1, e2, h1, _, h2, _, h5⟩ := ok.nat
      rw [h5]; exact Nat.mul_pos h1 h2
    obtain ⟨y, hy, hc⟩ := hl.mi.cell 0 hv0
    rw [hx] at hy; cases hy
    have := World.block_lt_of_cell? w0 _ hc
    rwa [add_block] at this
  obtain ⟨nv, hnv⟩ : ∃ nv, m.v.length = nv := ⟨_, rfl⟩
  rw [hnv] at hSQ ⊢
  have HNV := Lib.hid hnv
  clear hnv
  gi_wp2_with fail
  have hB := below_allocs w0 [Obj.cells #[Value.int .i64 m.r, .int .i64 m.r, .slice a nv k] 24, Obj.cells #[Value.int .i64 n] 3]
  have g0 := blk_at w0 [Obj.cells #[Value.int .i64 m.r, .int .i64 m.r, .slice a nv k] 24, Obj.cells #[Value.int .i64 n] 3] 0 _ _ rfl
  have g1 := blk_at w0 [Obj.cells #[Value.int .i64 m.r, .int .i64 m.r, .slice a nv k] 24, Obj.cells #[Value.int .i64 n] 3] 1 _ _ rfl
  simp only [List.foldl_cons, List.foldl_nil, Nat.add_zero] at hB g0 g1
  obtain ⟨hB, hsz⟩ := hB
  have hU1 := hU.keep hB
  generalize (w0.alloc (Obj.cells #[Value.int .i64 m.r, .int .i64 m.r, .slice a nv k] 24)).alloc (Obj.cells #[Value.int .i64 n] 3) = w1 at *
  refine ⟨trivial, ?_⟩
  refine (callsIn_wide.2 (pnone_ok hU1)).mono ?_
  rintro e w2 ⟨rfl, hw⟩
  rw [← hw]
  clear hw
  have d0 := g0.cell
  have d1 := g1.cell
  have HSQ := Lib.hid hSQ
  clear hSQ
  gi_wp2_with fail
  refine ⟨trivial, ?_⟩
  refine (callsIn_wide.2 (HSQ.out _)).mono ?_
  rintro e w2 ⟨rfl, hK⟩
  replace hB := more hB hK
  replace g0 := g0.keep hK
  replace g1 := g1.keep hK
  replace hU1 := hU1.keep hK
  have hsz2 := hK.size
  clear hK HSQ d0 d1
  have d0 := g0.cell
  have d1 := g1.cell
  have lt0 : w0.heap.size < w2.heap.size := g0.lt
  have lt1 : w0.heap.size + 1 < w2.heap.size := g1.lt
  gi_wp2_with fail
  obtain ⟨ob, hob⟩ : ∃ ob, w2.heap.size = ob := ⟨_, rfl⟩
  refine ⟨trivial, ?_⟩
  refine (callsIn_wide.2 (pterms_is m.r m.r a nv k (some ⟨b, 0, none⟩) _)).mono ?_
  rintro e W0 ⟨rfl, hW0⟩
  have hB3 : Below w2.heap.size w2 W0 := by rw [← hW0]; exact upA (upA (upA (upR w2) _) _) _
  have g2 : Blk W0 ob #[.slice none 0 0] 31 := by rw [← hW0, ← hob]; exact ((Blk.new w2 _ _).alloc _).alloc _
  have g3 : Blk W0 (ob + 1) #[.pointer (some ⟨b, 0, none⟩)] 25 := by
    rw [← hW0, ← hob]
    have := (Blk.new (w2.alloc (.cells #[.slice none 0 0] 31)) #[.pointer (some ⟨b, 0, none⟩)] 25).alloc (.cells #[.int .i64 m.r, .int .i64 m.r, .slice a nv k] 24)
    rw [World.size_alloc] at this; exact this
  have g4 : Blk W0 (ob + 2) #[.int .i64 m.r, .int .i64 m.r, .slice a nv k] 24 := by
    rw [← hW0, ← hob]
    have := Blk.new ((w2.alloc (.cells #[.slice none 0 0] 31)).alloc (.cells #[.pointer (some ⟨b, 0, none⟩)] 25)) #[.int .i64 m.r, .int .i64 m.r, .slice a nv k] 24
    rw [World.size_alloc, World.size_alloc] at this; exact this
  replace hB := more hB hB3
  replace g0 := g0.keep hB3
  replace g1 := g1.keep hB3
  replace hU1 := hU1.keep hB3
  have hsz0 : ob + 3 ≤ W0.heap.size := by rw [← hW0, ← hob]; simp
  have hsz9 : W0.heap.size ≤ ob + 3 := by rw [← hW0, ← hob]; simp
  have hob2 : w0.heap.size + 2 ≤ ob := by omega
  simp only [World.size_alloc]
  rw [hob]
  clear hW0 hB3 d0 d1 lt0 lt1 hob
  have hsb : w0.heap.size ≤ W0.heap.size := hB.size
  have hl0 : ML b W0 a k m.v := hl.keep hB
  have hab0 : Blk W0 (ob + 1 + 1) #[.int .i64 m.r, .int .i64 m.c, .slice a m.v.length k] 24 := by rw [← SQ.out, HNV.out]; exact g4
  have hseq := terms1_in (fun j => j = ob) W0.heap.size (Nat.le_refl _) hU1 g3 hab0 hl0 ok SQ.out ⟨by omega, by omega⟩ ⟨by omega, by omega⟩ ⟨by omega, by omega⟩ (fun x hx => by have := xlt x hx; exact ⟨by omega, by omega⟩) (n + 1) (by omega)
  have hI0 : ∀ W, Below W0.heap.size W0 W → ∀ s W', StT W s W' → Below W.heap.size W W' → TcI w0 b W0.heap.size ob n m s W' := fun W hW s W' hs hW' => by
    have hB2 := more hB (more hW hW')
    refine ⟨⟨.slice none 0 0, g2.keep (more hW hW'), by rw [hs.1]; exact OMs.nil _ _, fun g hg => (by cases hg)⟩, Nat.le_trans hW.size hs.2.1, hs.2.2, g1.keep (more hW hW'), Eff.of hB2, by rw [hs.1]; exact Nat.zero_le _, Nat.le_trans hW.size hW'.size⟩
  have HTO := Lib.hid (term_ok ok SQ.out)
  have hm64 : I64 m.r := ⟨by have := ok.1.1; omega, by have := ok.1.2; omega⟩
  clear g0 g1 g2 g3 g4 hab0 hl0 hl hU1 hU xlt
  gi_wp2_with fail
  refine wpIn_rangeFunc_x rfl (by omega) (gf := 93) (lb := #[.pointer (some ⟨ob + 1 + 1, 0, none⟩), .pointer (some ⟨ob + 1, 0, none⟩)]) rfl trivial (enters_of Tryz.func93 (by kernel_rfl) rfl)
    hseq (fun s X Y h => h.oth) (fun h k => h.trans k) (fun s W l o o' hl ho hc _ => KpT.putObj hl ho hc) (fun x => rfl)
    (TcI w0 b W0.heap.size ob n m) (fun c W => c = Code.exit 1 ∧ TxI w0 b W0.heap.size ob n c0 m W)
    (TcI.own _ _ _ _ _ _ _ hsb) (fun s X Y h k => h.step hblt hob2 (by omega) k) (fun s X h => Nat.lt_succ_of_le h.le) (fun c s X Y row hs hg hr => ⟨hs.1, TxI.own _ _ _ _ _ _ _ _ hsb () X Y row hs.2 hg hr⟩) (fun c X Y h hb => ⟨h.1, h.2.keep hb⟩) hI0
    (fun s x a' W => ∃ bx a1 k1, TaI b c0 W0.heap.size m s bx a1 k1 W ∧ a' = { tmps := #[.pointer (some ⟨b, 0, none⟩), .agg #[.int .i64 m.r, .int .i64 m.r, .slice a nv k], .int .i64 n, undef, .pointer (some ⟨w0.heap.size, 0, none⟩), .pointer (some ⟨w0.heap.size + 1, 0, none⟩), .slice none 0 0, .int .i64 0, .pointer (some ⟨ob, 0, none⟩), .pointer (some ⟨bx, 0, none⟩), .bool false, .pointer (some ⟨b, 0, none⟩), .bool false, .bool false, .agg #[.int .i64 m.r, .int .i64 m.r, .slice a nv k], .bool true, .bool false, .bool (decide ((n : Int) < 0) || decide (25 ≤ (n : Int))), .int .i64 n, .bool (decide ((n : Int) < 0)), .bool (decide ((n : Int) < 0)), .int .i64 n, .bool (decide (25 ≤ (n : Int))), .bool (decide ((n : Int) < 0) || decide (25 ≤ (n : Int))), .pointer (some ⟨b, 0, none⟩), .agg #[.int .i64 m.r, .int .i64 m.r, .slice a nv k], .func (.func 93) #[] #[.pointer (some ⟨ob + 1 + 1, 0, none⟩), .pointer (some ⟨ob + 1, 0, none⟩)], x, undef, undef, undef, undef, undef, undef, undef, undef, undef], defers := [] })
    (fun s x a' _ X Y row hs hg hr => by obtain ⟨bx, a1, k1, h1, h2⟩ := hs; exact ⟨bx, a1, k1, h1.kc (kc_grown hg (fun r e => (hr r e).2)), h2⟩)
    ?assign ?body ?stop
  case assign =>
    rintro l s x W K hi ht hK
    obtain ⟨hmo, hup⟩ := ht
    obtain ⟨a1, k1, rfl, hLI⟩ := hmo.ex
    obtain ⟨hok, htr, htc⟩ := HTO.out s.m
    rw [htr, htc, ← SQ.out] at hK ⊢
    have hszW := hi.sz
    have HK := Lib.hid hK
    have HI := Lib.hid hi
    clear hK hi
    obtain ⟨nt, hnt⟩ : ∃ nt, (termM m s.m).1.v.length = nt := ⟨_, rfl⟩
    have HNT := Lib.hid hnt
    rw [hnt] at HK ⊢
    clear hnt hmo
    gi_wp2
    have hBA := upA (upR W) (Obj.cells #[Value.int .i64 m.r, .int .i64 m.r, .slice a1 nt k1] 24)
    exact HK.out _ _ ((KeepsOthers.alloc _ _).from _) (KpT.of hBA hszW) (HI.out.keep hsb hBA) ⟨W.heap.size, a1, k1, ⟨by rw [HNT.out]; exact Blk.new _ _ _, hLI.keep hBA, hup.keep hBA⟩, rfl⟩
  case body =>
    rintro l s x a' W hl2 ⟨r0, hr0⟩ hi ⟨bx, a1, k1, hta, rfl⟩
    obtain ⟨ov, hov, hOM, hvt⟩ := hi.out
    obtain ⟨hok, htr, htc⟩ := HTO.out s.m
    have htc' := htc.trans SQ.out.symm
    have hszW := hi.sz
    have hle := hi.le
    have hbx := hta.box
    obtain ⟨nt, hnt⟩ : ∃ nt, (termM m s.m).1.v.length = nt := ⟨_, rfl⟩
    rw [hnt] at hbx
    have hBA := upA (upR W) (Obj.cells #[Value.int .i64 m.r, .int .i64 m.r, .slice a1 nt k1] 24)
    have hO4 := hOM.keep hBA
    have hL4 := hta.li.keep hBA
    have hb4 := Blk.new W #[Value.int .i64 m.r, .int .i64 m.r, .slice a1 nt k1] 24
    have hW4 : W0.heap.size ≤ (W.alloc (Obj.cells #[Value.int .i64 m.r, .int .i64 m.r, .slice a1 nt k1] 24)).heap.size := Nat.le_trans hszW hBA.size
    have h64a : I64 (termM m s.m).1.r := by rw [htr]; exact hm64
    have h64b : I64 (termM m s.m).1.c := by rw [htc']; exact hm64
    have hlen : (termsL m s.m).length ≤ 1000 := by rw [termsL_len]; omega
    have HTR := Lib.hid htr
    have HTC := Lib.hid htc'
    have HNT := Lib.hid hnt
    have HEND := Lib.hid (fun (w5 : World) (v' : Value) h5 hg hown => tc_end (w5 := w5) (v' := v') (o := Obj.cells #[Value.int .i64 m.r, .int .i64 m.r, .slice a1 nt k1] 24) hblt hob2 (by omega) hi hov hOM hvt hg h5 hown)
    have HTA := Lib.hid hta
    have o0 := hov.cell
    have o1 := hov.frozen
    have x0 := hbx.cell
    clear htr htc htc' hnt hi hta hok hOM hbx hI0 hseq
    gi_wp2_with (gi_at_builtin; refine app_mat_in (B := W0.heap.size) (v := ov) (m := (termM m s.m).1) (aH := a1) (cH := k1) rfl _ _ rfl rfl hO4 hW4 W.heap.size rfl m.r m.r nt HTR.out HTC.out HNT.out hb4 hL4 h64a h64b hlen ?_)
    intro u' w5 hO5 hg5 hown hu5
    rw [termsL_len] at hu5
    obtain ⟨g5, c5, rfl⟩ := hu5
    obtain ⟨f0, f1, f2, f3, f4, f5, f6, f7, f8⟩ := HEND.out w5 _ hO5 hg5 (fun k hk => by rw [World.size_alloc]; exact hown k hk)
    have q0 := f0.cell
    have q1 := f0.frozen
    have q2 := f1.cell
    have qne : ¬ (w0.heap.size + 1 = ob) := by omega
    have F2 := Lib.hid f2
    have F3 := Lib.hid f3
    have F4 := Lib.hid f4
    have F5 := Lib.hid f5
    have F6 := Lib.hid f6
    have F7 := Lib.hid f7
    have F8 := Lib.hid (f8 _ HTA.out.up)
    clear f0 f1 f2 f3 f4 f5 f6 f7 f8 hO5 hg5 hown HEND hO4 hL4 hb4 o0 o1 x0 hBA hW4 HTA hvt hov hlen h64a h64b
    by_cases hlt : s.m < n
    · have h1 : ¬ (n : Int) < (s.m : Int) + 1 := by omega
      have F9 := Lib.hid (F4.out hlt)
      clear F4
      gi_wp2_with fail
      exact ⟨F2.out, F3.out, F9.out⟩
    · have h1 : (n : Int) < (s.m : Int) + 1 := by omega
      have hsn : s.m = n := by omega
      have F9 : Hid (TxI w0 b W0.heap.size ob n c0 m (w5.setCell ⟨ob, 0, none⟩ (.slice (some ⟨g5, 0, none⟩) (s.m + 1) c5))) := Lib.hid ⟨⟨_, F5.out, by have := F6.out; rw [hsn] at this ⊢; exact this⟩, by have := F8.out; rw [hsn] at this ⊢; exact this, F7.out⟩
      clear F4 hsn hlt
      gi_wp2_with fail
      exact ⟨F2.out, rfl, F9.out⟩
  case stop =>
    rintro D c W hD ⟨rfl, hT⟩ hK
    obtain ⟨ov, hov, hO⟩ := hT.out
    have o0 := hov.cell
    have HT := Lib.hid hT
    clear hT hov
    gi_wp2_with fail
    have hKC := kc_grown (grownBy_putObj' W D (.deferred none)) (fun r e => by cases e; exact ⟨_, hK, rfl⟩)
    refine ⟨by simp, .inl ⟨_, _, rfl, run_takeDeferred hK, ?_⟩⟩
    obtain ⟨mm, hm⟩ := HT.out.up
    refine ⟨.tuple #[ov, .int .i64 0], by simp [results, Tryz.f14, go_sem], ov, rfl, (hO.kc hKC).mono hsb, ⟨mm, hm.kc hKC⟩, ?_⟩
    have hE := HT.out.eff
    have hb2 := belowK_b (w := w0) (Nat.le_refl _) W D _ (.deferred none) (by omega) hK rfl rfl
    exact ⟨hb2.os.trans hE.os, hb2.tape.trans hE.tape, hb2.output.trans hE.output, Nat.le_trans hE.size hb2.size, fun k hk hn => (hb2.block k hk).trans (hE.block k hk hn)⟩

end Go.Proofs.YtkjbidpafnmogaaGreat.Base
