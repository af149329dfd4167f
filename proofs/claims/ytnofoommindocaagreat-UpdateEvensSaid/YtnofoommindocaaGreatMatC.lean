/- mat.made: a matrix of what each place has. -/
import Derived.Test.YtnofoommindocaaGreatMatB
namespace Go.Proofs.YtnofoommindocaaGreat.Base
open Go.RowKit Go.Shelf Go.Deep
set_option linter.unusedVariables false
set_option linter.unusedSimpArgs false
attribute [local go_sem] Oper.semAt_some

theorem places_is (r c : Nat) (w : World) :
    Calls Tryz.prog 226 #[.int .i64 r, .int .i64 c] w fun e w' => e = .returned (.func (.func 241) #[] #[.pointer (some ⟨w.heap.size, 0, none⟩), .pointer (some ⟨w.heap.size + 1, 0, none⟩)]) ∧ (w.alloc (.cells #[.int .i64 r] 3)).alloc (.cells #[.int .i64 c] 3) = w' := by
  go_enter Tryz.func226, Tryz.ntmps226
  go_wp2
  go_ret
  exact ⟨rfl, rfl⟩
theorem places_stops (ex : Nat → Prop) (F : Fence) (hF : Base.Free F) (n : Nat) (hro : F.round = none) (hn : 1 ≤ n) (b1 b2 n₀ r c N : Nat) (hrc : (r : Int) * (c : Int) = (N : Int)) (hc : 1 ≤ c) (hN : N ≤ 1000) (hc2 : c ≤ 1000) (w : World)
    (hb1 : w.cell? ⟨b1, 0, none⟩ = some (.int .i64 r)) (hl1 : b1 < n₀ ∧ ¬ ex b1) (hb2 : w.cell? ⟨b2, 0, none⟩ = some (.int .i64 c)) (hl2 : b2 < n₀ ∧ ¬ ex b2) (hn0 : n₀ ≤ w.heap.size) :
    SeqStopsK F n Tryz.prog 241 #[.pointer (some ⟨b1, 0, none⟩), .pointer (some ⟨b2, 0, none⟩)] (fun x : Fin N => encP c x) (BelowX n₀ ex) (fun ys => ys = plL N) (fun pre => pre <+: plL N) N w := fun l J Jx W hW hJ _ hY h0 =>
  places1_in ex F hF n hro hn l b1 b2 n₀ r c N hrc hc hN hc2 J Jx hY (fun pre W' h => abides_drew hJ pre W' h) W ((hW.cell (p := ⟨b1, 0, none⟩) (Nat.lt_of_lt_of_le hl1.1 hn0)).trans hb1) hl1
    ((hW.cell (p := ⟨b2, 0, none⟩) (Nat.lt_of_lt_of_le hl2.1 hn0)).trans hb2) hl2 (Nat.le_trans hn0 hW.size) h0

/-- Within made: what has been collected. -/
structure MadeI (w0 : World) (P : Nat → Prop) (mb n1 r c : Nat) (g : FuncId) (caps : Array Value) (val : Nat → Int) (J : List Nat → World → Prop) (pre : List Nat) (W : World) : Prop where
  fn : Blk W w0.heap.size #[.func (.func g) #[] caps] 66
  res : Blk W (w0.heap.size + 1) #[.int .i64 0, .int .i64 0, .slice none 0 0] 78
  out : ∃ v, Blk W mb #[.int .i64 r, .int .i64 c, v] 78 ∧ W.ownsRow w0.heap.size 3 1 v pre.length (pre.map fun x => .int .i64 (val x)) ∧ (∀ k, v.ownBlock = some k → k < mb ∨ n1 ≤ k)
  j : J pre W
  eff : Eff P w0 W
  sz : n1 ≤ W.heap.size
theorem MadeI.own {β : Type} {w0 : World} {P : Nat → Prop} {mb n1 r c : Nat} {g : FuncId} {caps : Array Value} {val : Nat → Int} {J : List Nat → World → Prop} (hJ : ∀ pre W W', J pre W → Below w0.heap.size W W' → J pre W') (B : Nat) (hB : w0.heap.size ≤ B) (f : β → List Nat) :
    OwnFrom B (fun pre W => MadeI w0 P mb n1 r c g caps val J (f pre) W) := fun s X Y row hs hg hr => by
  have hk := kc_grown hg (fun r e => (hr r e).2)
  obtain ⟨v, h1, h2, h3⟩ := hs.out
  have hb : Below w0.heap.size X Y := ⟨hg.os, hg.tape, hg.output, hg.size, fun k hk => hg.block k (Nat.lt_of_lt_of_le hk hs.eff.size) (fun e => by have := (hr k e.symm).1; omega)⟩
  refine ⟨hs.fn.kc hk, hs.res.kc hk, ⟨v, h1.kc hk, ownsRow_kc h2 hk, h3⟩, hJ _ _ _ hs.j hb, ?_, Nat.le_trans hs.sz hg.size⟩
  exact ⟨hg.os.trans hs.eff.os, hg.tape.trans hs.eff.tape, hg.output.trans hs.eff.output, Nat.le_trans hs.eff.size hg.size, fun k hk hn => (hb.block k hk).trans (hs.eff.block k hk hn)⟩
theorem MadeI.keep {w0 W W' : World} {P : Nat → Prop} {mb n1 r c : Nat} {g : FuncId} {caps : Array Value} {val : Nat → Int} {J : List Nat → World → Prop} {pre : List Nat} (hJ : ∀ pre W W', J pre W → Below w0.heap.size W W' → J pre W') (h : MadeI w0 P mb n1 r c g caps val J pre W) (hK : Below W.heap.size W W') : MadeI w0 P mb n1 r c g caps val J pre W' := by
  obtain ⟨v, h1, h2, h3⟩ := h.out
  refine ⟨h.fn.keep hK, h.res.keep hK, ⟨v, h1.keep hK, ownsRow_keep h2 hK, h3⟩, hJ _ _ _ h.j (hK.mono h.eff.size), h.eff.trans (Eff.of (P := P) hK) (fun _ _ h => h), Nat.le_trans h.sz hK.size⟩

set_option maxHeartbeats 8000000 in
set_option maxRecDepth 100000 in
theorem made_is {w0 : World} (P : Nat → Prop) (hP : ∀ k, P k → k < w0.heap.size) (g : FuncId) (eg : ∀ args w, (callFunc g args).run Tryz.prog w = .ok (.enter g args) w) (caps : Array Value) (r c N : Nat) (hrc : r * c = N) (hr : 1 ≤ r ∧ r ≤ 12) (hc : 1 ≤ c ∧ c ≤ 12) (val : Nat → Int)
    (J : List Nat → World → Prop) (hJ : ∀ pre W W', J pre W → Below w0.heap.size W W' → J pre W')
    (hop : ∀ pre x W, x < N → J pre W → w0.heap.size ≤ W.heap.size → Calls Tryz.prog g (#[.int .i64 ((x / c : Nat) : Int), .int .i64 ((x % c : Nat) : Int)] ++ caps) W fun e w' => e = .returned (.int .i64 (val x)) ∧ J (pre ++ [x]) w' ∧ Eff P W w') (h0 : J [] w0) :
    Calls Tryz.prog 185 #[.int .i64 r, .int .i64 c, .func (.func g) #[] caps] w0 fun e w' => ∃ v, e = .returned (.agg #[.int .i64 r, .int .i64 c, v]) ∧ w'.ownsRow w0.heap.size 3 1 v N ((List.range N).map fun x => .int .i64 (val x)) ∧ J (List.range N) w' ∧ Eff P w0 w' := by
  have hrc' : (r : Int) * (c : Int) = (N : Int) := by rw [← hrc, Int.natCast_mul]
  have hN : N ≤ 144 := by rw [← hrc]; exact Nat.mul_le_mul hr.2 hc.2
  have hw : wrap64 (N : Int) = (N : Int) := by unfold wrap64; omega
  refine (callsIn_wide (n := 3)).1 ?_
  refine callsIn_of_wp_marks Tryz.func185 rfl trivial ?_ rfl
  simp only [Tryz.ntmps185, List.size_toArray, List.length_cons, List.length_nil, Nat.reduceAdd, Nat.reduceSub, Array.replicate_succ, Array.replicate_zero, List.push_toArray, List.append_toArray, List.nil_append, List.cons_append]
  obtain ⟨i0, hi, hz0, hz1, hz2⟩ : ∃ i, Tryz.prog.info? 3 = some i ∧ i.zero = some (.int .i64 0) ∧ i.size = 1 ∧ i.bytes = 8 := info_parts (by kernel_rfl)
  gi_wp2_with (gi_at_make; refine wpListIn_make_own _ rfl _ _ 22 rfl w0.heap.size 3 i0 (.int .i64 0) 1 Tryz.underlying22 hi hz0 hz1 .i64 .i64 _ N rfl rfl rfl (by rw [hz2]; omega) (by unfold maxLen; omega) (by simp; omega) ?_)
  intro w1 hrow hg1
  have hmlt := (hrow.lt _ rfl).2
  have hsz1 : w0.heap.size + 2 ≤ w1.heap.size := by have := hg1.size; simp at this; omega
  have hB1 : Below w0.heap.size w0 w1 := (upA (upA (upR w0) _) _).trans ((⟨hg1.os, hg1.tape, hg1.output, hg1.size, fun k hk => hg1.block k hk (by simp)⟩ : Below ((w0.alloc (.cells #[.func (.func g) #[] caps] 66)).alloc (.cells #[.int .i64 0, .int .i64 0, .slice none 0 0] 78)).heap.size _ w1).mono (by simp; omega))
  have hfb : Blk w1 w0.heap.size #[.func (.func g) #[] caps] 66 := ((Blk.new w0 _ _).alloc _).grown hg1 (by simp)
  have hrb : Blk w1 (w0.heap.size + 1) #[.int .i64 0, .int .i64 0, .slice none 0 0] 78 := by
    have := Blk.new (w0.alloc (.cells #[.func (.func g) #[] caps] 66)) #[.int .i64 0, .int .i64 0, .slice none 0 0] 78
    rw [World.size_alloc] at this
    exact this.grown hg1 (by simp)
  have hj1 := hJ _ _ _ h0 hB1
  have HROW := Lib.hid hrow
  have hcap : 0 < N := by rw [← hrc]; exact Nat.mul_pos (by omega) (by omega)
  clear hrow hg1
  simp only [World.size_alloc] at HROW hmlt
  gi_wp2_with fail
  refine ⟨trivial, ?_⟩
  refine (callsIn_wide.2 (places_is r c _)).mono ?_
  rintro e W0 ⟨rfl, hW0⟩
  obtain ⟨mb, hmb⟩ : ∃ mb, w1.heap.size = mb := ⟨_, rfl⟩
  have hsz0 : W0.heap.size ≤ mb + 3 := by rw [← hW0, ← hmb]; simp
  have hsz3 : mb + 3 ≤ W0.heap.size := by rw [← hW0, ← hmb]; simp
  have hB0 : Below w1.heap.size w1 W0 := by rw [← hW0]; exact upA (upA (upA (upR w1) _) _) _
  have hmB : Blk W0 mb #[.int .i64 r, .int .i64 c, .slice (some ⟨w0.heap.size + 1 + 1, 0, none⟩) 0 N] 78 := by rw [← hW0, ← hmb]; exact ((Blk.new w1 _ _).alloc _).alloc _
  have hb1 : W0.cell? ⟨mb + 1, 0, none⟩ = some (.int .i64 r) := by
    rw [← hW0, ← hmb]
    have := (Blk.new (w1.alloc (.cells #[.int .i64 r, .int .i64 c, .slice (some ⟨w0.heap.size + 1 + 1, 0, none⟩) 0 N] 78)) #[.int .i64 r] 3).alloc (.cells #[.int .i64 c] 3)
    rw [World.size_alloc] at this
    exact this.cell 0
  have hb2 : W0.cell? ⟨mb + 2, 0, none⟩ = some (.int .i64 c) := by
    rw [← hW0, ← hmb]
    have := Blk.new ((w1.alloc (.cells #[.int .i64 r, .int .i64 c, .slice (some ⟨w0.heap.size + 1 + 1, 0, none⟩) 0 N] 78)).alloc (.cells #[.int .i64 r] 3)) #[.int .i64 c] 3
    rw [World.size_alloc, World.size_alloc] at this
    exact this.cell 0
  have hrb0 := hrb.keep hB0
  have hI0 : MadeI w0 P mb W0.heap.size r c g caps val J [] W0 := ⟨hfb.keep hB0, hrb0, ⟨_, hmB, ownsRow_keep HROW.out hB0, fun k hk => by simp [Value.ownBlock] at hk; left; omega⟩, hJ _ _ _ hj1 (hB0.mono (by omega)), Eff.of (hB1.trans (hB0.mono (by omega))), Nat.le_refl _⟩
  rw [hmb] at hB0 hsz1
  simp only [World.size_alloc] at *
  rw [hmb]
  clear hW0 hfb hj1 hrb
  have HOP := Lib.hid hop
  have HH0 := Lib.hid h0
  have HI := Lib.hid (⟨hi, hz0, hz1, hz2⟩ : Tryz.prog.info? 3 = some i0 ∧ i0.zero = some (.int .i64 0) ∧ i0.size = 1 ∧ i0.bytes = 8)
  clear hop h0 hi hz0 hz1 hz2
  gi_wp2_with fail
  refine wpIn_rangeFunc_ownH rfl (by omega) (gf := 241) (lb := #[.pointer (some ⟨mb + 1, 0, none⟩), .pointer (some ⟨mb + 1 + 1, 0, none⟩)]) rfl trivial (enters_of Tryz.func241 (by kernel_rfl) rfl)
    (places_stops (fun k => P k ∨ (w0.heap.size ≤ k ∧ k ≠ mb + 1 ∧ k ≠ mb + 2)) Fence.wide free_wide (3 - 1) rfl (by omega) (mb + 1) (mb + 2) W0.heap.size r c N hrc' hc.1 (by omega) (by omega) W0 hb1 ⟨by omega, fun h => by rcases h with h | h; have := hP _ h; omega; exact h.2.1 rfl⟩ hb2 ⟨by omega, fun h => by rcases h with h | h; have := hP _ h; omega; exact h.2.2 rfl⟩ (Nat.le_refl _)) belowX_t (belowX_b (Nat.le_refl _)) (Below.refl _ _) (fun _ => rfl)
    (fun pre W => MadeI w0 P mb W0.heap.size r c g caps val J (pre.map fun x => x.1) W) (fun _ _ _ => False)
    (MadeI.own hJ _ (by omega) _) (fun _ _ _ _ _ hs _ _ => hs) hI0
    (fun x a' W => a' = { tmps := #[.int .i64 r, .int .i64 c, .func (.func g) #[] caps, undef, undef, .pointer (some ⟨w0.heap.size, 0, none⟩), .pointer (some ⟨w0.heap.size + 1, 0, none⟩), .pointer (some ⟨mb, 0, none⟩), .int .i64 ((x.1 / c : Nat) : Int), .int .i64 ((x.1 % c : Nat) : Int), .int .i64 r, .int .i64 c, .int .i64 r, .int .i64 c, .int .i64 N, .slice (some ⟨w0.heap.size + 1 + 1, 0, none⟩) 0 N, .agg #[.int .i64 r, .int .i64 c, .slice (some ⟨w0.heap.size + 1 + 1, 0, none⟩) 0 N], .int .i64 r, .int .i64 c, .func (.func 241) #[] #[.pointer (some ⟨mb + 1, 0, none⟩), .pointer (some ⟨mb + 1 + 1, 0, none⟩)], .int .i64 ((x.1 / c : Nat) : Int), .int .i64 ((x.1 % c : Nat) : Int), undef, undef, undef, undef, undef, undef, undef, undef, undef, undef], defers := [] })
    (fun x a' _ X Y row hs hg hr => hs)
    ?assign ?body ?done ?stop
  case assign =>
    rintro l pre x W K hi hK
    unfold encP at hK ⊢
    dsimp only at hK ⊢
    generalize ((x.1 / c : Nat)) = i at *
    generalize ((x.1 % c : Nat)) = j at *
    gi_wp2
    exact hK _ _ (KeepsFrom.refl _ _) (BelowX.refl _ _ _) hi rfl
  case body =>
    rintro l pre0 x0 a' Wb hl2 ⟨r0, hr0⟩ hi2 rfl hlt
    obtain ⟨x, hxN⟩ := x0
    dsimp only at hi2 ⊢
    have hln : (pre0.map fun x : Fin N => x.1).length ≤ 144 := by rw [List.length_map]; omega
    obtain ⟨pre, hpre⟩ : ∃ pre, (pre0.map fun x : Fin N => x.1) = pre := ⟨_, rfl⟩
    rw [hpre] at hi2 hln
    have HPRE := Lib.hid hpre
    clear hpre hlt
    obtain ⟨i, hxi⟩ : ∃ i, x / c = i := ⟨_, rfl⟩
    obtain ⟨j, hxj⟩ : ∃ j, x % c = j := ⟨_, rfl⟩
    rw [hxi, hxj]
    obtain ⟨n1, hn1⟩ : ∃ n1, W0.heap.size = n1 := ⟨_, rfl⟩
    rw [hn1] at hi2 hsz0 hsz3 ⊢
    obtain ⟨ov, hov, hrow, hlo2⟩ := hi2.out
    clear hb1 hb2 hI0 hrb0 hmB hB0 HROW hn1
    gi_wp2_with fail
    have HS0 : Blk Wb.drew (w0.heap.size + 1) #[.int .i64 0, .int .i64 0, .slice none 0 0] 78 ∧ Blk Wb.drew w0.heap.size #[.func (.func g) #[] caps] 66 ∧ ((fun _ : Nat => false) 9 = false → Blk Wb.drew mb #[.int .i64 r, .int .i64 c, ov] 78) ∧ ((fun _ : Nat => false) 9 = true → Blk Wb.drew mb #[.int .i64 r, .int .i64 c, (fun _ : Nat => undef) 7] 78) ∧ ((fun _ : Nat => false) 7 = false → Wb.drew.ownsRow w0.heap.size 3 1 ov pre.length (pre.map fun y => Value.int .i64 (val y))) ∧ ((fun _ : Nat => false) 7 = true → Wb.drew.ownsRow w0.heap.size 3 1 ((fun _ : Nat => undef) 7) (pre.length + 1) ((pre.map fun y => Value.int .i64 (val y)) ++ [.int .i64 (val x)])) ∧ ((fun _ : Nat => false) 5 = false → J pre Wb.drew) ∧ ((fun _ : Nat => false) 5 = true → J (pre ++ [x]) Wb.drew) ∧ Eff (fun k => P k ∨ k = mb ∨ ov.ownBlock = some k) Wb Wb.drew ∧ Eff (fun k => P k ∨ w0.heap.size ≤ k) w0 Wb.drew :=
      ⟨hi2.res.drew, hi2.fn.drew, fun _ => hov.drew, fun h => (by cases h), fun _ => ownsRow_keep hrow (upD (upR _)), fun h => (by cases h), fun _ => hJ _ _ _ hi2.j ((upD (upR Wb)).mono hi2.eff.size), fun h => (by cases h), Eff.of (upD (upR _)), (hi2.eff.trans (Eff.of (P := P) (upD (upR Wb))) (fun _ _ h => h)).mono (fun _ _ h => .inl h)⟩
    refine region_fpI (free_wide.inRound l) (by kernel_rfl) (by kernel_rfl) (region_any2 [some 22, some 23, some 24, some 25, some 26, some 27, some 28, some 29, some 30, none] [5, 6, 7, 9] [some (Value.pointer (some ⟨mb, 2, none⟩)), some (ov), some (Value.func (.func g) #[] caps), some (Value.int .i64 (i : Int)), some (Value.int .i64 (j : Int)), some (Value.int .i64 (val x)), none, none, some (Value.pointer (some ⟨mb, 2, none⟩)), none]
      (fun i v W => match i with | 6 => ∃ e1, v = Value.slice (some ⟨e1, 0, none⟩) 1 1 ∧ Blk W e1 #[.int .i64 (val x)] 3 ∧ w0.heap.size ≤ e1 ∧ e1 ≠ mb ∧ (∀ k, ov.ownBlock = some k → k ≠ e1) | 7 => ∃ g' c', v = Value.slice (some ⟨g', 0, none⟩) (pre.length + 1) c' ∧ (ov.ownBlock = some g' ∨ n1 ≤ g') | _ => True) (fun W W' => Eff (fun k => P k ∨ k = mb ∨ ov.ownBlock = some k) W W') (fun L f W => Blk W (w0.heap.size + 1) #[.int .i64 0, .int .i64 0, .slice none 0 0] 78 ∧ Blk W w0.heap.size #[.func (.func g) #[] caps] 66 ∧ (L 9 = false → Blk W mb #[.int .i64 r, .int .i64 c, ov] 78) ∧ (L 9 = true → Blk W mb #[.int .i64 r, .int .i64 c, f 7] 78) ∧ (L 7 = false → W.ownsRow w0.heap.size 3 1 ov pre.length (pre.map fun y => Value.int .i64 (val y))) ∧ (L 7 = true → W.ownsRow w0.heap.size 3 1 (f 7) (pre.length + 1) ((pre.map fun y => Value.int .i64 (val y)) ++ [.int .i64 (val x)])) ∧ (L 5 = false → J pre W) ∧ (L 5 = true → J (pre ++ [x]) W) ∧ Eff (fun k => P k ∨ k = mb ∨ ov.ownBlock = some k) Wb W ∧ Eff (fun k => P k ∨ w0.heap.size ≤ k) w0 W)
      (by kernel_rfl) (by kernel_rfl) (by kernel_rfl) (by kernel_rfl) (fun _ => Eff.refl _ _) (fun i v W W' h hb => by
        match i, h with
        | 6, ⟨e1, h1, h2, h3, h4, h5⟩ => exact ⟨e1, h1, hb.blk h2 (fun h => by rcases h with h | h | h; have := hP _ h; omega; exact h4 h; exact h5 _ h rfl), h3, h4, h5⟩
        | 7, ⟨g', c', h1, h2⟩ => exact ⟨g', c', h1, h2⟩
        | 0, _ | 1, _ | 2, _ | 3, _ | 4, _ | 5, _ | 8, _ | 9, _ => trivial
        | (n + 10), _ => trivial) (fun L L' f f' W h hs => by have q5 := (h 5 (by decide)).1; have q7 := (h 7 (by decide)); have q9 := (h 9 (by decide)).1; (try dsimp only at hs ⊢); rw [← q5, ← q7.1, ← q7.2, ← q9]; exact hs) HS0 ?_ ?_)
    · intro i hi b' L f W hSW hL hdep hsh he hsv hsl hFF K hK1 hK2
      replace hi : i < 10 := hi
      have hcs : i = 0 ∨ i = 1 ∨ i = 2 ∨ i = 3 ∨ i = 4 ∨ i = 5 ∨ i = 6 ∨ i = 7 ∨ i = 8 ∨ i = 9 := by omega
      clear hi
      rcases hcs with rfl | rfl | rfl | rfl | rfl | rfl | rfl | rfl | rfl | rfl
      · refine wpOpS_go rfl rfl ?_
        have t7 : b'.tmps[7]?.getD undef = Value.pointer (some ⟨mb, 0, none⟩) := he 7 (by kernel_rfl)
        have HK := Lib.hid hK1
        clear hK1 hK2 hdep hsh he hsv hsl hFF hL
        clear hSW
        go_simp
        exact HK.out rfl _ (fp_mk rfl rfl trivial)
      · refine wpOpS_go rfl rfl ?_
        have t22 : b'.tmps[22]?.getD undef = Value.pointer (some ⟨mb, 2, none⟩) := hsv 0 22 _ (by kernel_rfl) (by kernel_rfl) rfl
        obtain ⟨s0, s1, s2, s3, s4, s5, s6, s7, s8, s9⟩ := hSW
        have n9 := hsh 9 (by kernel_rfl)
        have c0 := (s2 n9).cell
        have HK := Lib.hid hK1
        clear hK1 hK2 hdep hsh he hsv hsl hFF hL
        clear s0 s1 s2 s3 s4 s5 s6 s7 s8 s9
        go_simp
        exact HK.out rfl _ (fp_mk rfl rfl trivial)
      · refine wpOpS_go rfl rfl ?_
        have t5 : b'.tmps[5]?.getD undef = Value.pointer (some ⟨w0.heap.size, 0, none⟩) := he 5 (by kernel_rfl)
        obtain ⟨s0, s1, s2, s3, s4, s5, s6, s7, s8, s9⟩ := hSW
        have c0 := s1.cell
        have HK := Lib.hid hK1
        clear hK1 hK2 hdep hsh he hsv hsl hFF hL
        clear s0 s1 s2 s3 s4 s5 s6 s7 s8 s9
        go_simp
        exact HK.out rfl _ (fp_mk rfl rfl trivial)
      · refine wpOpS_go rfl rfl ?_
        have t8 : b'.tmps[8]?.getD undef = Value.int .i64 (i : Int) := he 8 (by kernel_rfl)
        have HK := Lib.hid hK1
        clear hK1 hK2 hdep hsh he hsv hsl hFF hL
        clear hSW
        go_simp
        exact HK.out rfl _ (fp_mk rfl rfl trivial)
      · refine wpOpS_go rfl rfl ?_
        have t9 : b'.tmps[9]?.getD undef = Value.int .i64 (j : Int) := he 9 (by kernel_rfl)
        have HK := Lib.hid hK1
        clear hK1 hK2 hdep hsh he hsv hsl hFF hL
        clear hSW
        go_simp
        exact HK.out rfl _ (fp_mk rfl rfl trivial)
      · refine wpOpS_go rfl rfl ?_
        have t24 : b'.tmps[24]?.getD undef = Value.func (.func g) #[] caps := hsv 2 24 _ (by kernel_rfl) (by kernel_rfl) rfl
        have t25 : b'.tmps[25]?.getD undef = Value.int .i64 (i : Int) := hsv 3 25 _ (by kernel_rfl) (by kernel_rfl) rfl
        have t26 : b'.tmps[26]?.getD undef = Value.int .i64 (j : Int) := hsv 4 26 _ (by kernel_rfl) (by kernel_rfl) rfl
        obtain ⟨s0, s1, s2, s3, s4, s5, s6, s7, s8, s9⟩ := hSW
        have hj := s6 hL
        have HK := Lib.hid hK2
        clear hK1 hK2 hdep hsh he hsv hsl hFF hL
        have hx := HOP.out pre x W hxN hj s9.size
        rw [hxi, hxj] at hx
        go_simp
        refine hx.mono ?_
        rintro e w6 ⟨rfl, hj', hE⟩
        have hE' := hE.mono (P' := fun k => P k ∨ k = mb ∨ ov.ownBlock = some k) (fun _ _ h => .inl h)
        have hk : ∀ {b : Nat} {cs : Array Value} {t : TypeId}, w0.heap.size ≤ b → Blk W b cs t → Blk w6 b cs t := fun hb h => hE.blk h (fun h => by have := hP _ h; omega)
        exact HK.out _ _ (fp_mk rfl rfl trivial) hE' ⟨hk (by omega) s0, hk (Nat.le_refl _) s1, fun h => hk (by omega) (s2 h), fun h => hk (by omega) (s3 h), fun h => ownsRow_eff (s4 h) hE (fun k hk hp => by have := hP _ hp; have := ((s4 h).lt k hk).1; omega), fun h => ownsRow_eff (s5 h) hE (fun k hk hp => by have := hP _ hp; have := ((s5 h).lt k hk).1; omega), fun h => absurd h (by rw [updF_same]; decide), fun _ => hj', s8.trans hE' (fun _ _ h => h), s9.trans hE (fun _ _ h => .inl h)⟩
      · refine wpOpS_go rfl rfl ?_
        have t27 : b'.tmps[27]?.getD undef = Value.int .i64 (val x) := hsv 5 27 _ (by kernel_rfl) (by kernel_rfl) rfl
        obtain ⟨s0, s1, s2, s3, s4, s5, s6, s7, s8, s9⟩ := hSW
        have HK := Lib.hid hK2
        clear hK1 hK2 hdep he hsv hsl hFF hL
        have n7 := hsh 7 (by kernel_rfl)
        have hlt := fun k hk => ((s4 n7).lt k hk).2
        have hmlt := (s2 (hsh 9 (by kernel_rfl))).lt
        clear hsh
        refine op_slice1 (cs := #[.int .i64 (val x)]) (t := 3) (by go_simp) ?_
        intro w' hbn hb hz
        have hjk := fun pre h => hJ pre W w' h (hb.mono s9.size)
        exact HK.out _ _ (fp_x rfl ⟨_, rfl, hbn, s9.size, by omega, fun k hk => by have := hlt k hk; omega⟩) (Eff.of hb) ⟨s0.keep hb, s1.keep hb, fun h => (s2 h).keep hb, fun h => (s3 h).keep hb, fun h => ownsRow_keep (s4 h) hb, fun h => ownsRow_keep (s5 h) hb, fun h => hjk _ (s6 h), fun h => hjk _ (s7 h), s8.trans (Eff.of (P := fun _ => False) hb) (fun _ _ h => h.elim), s9.trans (Eff.of (P := fun _ => False) hb) (fun _ _ h => h.elim)⟩
      · refine wpOpS_go rfl rfl ?_
        have t23 : b'.tmps[23]?.getD undef = ov := hsv 1 23 _ (by kernel_rfl) (by kernel_rfl) rfl
        obtain ⟨t28, hx6⟩ := hsl 6 28 (by kernel_rfl) (by kernel_rfl)
        obtain ⟨e1, e6, b6, le6, ne6, no6⟩ := hx6
        rw [e6] at t28
        obtain ⟨s0, s1, s2, s3, s4, s5, s6, s7, s8, s9⟩ := hSW
        have HK := Lib.hid hK2
        have hrow := s4 hL
        have n9 := hsh 9 (by kernel_rfl)
        clear hK1 hK2 hdep he hsv hsl hFF e6 hsh
        have hmb := s2 n9
        refine op_app_box (B := w0.heap.size) (n := pre.length) (xs := pre.map fun y => Value.int .i64 (val y)) (cs := #[.int .i64 (val x)]) Tryz.underlying22 ⟨_, HI.out⟩ rfl (by decide) (by decide) (.tmp 23) (.tmp 28) rfl (eval_tmp t23) hrow s9.size e1 rfl (eval_tmp t28) b6 (by intro u hu; simp at hu; subst hu; rfl) (by omega) ?_
        intro g' c' w' ho hg hgg
        have hne : ∀ {b : Nat} {cs : Array Value} {t : TypeId}, t ≠ 3 → Blk W b cs t → Blk w' b cs t := fun {b} {cs} {t} ht h => h.grown hg (fun e => by obtain ⟨cs', q, hc⟩ := (row_ty hrow b e.symm).1; have := (show W.heap[b]? = _ from h).symm.trans hc; simp at this; exact ht this.2.1)
        have hE' : Eff (fun k => P k ∨ k = mb ∨ ov.ownBlock = some k) W w' := Eff.grown hg (fun k hk => .inr (.inr hk))
        have hb0 : Below w0.heap.size W w' := ⟨hg.os, hg.tape, hg.output, hg.size, fun k hk => hg.block k (by have := s9.size; omega) (fun e => by have := (hrow.lt k e.symm).1; omega)⟩
        have hjk := fun pre h => hJ pre W w' h hb0
        have hlo : ov.ownBlock = some g' ∨ n1 ≤ g' := by rcases hgg with h | h; exact .inl h; exact .inr (by have := s8.size; have := hi2.sz; omega)
        exact HK.out _ _ (fp_x rfl ⟨g', c', rfl, hlo⟩) hE' ⟨hne (by decide) s0, hne (by decide) s1, fun h => hne (by decide) (s2 h), fun h => absurd h (by show ¬ L 9 = true; rw [n9]; decide), fun h => absurd h (by rw [updF_same]; decide), fun _ => by rw [updF_same]; exact ho, fun h => hjk _ (s6 h), fun h => hjk _ (s7 h), s8.trans hE' (fun _ _ h => h), s9.trans hE' (fun k hk h => by rcases h with h | h | h; exact .inl h; exact .inr (by omega); exact .inr ((hrow.lt k h).1))⟩
      · refine wpOpS_go rfl rfl ?_
        have t7 : b'.tmps[7]?.getD undef = Value.pointer (some ⟨mb, 0, none⟩) := he 7 (by kernel_rfl)
        have HK := Lib.hid hK1
        clear hK1 hK2 hdep hsh he hsv hsl hFF hL
        clear hSW
        go_simp
        exact HK.out rfl _ (fp_mk rfl rfl trivial)
      · refine wpOpS_go rfl rfl ?_
        have t30 : b'.tmps[30]?.getD undef = Value.pointer (some ⟨mb, 2, none⟩) := hsv 8 30 _ (by kernel_rfl) (by kernel_rfl) rfl
        obtain ⟨t29, hx7⟩ := hsl 7 29 (by kernel_rfl) (by kernel_rfl)
        obtain ⟨g', c', e7, hlo⟩ := hx7
        obtain ⟨s0, s1, s2, s3, s4, s5, s6, s7, s8, s9⟩ := hSW
        have HK := Lib.hid hK2
        have l7 := hdep 7 (by kernel_rfl)
        have hmb := s2 hL
        clear hK1 hK2 hdep hsh he hsv hsl hFF
        refine op_store 22 _ _ rfl rfl hmb 2 (eval_tmp t30) (eval_tmp t29) [f 7] (by rw [e7]; rfl) (by kernel_rfl) (by rw [e7]; rfl) (by rfl) #[.int .i64 r, .int .i64 c, f 7] rfl ?_
        intro w' h1 h2 h3
        have hE' := h2.mono (P' := fun k => P k ∨ k = mb ∨ ov.ownBlock = some k) (fun _ _ h => .inr (.inl h))
        have hb0 : Below w0.heap.size W w' := ⟨h2.os, h2.tape, h2.output, h2.size, fun k hk => h2.block k (by have := s9.size; omega) (fun e => by omega)⟩
        have hjk := fun pre h => hJ pre W w' h hb0
        have hnr : ∀ {u : Value} {n : Nat} {xs : List Value}, W.ownsRow w0.heap.size 3 1 u n xs → w'.ownsRow w0.heap.size 3 1 u n xs := fun {u} {n} {xs} h => ownsRow_eff h h2 (fun k hk e => by subst e; obtain ⟨cs', q, hc⟩ := (row_ty h k hk).1; have := (show W.heap[k]? = _ from hmb).symm.trans hc; simp at this)
        exact HK.out undef _ (fp_x (v := undef) rfl trivial) hE' ⟨h2.blk s0 (by omega), h2.blk s1 (by omega), fun h => absurd h (by rw [updF_same]; decide), fun _ => h1, fun h => hnr (s4 h), fun h => hnr (s5 h), fun h => hjk _ (s6 h), fun h => hjk _ (s7 h), s8.trans hE' (fun _ _ h => h), s9.trans h2 (fun k hk h => .inr (by omega))⟩
    · intro f W hf L hL hS
      obtain ⟨s0, s1, s2, s3, s4, s5, s6, s7, s8, s9⟩ := (hS : _ ∧ _ ∧ _ ∧ _ ∧ _ ∧ _ ∧ _ ∧ _ ∧ _ ∧ _)
      obtain ⟨q1, e6, b6, le6, ne6, no6⟩ := (hf 6 (by decide)).2
      obtain ⟨g', c', e7, hlo⟩ := (hf 7 (by decide)).2
      replace s3 := s3 (hL 9 (by decide))
      replace s5 := s5 (hL 7 (by decide))
      replace s7 := s7 (hL 5 (by decide))
      rw [e7] at s3 s5
      have e0 : f 0 = Value.pointer (some ⟨mb, 2, none⟩) := (hf 0 (by decide)).1 _ rfl
      have e1 : f 1 = ov := (hf 1 (by decide)).1 _ rfl
      have e2 : f 2 = Value.func (.func g) #[] caps := (hf 2 (by decide)).1 _ rfl
      have e3 : f 3 = Value.int .i64 (i : Int) := (hf 3 (by decide)).1 _ rfl
      have e4 : f 4 = Value.int .i64 (j : Int) := (hf 4 (by decide)).1 _ rfl
      have e5 : f 5 = Value.int .i64 (val x) := (hf 5 (by decide)).1 _ rfl
      have e8 : f 8 = Value.pointer (some ⟨mb, 2, none⟩) := (hf 8 (by decide)).1 _ rfl
      clear hf hL s2 s4 s6
      simp only [puts2, Act.put, e0, e1, e2, e3, e4, e5, e6, e7, e8]
      try simp only [List.setIfInBounds_toArray, List.set_cons_zero, List.set_cons_succ]
      gi_wp2_with fail
      refine ⟨⟨s8.size, fun k o hk ho hc => ?_⟩, ⟨s8.os, s8.tape, s8.output, s8.size, fun k hk hn => ?_⟩, ?_⟩
      · refine (s8.block k (Array.getElem?_eq_some_iff.1 ho).1 (fun h => ?_)).trans ho
        rcases h with h | h | h
        · have := hP _ h; omega
        · omega
        · obtain ⟨cs, q, hh⟩ := (row_ty hrow k h).1
          rw [hh] at ho; cases ho; cases hc
      · refine s8.block k (by have := hi2.sz; omega) (fun h => hn ?_)
        rcases h with h | h | h
        · exact .inl h
        · exact .inr ⟨by omega, by omega, by omega⟩
        · exact .inr ⟨(hrow.lt k h).1, by rcases hlo2 k h with h | h <;> omega, by rcases hlo2 k h with h | h <;> omega⟩
      · show MadeI w0 P mb n1 r c g caps val J (List.map _ (_ ++ _)) _
        rw [List.map_append, HPRE.out]
        refine ⟨s1, s0, ⟨_, s3, by simpa using s5, fun k hk => ?_⟩, by simpa using s7, ?_, by have := s8.size; have := hi2.sz; omega⟩
        · simp [Value.ownBlock] at hk
          subst hk
          rcases hlo with h | h
          · exact hlo2 _ h
          · exact .inr h
        · refine hi2.eff.trans s8 (fun k hk h => ?_)
          rcases h with h | h | h
          · exact h
          · omega
          · have := (hrow.lt k h).1; omega
  case done =>
    rintro D ys W hD rfl hi hK
    rw [plL_val] at hi
    obtain ⟨v, h1, h2, h3⟩ := hi.out
    have hj := hi.j
    have hE := hi.eff
    have hres := hi.res
    rw [List.length_range] at h2
    obtain ⟨gv, cv, rfl⟩ := Joins.ownsRow_form h2 (by simpa using hcap)
    have c0 := h1.cell
    have d0 := hres.cell
    have f0 := hres.frozen
    clear hi hI0 hB0 hb1 hb2 hmB HROW
    gi_wp2_with fail
    have hb3 : ∀ u0 u1 u2, Below w0.heap.size W (((W.setCell ⟨w0.heap.size + 1, 0, none⟩ u0).setCell ⟨w0.heap.size + 1, 1, none⟩ u1).setCell ⟨w0.heap.size + 1, 2, none⟩ u2) := fun u0 u1 u2 =>
      (((Below.refl _ W).setCell (p := ⟨w0.heap.size + 1, 0, none⟩) (Nat.le_succ _) u0).setCell (p := ⟨w0.heap.size + 1, 1, none⟩) (Nat.le_succ _) u1).setCell (p := ⟨w0.heap.size + 1, 2, none⟩) (Nat.le_succ _) u2
    have hKC := kc_grown (grownBy_putObj' (((W.setCell ⟨w0.heap.size + 1, 0, none⟩ (.int .i64 r)).setCell ⟨w0.heap.size + 1, 1, none⟩ (.int .i64 c)).setCell ⟨w0.heap.size + 1, 2, none⟩ (.slice (some ⟨gv, 0, none⟩) N cv)) D (.deferred none)) (fun r e => by cases e; exact ⟨_, (((KeepsOthers.setCell _ _ _).trans (KeepsOthers.setCell _ _ _)).trans (KeepsOthers.setCell _ _ _)).same _ _ hK rfl, rfl⟩)
    have hKD : (((W.setCell ⟨w0.heap.size + 1, 0, none⟩ (.int .i64 r)).setCell ⟨w0.heap.size + 1, 1, none⟩ (.int .i64 c)).setCell ⟨w0.heap.size + 1, 2, none⟩ (.slice (some ⟨gv, 0, none⟩) N cv)).heap[D]? = some (.deferred (some [])) := (((KeepsOthers.setCell W _ _).trans (KeepsOthers.setCell _ _ _)).trans (KeepsOthers.setCell _ _ _)).same _ _ hK rfl
    refine ⟨by simp, .inl ⟨_, _, rfl, run_takeDeferred hKD, ?_⟩⟩
    have hbf := (hb3 (.int .i64 r) (.int .i64 c) (.slice (some ⟨gv, 0, none⟩) N cv)).trans (belowK_b (n₀ := w0.heap.size) (w := w0) (Nat.le_refl _) _ D _ (.deferred none) (by have := hB1.size; omega) hKD rfl rfl)
    have hgne : ∀ g, (Value.slice (some ⟨gv, 0, none⟩) N cv).ownBlock = some g → g ≠ w0.heap.size + 1 := fun g hg e => by
      obtain ⟨cs', q, hc⟩ := (row_ty h2 g hg).1
      have := (show W.heap[w0.heap.size + 1]? = _ from hres).symm.trans (e ▸ hc)
      simp at this
    refine ⟨.agg #[.int .i64 r, .int .i64 c, .slice (some ⟨gv, 0, none⟩) N cv], results_cell_row rfl _ _ _ 78 #[.int .i64 r, .int .i64 c, .slice (some ⟨gv, 0, none⟩) N cv] (0, 0) _ rfl ((((hres.set 0 _).set 1 _).set 2 _).kc hKC) Tryz.underlying78 rfl (by kernel_rfl), _, rfl, ?_, ?_, ?_⟩
    · exact ownsRow_kc (ownsRow_other (ownsRow_other (ownsRow_other h2 hgne 0 _) hgne 1 _) hgne 2 _) hKC
    · exact hJ _ _ _ hj hbf
    · exact ⟨hbf.os.trans hE.os, hbf.tape.trans hE.tape, hbf.output.trans hE.output, Nat.le_trans hE.size hbf.size, fun k hk hn => (hbf.block k hk).trans (hE.block k hk hn)⟩
  case stop =>
    rintro D c pre W _ _ h _
    exact h.elim

end Go.Proofs.YtnofoommindocaaGreat.Base
