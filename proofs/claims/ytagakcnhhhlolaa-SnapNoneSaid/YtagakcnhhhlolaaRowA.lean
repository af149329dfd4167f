/- Rows of one's own: one more; the reference's RowsOf. -/
import Derived.Test.YtagakcnhhhlolaaRow
namespace Go.Proofs.Ytagakcnhhhlolaa.Base
open Go.RowKit
set_option linter.unusedVariables false
set_option linter.unusedSimpArgs false

theorem cell_same {W W' : World} {y : Addr} (h : W'.heap[y.block]? = W.heap[y.block]?) : W'.cell? y = W.cell? y := World.cell?_of_block h
theorem LI.same {B : Nat} {W W' : World} {a : Option Addr} {c : Nat} {zs : List Int} (h : LI B W a c zs) (hb : ∀ x, a = some x → 0 < zs.length → W'.heap[x.block]? = W.heap[x.block]?) : LI B W' a c zs := by
  refine ⟨⟨fun k hk => ?_, h.mi.rng, h.mi.len, h.mi.lo, h.mi.nn, h.mi.cap⟩, ⟨fun k hk => ?_, h.wj.wi.len⟩, fun x hx hn => ?_⟩
  · obtain ⟨x, hx, hc⟩ := h.mi.cell k hk
    exact ⟨x, hx, (cell_same (by rw [add_block]; exact hb x hx (by omega))).trans hc⟩
  · obtain ⟨x, hx, ⟨u, hu⟩, hf, hB⟩ := h.wj.wi.at_ k hk
    have he : W'.heap[(x.add k).block]? = W.heap[(x.add k).block]? := by rw [add_block]; exact hb x hx (by omega)
    exact ⟨x, hx, ⟨u, (cell_same he).trans hu⟩, (World.frozen?_of_block he).trans hf, hB⟩
  · obtain ⟨cs, q, hc⟩ := h.wj.ty x hx hn
    exact ⟨cs, q, (hb x hx hn).trans hc⟩
theorem LI.grown {B : Nat} {W W' : World} {a : Option Addr} {c : Nat} {zs : List Int} (h : LI B W a c zs) {row : Option Nat} (hg : W.grownBy W' row) (hr : ∀ r, row = some r → ¬ IntsB W r) : LI B W' a c zs :=
  h.same fun x hx hn => hg.block _ (by obtain ⟨cs, q, hc⟩ := h.wj.ty x hx hn; exact (Array.getElem?_eq_some_iff.1 hc).1) (fun e => hr _ e.symm (h.wj.ty x hx hn))
theorem row_noInts {W : World} {B : Nat} {e : TypeId} {size : Nat} {v : Value} {n : Nat} {xs : List Value} (h : W.ownsRow B e size v n xs) (he : e ≠ 3) : ∀ r, v.ownBlock = some r → ¬ IntsB W r := by
  intro r hr
  rcases h.2 with ⟨rfl, _⟩ | ⟨g, cap, cur, rfl, hB, hgg, rest⟩
  · simp [Value.ownBlock] at hr
  · simp [Value.ownBlock] at hr
    subst hr
    rintro ⟨cs, q, hc⟩
    have := hgg.symm.trans hc
    simp at this
    exact he this.2.1

theorem blk_ne {W : World} {b b' : Nat} {cs cs' : Array Value} {t t' : TypeId} (h : Blk W b cs t) (h' : Blk W b' cs' t') (ht : t ≠ t') : b ≠ b' := by
  intro e
  subst e
  have := (show W.heap[b]? = _ from h).symm.trans h'
  simp at this
  exact ht this.2
theorem OI.ne {B : Nat} {W : World} {g cap : Nat} {zs : List Int} (h : OI B W g cap zs) {b : Nat} {cs : Array Value} {t : TypeId} (hb : Blk W b cs t) (ht : 3 ≠ t) : g ≠ b := by
  obtain ⟨cur, hk, _⟩ := h.ex
  exact blk_ne hk hb ht

theorem OR.mono {B B' : Nat} {W : World} {v : Value} {qs : List Rw} (h : OR B W v qs) (hB : B' ≤ B) : OR B' W v qs := by
  obtain ⟨vs, h1, h2⟩ := h.ex
  refine ⟨⟨vs, ownsRow_mono h1 hB, fun k hk => ?_⟩, h.rng⟩
  obtain ⟨a, c, e0, e1, e2, e3⟩ := (h2 k hk).ex
  exact ⟨a, c, e0, e1, e2, e3.mono hB⟩
def IsSl (v : Value) (n : Nat) : Prop := ∃ g c, v = .slice (some ⟨g, 0, none⟩) n c
/-- 'append(out, row)' in one way. -/
theorem app_row {ops : Array Oper} {rest : List Oper} {o : Oper} {a : Act} {Q : Exit → Act → World → Prop} {w : World} {B : Nat} {v : Value} {qs : List Rw} {q : Rw} {aH : Option Addr} {cH : Nat}
    (hg : o.guard = none) (s x : Operand) (hop : o.op = Op.call { callee := Callee.builtin Builtin.append, args := #[s, x], argTypes := #[23, 23] })
    (hs : a.eval s = v) (h : OR B w v qs) (hB : B ≤ w.heap.size) (e1 : Nat) (hx : a.eval x = .slice (some ⟨e1, 0, none⟩) 1 1) (nh : Nat) (hnh : q.h.length = nh)
    (he : Blk w e1 #[.int .i64 q.s, .slice aH nh cH, .int .i64 q.r] 41) (hL : LI B w aH cH q.h) (h1 : I64 q.s) (h2 : I64 q.r) (hl : qs.length ≤ 1000)
    (hK : ∀ v' w', OR B w' v' (qs ++ [q]) → w.grownBy w' v.ownBlock → IsSl v' (qs.length + 1) → wpList Try.prog ops Q rest (a.put o.dst v') w') :
    wpList Try.prog ops Q (o :: rest) a w := by
  subst hnh
  obtain ⟨i0, hi, hz0, hz1, hz2⟩ : ∃ i, Try.prog.info? 41 = some i ∧ i.zero = some (.agg #[.int .i64 0, .slice none 0 0, .int .i64 0]) ∧ i.size = 3 ∧ i.bytes = 40 := info_parts (by kernel_rfl)
  obtain ⟨vs, ho, hr⟩ := h.ex
  have hne : 41 ≠ 3 := by decide
  refine wpList_append_own w hg s x 23 hop B 41 i0 _ 3 40 Try.underlying23 hi hz0 hz1 hz2 (by decide) (by decide) v qs.length vs hs ho ⟨e1, 0, none⟩ 1 1 [.int .i64 q.s, .slice aH q.h.length cH, .int .i64 q.r] hx rfl (fun j u hj => ?_) (fun u hu => ?_) (by unfold maxLen; omega) (by omega) hB (fun v' w' ho' hgr _ => ?_)
  · rw [Addr.add_lit, Nat.zero_add, he.cell]
    simpa using hj
  · simp at hu
    rcases hu with rfl | rfl | rfl <;> rfl
  · have hno := row_noInts ho hne
    have hf := ownsRow_succ ho'
    refine hK v' w' (OR.snoc (fun k hk => ?_) ho.1 h.rng ho' (hL.grown hgr hno) h1 h2) hgr hf
    obtain ⟨a', c', e0, e1, e2, e3⟩ := (hr k hk).ex
    exact ⟨a', c', e0, e1, e2, e3.grown hgr hno⟩

set_option maxHeartbeats 8000000 in
set_option maxRecDepth 100000 in
theorem rrows_is {B : Nat} {w0 : World} {v : Value} {M : Mdl} {sn : Int} (hM : MM B w0 v M) (hl : M.rows.length ≤ 1000) (hh : ∀ q ∈ M.rows, q.h.length ≤ 100000) :
    Calls Try.prog 19 #[v, .int .i64 sn] w0 fun e w' => ∃ u, e = .returned u ∧ OR w0.heap.size w' u (rowsS sn M.rows) ∧ Below w0.heap.size w0 w' := by
  obtain ⟨aA, cA, aQ, cQ, aR, cR, rfl, hA, hQ, hR⟩ := hM.ex
  obtain ⟨n, hn⟩ : ∃ n, M.rows.length = n := ⟨_, rfl⟩
  have HN := Lib.hid hn
  have hB : Below w0.heap.size w0 (w0.alloc (.cells #[Value.int .i64 M.n, .slice aA M.A.length cA, .slice aQ M.Q.length cQ, .int .i64 M.tick, .int .i64 M.gate, .int .i64 M.rmin, .slice aR M.rows.length cR] 25)) := (Below.refl _ _).alloc (Nat.le_refl _) _
  have hX := Blk.new w0 #[Value.int .i64 M.n, .slice aA M.A.length cA, .slice aQ M.Q.length cQ, .int .i64 M.tick, .int .i64 M.gate, .int .i64 M.rmin, .slice aR M.rows.length cR] 25
  have hR1 := hR.keep hB
  rw [hn] at hl hB hX hR1 ⊢
  clear hA hQ hR hM hn
  go_enter Try.func19, Try.ntmps19
  go_wp2_with fail
  generalize w0.alloc (.cells #[Value.int .i64 M.n, .slice aA M.A.length cA, .slice aQ M.Q.length cQ, .int .i64 M.tick, .int .i64 M.gate, .int .i64 M.rmin, .slice aR n cR] 25) = W1 at *
  have x6 := hX.cell 6
  simp at x6
  clear hX
  have hB0 := hB.size
  go_loopw [5, 6] (fun u i wr => ∃ (k : Nat) (ov : Value), k ≤ n ∧ ov = u ∧ i = .int .i64 k ∧ OR W1.heap.size wr ov (rowsS sn (M.rows.take k)) ∧ Below W1.heap.size W1 wr) (fun _ i _ => n - (intOf i).toNat)
  case atStart => exact ⟨0, _, Nat.zero_le _, rfl, rfl, OR.nil _ _, Below.refl _ _⟩
  case round =>
    obtain ⟨k, ov, hk, rfl, rfl, hO, hBr⟩ := hrel
    have hW := more hB hBr
    have x6r := (hBr.cell (World.block_lt_of_cell? W1 _ x6)).trans x6
    have hRr := hR1.keep hBr
    clear x6
    by_cases hkl : k < n
    · have hkl' : (k : Int) < (n : Int) := by omega
      have hk0 : (0 : Int) ≤ (k : Int) := by omega
      have hkz : k < M.rows.length := by rw [HN.out]; exact hkl
      obtain ⟨x, rfl, hrow⟩ := hRr.at_ k hkz
      have hts := rowsS_take (s := sn) hkz
      have hhk := hh _ (List.getElem_mem hkz)
      have hln : (rowsS sn (M.rows.take k)).length ≤ 1000 := by have := rowsS_len sn (M.rows.take k); rw [List.length_take] at this; omega
      obtain ⟨q, hz⟩ : ∃ z, M.rows[k] = z := ⟨_, rfl⟩
      rw [hz] at hrow hts hhk
      obtain ⟨s, h, r⟩ := q
      obtain ⟨aH, cH, y0, y1, y2, hH⟩ := hrow.ex
      have hrs := Lib.hid (show I64 s from hrow.s)
      have hrr := Lib.hid (show I64 r from hrow.r)
      clear hrow hz hh
      dsimp only at y0 y1 y2 hH hhk hts
      generalize rowsS sn (M.rows.take k) = qs at *
      by_cases g : s = sn
      · subst g
        rw [if_pos rfl] at hts
        have HT := Lib.hid hts
        clear hts
        obtain ⟨nh, hnh⟩ : ∃ nh, h.length = nh := ⟨_, rfl⟩
        rw [hnh] at y1 hhk
        have HNH := Lib.hid hnh
        clear hnh
        have bb := Blk.new wr #[.int .i64 s, .slice aH nh cH, .int .i64 r] 41
        have be := Blk.new (wr.alloc (.cells #[.int .i64 s, .slice aH nh cH, .int .i64 r] 41)) #[] 3
        rw [World.size_alloc] at be
        have bb2 := bb.alloc (.cells #[] 3)
        have hBx : Below wr.heap.size wr ((wr.alloc (.cells #[.int .i64 s, .slice aH nh cH, .int .i64 r] 41)).alloc (.cells #[] 3)) := ((Below.refl _ _).alloc (Nat.le_refl _) _).alloc (by simp) _
        have hHx := hH.keep hBx
        have hOx := hO.keep hBx
        have hWx := more hW hBx
        have hBrx := more hBr hBx
        go_wp2_with (at_builtin; refine app_copy (B := W1.heap.size) (zs := h) rfl _ _ rfl (by have := hBr.size; omega) be rfl hHx nh HNH.out rfl hhk ?_)
        intro g1 c1 w2 hOI hgr
        have hg1 := hOI.lo
        have hK2 : Below wr.heap.size ((wr.alloc (.cells #[.int .i64 s, .slice aH nh cH, .int .i64 r] 41)).alloc (.cells #[] 3)) w2 := ⟨hgr.os, hgr.tape, hgr.output, hgr.size, fun k hk => hgr.block k (by simp; omega) (by simp; omega)⟩
        have hb3 := bb2.grown hgr (by simp)
        have hbl3 : Below wr.heap.size wr w2 := hBx.trans hK2
        have hne := hOI.ne hb3 (by decide)
        have hO4 : OR W1.heap.size ((w2.setCell ⟨wr.heap.size, 1, none⟩ (.slice (some ⟨g1, 0, none⟩) nh c1)).alloc (.cells #[.int .i64 s, .slice (some ⟨g1, 0, none⟩) nh c1, .int .i64 r] 41)) ov qs :=
          hO.keep ((hbl3.setCell (Nat.le_refl _) _).alloc (by simp [World.setCell]; exact hbl3.size) _)
        have hL4 : LI W1.heap.size ((w2.setCell ⟨wr.heap.size, 1, none⟩ (.slice (some ⟨g1, 0, none⟩) nh c1)).alloc (.cells #[.int .i64 s, .slice (some ⟨g1, 0, none⟩) nh c1, .int .i64 r] 41)) (some ⟨g1, 0, none⟩) c1 h :=
          (hOI.other hne 1 _).li.keep ((Below.refl _ _).alloc (Nat.le_refl _) _)
        have hb4 := Blk.new (w2.setCell ⟨wr.heap.size, 1, none⟩ (.slice (some ⟨g1, 0, none⟩) nh c1)) #[.int .i64 s, .slice (some ⟨g1, 0, none⟩) nh c1, .int .i64 r] 41
        rw [World.size_setCell] at hb4
        have hWsz : W1.heap.size ≤ w2.heap.size + 1 := by have := hBr.size; have := hbl3.size; omega
        have hbl4 : Below wr.heap.size wr ((w2.setCell ⟨wr.heap.size, 1, none⟩ (.slice (some ⟨g1, 0, none⟩) nh c1)).alloc (.cells #[.int .i64 s, .slice (some ⟨g1, 0, none⟩) nh c1, .int .i64 r] 41)) := (hbl3.setCell (Nat.le_refl _) _).alloc (by simp [World.setCell]; exact hbl3.size) _
        have p0 := hb3.cell 0
        have p1 := hb3.cell 1
        have p2 := hb3.cell 2
        have f1 := hb3.frozen 1
        simp at p0 p1 p2
        go_wp2_with (at_builtin; refine app_row (B := W1.heap.size) (v := ov) (q := ⟨s, h, r⟩) (aH := some ⟨g1, 0, none⟩) (cH := c1) rfl _ _ rfl rfl hO4 (by simp; exact hWsz) w2.heap.size rfl nh HNH.out hb4 hL4 hrs.out hrr.out hln ?_)
        intro u' w5 hO5 hg5 hu5
        obtain ⟨g5, c5, rfl⟩ := hu5
        go_wp2_with fail
        go_roundw
        case rel =>
          refine ⟨k + 1, _, by omega, rfl, by go_num, by rw [HT.out]; exact hO5, ?_⟩
          obtain ⟨vs, hov, _⟩ := hO4.ex
          exact ownsRow_grown hov (hBr.trans (hbl4.mono hBr.size)) hg5 (Nat.le_refl _)
        case measure => simp [intOf]; omega
      · rw [if_neg g] at hts
        have HT := Lib.hid hts
        clear hts
        have ge : ((s : Int) == sn) = false := by simp; exact g
        go_wp2_with fail
        go_roundw
        case rel => exact ⟨k + 1, _, by omega, rfl, by go_num, by rw [HT.out]; exact hO, hBr⟩
        case measure => simp [intOf]; omega
    · have hge : ¬ (k : Int) < (n : Int) := by omega
      go_wp2_with fail
      go_ret
      exact ⟨_, rfl, by rw [List.take_of_length_le (by rw [HN.out]; omega)] at hO; exact hO.mono hB0, hW⟩

end Go.Proofs.Ytagakcnhhhlolaa.Base
