/- snap: New. No conditions. -/
import Derived.Test.YtagakcnhhhlolaaSnJ
namespace Go.Proofs.Ytagakcnhhhlolaa.Base
open Go.RowKit
set_option linter.unusedVariables false
set_option linter.unusedSimpArgs false

theorem putL_app : ∀ (l1 l2 : List Value) (o : Nat) (us : List Value), putL (l1 ++ l2) (l1.length + o) us = l1 ++ putL l2 o us
  | [], l2, o, us => by simp
  | c :: l1, l2, o, us => by
    have := putL_app l1 l2 o us
    simp only [List.cons_append, List.length_cons]
    rw [show l1.length + 1 + o = (l1.length + o) + 1 by omega]
    simp only [putL]
    rw [this]
theorem putL_in : ∀ (l1 l2 : List Value) (o : Nat) (us : List Value), o + us.length ≤ l1.length → putL (l1 ++ l2) o us = putL l1 o us ++ l2
  | [], l2, o, us, h => by
    have h1 : us = [] := List.eq_nil_of_length_eq_zero (by have h2 : o + us.length ≤ 0 := h; omega)
    subst h1
    rw [putL_nil, putL_nil]
  | c :: l1, l2, o + 1, us, h => by
    simp only [List.cons_append, putL]
    rw [putL_in l1 l2 o us (by simp at h; omega)]
  | c :: l1, l2, 0, [], h => by rw [putL_nil, putL_nil]
  | c :: l1, l2, 0, u :: us, h => by
    simp only [List.cons_append, putL]
    rw [putL_in l1 l2 0 us (by simp at h ⊢; omega)]
/-- The cells of a row whose list lay there at first; of one with a list of one's own. -/
def RV (w0 : World) (cs : List Value) (q : Rw) : Prop := ∃ a c, cs = [.int .i64 q.s, .slice a q.h.length c, .int .i64 q.r] ∧ MI 0 w0 a c q.h
def RL2 (B : Nat) (W : World) (cs : List Value) (q : Rw) : Prop := ∃ a c, cs = [.int .i64 q.s, .slice a q.h.length c, .int .i64 q.r] ∧ LI B W a c q.h
theorem RV.len {w0 : World} {cs : List Value} {q : Rw} (h : RV w0 cs q) : cs.length = 3 ∧ ∀ u ∈ cs, u.oneCell' = true := by
  obtain ⟨a, c, rfl, _⟩ := h
  exact ⟨rfl, fun u hu => by simp at hu; rcases hu with rfl | rfl | rfl <;> rfl⟩
theorem RL2.len {B : Nat} {W : World} {cs : List Value} {q : Rw} (h : RL2 B W cs q) : cs.length = 3 := by
  obtain ⟨a, c, rfl, _⟩ := h
  rfl
theorem RL2.ki {B : Nat} {W W' : World} {cs : List Value} {q : Rw} (h : RL2 B W cs q) (hb : KI W W') : RL2 B W' cs q := by
  obtain ⟨a, c, h0, h1⟩ := h
  exact ⟨a, c, h0, h1.same fun x hx hn => hb.block _ (by obtain ⟨cs, q, hc⟩ := h1.wj.ty x hx hn; exact ⟨cs, q, hc⟩)⟩
theorem LI.ki {B : Nat} {W W' : World} {a : Option Addr} {c : Nat} {zs : List Int} (h : LI B W a c zs) (hb : KI W W') : LI B W' a c zs :=
  h.same fun x hx hn => hb.block _ (by obtain ⟨cs, q, hc⟩ := h.wj.ty x hx hn; exact ⟨cs, q, hc⟩)
theorem all2_lens {α : Type} {R : List Value → α → Prop} {s : Nat} (hR : ∀ a b, R a b → a.length = s) : ∀ {l : List (List Value)} {bs : List α}, All2 R l bs → ∀ x ∈ l, x.length = s
  | [], [], _, x, hx => by cases hx
  | a :: l, b :: bs, h, x, hx => by
    rcases List.mem_cons.1 hx with rfl | hx
    · exact hR _ _ h.1
    · exact all2_lens hR h.2 x hx
/-- What a slice of rows has, as cells. -/
theorem mr_cells {w0 : World} {a : Option Addr} {c : Nat} {qs : List Rw} (h : MR 0 w0 a c qs) : ∃ vs : List (List Value), All2 (RV w0) vs qs ∧ Rd w0 a vs.flatten ∧ ∀ u ∈ vs.flatten, u.oneCell' = true := by
  have h1 : ∀ k, (hk : k < qs.length) → ∃ cs, RV w0 cs qs[k] ∧ ∃ x : Addr, a = some x ∧ ∀ j u, cs[j]? = some u → w0.cell? (x.add (k * 3 + j)) = some u := by
    intro k hk
    obtain ⟨x, hx, hr⟩ := h.at_ k hk
    obtain ⟨aH, cH, e0, e1, e2, e3⟩ := hr.ex
    rw [add_next _ _ _ (by omega)] at e1 e2
    refine ⟨_, ⟨aH, cH, rfl, e3⟩, x, hx, fun j u hj => ?_⟩
    match j, hj with
    | 0, hj => cases hj; exact e0
    | 1, hj => cases hj; exact e1
    | 2, hj => cases hj; exact e2
    | (j + 3), hj => simp at hj
  have main : ∀ n, n ≤ qs.length → ∃ vs : List (List Value), All2 (RV w0) vs (qs.take n) ∧ Rd w0 a vs.flatten ∧ ∀ u ∈ vs.flatten, u.oneCell' = true := by
    intro n
    induction n with
    | zero => intro _; exact ⟨[], by simp [All2], rd_nil _ _, by simp⟩
    | succ n ih =>
      intro hn
      obtain ⟨vs, i1, i2, i3⟩ := ih (by omega)
      obtain ⟨cs, k1, x, hx, k2⟩ := h1 n (by omega)
      have hl := flat_len (all2_lens (fun _ _ h => RV.len h |>.1) i1)
      rw [i1.len, List.length_take, Nat.min_eq_left (by omega)] at hl
      refine ⟨vs ++ [cs], ?_, ?_, ?_⟩
      · rw [List.take_succ_eq_append_getElem (by omega)]
        exact All2.app (cs := [cs]) (ds := [qs[n]]) ⟨k1, trivial⟩ i1
      · intro j u hj
        simp only [List.flatten_append, List.flatten_cons, List.flatten_nil, List.append_nil] at hj
        by_cases e : j < n * 3
        · rw [List.getElem?_append_left (by omega)] at hj
          exact i2 j u hj
        · rw [List.getElem?_append_right (by omega), hl] at hj
          refine ⟨x, hx, ?_⟩
          have := k2 _ u hj
          rwa [show n * 3 + (j - n * 3) = j by omega] at this
      · intro u hu
        simp at hu
        rcases hu with ⟨l, hl1, hl2⟩ | hu
        · exact i3 u (List.mem_flatten.2 ⟨l, hl1, hl2⟩)
        · exact k1.len.2 u hu
  have := main qs.length (Nat.le_refl _)
  rwa [List.take_length] at this
set_option maxHeartbeats 1000000 in
theorem cloneR_is {W : World} {a : Option Addr} {n c : Nat} {news : List Value} (hl : news.length = n * 3) (hn : Rd W a news) (h1 : ∀ u ∈ news, u.oneCell' = true) (hnc : a = none → n = 0 ∧ c = 0) (hlen : n ≤ 100000) :
    Calls Try.prog 74 #[.slice a n c] W fun e w' => ∃ a' c', e = .returned (.slice a' n c') ∧ w'.ownsRow W.heap.size 41 3 (.slice a' n c') n news ∧ Below W.heap.size W w' := by
  have q0 : ∀ (w : World) (a : Option Addr) (n c n' c' : Nat), (binOp .eql 23 (.slice a n c) (.slice none n' c')).run Try.prog w = .ok (.bool a.isNone) w := fun w a n c n' c' => Lib.run_eql_slice_nil w _ _ a n c n' c' Try.underlying23
  cases a with
  | none =>
    obtain ⟨rfl, rfl⟩ := hnc rfl
    obtain rfl : news = [] := List.eq_nil_of_length_eq_zero (by simpa using hl)
    clear hl hn h1 hnc hlen
    go_enter Try.func74, Try.ntmps74
    go_wp2_with fail
    go_ret
    exact ⟨none, 0, rfl, World.ownsRow_nil _ _ _ _, Below.refl _ _⟩
  | some x =>
    have HL := Lib.hid hl
    have HN := Lib.hid hn
    have HO := Lib.hid h1
    clear hl hn h1 hnc
    go_enter Try.func74, Try.ntmps74
    go_wp2_with (first | ((with_reducible refine at_dst (N := 5) rfl ?_); refine ev_slice0 rfl (t := 41) (by first | (go_simp; done) | (go_simp; rfl)) ?_; intro w1 b0 hB hz) | (at_builtin; refine app_clone Try.underlying23 (info_parts (by kernel_rfl)) (z := .agg #[.int .i64 0, .slice none 0 0, .int .i64 0]) (size := 3) (bytes := 40) rfl (by decide) (by decide) rfl _ _ rfl W.heap.size b0 rfl rfl (fun e => by cases e) HL.out (HN.out.keep hB) HO.out hlen ?_; intro g cap w2 ho hg))
    go_ret
    exact ⟨_, _, rfl, ho, hB.trans ⟨hg.os, hg.tape, hg.output, hg.size, fun k hk => hg.block k (by omega) (by simp; omega)⟩⟩
/-- Rows, the first i with lists of one's own. -/
def Half (B : Nat) (w0 W : World) (v : Value) (qs : List Rw) (i : Nat) : Prop := ∃ us1 us2 : List (List Value), All2 (RL2 B W) us1 (qs.take i) ∧ All2 (RV w0) us2 (qs.drop i) ∧ W.ownsRow B 41 3 v qs.length (us1 ++ us2).flatten
theorem Half.ki {B : Nat} {w0 W W' : World} {v : Value} {qs : List Rw} {i : Nat} (h : Half B w0 W v qs i) (hb : KI W W') (hr : ∀ k, v.ownBlock = some k → W'.heap[k]? = W.heap[k]?) : Half B w0 W' v qs i := by
  obtain ⟨us1, us2, h1, h2, h3⟩ := h
  refine ⟨us1, us2, h1.imp fun _ _ h => h.ki hb, h2, h3.1, ?_⟩
  rcases h3.2 with hn | ⟨g, cap, cur, rfl, hB, hgg, rest⟩
  · exact .inl hn
  · exact .inr ⟨g, cap, cur, rfl, hB, (hr g rfl).trans hgg, rest⟩
theorem Half.or {B : Nat} {w0 W : World} {v : Value} {qs : List Rw} (h : Half B w0 W v qs qs.length) (hq : ∀ q ∈ qs, I64 q.s ∧ I64 q.r) : OR B W v qs := by
  obtain ⟨us1, us2, h1, h2, h3⟩ := h
  rw [List.take_length] at h1
  rw [List.drop_length] at h2
  have hz : us2 = [] := by cases us2 with | nil => rfl | cons a l => exact absurd h2 (by simp [All2])
  subst hz
  rw [List.append_nil] at h3
  refine ⟨⟨_, h3, fun k hk => ?_⟩, hq⟩
  obtain ⟨cs, e1, e2⟩ := h1.get k hk
  have hl := all2_lens (fun _ _ h => RL2.len h) h1
  obtain ⟨a, c, rfl, hL⟩ := e2
  exact ⟨a, c, by have := flat_get hl k e1 0 (by omega); simpa using this, flat_get hl k e1 1 (by omega), flat_get hl k e1 2 (by omega), hL⟩
/-- The i-th row: where it lies; what is left when its list is set. -/
theorem Half.at_ {B : Nat} {w0 W : World} {v : Value} {qs : List Rw} {i : Nat} (h : Half B w0 W v qs i) (hi : i < qs.length) : ∃ g c cur a ca, v = .slice (some ⟨g, 0, none⟩) qs.length c ∧ Blk W g cur 41 ∧ B ≤ g ∧ MI 0 w0 a ca qs[i].h ∧ Nat.ble (i * 3 + 1 + 1) cur.size = true ∧
    W.cell? ⟨g, i * 3, none⟩ = some (.int .i64 qs[i].s) ∧ W.cell? ⟨g, i * 3 + 1, none⟩ = some (.slice a qs[i].h.length ca) ∧ W.cell? ⟨g, i * 3 + 2, none⟩ = some (.int .i64 qs[i].r) ∧
    ∀ W' a' c', Blk W' g (putA cur (i * 3 + 1) [.slice a' qs[i].h.length c']) 41 → KI W W' → LI B W' a' c' qs[i].h → Half B w0 W' v qs (i + 1) := by
  obtain ⟨us1, us2, h1, h2, h3⟩ := h
  have hd : qs.drop i = qs[i] :: qs.drop (i + 1) := List.drop_eq_getElem_cons hi
  rw [hd] at h2
  cases us2 with
  | nil => exact absurd h2 (by simp [All2])
  | cons cs us2 =>
  obtain ⟨⟨a, ca, rfl, hmi⟩, h2⟩ := h2
  have hl1 : us1.flatten.length = i * 3 := by rw [flat_len (all2_lens (fun _ _ h => RL2.len h) h1), h1.len, List.length_take, Nat.min_eq_left (by omega)]
  rcases h3.2 with ⟨_, hz⟩ | ⟨g, c, cur, rfl, hB, hrow, hfit, hcm, hcs, hcur⟩
  · omega
  have cell : ∀ j u, (us1 ++ [.int .i64 qs[i].s, .slice a qs[i].h.length ca, .int .i64 qs[i].r] :: us2).flatten[j]? = some u → W.cell? ⟨g, j, none⟩ = some u := fun j u hj => by
    have := h3.cells (g := g) rfl j u hj
    rwa [Addr.add_lit, Nat.zero_add] at this
  have hfl : (us1 ++ [.int .i64 qs[i].s, .slice a qs[i].h.length ca, .int .i64 qs[i].r] :: us2).flatten = us1.flatten ++ ([.int .i64 qs[i].s, .slice a qs[i].h.length ca, .int .i64 qs[i].r] ++ us2.flatten) := by simp
  refine ⟨g, c, cur, a, ca, rfl, hrow, hB, hmi, Nat.ble_eq_true_of_le (by omega), cell _ _ ?_, cell _ _ ?_, cell _ _ ?_, fun W' a' c' hb hk hL => ?_⟩
  · rw [hfl, List.getElem?_append_right (by omega), hl1, Nat.sub_self]; rfl
  · rw [hfl, List.getElem?_append_right (by omega), hl1, show i * 3 + 1 - i * 3 = 1 by omega]; rfl
  · rw [hfl, List.getElem?_append_right (by omega), hl1, show i * 3 + 2 - i * 3 = 2 by omega]; rfl
  · refine ⟨us1 ++ [[.int .i64 qs[i].s, .slice a' qs[i].h.length c', .int .i64 qs[i].r]], us2, ?_, h2, ?_, .inr ⟨g, c, _, rfl, hB, hb, hfit, hcm, by rw [← hcs]; unfold putA; simp [putL_len], ?_⟩⟩
    · rw [List.take_succ_eq_append_getElem hi]
      exact All2.app (cs := [[.int .i64 qs[i].s, .slice a' qs[i].h.length c', .int .i64 qs[i].r]]) (ds := [qs[i]]) ⟨⟨a', c', rfl, hL⟩, trivial⟩ (h1.imp fun _ _ h => h.ki hk)
    · have := h3.1; simp at this ⊢; omega
    · unfold putA
      rw [List.toList_toArray, putL_take, hcur, hfl, ← hl1, putL_app, putL_in _ _ _ _ (by simp)]
      simp [putL]

structure NewL (w0 : World) (x y : Nat) (M : Mdl) (xs bs : Array Value) (v2 v5 : Option Addr × Nat) (v8 : Value) (i : Nat) (W : World) : Prop where
  bx : Blk W x xs 25
  by1 : Blk W y bs 27
  a : LI w0.heap.size W v2.1 v2.2 M.A
  q : LI w0.heap.size W v5.1 v5.2 M.Q
  half : Half w0.heap.size w0 W v8 M.rows i
  bel : Below w0.heap.size w0 W
theorem NewL.keep {w0 : World} {x y : Nat} {M : Mdl} {xs bs : Array Value} {v2 v5 : Option Addr × Nat} {v8 : Value} {i : Nat} {W W' : World} (h : NewL w0 x y M xs bs v2 v5 v8 i W) (hb : Below W.heap.size W W') : NewL w0 x y M xs bs v2 v5 v8 i W' :=
  ⟨h.bx.keep hb, h.by1.keep hb, h.a.keep hb, h.q.keep hb, h.half.ki (KI.of hb) (fun k hk => hb.block k (by obtain ⟨_, _, _, _, h3⟩ := h.half; exact (row_ty h3 k hk).1.lt)), more h.bel hb⟩
theorem NewL.eff {P : Nat → Prop} {w0 : World} {x y : Nat} {M : Mdl} {xs bs : Array Value} {v2 v5 : Option Addr × Nat} {v8 : Value} {i : Nat} {W W' : World} (h : NewL w0 x y M xs bs v2 v5 v8 i W) (he : Eff P W W') (hp : ∀ k, P k → k ≠ x ∧ k ≠ y ∧ w0.heap.size ≤ k ∧ ¬ Ty W k 3 ∧ v8.ownBlock ≠ some k) : NewL w0 x y M xs bs v2 v5 v8 i W' :=
  ⟨he.blk h.bx (fun e => (hp _ e).1 rfl), he.blk h.by1 (fun e => (hp _ e).2.1 rfl), h.a.eff he (fun k hk => (hp k hk).2.2.2.1), h.q.eff he (fun k hk => (hp k hk).2.2.2.1), h.half.ki (KI.eff he (fun k hk => (hp k hk).2.2.2.1)) (fun k hk => by obtain ⟨_, _, _, _, h3⟩ := h.half; exact he.block k (row_ty h3 k hk).1.lt (fun e => (hp k e).2.2.2.2 hk)), he.below h.bel (fun k hk => (hp k hk).2.2.1)⟩
def NewOk (w0 : World) (M : Mdl) (b : Blf) (e : Ending) (w' : World) : Prop :=
  ∃ p v, e = .returned (.tuple #[.pointer (some ⟨p, 0, none⟩), .int .i64 0]) ∧ PM w0.heap.size w' p v M [⟨b, trc0⟩] ∧ Below w0.heap.size w0 w'
set_option maxHeartbeats 16000000 in
set_option maxRecDepth 100000 in
theorem new_is {w0 : World} {mv bv : Value} {M : Mdl} {b : Blf} (hM : MM 0 w0 mv M) (hb : MB 0 w0 bv b) (h1 : M.A.length ≤ 100000) (h2 : M.Q.length ≤ 100000) (hl : M.rows.length ≤ 1000) (hh : ∀ q ∈ M.rows, q.h.length ≤ 100000) (hok : MkOk ⟨b, trc0⟩) :
    Calls Try.prog 43 #[mv, bv] w0 fun e w' => (fitsV M b ≠ 0 → e = .returned (.tuple #[.pointer none, .int .i64 (fitsV M b)]) ∧ Below w0.heap.size w0 w') ∧ (fitsV M b = 0 → NewOk w0 M b e w') := by
  obtain ⟨aA, cA, aQ, cQ, aR, cR, rfl, hA, hQ, hR⟩ := hM.ex
  obtain ⟨aX, cX, aP, cP, rfl, hX, hP⟩ := hb.ex
  obtain ⟨vs, hvs, hrd, hone⟩ := mr_cells hR
  obtain ⟨fv, hfv⟩ : ∃ r, fitsV M b = r := ⟨_, rfl⟩
  have HM := Lib.hid hM
  have HB := Lib.hid hb
  have HH := Lib.hid hh
  have HV := Lib.hid hfv
  rw [hfv]
  clear hM hb hh hfv
  go_enter Try.func43, Try.ntmps43
  go_wp2_with (first | ((with_reducible refine at_dst (N := 2) rfl ?_); refine ev_new rfl (cs := #[Value.int .i64 M.n, Value.slice aA M.A.length cA, Value.slice aQ M.Q.length cQ, Value.int .i64 M.tick, Value.int .i64 M.gate, Value.int .i64 M.rmin, Value.slice aR M.rows.length cR]) (t := 25) (by go_simp) ?_; intro w1 b1 hB1 hz1) | ((with_reducible refine at_dst (N := 3) rfl ?_); refine ev_new rfl (cs := #[Value.int .i64 b.t, Value.slice aX b.X.length cX, Value.slice aP b.P.length cP, Value.bool b.flag, Value.int .i64 b.pass, Value.int .i64 b.fail]) (t := 27) (by go_simp) ?_; intro w2 b2 hB2 hz2; replace b1 := b1.keep hB2; replace hB1 := more hB1 hB2; rw [hz1] at b2 hz2; try rw [hz1]; have c0 := b1.cell 0; have c1 := b1.cell 1; have c2 := b1.cell 2; have c3 := b1.cell 3; have c4 := b1.cell 4; have c5 := b1.cell 5; have c6 := b1.cell 6; have d0 := b2.cell 0; have d1 := b2.cell 1; have d2 := b2.cell 2; have d3 := b2.cell 3; have d4 := b2.cell 4; have d5 := b2.cell 5; simp at c0 c1 c2 c3 c4 c5 c6 d0 d1 d2 d3 d4 d5; clear hB2 hz1))
  refine (fits_is (HM.out.keep hB1) (HB.out.keep hB1) hl).mono ?_
  rintro e w3 ⟨rfl, hB3⟩
  rw [HV.out]
  clear c0 c1 c2 c3 c4 c5 c6 d0 d1 d2 d3 d4 d5
  replace b1 := b1.keep hB3
  replace b2 := b2.keep hB3
  replace hB1 := more hB1 hB3
  clear hB3 hz2
  obtain ⟨x, hx⟩ : ∃ x, w0.heap.size = x := ⟨_, rfl⟩
  obtain ⟨y, hy⟩ : ∃ y, x + 1 = y := ⟨_, rfl⟩
  rw [hx] at b1 b2
  rw [hy] at b2
  simp only [hx, hy]
  have hxl : w0.heap.size ≤ x := by omega
  have hyl : w0.heap.size ≤ y := by omega
  have hyx : ¬ y = x := by omega
  by_cases hf : fv = 0
  case neg =>
    have hf2 : (fv != 0) = true := by simpa using hf
    have HF := Lib.hid hf
    clear hf
    go_wp2_with fail
    go_ret2
    exact ⟨fun _ => ⟨rfl, hB1⟩, fun e => absurd e HF.out⟩
  subst hf
  clear hx hy
  go_wp2_with fail
  refine region_fp [some 15, some 16, some 17, some 18, some 19, some 20, some 21, some 22, some 23, some 24, none, some 25, none, some 26, none] [2, 5, 8, 10, 12, 14] [some (Value.pointer (some ⟨x, 1, none⟩)), some (Value.slice aA M.A.length cA), none, some (Value.pointer (some ⟨x, 2, none⟩)), some (Value.slice aQ M.Q.length cQ), none, some (Value.pointer (some ⟨x, 6, none⟩)), some (Value.slice aR M.rows.length cR), none, some (Value.pointer (some ⟨x, 1, none⟩)), none, some (Value.pointer (some ⟨x, 2, none⟩)), none, some (Value.pointer (some ⟨x, 6, none⟩)), none]
    (fun i v W => match i with | 2 => ∃ a c, v = Value.slice a M.A.length c ∧ LI w0.heap.size W a c M.A | 5 => ∃ a c, v = Value.slice a M.Q.length c ∧ LI w0.heap.size W a c M.Q | 8 => ∃ a c, v = Value.slice a M.rows.length c ∧ Half w0.heap.size w0 W (Value.slice a M.rows.length c) M.rows 0 | _ => True) (fun W W' => KI W W' ∧ ∀ k, Ty W k 41 → W'.heap[k]? = W.heap[k]?) (fun L f W => Blk W x #[Value.int .i64 M.n, if L 10 = true then f 2 else Value.slice aA M.A.length cA, if L 12 = true then f 5 else Value.slice aQ M.Q.length cQ, Value.int .i64 M.tick, Value.int .i64 M.gate, Value.int .i64 M.rmin, if L 14 = true then f 8 else Value.slice aR M.rows.length cR] 25 ∧ Blk W y #[Value.int .i64 b.t, Value.slice aX b.X.length cX, Value.slice aP b.P.length cP, Value.bool b.flag, Value.int .i64 b.pass, Value.int .i64 b.fail] 27 ∧ Below w0.heap.size w0 W)
    (by kernel_rfl) (by kernel_rfl) (by kernel_rfl) (by kernel_rfl) (by kernel_rfl) (fun W => ⟨KI.refl W, fun _ _ => rfl⟩) (fun i v W W' h hb => by
      match i, h with
      | 2, ⟨a, c, e, h1⟩ => exact ⟨a, c, e, h1.ki hb.1⟩
      | 5, ⟨a, c, e, h1⟩ => exact ⟨a, c, e, h1.ki hb.1⟩
      | 8, ⟨a, c, e, h1⟩ => exact ⟨a, c, e, h1.ki hb.1 (fun k hk => hb.2 k (by obtain ⟨_, _, _, _, h3⟩ := h1; exact (row_ty h3 k hk).1))⟩
      | 0, _ | 1, _ | 3, _ | 4, _ | 6, _ | 7, _ => trivial
      | (n + 9), _ => trivial) (fun L L' f f' W h hs => by
      have h2 := (h 2 (by simp)).2
      have h5 := (h 5 (by simp)).2
      have h8 := (h 8 (by simp)).2
      have h10 := (h 10 (by simp)).1
      have h12 := (h 12 (by simp)).1
      have h14 := (h 14 (by simp)).1
      rw [h2, h5, h8, h10, h12, h14] at hs
      exact hs) ⟨by simpa using b1.drew, b2.drew, hB1.drew⟩ ?_ ?_
  · intro i hi b' L f W hSW hL hdep hsh he hsv hsl hFF K hK1 hK2
    replace hi : i < 15 := hi
    have hcs : i = 0 ∨ i = 1 ∨ i = 2 ∨ i = 3 ∨ i = 4 ∨ i = 5 ∨ i = 6 ∨ i = 7 ∨ i = 8 ∨ i = 9 ∨ i = 10 ∨ i = 11 ∨ i = 12 ∨ i = 13 ∨ i = 14 := by omega
    clear hi
    rcases hcs with rfl | rfl | rfl | rfl | rfl | rfl | rfl | rfl | rfl | rfl | rfl | rfl | rfl | rfl | rfl
    · refine wpOp_go rfl rfl ?_
      have t2 : b'.tmps[2]?.getD undef = Value.pointer (some ⟨x, 0, none⟩) := he 2 (by kernel_rfl)
      have HK := Lib.hid hK1
      clear hK1 hK2 hdep hsh he hsv hsl hFF hL
      clear hSW
      go_simp
      exact HK.out rfl _ (fp_mk rfl rfl trivial)
    · refine wpOp_go rfl rfl ?_
      have t15 : b'.tmps[15]?.getD undef = Value.pointer (some ⟨x, 1, none⟩) := hsv 0 15 _ (by kernel_rfl) (by kernel_rfl) rfl
      have hl : L 10 = false := hsh 10 (by kernel_rfl)
      have c0 := hSW.1.cell 1
      simp [hl] at c0
      have HK := Lib.hid hK1
      clear hK1 hK2 hdep hsh he hsv hsl hFF hL
      clear hSW hl
      go_simp
      exact HK.out rfl _ (fp_mk rfl rfl trivial)
    · refine wpOp_go rfl rfl ?_
      have t16 : b'.tmps[16]?.getD undef = Value.slice aA M.A.length cA := hsv 1 16 _ (by kernel_rfl) (by kernel_rfl) rfl
      have hk10 : L 10 = false := hsh 10 (by kernel_rfl)
      have hk12 : L 12 = false := hsh 12 (by kernel_rfl)
      have hk14 : L 14 = false := hsh 14 (by kernel_rfl)
      have HK := Lib.hid hK2
      clear hK1 hK2 hdep hsh he hsv hsl hFF hL
      go_simp
      refine (clone_is (hA.keep hSW.2.2) h1).mono ?_
      rintro e w6 ⟨a, c, rfl, hL, hK6⟩
      exact HK.out _ _ (fp_x rfl ⟨a, c, rfl, hL.mono hSW.2.2.size⟩) ⟨KI.of hK6, fun k hk => hK6.block k hk.lt⟩ (by simp only [updF, hk10, hk12, hk14] at hSW ⊢; exact ⟨hSW.1.keep hK6, hSW.2.1.keep hK6, more hSW.2.2 hK6⟩)
    · refine wpOp_go rfl rfl ?_
      have t2 : b'.tmps[2]?.getD undef = Value.pointer (some ⟨x, 0, none⟩) := he 2 (by kernel_rfl)
      have HK := Lib.hid hK1
      clear hK1 hK2 hdep hsh he hsv hsl hFF hL
      clear hSW
      go_simp
      exact HK.out rfl _ (fp_mk rfl rfl trivial)
    · refine wpOp_go rfl rfl ?_
      have t18 : b'.tmps[18]?.getD undef = Value.pointer (some ⟨x, 2, none⟩) := hsv 3 18 _ (by kernel_rfl) (by kernel_rfl) rfl
      have hl : L 12 = false := hsh 12 (by kernel_rfl)
      have c0 := hSW.1.cell 2
      simp [hl] at c0
      have HK := Lib.hid hK1
      clear hK1 hK2 hdep hsh he hsv hsl hFF hL
      clear hSW hl
      go_simp
      exact HK.out rfl _ (fp_mk rfl rfl trivial)
    · refine wpOp_go rfl rfl ?_
      have t19 : b'.tmps[19]?.getD undef = Value.slice aQ M.Q.length cQ := hsv 4 19 _ (by kernel_rfl) (by kernel_rfl) rfl
      have hk10 : L 10 = false := hsh 10 (by kernel_rfl)
      have hk12 : L 12 = false := hsh 12 (by kernel_rfl)
      have hk14 : L 14 = false := hsh 14 (by kernel_rfl)
      have HK := Lib.hid hK2
      clear hK1 hK2 hdep hsh he hsv hsl hFF hL
      go_simp
      refine (clone_is (hQ.keep hSW.2.2) h2).mono ?_
      rintro e w6 ⟨a, c, rfl, hL, hK6⟩
      exact HK.out _ _ (fp_x rfl ⟨a, c, rfl, hL.mono hSW.2.2.size⟩) ⟨KI.of hK6, fun k hk => hK6.block k hk.lt⟩ (by simp only [updF, hk10, hk12, hk14] at hSW ⊢; exact ⟨hSW.1.keep hK6, hSW.2.1.keep hK6, more hSW.2.2 hK6⟩)
    · refine wpOp_go rfl rfl ?_
      have t2 : b'.tmps[2]?.getD undef = Value.pointer (some ⟨x, 0, none⟩) := he 2 (by kernel_rfl)
      have HK := Lib.hid hK1
      clear hK1 hK2 hdep hsh he hsv hsl hFF hL
      clear hSW
      go_simp
      exact HK.out rfl _ (fp_mk rfl rfl trivial)
    · refine wpOp_go rfl rfl ?_
      have t21 : b'.tmps[21]?.getD undef = Value.pointer (some ⟨x, 6, none⟩) := hsv 6 21 _ (by kernel_rfl) (by kernel_rfl) rfl
      have hl : L 14 = false := hsh 14 (by kernel_rfl)
      have c0 := hSW.1.cell 6
      simp [hl] at c0
      have HK := Lib.hid hK1
      clear hK1 hK2 hdep hsh he hsv hsl hFF hL
      clear hSW hl
      go_simp
      exact HK.out rfl _ (fp_mk rfl rfl trivial)
    · refine wpOp_go rfl rfl ?_
      have t22 : b'.tmps[22]?.getD undef = Value.slice aR M.rows.length cR := hsv 7 22 _ (by kernel_rfl) (by kernel_rfl) rfl
      have hk10 : L 10 = false := hsh 10 (by kernel_rfl)
      have hk12 : L 12 = false := hsh 12 (by kernel_rfl)
      have hk14 : L 14 = false := hsh 14 (by kernel_rfl)
      have HK := Lib.hid hK2
      clear hK1 hK2 hdep hsh he hsv hsl hFF hL
      go_simp
      refine (cloneR_is (c := cR) (by rw [flat_len (all2_lens (fun _ _ h => RV.len h |>.1) hvs), hvs.len]) (hrd.keep hSW.2.2) hone (fun e => ⟨by have := hR.cap; have := hR.nn e; omega, hR.nn e⟩) (by omega)).mono ?_
      rintro e w6 ⟨a, c, rfl, ho, hK6⟩
      exact HK.out _ _ (fp_x rfl ⟨a, c, rfl, [], vs, by simp [All2], hvs, by simpa using ownsRow_mono ho hSW.2.2.size⟩) ⟨KI.of hK6, fun k hk => hK6.block k hk.lt⟩ (by simp only [updF, hk10, hk12, hk14] at hSW ⊢; exact ⟨hSW.1.keep hK6, hSW.2.1.keep hK6, more hSW.2.2 hK6⟩)
    · refine wpOp_go rfl rfl ?_
      have t2 : b'.tmps[2]?.getD undef = Value.pointer (some ⟨x, 0, none⟩) := he 2 (by kernel_rfl)
      have HK := Lib.hid hK1
      clear hK1 hK2 hdep hsh he hsv hsl hFF hL
      clear hSW
      go_simp
      exact HK.out rfl _ (fp_mk rfl rfl trivial)
    · refine wpOp_go rfl rfl ?_
      have t24 : b'.tmps[24]?.getD undef = Value.pointer (some ⟨x, 1, none⟩) := hsv 9 24 _ (by kernel_rfl) (by kernel_rfl) rfl
      obtain ⟨t17, hx⟩ := hsl 2 17 (by kernel_rfl) (by kernel_rfl)
      obtain ⟨a, c, e2, _⟩ := hx
      rw [e2] at t17
      have hk10 : L 10 = false := hL
      have hk12 : L 12 = false := hsh 12 (by kernel_rfl)
      have hk14 : L 14 = false := hsh 14 (by kernel_rfl)
      have hb := hSW.1
      simp only [hk10, hk12, hk14, if_true, if_false, Bool.false_eq_true] at hb
      refine op_store 22 _ _ rfl rfl hb 1 (eval_tmp t24) (eval_tmp t17) [Value.slice a M.A.length c] rfl (by kernel_rfl) rfl rfl _ rfl ?_
      intro W' hb2 ef hz
      have hni : ∀ k, k = x → ¬ Ty W k 3 := by rintro _ rfl e; exact absurd (e.inj hb.ty) (by decide)
      refine hK2 undef W' (fp_x rfl trivial) ⟨KI.eff ef hni, fun k hk => ef.block k hk.lt (by rintro rfl; exact absurd (hk.inj hb.ty) (by decide))⟩ ⟨?_, ef.blk hSW.2.1 hyx, ef.below hSW.2.2 (by rintro _ rfl; exact hxl)⟩
      simp [putA, putL] at hb2
      simp [updF, hk12, hk14, e2]
      exact hb2
    · refine wpOp_go rfl rfl ?_
      have t2 : b'.tmps[2]?.getD undef = Value.pointer (some ⟨x, 0, none⟩) := he 2 (by kernel_rfl)
      have HK := Lib.hid hK1
      clear hK1 hK2 hdep hsh he hsv hsl hFF hL
      clear hSW
      go_simp
      exact HK.out rfl _ (fp_mk rfl rfl trivial)
    · refine wpOp_go rfl rfl ?_
      have t25 : b'.tmps[25]?.getD undef = Value.pointer (some ⟨x, 2, none⟩) := hsv 11 25 _ (by kernel_rfl) (by kernel_rfl) rfl
      obtain ⟨t20, hx⟩ := hsl 5 20 (by kernel_rfl) (by kernel_rfl)
      obtain ⟨a, c, e2, _⟩ := hx
      rw [e2] at t20
      have hk10 : L 10 = true := hdep 10 (by kernel_rfl)
      have hk12 : L 12 = false := hL
      have hk14 : L 14 = false := hsh 14 (by kernel_rfl)
      have hb := hSW.1
      simp only [hk10, hk12, hk14, if_true, if_false, Bool.false_eq_true] at hb
      refine op_store 22 _ _ rfl rfl hb 2 (eval_tmp t25) (eval_tmp t20) [Value.slice a M.Q.length c] rfl (by kernel_rfl) rfl rfl _ rfl ?_
      intro W' hb2 ef hz
      have hni : ∀ k, k = x → ¬ Ty W k 3 := by rintro _ rfl e; exact absurd (e.inj hb.ty) (by decide)
      refine hK2 undef W' (fp_x rfl trivial) ⟨KI.eff ef hni, fun k hk => ef.block k hk.lt (by rintro rfl; exact absurd (hk.inj hb.ty) (by decide))⟩ ⟨?_, ef.blk hSW.2.1 hyx, ef.below hSW.2.2 (by rintro _ rfl; exact hxl)⟩
      simp [putA, putL] at hb2
      simp [updF, hk10, hk14, e2]
      exact hb2
    · refine wpOp_go rfl rfl ?_
      have t2 : b'.tmps[2]?.getD undef = Value.pointer (some ⟨x, 0, none⟩) := he 2 (by kernel_rfl)
      have HK := Lib.hid hK1
      clear hK1 hK2 hdep hsh he hsv hsl hFF hL
      clear hSW
      go_simp
      exact HK.out rfl _ (fp_mk rfl rfl trivial)
    · refine wpOp_go rfl rfl ?_
      have t26 : b'.tmps[26]?.getD undef = Value.pointer (some ⟨x, 6, none⟩) := hsv 13 26 _ (by kernel_rfl) (by kernel_rfl) rfl
      obtain ⟨t23, hx⟩ := hsl 8 23 (by kernel_rfl) (by kernel_rfl)
      obtain ⟨a, c, e2, _⟩ := hx
      rw [e2] at t23
      have hk10 : L 10 = true := hdep 10 (by kernel_rfl)
      have hk12 : L 12 = true := hdep 12 (by kernel_rfl)
      have hk14 : L 14 = false := hL
      have hb := hSW.1
      simp only [hk10, hk12, hk14, if_true, if_false, Bool.false_eq_true] at hb
      refine op_store 23 _ _ rfl rfl hb 6 (eval_tmp t26) (eval_tmp t23) [Value.slice a M.rows.length c] rfl (by kernel_rfl) rfl rfl _ rfl ?_
      intro W' hb2 ef hz
      have hni : ∀ k, k = x → ¬ Ty W k 3 := by rintro _ rfl e; exact absurd (e.inj hb.ty) (by decide)
      refine hK2 undef W' (fp_x rfl trivial) ⟨KI.eff ef hni, fun k hk => ef.block k hk.lt (by rintro rfl; exact absurd (hk.inj hb.ty) (by decide))⟩ ⟨?_, ef.blk hSW.2.1 hyx, ef.below hSW.2.2 (by rintro _ rfl; exact hxl)⟩
      simp [putA, putL] at hb2
      simp [updF, hk10, hk12, e2]
      exact hb2
  · intro f w4 hf L hL hS
    have e0 : f 0 = Value.pointer (some ⟨x, 1, none⟩) := (hf 0 (by decide)).1 _ rfl
    have e1 : f 1 = Value.slice aA M.A.length cA := (hf 1 (by decide)).1 _ rfl
    have e3 : f 3 = Value.pointer (some ⟨x, 2, none⟩) := (hf 3 (by decide)).1 _ rfl
    have e4 : f 4 = Value.slice aQ M.Q.length cQ := (hf 4 (by decide)).1 _ rfl
    have e6 : f 6 = Value.pointer (some ⟨x, 6, none⟩) := (hf 6 (by decide)).1 _ rfl
    have e7 : f 7 = Value.slice aR M.rows.length cR := (hf 7 (by decide)).1 _ rfl
    have e9 : f 9 = Value.pointer (some ⟨x, 1, none⟩) := (hf 9 (by decide)).1 _ rfl
    have e11 : f 11 = Value.pointer (some ⟨x, 2, none⟩) := (hf 11 (by decide)).1 _ rfl
    have e13 : f 13 = Value.pointer (some ⟨x, 6, none⟩) := (hf 13 (by decide)).1 _ rfl
    obtain ⟨a2, c2, e2, hA2⟩ := (hf 2 (by decide)).2
    obtain ⟨a5, c5, e5, hQ2⟩ := (hf 5 (by decide)).2
    obtain ⟨a8, c8, e8, hR2⟩ := (hf 8 (by decide)).2
    obtain ⟨bx, by1, hB4⟩ : Blk w4 x #[Value.int .i64 M.n, Value.slice a2 M.A.length c2, Value.slice a5 M.Q.length c5, Value.int .i64 M.tick, Value.int .i64 M.gate, Value.int .i64 M.rmin, Value.slice a8 M.rows.length c8] 25 ∧ Blk w4 y #[Value.int .i64 b.t, Value.slice aX b.X.length cX, Value.slice aP b.P.length cP, Value.bool b.flag, Value.int .i64 b.pass, Value.int .i64 b.fail] 27 ∧ Below w0.heap.size w0 w4 := by
        have := (hS : _ ∧ _ ∧ _)
        rw [hL 10 (by decide), hL 12 (by decide), hL 14 (by decide), e2, e5, e8] at this
        exact this
    clear hf hL hS b1 b2
    simp only [puts2, Act.put, e0, e1, e2, e3, e4, e5, e6, e7, e8, e9, e11, e13]
    try simp only [List.setIfInBounds_toArray, List.set_cons_zero, List.set_cons_succ]
    clear e0 e1 e2 e3 e4 e5 e6 e7 e8 e9 e11 e13
    have y6 := bx.cell 6
    simp at y6
    have hrq : ∀ q ∈ M.rows, I64 q.s ∧ I64 q.r := hR.rng
    go_wp2_with fail
    go_loopw [30] (fun t wr => ∃ i : Nat, i ≤ M.rows.length ∧ t = .int .i64 i ∧ NewL w0 x y M #[Value.int .i64 M.n, Value.slice a2 M.A.length c2, Value.slice a5 M.Q.length c5, Value.int .i64 M.tick, Value.int .i64 M.gate, Value.int .i64 M.rmin, Value.slice a8 M.rows.length c8] #[Value.int .i64 b.t, Value.slice aX b.X.length cX, Value.slice aP b.P.length cP, Value.bool b.flag, Value.int .i64 b.pass, Value.int .i64 b.fail] (a2, c2) (a5, c5) (Value.slice a8 M.rows.length c8) i wr) (fun t _ => M.rows.length - (intOf t).toNat)
    case atStart => exact ⟨0, Nat.zero_le _, rfl, ⟨bx, by1, hA2, hQ2, hR2, hB4⟩⟩
    case round =>
      obtain ⟨i, hi, rfl, hN⟩ := hrel
      clear bx by1 hA2 hQ2 hR2 hB4 y6
      by_cases hlt : i < M.rows.length
      · have hlt' : (i : Int) < (M.rows.length : Int) := by omega
        have hi0 : (0 : Int) ≤ (i : Int) := by omega
        have hi : i < M.rows.length := hlt
        obtain ⟨g, cc, cur, a, ca, e1, hrow, hg, hmi, _, r0, r1, r2, _⟩ := hN.half.at_ hi
        injection e1 with e1 _ e2
        subst e1 e2
        obtain ⟨q, hqi⟩ : ∃ q, M.rows[i] = q := ⟨_, rfl⟩
        rw [hqi] at hmi r0 r1 r2
        have hql : q.h.length ≤ 100000 := HH.out q (by rw [← hqi]; exact List.getElem_mem hi)
        have HQ := Lib.hid hqi
        clear hqi
        go_wp2_with (first | ((with_reducible refine at_dst (N := 8) rfl ?_); refine ev_new rfl (cs := #[Value.int .i64 0, Value.slice none 0 0, Value.int .i64 0]) (t := 41) (by go_simp) ?_; intro w5 bz hB5 hz5; have bz0 := bz) | ((with_reducible refine at_st (p := 8) (q := 34) rfl ?_); refine ev_store rfl 41 _ _ rfl rfl bz 0 rfl rfl [Value.int .i64 q.s, Value.slice a q.h.length ca, Value.int .i64 q.r] rfl (by kernel_rfl) rfl rfl _ rfl ?_; intro w6 bz ef6 hz6))
        obtain ⟨z, hz⟩ : ∃ z, wr.heap.size = z := ⟨_, rfl⟩
        rw [hz] at bz ef6
        simp only [hz]
        have hzs := hN.bel.size
        have hxz := hN.bx.lt
        have hyz := hN.by1.lt
        have hgz := hrow.lt
        have hN6 := (hN.keep hB5).eff ef6 (by rintro k rfl; rw [hz] at bz0; exact ⟨by omega, by omega, by omega, fun e => absurd (e.inj bz0.ty) (by decide), fun e => by simp [Value.ownBlock] at e; omega⟩)
        simp [putA, putL] at bz
        have hqi := HQ.out
        clear hN hB5 ef6 r0 r1 r2 hrow hz5 hz6 HQ
        have hS0 := hN6.bel
        refine region_fp [some 35, some 36, some 37, some 38, some 39, some 40, some 41, some 42, none] [8] [some (Value.pointer (some ⟨x, 6, none⟩)), some (Value.slice (some ⟨g, 0, none⟩) M.rows.length c8), some (Value.int .i64 ↑i), some (Value.pointer (some ⟨z, 1, none⟩)), some (Value.slice a q.h.length ca), none, some (Value.pointer (some ⟨g, i * 3, none⟩)), some (Value.pointer (some ⟨g, i * 3 + 1, none⟩)), none]
          (fun i v W => match i with | 5 => ∃ a' c', v = Value.slice a' q.h.length c' ∧ LI w0.heap.size W a' c' q.h | _ => True) (KI) (fun L f W => (L 8 = false → Below w6.heap.size w6 W) ∧ (L 8 = true → NewL w0 x y M #[Value.int .i64 M.n, Value.slice a2 M.A.length c2, Value.slice a5 M.Q.length c5, Value.int .i64 M.tick, Value.int .i64 M.gate, Value.int .i64 M.rmin, Value.slice (some ⟨g, 0, none⟩) M.rows.length c8] #[Value.int .i64 b.t, Value.slice aX b.X.length cX, Value.slice aP b.P.length cP, Value.bool b.flag, Value.int .i64 b.pass, Value.int .i64 b.fail] (a2, c2) (a5, c5) (Value.slice (some ⟨g, 0, none⟩) M.rows.length c8) (i + 1) W))
          (by kernel_rfl) (by kernel_rfl) (by kernel_rfl) (by kernel_rfl) (by kernel_rfl) KI.refl (fun i v W W' h hb => by
            match i, h with
            | 5, ⟨a', c', e, h1⟩ => exact ⟨a', c', e, h1.ki hb⟩
            | 0, _ | 1, _ | 2, _ | 3, _ | 4, _ => trivial
            | (n + 6), _ => trivial) (fun L L' f f' W h hs => by
            have h8 := (h 8 (by simp)).1
            rw [h8] at hs
            exact hs) ⟨fun _ => below_drewN _ 1, (fun h => (by cases h))⟩ ?_ ?_
        · intro i hi b' L f W hSW hL hdep hsh he hsv hsl hFF K hK1 hK2
          replace hi : i < 9 := hi
          have hcs : i = 0 ∨ i = 1 ∨ i = 2 ∨ i = 3 ∨ i = 4 ∨ i = 5 ∨ i = 6 ∨ i = 7 ∨ i = 8 := by omega
          clear hi
          rcases hcs with rfl | rfl | rfl | rfl | rfl | rfl | rfl | rfl | rfl
          · refine wpOp_go rfl rfl ?_
            have t2 : b'.tmps[2]?.getD undef = Value.pointer (some ⟨x, 0, none⟩) := he 2 (by kernel_rfl)
            have HK := Lib.hid hK1
            clear hK1 hK2 hdep hsh he hsv hsl hFF hL
            clear hSW
            go_simp
            exact HK.out rfl _ (fp_mk rfl rfl trivial)
          · refine wpOp_go rfl rfl ?_
            have t35 : b'.tmps[35]?.getD undef = Value.pointer (some ⟨x, 6, none⟩) := hsv 0 35 _ (by kernel_rfl) (by kernel_rfl) rfl
            have hbw := hSW.1 (hsh 8 (by kernel_rfl))
            have c0 : W.cell? ⟨x, 6, none⟩ = some (Value.slice (some ⟨g, 0, none⟩) M.rows.length c8) := ((hN6.bx.keep hbw).cell 6).trans rfl
            have HK := Lib.hid hK1
            clear hK1 hK2 hdep hsh he hsv hsl hFF hL
            clear hSW hbw
            go_simp
            exact HK.out rfl _ (fp_mk rfl rfl trivial)
          · refine wpOp_go rfl rfl ?_
            have t7 : b'.tmps[7]?.getD undef = Value.int .i64 ↑i := he 7 (by kernel_rfl)
            have HK := Lib.hid hK1
            clear hK1 hK2 hdep hsh he hsv hsl hFF hL
            clear hSW
            go_simp
            exact HK.out rfl _ (fp_mk rfl rfl trivial)
          · refine wpOp_go rfl rfl ?_
            have t8 : b'.tmps[8]?.getD undef = Value.pointer (some ⟨z, 0, none⟩) := he 8 (by kernel_rfl)
            have HK := Lib.hid hK1
            clear hK1 hK2 hdep hsh he hsv hsl hFF hL
            clear hSW
            go_simp
            exact HK.out rfl _ (fp_mk rfl rfl trivial)
          · refine wpOp_go rfl rfl ?_
            have t38 : b'.tmps[38]?.getD undef = Value.pointer (some ⟨z, 1, none⟩) := hsv 3 38 _ (by kernel_rfl) (by kernel_rfl) rfl
            have hbw := hSW.1 (hsh 8 (by kernel_rfl))
            have c0 : W.cell? ⟨z, 1, none⟩ = some (Value.slice a q.h.length ca) := ((bz.keep hbw).cell 1).trans rfl
            have HK := Lib.hid hK1
            clear hK1 hK2 hdep hsh he hsv hsl hFF hL
            clear hSW hbw
            go_simp
            exact HK.out rfl _ (fp_mk rfl rfl trivial)
          · refine wpOp_go rfl rfl ?_
            have t39 : b'.tmps[39]?.getD undef = Value.slice a q.h.length ca := hsv 4 39 _ (by kernel_rfl) (by kernel_rfl) rfl
            have hbw := hSW.1 (hsh 8 (by kernel_rfl))
            have hk8 : L 8 = false := hsh 8 (by kernel_rfl)
            have HK := Lib.hid hK2
            clear hK1 hK2 hdep hsh he hsv hsl hFF hL
            clear hSW
            go_simp
            refine (clone_is (hmi.keep (more hN6.bel hbw)) hql).mono ?_
            rintro e w7 ⟨a', c', rfl, hL, hK7⟩
            have hs := (more hN6.bel hbw).size
            exact HK.out _ _ (fp_x rfl ⟨a', c', rfl, hL.mono hs⟩) (KI.of hK7) ⟨fun _ => more hbw hK7, fun h => by simp [updF, hk8] at h⟩
          · refine wpOp_go rfl rfl ?_
            have t36 : b'.tmps[36]?.getD undef = Value.slice (some ⟨g, 0, none⟩) M.rows.length c8 := hsv 1 36 _ (by kernel_rfl) (by kernel_rfl) rfl
            have t37 : b'.tmps[37]?.getD undef = Value.int .i64 ↑i := hsv 2 37 _ (by kernel_rfl) (by kernel_rfl) rfl
            have HK := Lib.hid hK1
            clear hK1 hK2 hdep hsh he hsv hsl hFF hL
            clear hSW
            go_simp
            exact HK.out rfl _ (fp_mk rfl rfl trivial)
          · refine wpOp_go rfl rfl ?_
            have t41 : b'.tmps[41]?.getD undef = Value.pointer (some ⟨g, i * 3, none⟩) := hsv 6 41 _ (by kernel_rfl) (by kernel_rfl) rfl
            have HK := Lib.hid hK1
            clear hK1 hK2 hdep hsh he hsv hsl hFF hL
            clear hSW
            go_simp
            exact HK.out rfl _ (fp_mk rfl rfl trivial)
          · refine wpOp_go rfl rfl ?_
            have t42 : b'.tmps[42]?.getD undef = Value.pointer (some ⟨g, i * 3 + 1, none⟩) := hsv 7 42 _ (by kernel_rfl) (by kernel_rfl) rfl
            have hbw := hSW.1 hL
            obtain ⟨t40, hx⟩ := hsl 5 40 (by kernel_rfl) (by kernel_rfl)
            obtain ⟨a', c', e5, hL5⟩ := hx
            rw [e5] at t40
            have hNW := hN6.keep hbw
            obtain ⟨g2, cc2, cur, _, _, e1, hrow, hg, _, hble, _, _, _, hnext⟩ := hNW.half.at_ hi
            injection e1 with e1 _ e2
            injection e1 with e1
            injection e1 with e1
            subst e1 e2
            rw [hqi] at hnext
            refine op_store 22 _ _ rfl rfl hrow (i * 3 + 1) (eval_tmp t42) (eval_tmp t40) [Value.slice a' q.h.length c'] rfl (by kernel_rfl) rfl hble _ rfl ?_
            intro W' hb2 ef hz
            have hni : ∀ k, k = g → ¬ Ty W k 3 := by rintro _ rfl e; exact absurd (e.inj hrow.ty) (by decide)
            have hki : KI W W' := KI.eff ef hni
            have hgx : ¬ x = g := by rintro rfl; exact absurd (hNW.bx.ty.inj hrow.ty) (by decide)
            have hgy : ¬ y = g := by rintro rfl; exact absurd (hNW.by1.ty.inj hrow.ty) (by decide)
            exact hK2 undef W' (fp_x rfl trivial) hki ⟨fun h => by simp [updF] at h, fun _ => ⟨ef.blk hNW.bx hgx, ef.blk hNW.by1 hgy, hNW.a.ki hki, hNW.q.ki hki, hnext W' a' c' hb2 hki (hL5.ki hki), ef.below hNW.bel (by rintro _ rfl; exact hg)⟩⟩
        · intro f w8 hf L hL hS
          have e0 : f 0 = Value.pointer (some ⟨x, 6, none⟩) := (hf 0 (by decide)).1 _ rfl
          have e1 : f 1 = Value.slice (some ⟨g, 0, none⟩) M.rows.length c8 := (hf 1 (by decide)).1 _ rfl
          have e2 : f 2 = Value.int .i64 ↑i := (hf 2 (by decide)).1 _ rfl
          have e3 : f 3 = Value.pointer (some ⟨z, 1, none⟩) := (hf 3 (by decide)).1 _ rfl
          have e4 : f 4 = Value.slice a q.h.length ca := (hf 4 (by decide)).1 _ rfl
          have e6 : f 6 = Value.pointer (some ⟨g, i * 3, none⟩) := (hf 6 (by decide)).1 _ rfl
          have e7 : f 7 = Value.pointer (some ⟨g, i * 3 + 1, none⟩) := (hf 7 (by decide)).1 _ rfl
          have hN7 : NewL w0 x y M #[Value.int .i64 M.n, Value.slice a2 M.A.length c2, Value.slice a5 M.Q.length c5, Value.int .i64 M.tick, Value.int .i64 M.gate, Value.int .i64 M.rmin, Value.slice (some ⟨g, 0, none⟩) M.rows.length c8] #[Value.int .i64 b.t, Value.slice aX b.X.length cX, Value.slice aP b.P.length cP, Value.bool b.flag, Value.int .i64 b.pass, Value.int .i64 b.fail] (a2, c2) (a5, c5) (Value.slice (some ⟨g, 0, none⟩) M.rows.length c8) (i + 1) w8 := hS.2 (hL 8 (by decide))
          clear hf hL hS
          simp only [puts2, Act.put, e0, e1, e2, e3, e4, e6, e7]
          try simp only [List.setIfInBounds_toArray, List.set_cons_zero, List.set_cons_succ]
          generalize f 5 = u5 at *
          clear e0 e1 e2 e3 e4 e6 e7 hN6 hS0
          go_wp2_with fail
          go_roundw
          case rel => exact ⟨i + 1, by omega, by go_num, hN7⟩
          case measure => simp [intOf]; omega
      · have hge : ¬ (i : Int) < (M.rows.length : Int) := by omega
        have hir : i = M.rows.length := by omega
        have hhalf := hN.half
        rw [hir] at hhalf
        have hom : OM w0.heap.size wr (Value.agg #[Value.int .i64 M.n, Value.slice a2 M.A.length c2, Value.slice a5 M.Q.length c5, Value.int .i64 M.tick, Value.int .i64 M.gate, Value.int .i64 M.rmin, Value.slice a8 M.rows.length c8]) M := ⟨⟨_, _, _, _, _, _, rfl, hN.a, hN.q, hhalf.or hrq⟩, HM.out.n, HM.out.tick, HM.out.gate, HM.out.rmin⟩
        clear hhalf hir
        have hbd := Lib.hid (fun (w : World) => (by kernel_rfl : (Instr.build 96 #[(0, Value.agg #[Value.int .i64 b.t, Value.slice aX b.X.length cX, Value.slice aP b.P.length cP, Value.bool b.flag, Value.int .i64 b.pass, Value.int .i64 b.fail])]).run Try.prog w = .ok (.agg #[Value.int .i64 b.t, Value.slice aX b.X.length cX, Value.slice aP b.P.length cP, Value.bool b.flag, Value.int .i64 b.pass, Value.int .i64 b.fail, Value.bool false, Value.slice none 0 0, Value.slice none 0 0, Value.int .i64 0, Value.int .i64 0]) w))
        go_wp2_with fail
        refine region_fp [some 44, some 45, some 46, some 47, some 48, some 49, some 50, some 51, some 4, some 5] [] [some (Value.agg #[Value.int .i64 b.t, Value.slice aX b.X.length cX, Value.slice aP b.P.length cP, Value.bool b.flag, Value.int .i64 b.pass, Value.int .i64 b.fail]), some (Value.agg #[Value.int .i64 b.t, Value.slice aX b.X.length cX, Value.slice aP b.P.length cP, Value.bool b.flag, Value.int .i64 b.pass, Value.int .i64 b.fail, Value.bool false, Value.slice none 0 0, Value.slice none 0 0, Value.int .i64 0, Value.int .i64 0]), none, none, none, some (Value.agg #[Value.int .i64 M.n, Value.slice a2 M.A.length c2, Value.slice a5 M.Q.length c5, Value.int .i64 M.tick, Value.int .i64 M.gate, Value.int .i64 M.rmin, Value.slice a8 M.rows.length c8]), none, none, none, some (Value.int .i64 0)]
          (fun i v W => match i with | 2 => ∃ cs : List Value, v = Value.agg cs.toArray ∧ KV w0.heap.size W cs ⟨b, trc0⟩ | 3 => ∃ e1, v = Value.slice (some ⟨e1, 0, none⟩) 1 1 ∧ RK w0.heap.size W (Value.slice (some ⟨e1, 0, none⟩) 1 1) [⟨b, trc0⟩] ∧ w0.heap.size ≤ e1 | 4 => ∃ e1, v = Value.agg #[Value.slice (some ⟨e1, 0, none⟩) 1 1] ∧ RK w0.heap.size W (Value.slice (some ⟨e1, 0, none⟩) 1 1) [⟨b, trc0⟩] ∧ w0.heap.size ≤ e1 | 6 => ∃ e1, v = Value.agg #[Value.slice (some ⟨e1, 0, none⟩) 1 1, Value.int .i64 M.n, Value.slice a2 M.A.length c2, Value.slice a5 M.Q.length c5, Value.int .i64 M.tick, Value.int .i64 M.gate, Value.int .i64 M.rmin, Value.slice a8 M.rows.length c8] ∧ RK w0.heap.size W (Value.slice (some ⟨e1, 0, none⟩) 1 1) [⟨b, trc0⟩] ∧ w0.heap.size ≤ e1 | 7 => ∃ p' v', v = Value.pointer (some ⟨p', 0, none⟩) ∧ PM w0.heap.size W p' v' M [⟨b, trc0⟩] | 8 => ∃ p' v', v = Value.pointer (some ⟨p', 0, none⟩) ∧ PM w0.heap.size W p' v' M [⟨b, trc0⟩] | _ => True) (fun W W' => Below W.heap.size W W') (fun _ _ W => Blk W x #[Value.int .i64 M.n, Value.slice a2 M.A.length c2, Value.slice a5 M.Q.length c5, Value.int .i64 M.tick, Value.int .i64 M.gate, Value.int .i64 M.rmin, Value.slice a8 M.rows.length c8] 25 ∧ Blk W y #[Value.int .i64 b.t, Value.slice aX b.X.length cX, Value.slice aP b.P.length cP, Value.bool b.flag, Value.int .i64 b.pass, Value.int .i64 b.fail] 27 ∧ OM w0.heap.size W (Value.agg #[Value.int .i64 M.n, Value.slice a2 M.A.length c2, Value.slice a5 M.Q.length c5, Value.int .i64 M.tick, Value.int .i64 M.gate, Value.int .i64 M.rmin, Value.slice a8 M.rows.length c8]) M ∧ Below w0.heap.size w0 W)
          (by kernel_rfl) (by kernel_rfl) (by kernel_rfl) (by kernel_rfl) (by kernel_rfl) (fun _ => Below.refl _ _) (fun i v W W' h hb => by
            match i, h with
            | 2, ⟨cs, e, h1⟩ => exact ⟨cs, e, h1.keep hb⟩
            | 3, ⟨a, e, h1, h2⟩ => exact ⟨a, e, h1.keep hb, h2⟩
            | 4, ⟨a, e, h1, h2⟩ => exact ⟨a, e, h1.keep hb, h2⟩
            | 6, ⟨a, e, h1, h2⟩ => exact ⟨a, e, h1.keep hb, h2⟩
            | 7, ⟨a, c, e, h1⟩ => exact ⟨a, c, e, h1.keep hb⟩
            | 8, ⟨a, c, e, h1⟩ => exact ⟨a, c, e, h1.keep hb⟩
            | 0, _ | 1, _ | 5, _ => trivial
            | (n + 9), _ => trivial) (fun _ _ _ _ _ _ h => h) ⟨hN.bx.drew, hN.by1.drew, hom.keep (below_drewN _ 1), hN.bel.drew⟩ ?_ ?_
        · intro i hi b' L f W hSW hL hdep hsh he hsv hsl hFF K hK1 hK2
          replace hi : i < 10 := hi
          have hcs : i = 0 ∨ i = 1 ∨ i = 2 ∨ i = 3 ∨ i = 4 ∨ i = 5 ∨ i = 6 ∨ i = 7 ∨ i = 8 ∨ i = 9 := by omega
          clear hi
          rcases hcs with rfl | rfl | rfl | rfl | rfl | rfl | rfl | rfl | rfl | rfl
          · refine wpOp_go rfl rfl ?_
            have t3 : b'.tmps[3]?.getD undef = Value.pointer (some ⟨y, 0, none⟩) := he 3 (by kernel_rfl)
            obtain ⟨hbx, hby, hom, hbl⟩ := hSW
            refine op_load 27 _ rfl hby 0 (eval_tmp t3) [Value.int .i64 b.t, Value.slice aX b.X.length cX, Value.slice aP b.P.length cP, Value.bool b.flag, Value.int .i64 b.pass, Value.int .i64 b.fail] rfl Try.underlying27 rfl (by kernel_rfl) ?_
            exact hK1 rfl _ (fp_mk rfl rfl trivial)
          · refine wpOp_go rfl rfl ?_
            have t44 : b'.tmps[44]?.getD undef = Value.agg #[Value.int .i64 b.t, Value.slice aX b.X.length cX, Value.slice aP b.P.length cP, Value.bool b.flag, Value.int .i64 b.pass, Value.int .i64 b.fail] := hsv 0 44 _ (by kernel_rfl) (by kernel_rfl) rfl
            have hb8 := hbd.out W
            have HK := Lib.hid hK1
            clear hK1 hK2 hdep hsh he hsv hsl hFF hL
            clear hSW
            go_simp
            exact HK.out rfl _ (fp_mk rfl rfl trivial)
          · refine wpOp_go rfl rfl ?_
            have t45 : b'.tmps[45]?.getD undef = Value.agg #[Value.int .i64 b.t, Value.slice aX b.X.length cX, Value.slice aP b.P.length cP, Value.bool b.flag, Value.int .i64 b.pass, Value.int .i64 b.fail, Value.bool false, Value.slice none 0 0, Value.slice none 0 0, Value.int .i64 0, Value.int .i64 0] := hsv 1 45 _ (by kernel_rfl) (by kernel_rfl) rfl
            obtain ⟨hbx, hby, hom, hbl⟩ := hSW
            have HK := Lib.hid hK2
            clear hK1 hK2 hdep hsh he hsv hsl hFF hL
            go_simp
            have hkm : KM W [Value.int .i64 b.t, Value.slice aX b.X.length cX, Value.slice aP b.P.length cP, Value.bool b.flag, Value.int .i64 b.pass, Value.int .i64 b.fail, Value.bool false, Value.slice none 0 0, Value.slice none 0 0, Value.int .i64 0, Value.int .i64 0] ⟨b, trc0⟩ := ⟨_, _, _, _, none, 0, none, 0, rfl, hX.keep hbl, hP.keep hbl, MI.nil _ _, MI.nil _ _⟩
            refine (own_is (m := ⟨b, trc0⟩) (cs := [Value.int .i64 b.t, Value.slice aX b.X.length cX, Value.slice aP b.P.length cP, Value.bool b.flag, Value.int .i64 b.pass, Value.int .i64 b.fail, Value.bool false, Value.slice none 0 0, Value.slice none 0 0, Value.int .i64 0, Value.int .i64 0]) hkm hok).mono ?_
            rintro e w6 ⟨cs, rfl, hkv, hK6⟩
            have hs := hbl.size
            exact HK.out _ _ (fp_x rfl ⟨cs, rfl, hkv.mono hs⟩) hK6 ⟨hbx.keep hK6, hby.keep hK6, hom.keep hK6, more hbl hK6⟩
          · refine wpOp_go rfl rfl ?_
            obtain ⟨t46, hx⟩ := hsl 2 46 (by kernel_rfl) (by kernel_rfl)
            obtain ⟨cs, e2, hkv⟩ := hx
            rw [e2] at t46
            have hkv' := hkv
            obtain ⟨qX, dX, qP, dP, qH, dH, qR, dR, rfl, _⟩ := hkv
            obtain ⟨hbx, hby, hom, hbl⟩ := hSW
            have HK := Lib.hid hK2
            clear hK1 hK2 hdep hsh he hsv hsl hFF hL
            clear e2
            refine op_slice1 (cs := #[Value.int .i64 b.t, Value.slice qX b.X.length dX, Value.slice qP b.P.length dP, Value.bool b.flag, Value.int .i64 b.pass, Value.int .i64 b.fail, Value.bool trc0.is, Value.slice qH trc0.H.length dH, Value.slice qR trc0.R.length dR, Value.int .i64 trc0.s, Value.int .i64 trc0.nu]) (t := 96) (by go_simp) ?_
            intro w6 hbn hK6 hz
            have hs := hbl.size
            refine HK.out _ _ (fp_x rfl ⟨_, rfl, ⟨[_], ⟨hkv'.keep hK6, trivial⟩, ⟨by rfl, .inr ⟨_, _, _, rfl, by omega, hbn, Nat.le_refl _, by simp [maxLen], rfl, by rfl⟩⟩⟩, by omega⟩) hK6 ⟨hbx.keep hK6, hby.keep hK6, hom.keep hK6, more hbl hK6⟩
          · refine wpOp_go rfl rfl ?_
            obtain ⟨t47, hx⟩ := hsl 3 47 (by kernel_rfl) (by kernel_rfl)
            obtain ⟨e1, e2, h2⟩ := hx
            rw [e2] at t47
            have HK := Lib.hid hK1
            clear hK1 hK2 hdep hsh he hsv hsl hFF hL
            clear e2 hSW
            go_simp
            exact HK.out rfl _ (fp_x rfl ⟨e1, rfl, h2⟩)
          · refine wpOp_go rfl rfl ?_
            have t2 : b'.tmps[2]?.getD undef = Value.pointer (some ⟨x, 0, none⟩) := he 2 (by kernel_rfl)
            obtain ⟨hbx, hby, hom, hbl⟩ := hSW
            refine op_load 25 _ rfl hbx 0 (eval_tmp t2) [Value.int .i64 M.n, Value.slice a2 M.A.length c2, Value.slice a5 M.Q.length c5, Value.int .i64 M.tick, Value.int .i64 M.gate, Value.int .i64 M.rmin, Value.slice a8 M.rows.length c8] rfl Try.underlying25 rfl (by kernel_rfl) ?_
            exact hK1 rfl _ (fp_mk rfl rfl trivial)
          · refine wpOp_go rfl rfl ?_
            have t49 : b'.tmps[49]?.getD undef = Value.agg #[Value.int .i64 M.n, Value.slice a2 M.A.length c2, Value.slice a5 M.Q.length c5, Value.int .i64 M.tick, Value.int .i64 M.gate, Value.int .i64 M.rmin, Value.slice a8 M.rows.length c8] := hsv 5 49 _ (by kernel_rfl) (by kernel_rfl) rfl
            obtain ⟨t48, hx⟩ := hsl 4 48 (by kernel_rfl) (by kernel_rfl)
            obtain ⟨e1, e2, h2⟩ := hx
            rw [e2] at t48
            have HK := Lib.hid hK1
            clear hK1 hK2 hdep hsh he hsv hsl hFF hL
            clear e2 hSW
            go_simp
            exact HK.out rfl _ (fp_x rfl ⟨e1, rfl, h2⟩)
          · refine wpOp_go rfl rfl ?_
            obtain ⟨t50, hx⟩ := hsl 6 50 (by kernel_rfl) (by kernel_rfl)
            obtain ⟨e1, e2, h2, h3⟩ := hx
            rw [e2] at t50
            obtain ⟨hbx, hby, hom, hbl⟩ := hSW
            have HK := Lib.hid hK2
            clear hK1 hK2 hdep hsh he hsv hsl hFF hL
            clear e2
            refine op_new (cs := #[Value.slice (some ⟨e1, 0, none⟩) 1 1, Value.int .i64 M.n, Value.slice a2 M.A.length c2, Value.slice a5 M.Q.length c5, Value.int .i64 M.tick, Value.int .i64 M.gate, Value.int .i64 M.rmin, Value.slice a8 M.rows.length c8]) (t := 81) (by go_simp) ?_
            intro w6 hbn hK6 hz
            have hs := hbl.size
            exact HK.out _ _ (fp_x rfl ⟨_, _, rfl, ⟨⟨_, _, _, _, _, _, hbn, hom.keep hK6⟩, h2.keep hK6, by omega, by simp, by simp, fun m hm => by rw [List.mem_singleton.1 hm]; exact hok, hl⟩⟩) hK6 ⟨hbx.keep hK6, hby.keep hK6, hom.keep hK6, more hbl hK6⟩
          · refine wpOp_go rfl rfl ?_
            obtain ⟨t51, hx⟩ := hsl 7 51 (by kernel_rfl) (by kernel_rfl)
            obtain ⟨p', v', e2, h2⟩ := hx
            rw [e2] at t51
            have HK := Lib.hid hK1
            clear hK1 hK2 hdep hsh he hsv hsl hFF hL
            clear e2 hSW
            go_simp
            exact HK.out rfl _ (fp_x rfl ⟨p', v', rfl, h2⟩)
          · refine wpOp_go rfl rfl ?_
            have HK := Lib.hid hK1
            clear hK1 hK2 hdep hsh he hsv hsl hFF hL hSW
            go_simp
            exact HK.out rfl _ (fp_mk rfl rfl trivial)
        · intro f W hf L hL hS
          have e0 : f 0 = Value.agg #[Value.int .i64 b.t, Value.slice aX b.X.length cX, Value.slice aP b.P.length cP, Value.bool b.flag, Value.int .i64 b.pass, Value.int .i64 b.fail] := (hf 0 (by decide)).1 _ rfl
          have e1 : f 1 = Value.agg #[Value.int .i64 b.t, Value.slice aX b.X.length cX, Value.slice aP b.P.length cP, Value.bool b.flag, Value.int .i64 b.pass, Value.int .i64 b.fail, Value.bool false, Value.slice none 0 0, Value.slice none 0 0, Value.int .i64 0, Value.int .i64 0] := (hf 1 (by decide)).1 _ rfl
          have e5 : f 5 = Value.agg #[Value.int .i64 M.n, Value.slice a2 M.A.length c2, Value.slice a5 M.Q.length c5, Value.int .i64 M.tick, Value.int .i64 M.gate, Value.int .i64 M.rmin, Value.slice a8 M.rows.length c8] := (hf 5 (by decide)).1 _ rfl
          have e9 : f 9 = Value.int .i64 0 := (hf 9 (by decide)).1 _ rfl
          obtain ⟨p', v', e8, h8⟩ := (hf 8 (by decide)).2
          have hbl := (hS : _ ∧ _ ∧ _ ∧ _).2.2.2
          clear hf hL hS
          simp only [puts2, Act.put, e0, e1, e5, e8, e9]
          try simp only [List.setIfInBounds_toArray, List.set_cons_zero, List.set_cons_succ]
          go_wp2_with fail
          go_ret2
          exact ⟨p', v', rfl, h8, hbl⟩

end Go.Proofs.Ytagakcnhhhlolaa.Base
