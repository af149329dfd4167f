/- Lists of matrices of one's own. -/
import Derived.Test.YtkjbidpafnmogaaGreatPolC
import Derived.Maps.OwnIn
namespace Go.Proofs.YtkjbidpafnmogaaGreat.Base
open Go.RowKit Go
set_option linter.unusedVariables false
set_option linter.unusedSimpArgs false

/-- The k-th matrix in these cells; its list is one's own. -/
structure MC (B : Nat) (W : World) (vs : List Value) (k : Nat) (m : Mt) : Prop where
  ex : ∃ a c, vs[k * 3]? = some (.int .i64 m.r) ∧ vs[k * 3 + 1]? = some (.int .i64 m.c) ∧ vs[k * 3 + 2]? = some (.slice a m.v.length c) ∧ LI B W a c m.v
structure OMs (B : Nat) (W : World) (v : Value) (ms : List Mt) : Prop where
  ex : ∃ vs, W.ownsRow B 24 3 v ms.length vs ∧ ∀ k, (h : k < ms.length) → MC B W vs k ms[k]
  rng : ∀ m ∈ ms, I64 m.r ∧ I64 m.c
theorem OMs.kc {B : Nat} {W W' : World} {v : Value} {ms : List Mt} (h : OMs B W v ms) (hb : KC W W') : OMs B W' v ms := by
  obtain ⟨vs, h1, h2⟩ := h.ex
  refine ⟨⟨vs, ownsRow_kc h1 hb, fun k hk => ?_⟩, h.rng⟩
  obtain ⟨a, c, e0, e1, e2, e3⟩ := (h2 k hk).ex
  exact ⟨a, c, e0, e1, e2, e3.kc hb⟩
theorem OMs.keep {B : Nat} {W W' : World} {v : Value} {ms : List Mt} (h : OMs B W v ms) (hb : Below W.heap.size W W') : OMs B W' v ms := h.kc (kc_of hb)
theorem OMs.mono {B B' : Nat} {W : World} {v : Value} {ms : List Mt} (h : OMs B W v ms) (hB : B' ≤ B) : OMs B' W v ms := by
  obtain ⟨vs, h1, h2⟩ := h.ex
  refine ⟨⟨vs, ownsRow_mono h1 hB, fun k hk => ?_⟩, h.rng⟩
  obtain ⟨a, c, e0, e1, e2, e3⟩ := (h2 k hk).ex
  exact ⟨a, c, e0, e1, e2, e3.mono hB⟩
theorem OMs.eff {P : Nat → Prop} {B : Nat} {W W' : World} {v : Value} {ms : List Mt} (h : OMs B W v ms) (he : Eff P W W') (hi : ∀ k, P k → ¬ Ty W k 3) (hv : ∀ k, v.ownBlock = some k → ¬ P k) : OMs B W' v ms := by
  obtain ⟨vs, h1, h2⟩ := h.ex
  refine ⟨⟨vs, ownsRow_eff h1 he hv, fun k hk => ?_⟩, h.rng⟩
  obtain ⟨a, c, e0, e1, e2, e3⟩ := (h2 k hk).ex
  exact ⟨a, c, e0, e1, e2, e3.eff he hi⟩
theorem OMs.nil (B : Nat) (W : World) : OMs B W (.slice none 0 0) [] := ⟨⟨[], World.ownsRow_nil _ _ _ _, fun k hk => absurd hk (by simp)⟩, by simp⟩
theorem OMs.snoc {B : Nat} {W' : World} {v' : Value} {ms : List Mt} {vs : List Value} {m : Mt} {a : Option Addr} {c : Nat} (hr : ∀ k, (h : k < ms.length) → MC B W' vs k ms[k]) (hvl : vs.length = ms.length * 3) (hg : ∀ m ∈ ms, I64 m.r ∧ I64 m.c)
    (ho : W'.ownsRow B 24 3 v' (ms.length + 1) (vs ++ [.int .i64 m.r, .int .i64 m.c, .slice a m.v.length c])) (hL : LI B W' a c m.v) (hs : I64 m.r) (hrr : I64 m.c) : OMs B W' v' (ms ++ [m]) := by
  refine ⟨⟨_, by simpa using ho, fun k hk => ?_⟩, fun p hp => ?_⟩
  · simp at hk
    by_cases e : k < ms.length
    · obtain ⟨a', c', e0, e1, e2, e3⟩ := (hr k e).ex
      rw [List.getElem_append_left e]
      refine ⟨a', c', ?_, ?_, ?_, e3⟩
      · rw [List.getElem?_append_left (by omega)]; exact e0
      · rw [List.getElem?_append_left (by omega)]; exact e1
      · rw [List.getElem?_append_left (by omega)]; exact e2
    · have : k = ms.length := by omega
      subst this
      refine ⟨a, c, ?_, ?_, ?_, ?_⟩ <;> simp [← hvl, hL]
  · rcases List.mem_append.1 hp with h | h
    · exact hg p h
    · simp at h; subst h; exact ⟨hs, hrr⟩

theorem app_mat_in {F : Fence} {nF : Nat} {ops : Array Oper} {rest : List Oper} {o : Oper} {a : Act} {Q : Exit → Act → World → Prop} {w : World} {B : Nat} {v : Value} {ms : List Mt} {m : Mt} {aH : Option Addr} {cH : Nat}
    (hg : o.guard = none) (s x : Operand) (hop : o.op = Op.call { callee := Callee.builtin Builtin.append, args := #[s, x], argTypes := #[31, 31] })
    (hs : a.eval s = v) (h : OMs B w v ms) (hB : B ≤ w.heap.size) (e1 : Nat) (hx : a.eval x = .slice (some ⟨e1, 0, none⟩) 1 1) (nr nc : Int) (nh : Nat) (hnr : m.r = nr) (hnc : m.c = nc) (hnh : m.v.length = nh)
    (he : Blk w e1 #[.int .i64 nr, .int .i64 nc, .slice aH nh cH] 24) (hL : LI B w aH cH m.v) (h1 : I64 m.r) (h2 : I64 m.c) (hl : ms.length ≤ 1000)
    (hK : ∀ v' w', OMs B w' v' (ms ++ [m]) → w.grownBy w' v.ownBlock → (∀ k, v'.ownBlock = some k → v.ownBlock = some k ∨ w.heap.size ≤ k) → IsSl v' (ms.length + 1) → wpListIn F nF Tryz.prog ops Q rest (a.put o.dst v') w') :
    wpListIn F nF Tryz.prog ops Q (o :: rest) a w := by
  subst hnh hnr hnc
  obtain ⟨i0, hi, hz0, hz1, hz2⟩ : ∃ i, Tryz.prog.info? 24 = some i ∧ i.zero = some (.agg #[.int .i64 0, .int .i64 0, .slice none 0 0]) ∧ i.size = 3 ∧ i.bytes = 40 := info_parts (by kernel_rfl)
  obtain ⟨vs, ho, hr⟩ := h.ex
  have hne : 24 ≠ 3 := by decide
  refine wpListIn_append_own_at w hg s x 31 hop B 24 i0 _ 3 40 Tryz.underlying31 hi hz0 hz1 hz2 (by decide) (by decide) v ms.length vs hs ho ⟨e1, 0, none⟩ 1 1 [.int .i64 m.r, .int .i64 m.c, .slice aH m.v.length cH] hx rfl (fun j u hj => ?_) (fun u hu => ?_) (by unfold maxLen; omega) (by omega) hB (fun v' w' ho' hgr _ hat => ?_)
  · rw [Addr.add_lit, Nat.zero_add, he.cell]
    simpa using hj
  · simp at hu
    rcases hu with rfl | rfl | rfl <;> rfl
  · have hno := row_noInts ho hne
    have hf := ownsRow_succ ho'
    refine hK v' w' (OMs.snoc (fun k hk => ?_) ho.1 h.rng ho' (hL.grown hgr hno) h1 h2) hgr (fun k hk => ?_) hf
    · obtain ⟨a', c', e0, e1, e2, e3⟩ := (hr k hk).ex
      exact ⟨a', c', e0, e1, e2, e3.grown hgr hno⟩
    · rcases hat with e | e
      · exact .inl (e ▸ hk)
      · rw [hk] at e; cases e; exact .inr (Nat.le_refl _)

theorem pterms_is (r c : Int) (a : Option Addr) (n k : Nat) (b : Option Addr) (w : World) :
    Calls Tryz.prog 50 #[.pointer b, .agg #[.int .i64 r, .int .i64 c, .slice a n k]] w fun e w' => e = .returned (.func (.func 93) #[] #[.pointer (some ⟨w.heap.size + 1, 0, none⟩), .pointer (some ⟨w.heap.size, 0, none⟩)]) ∧ (w.alloc (.cells #[.pointer b] 25)).alloc (.cells #[.int .i64 r, .int .i64 c, .slice a n k] 24) = w' := by
  go_enter Tryz.func50, Tryz.ntmps50
  go_wp2
  go_ret
  exact ⟨rfl, rfl⟩

theorem KpT.of_eff {n₀ : Nat} {ex : Nat → Prop} {tb : Nat} {P : Nat → Prop} {W W' : World} (h : Eff P W W') (hn : n₀ ≤ W.heap.size) (h1 : ∀ k, P k → n₀ ≤ k ∨ ex k) (h2 : ¬ P tb) (h3 : ∀ k, P k → ¬ Ty W k 3) : KpT n₀ ex tb W W' :=
  ⟨h.size, fun k hk he => h.block k (Nat.lt_of_lt_of_le hk hn) (fun hp => by rcases h1 k hp with h | h; omega; exact he h), fun ht => h.block _ ht.lt h2, fun k ht => h.block k ht.lt (fun hp => h3 k hp ht)⟩

def termsL (m : Mt) (n : Nat) : List Mt := (List.range n).map fun i => (termM m i).1
theorem termsL_succ (m : Mt) (n : Nat) : termsL m (n + 1) = termsL m n ++ [(termM m n).1] := by simp [termsL, List.range_succ]
theorem termsL_len (m : Mt) (n : Nat) : (termsL m n).length = n := by simp [termsL]
/-- Within Terms: what has been collected. -/
structure TcI (w0 : World) (b n₀ ob : Nat) (n : Nat) (m : Mt) (s : TS) (W : World) : Prop where
  out : ∃ ov, Blk W ob #[ov] 31 ∧ OMs n₀ W ov (termsL m s.m) ∧ (∀ g, ov.ownBlock = some g → g ≠ s.tb)
  lo : n₀ ≤ s.tb
  hi : s.tb < W.heap.size
  nb : Blk W (w0.heap.size + 1) #[.int .i64 n] 3
  eff : Eff (fun k => k = b) w0 W
  le : s.m ≤ n
  sz : n₀ ≤ W.heap.size
theorem TcI.own (w0 : World) (b n₀ ob n : Nat) (m : Mt) (B : Nat) (hB : w0.heap.size ≤ B) : OwnFrom B (TcI w0 b n₀ ob n m) := fun s X Y row hs hg hr => by
  have hk := kc_grown hg (fun r e => (hr r e).2)
  obtain ⟨ov, h1, h2, h3⟩ := hs.out
  have hb : Below w0.heap.size X Y := ⟨hg.os, hg.tape, hg.output, hg.size, fun k hk => hg.block k (Nat.lt_of_lt_of_le hk hs.eff.size) (fun e => by have := (hr k e.symm).1; omega)⟩
  exact ⟨⟨ov, h1.kc hk, h2.kc hk, h3⟩, hs.lo, Nat.lt_of_lt_of_le hs.hi hg.size, hs.nb.kc hk, ⟨hg.os.trans hs.eff.os, hg.tape.trans hs.eff.tape, hg.output.trans hs.eff.output, Nat.le_trans hs.eff.size hg.size, fun k hk hn => (hb.block k hk).trans (hs.eff.block k hk hn)⟩, hs.le, Nat.le_trans hs.sz hg.size⟩
theorem TcI.step {w0 : World} {b n₀ ob n : Nat} {m : Mt} (hb : b < w0.heap.size) (h0 : w0.heap.size + 2 ≤ ob) (h1 : ob < n₀) {s : TS} {X Y : World} (h : TcI w0 b n₀ ob n m s X) (k : StepT b s X Y) : TcI w0 b n₀ ob n m s Y := by
  obtain ⟨ov, h1, h2, h3⟩ := h.out
  have hlo := h.lo
  have hni : ∀ j, (j = b ∨ j = s.tb) → ¬ Ty X j 3 := fun j hj ht => by
    rcases hj with e | e <;> subst e
    · exact absurd (ht.inj k.tb) (by decide)
    · exact absurd (ht.inj k.tt) (by decide)
  refine ⟨⟨ov, k.eff.blk h1 (fun h => by rcases h with h | h <;> omega), h2.eff k.eff hni (fun g hg hp => ?_), h3⟩, hlo, Nat.lt_of_lt_of_le h.hi k.eff.size, k.eff.blk h.nb (fun h => by rcases h with h | h <;> omega), h.eff.trans k.eff (fun j hj hp => by rcases hp with e | e; exact e; omega), h.le, Nat.le_trans h.sz k.eff.size⟩
  rcases hp with e | e
  · obtain ⟨vs, ho, _⟩ := h2.ex
    have := (ho.lt g hg).1
    omega
  · exact h3 g hg e
theorem TcI.keep {w0 : World} {b n₀ ob n : Nat} {m : Mt} {s : TS} {X Y : World} (h0 : w0.heap.size ≤ n₀) (h : TcI w0 b n₀ ob n m s X) (k : Below X.heap.size X Y) : TcI w0 b n₀ ob n m s Y := by
  obtain ⟨ov, h1, h2, h3⟩ := h.out
  exact ⟨⟨ov, h1.keep k, h2.keep k, h3⟩, h.lo, Nat.lt_of_lt_of_le h.hi k.size, h.nb.keep k, h.eff.trans (Eff.of (P := fun k => k = b) k) (fun _ _ h => h), h.le, Nat.le_trans h.sz k.size⟩
/-- A round's end. -/
theorem tc_end {w0 W w5 : World} {b n₀ ob n : Nat} {m : Mt} {s : TS} {ov v' : Value} {o : Obj} {cs : List Mt} (hb : b < w0.heap.size) (hob : w0.heap.size + 2 ≤ ob) (hobn : ob < n₀) (hI : TcI w0 b n₀ ob n m s W) (hov : Blk W ob #[ov] 31)
    (hO : OMs n₀ W ov cs) (hvt : ∀ g, ov.ownBlock = some g → g ≠ s.tb) (hg : (W.alloc o).grownBy w5 ov.ownBlock) (h5 : OMs n₀ w5 v' (termsL m s.m ++ [(termM m s.m).1])) (hown : ∀ k, v'.ownBlock = some k → ov.ownBlock = some k ∨ (W.alloc o).heap.size ≤ k) :
    Blk w5 ob #[ov] 31 ∧ Blk w5 (w0.heap.size + 1) #[.int .i64 n] 3 ∧ KeepsFrom n₀ W (w5.setCell ⟨ob, 0, none⟩ v') ∧ KpT n₀ (fun k => k = ob) s.tb W (w5.setCell ⟨ob, 0, none⟩ v') ∧ (s.m < n → TcI w0 b n₀ ob n m ⟨s.tb, s.m + 1⟩ (w5.setCell ⟨ob, 0, none⟩ v')) ∧
      Blk (w5.setCell ⟨ob, 0, none⟩ v') ob #[v'] 31 ∧ OMs n₀ (w5.setCell ⟨ob, 0, none⟩ v') v' (termsL m (s.m + 1)) ∧ Eff (fun k => k = b) w0 (w5.setCell ⟨ob, 0, none⟩ v') ∧ (∀ c, UP W b c → UP (w5.setCell ⟨ob, 0, none⟩ v') b c) := by
  obtain ⟨vs, ho, _⟩ := hO.ex
  have hn := hI.sz
  have hE1 : Eff (fun k => k = ob ∨ ov.ownBlock = some k) W w5 := ((Eff.of (P := fun k => k = ob ∨ ov.ownBlock = some k) (upA (upR W) o)).trans (Eff.grown (P := fun k => k = ob ∨ ov.ownBlock = some k) hg (fun k hk => .inr hk)) (fun _ _ h => h))
  have hE : Eff (fun k => k = ob ∨ ov.ownBlock = some k) W (w5.setCell ⟨ob, 0, none⟩ v') := hE1.trans (Eff.set (P := fun k => k = ob ∨ ov.ownBlock = some k) ⟨ob, 0, none⟩ v' (.inl rfl)) (fun _ _ h => h)
  have hgl : ∀ k, ov.ownBlock = some k → n₀ ≤ k ∧ k < W.heap.size := fun k hk => ho.lt k hk
  have hob5 : Blk w5 ob #[ov] 31 := (hov.alloc o).grown hg (fun e => by have := (hgl ob e.symm).1; omega)
  have hset := hob5.set 0 v'
  have hne : ∀ j, j < n₀ → j ≠ ob → ¬ (j = ob ∨ ov.ownBlock = some j) := fun j hj hjo h => by
    rcases h with h | h
    · exact hjo h
    · have := (hgl j h).1; omega
  have h5' : OMs n₀ (w5.setCell ⟨ob, 0, none⟩ v') v' (termsL m (s.m + 1)) := by
    rw [termsL_succ]
    refine h5.eff (Eff.set (P := fun k => k = ob) ⟨ob, 0, none⟩ v' rfl) (fun k hk ht => by subst hk; exact absurd (ht.inj hob5.ty) (by decide)) (fun k hk e => ?_)
    subst e
    obtain ⟨vs', ho', _⟩ := h5.ex
    have := (ho'.lt _ hk).1
    omega
  have hlo := hI.lo
  have hhi := hI.hi
  have hnt : ∀ g, v'.ownBlock = some g → g ≠ s.tb := fun g hg' => by
    rcases hown g hg' with h | h
    · exact hvt g h
    · rw [World.size_alloc] at h; omega
  have hEw : Eff (fun k => k = b) w0 (w5.setCell ⟨ob, 0, none⟩ v') := hI.eff.trans hE (fun j hj h => by
    rcases h with h | h
    · omega
    · have := (hgl j h).1; omega)
  have hnb : Blk (w5.setCell ⟨ob, 0, none⟩ v') (w0.heap.size + 1) #[.int .i64 n] 3 := hE.blk hI.nb (hne _ (by omega) (by omega))
  refine ⟨hob5, hE1.blk hI.nb (hne _ (by omega) (by omega)), (others_of_eff hE (fun k hk => ?_)).from _, KpT.of_eff hE hn (fun k hk => ?_) (fun h => ?_) (fun k hk ht => ?_), fun hlt => ⟨⟨v', hset, h5', hnt⟩, hlo, Nat.lt_of_lt_of_le hhi hE.size, hnb, hEw, hlt, Nat.le_trans hn hE.size⟩, hset, h5', hEw, fun c hU => ?_⟩
  · rcases hk with h | h
    · exact ⟨_, h ▸ hov.ty⟩
    · exact ⟨_, (row_ty ho k h).1⟩
  · rcases hk with h | h
    · exact .inr h
    · exact .inl (hgl k h).1
  · rcases h with h | h
    · omega
    · exact hvt _ h rfl
  · rcases hk with h | h
    · subst h; exact absurd (ht.inj hov.ty) (by decide)
    · exact absurd (ht.inj (row_ty ho k h).1) (by decide)
  · obtain ⟨mm, hm⟩ := hU
    exact ⟨mm, hE.blk hm (hne _ (by omega) (by omega))⟩

/-- What is there when all have been collected. -/
structure TxI (w0 : World) (b n₀ ob n : Nat) (c0 : Bool) (m : Mt) (W : World) : Prop where
  out : ∃ ov, Blk W ob #[ov] 31 ∧ OMs n₀ W ov (termsL m (n + 1))
  up : UP W b (c0 || (termM m n).2)
  eff : Eff (fun k => k = b) w0 W
theorem TxI.own (w0 : World) (b n₀ ob n : Nat) (c0 : Bool) (m : Mt) (B : Nat) (hB : w0.heap.size ≤ B) : OwnFrom B (fun (_ : Unit) => TxI w0 b n₀ ob n c0 m) := fun s X Y row hs hg hr => by
  have hk := kc_grown hg (fun r e => (hr r e).2)
  obtain ⟨ov, h1, h2⟩ := hs.out
  obtain ⟨mm, hm⟩ := hs.up
  have hb : Below w0.heap.size X Y := ⟨hg.os, hg.tape, hg.output, hg.size, fun k hk => hg.block k (Nat.lt_of_lt_of_le hk hs.eff.size) (fun e => by have := (hr k e.symm).1; omega)⟩
  exact ⟨⟨ov, h1.kc hk, h2.kc hk⟩, ⟨mm, hm.kc hk⟩, ⟨hg.os.trans hs.eff.os, hg.tape.trans hs.eff.tape, hg.output.trans hs.eff.output, Nat.le_trans hs.eff.size hg.size, fun k hk hn => (hb.block k hk).trans (hs.eff.block k hk hn)⟩⟩
theorem TxI.keep {w0 : World} {b n₀ ob n : Nat} {c0 : Bool} {m : Mt} {X Y : World} (h : TxI w0 b n₀ ob n c0 m X) (k : Below X.heap.size X Y) : TxI w0 b n₀ ob n c0 m Y := by
  obtain ⟨ov, h1, h2⟩ := h.out
  exact ⟨⟨ov, h1.keep k, h2.keep k⟩, h.up.keep k, h.eff.trans (Eff.of (P := fun k => k = b) k) (fun _ _ h => h)⟩
/-- A round's own: the box of what was handed on. -/
structure TaI (b : Nat) (c0 : Bool) (n₀ : Nat) (m : Mt) (s : TS) (bx : Nat) (a1 : Option Addr) (k1 : Nat) (W : World) : Prop where
  box : Blk W bx #[.int .i64 m.r, .int .i64 m.r, .slice a1 (termM m s.m).1.v.length k1] 24
  li : LI n₀ W a1 k1 (termM m s.m).1.v
  up : UP W b (c0 || (termM m s.m).2)
theorem TaI.kc {b : Nat} {c0 : Bool} {n₀ : Nat} {m : Mt} {s : TS} {bx : Nat} {a1 : Option Addr} {k1 : Nat} {W W' : World} (h : TaI b c0 n₀ m s bx a1 k1 W) (hk : KC W W') : TaI b c0 n₀ m s bx a1 k1 W' := by
  obtain ⟨mm, hm⟩ := h.up
  exact ⟨h.box.kc hk, h.li.kc hk, ⟨mm, hm.kc hk⟩⟩

end Go.Proofs.YtkjbidpafnmogaaGreat.Base
