/- binnaclekit: CopyModel's walk. -/
import Derived.Test.YtagakcnhhhlolaaCpM
namespace Go.Proofs.Ytagakcnhhhlolaa.Base
open Go.RowKit
set_option linter.unusedVariables false
set_option linter.unusedSimpArgs false

theorem MR.zero {B : Nat} {W : World} {a : Option Addr} {c : Nat} {qs : List Rw} (h : MR B W a c qs) : MR 0 W a c qs :=
  ⟨fun k hk => by
    obtain ⟨x, hx, hr⟩ := h.at_ k hk
    obtain ⟨aH, cH, y0, y1, y2, y3⟩ := hr.ex
    exact ⟨x, hx, ⟨⟨aH, cH, y0, y1, y2, y3.mono (Nat.zero_le _)⟩, hr.s, hr.r⟩⟩, h.len, fun _ _ _ => Nat.zero_le _, h.nn, h.cap⟩
theorem MR.mono {B B' : Nat} {W : World} {a : Option Addr} {c : Nat} {qs : List Rw} (h : MR B W a c qs) (hB : B' ≤ B) : MR B' W a c qs :=
  ⟨fun k hk => by
    obtain ⟨x, hx, hr⟩ := h.at_ k hk
    obtain ⟨aH, cH, y0, y1, y2, y3⟩ := hr.ex
    exact ⟨x, hx, ⟨⟨aH, cH, y0, y1, y2, y3.mono hB⟩, hr.s, hr.r⟩⟩, h.len, fun x hx hn => Nat.le_trans hB (h.lo x hx hn), h.nn, h.cap⟩
/-- A model in memory of its own. -/
structure OM (B : Nat) (W : World) (v : Value) (M : Mdl) : Prop where
  ex : ∃ aA cA aQ cQ aR cR, v = .agg #[.int .i64 M.n, .slice aA M.A.length cA, .slice aQ M.Q.length cQ, .int .i64 M.tick, .int .i64 M.gate, .int .i64 M.rmin, .slice aR M.rows.length cR] ∧
    LI B W aA cA M.A ∧ LI B W aQ cQ M.Q ∧ OR B W (.slice aR M.rows.length cR) M.rows
  n : I64 M.n
  tick : I64 M.tick
  gate : I64 M.gate
  rmin : I64 M.rmin
theorem OM.mm {B : Nat} {W : World} {v : Value} {M : Mdl} (h : OM B W v M) (hl : M.rows.length ≤ 1000) : MM B W v M := by
  obtain ⟨aA, cA, aQ, cQ, aR, cR, hv, h1, h2, h3⟩ := h.ex
  obtain ⟨a, c, he, hm⟩ := h3.mr hl
  cases he
  exact ⟨⟨aA, cA, aQ, cQ, aR, cR, hv, h1.mi, h2.mi, hm⟩, h.n, h.tick, h.gate, h.rmin⟩
theorem OM.keep {B : Nat} {W W' : World} {v : Value} {M : Mdl} (h : OM B W v M) (hb : Below W.heap.size W W') : OM B W' v M := by
  obtain ⟨aA, cA, aQ, cQ, aR, cR, hv, h1, h2, h3⟩ := h.ex
  exact ⟨⟨aA, cA, aQ, cQ, aR, cR, hv, h1.keep hb, h2.keep hb, h3.keep hb⟩, h.n, h.tick, h.gate, h.rmin⟩
theorem OM.mono {B B' : Nat} {W : World} {v : Value} {M : Mdl} (h : OM B W v M) (hB : B' ≤ B) : OM B' W v M := by
  obtain ⟨aA, cA, aQ, cQ, aR, cR, hv, h1, h2, h3⟩ := h.ex
  exact ⟨⟨aA, cA, aQ, cQ, aR, cR, hv, h1.mono hB, h2.mono hB, h3.mono hB⟩, h.n, h.tick, h.gate, h.rmin⟩
theorem own_type {W : World} {B : Nat} {e : TypeId} {size : Nat} {v : Value} {n : Nat} {xs : List Value} (h : W.ownsRow B e size v n xs) {b : Nat} {cs : Array Value} {t : TypeId} (hb : Blk W b cs t) (ht : t ≠ e) : ∀ g, v.ownBlock = some g → g ≠ b := by
  intro g hg
  rcases h.2 with ⟨rfl, _⟩ | ⟨g', cap, cur, rfl, _, hgb, _⟩
  · simp [Value.ownBlock] at hg
  · simp [Value.ownBlock] at hg
    subst hg
    exact blk_ne hgb hb (Ne.symm ht)
theorem OM.other {B : Nat} {W : World} {v : Value} {M : Mdl} (h : OM B W v M) {b : Nat} {cs : Array Value} {t : TypeId} (hb : Blk W b cs t) (h1 : t ≠ 3) (h2 : t ≠ 41) (o : Nat) (u : Value) : OM B (W.setCell ⟨b, o, none⟩ u) v M := by
  obtain ⟨aA, cA, aQ, cQ, aR, cR, hv, g1, g2, g3⟩ := h.ex
  have hno := noInts_of hb h1
  obtain ⟨vs, ho, _⟩ := g3.ex
  exact ⟨⟨aA, cA, aQ, cQ, aR, cR, hv, g1.setOther hno o u, g2.setOther hno o u, g3.setOther hno (own_type ho hb h2) o u⟩, h.n, h.tick, h.gate, h.rmin⟩
theorem OB.other {B : Nat} {W : World} {v : Value} {b : Blf} (h : OB B W v b) {k : Nat} {cs : Array Value} {t : TypeId} (hb : Blk W k cs t) (h1 : 3 ≠ t) (o : Nat) (u : Value) : OB B (W.setCell ⟨k, o, none⟩ u) v b := by
  obtain ⟨gX, cX, gP, cP, hv, g1, g2, hn⟩ := h.ex
  exact ⟨⟨gX, cX, gP, cP, hv, g1.other (g1.ne hb h1) o u, g2.other (g2.ne hb h1) o u, hn⟩, h.t, h.pass, h.fail⟩
theorem OB.mono {B B' : Nat} {W : World} {v : Value} {b : Blf} (h : OB B W v b) (hB : B' ≤ B) : OB B' W v b := by
  obtain ⟨gX, cX, gP, cP, hv, g1, g2, hn⟩ := h.ex
  exact ⟨⟨gX, cX, gP, cP, hv, g1.mono hB, g2.mono hB, hn⟩, h.t, h.pass, h.fail⟩

/-- Within CopyModel. -/
structure SCp (w0 : World) (cs zs : Array Value) (A Q : List Int) (qs : List Rw) (g1 c1 g2 c2 g0 g cap i : Nat) (W : World) : Prop where
  x : Blk W w0.heap.size cs 25
  y : Blk W (w0.heap.size + 1) zs 25
  o1 : OI w0.heap.size W g1 c1 A
  o2 : OI w0.heap.size W g2 c2 Q
  rb : RB 0 g0 W g cap qs i
  bel : Below w0.heap.size w0 W
  le : w0.heap.size ≤ g0
theorem SCp.keep {w0 W W' : World} {cs zs : Array Value} {A Q : List Int} {qs : List Rw} {g1 c1 g2 c2 g0 g cap i : Nat} (h : SCp w0 cs zs A Q qs g1 c1 g2 c2 g0 g cap i W) (hb : Below W.heap.size W W') : SCp w0 cs zs A Q qs g1 c1 g2 c2 g0 g cap i W' :=
  ⟨h.x.keep hb, h.y.keep hb, h.o1.keep hb, h.o2.keep hb, h.rb.keep hb, more h.bel hb, h.le⟩
theorem SCp.set {w0 W : World} {cs zs : Array Value} {A Q : List Int} {qs : List Rw} {g1 c1 g2 c2 g0 g cap k : Nat} (h : SCp w0 cs zs A Q qs g1 c1 g2 c2 g0 g cap k W) (hk : k < qs.length) {g5 c5 n5 : Nat} (hn : qs[k].h.length = n5) (hO : OI g0 W g5 c5 qs[k].h) :
    SCp w0 cs zs A Q qs g1 c1 g2 c2 g0 g cap (k + 1) (W.setCell ⟨g, k * 3 + 1, none⟩ (.slice (some ⟨g5, 0, none⟩) n5 c5)) := by
  obtain ⟨cur, hg, _⟩ := h.rb.ex
  exact ⟨h.x.other (blk_ne h.x hg (by decide)) _ _, h.y.other (blk_ne h.y hg (by decide)) _ _, h.o1.other (h.o1.ne hg (by decide)) _ _, h.o2.other (h.o2.ne hg (by decide)) _ _, h.rb.set hk hn hO (Nat.zero_le _), h.bel.setCell (Nat.le_trans h.le h.rb.lo) _, h.le⟩

set_option maxHeartbeats 8000000 in
set_option maxRecDepth 100000 in
theorem copyModel_om {B : Nat} {w0 : World} {v : Value} {M : Mdl} (hM : MM B w0 v M) (h1 : M.A.length ≤ 100000) (h2 : M.Q.length ≤ 100000) (hl : M.rows.length ≤ 1000) (hh : ∀ q ∈ M.rows, q.h.length ≤ 100000) :
    Calls Try.prog 16 #[v] w0 fun e w' => ∃ v', e = .returned v' ∧ OM w0.heap.size w' v' M ∧ Below w0.heap.size w0 w' := by
  obtain ⟨aA, cA, aQ, cQ, aR, cR, rfl, hA, hQ, hR⟩ := hM.ex
  obtain ⟨hn64, ht64, hg64, hr64⟩ : Hid (I64 M.n) ∧ Hid (I64 M.tick) ∧ Hid (I64 M.gate) ∧ Hid (I64 M.rmin) := ⟨hM.n, hM.tick, hM.gate, hM.rmin⟩
  obtain ⟨m, A, Q, tick, gate, rmin, qs⟩ := M
  clear hM
  dsimp only at *
  have hrng := Lib.hid hR.rng
  obtain ⟨n, hnl⟩ : ∃ n, qs.length = n := ⟨_, rfl⟩
  obtain ⟨la, hla⟩ : ∃ n, A.length = n := ⟨_, rfl⟩
  obtain ⟨lq, hlq⟩ : ∃ n, Q.length = n := ⟨_, rfl⟩
  rw [hnl] at hl
  have hcA : ∀ (W : World), Below w0.heap.size w0 W → Calls Try.prog 51 #[.slice aA la cA] W fun e w' => ∃ g cap, e = .returned (.slice (some ⟨g, 0, none⟩) la cap) ∧ OI W.heap.size w' g cap A ∧ Below W.heap.size W w' := fun W hb => by
    have := copyInts_is (hA.keep hb) h1
    rw [hla] at this
    exact this
  have hcQ : ∀ (W : World), Below w0.heap.size w0 W → Calls Try.prog 51 #[.slice aQ lq cQ] W fun e w' => ∃ g cap, e = .returned (.slice (some ⟨g, 0, none⟩) lq cap) ∧ OI W.heap.size w' g cap Q ∧ Below W.heap.size W w' := fun W hb => by
    have := copyInts_is (hQ.keep hb) h2
    rw [hlq] at this
    exact this
  rw [hnl, hla, hlq]
  have HCA := Lib.hid hcA
  have HCQ := Lib.hid hcQ
  have HNL := Lib.hid hnl
  have HLA := Lib.hid hla
  have HLQ := Lib.hid hlq
  have HR := Lib.hid hR
  clear hcA hcQ hnl hla hlq hA hQ hR
  go_enter Try.func16, Try.ntmps16
  go_wp2_with fail
  have b1 := (Blk.new w0 #[Value.int .i64 m, .slice aA la cA, .slice aQ lq cQ, .int .i64 tick, .int .i64 gate, .int .i64 rmin, .slice aR n cR] 25).alloc (.cells #[Value.int .i64 0, .slice none 0 0, .slice none 0 0, .int .i64 0, .int .i64 0, .int .i64 0, .slice none 0 0] 25)
  have b2 := Blk.new (w0.alloc (.cells #[Value.int .i64 m, .slice aA la cA, .slice aQ lq cQ, .int .i64 tick, .int .i64 gate, .int .i64 rmin, .slice aR n cR] 25)) #[Value.int .i64 0, .slice none 0 0, .slice none 0 0, .int .i64 0, .int .i64 0, .int .i64 0, .slice none 0 0] 25
  rw [World.size_alloc] at b2
  have hB1 : Below w0.heap.size w0 ((w0.alloc (.cells #[Value.int .i64 m, .slice aA la cA, .slice aQ lq cQ, .int .i64 tick, .int .i64 gate, .int .i64 rmin, .slice aR n cR] 25)).alloc (.cells #[Value.int .i64 0, .slice none 0 0, .slice none 0 0, .int .i64 0, .int .i64 0, .int .i64 0, .slice none 0 0] 25)) := ((Below.refl _ _).alloc (Nat.le_refl _) _).alloc (by simp) _
  generalize (w0.alloc (.cells #[Value.int .i64 m, .slice aA la cA, .slice aQ lq cQ, .int .i64 tick, .int .i64 gate, .int .i64 rmin, .slice aR n cR] 25)).alloc (.cells #[Value.int .i64 0, .slice none 0 0, .slice none 0 0, .int .i64 0, .int .i64 0, .int .i64 0, .slice none 0 0] 25) = W1 at *
  refine (HCA.out _ hB1).mono ?_
  rintro e w1 ⟨g1, k1, rfl, hO1, hK1⟩
  replace b1 := b1.keep hK1
  replace b2 := b2.keep hK1
  have hB2 := more hB1 hK1
  replace hO1 := hO1.mono hB1.size
  have q1 := b1.cell 1
  have q2 := b1.cell 2
  have f1 := b1.frozen 1
  simp at q1 q2
  go_wp2_with fail
  have hn1 := hO1.ne b1 (by decide)
  replace b1 := b1.set 1 (.slice (some ⟨g1, 0, none⟩) la k1)
  replace b2 := b2.other (c := w0.heap.size) (by omega) 1 (.slice (some ⟨g1, 0, none⟩) la k1)
  replace hO1 := hO1.other hn1 1 (.slice (some ⟨g1, 0, none⟩) la k1)
  replace hB2 := hB2.setCell (p := ⟨w0.heap.size, 1, none⟩) (Nat.le_refl _) (.slice (some ⟨g1, 0, none⟩) la k1)
  clear q1 q2 f1 hB1 hK1
  generalize w1.setCell ⟨w0.heap.size, 1, none⟩ (.slice (some ⟨g1, 0, none⟩) la k1) = W2 at *
  refine (HCQ.out _ hB2).mono ?_
  rintro e w2 ⟨g2, k2, rfl, hO2, hK2⟩
  replace b1 := b1.keep hK2
  replace b2 := b2.keep hK2
  replace hO1 := hO1.keep hK2
  have hB3 := more hB2 hK2
  replace hO2 := hO2.mono hB2.size
  have q2 := b1.cell 2
  have q6 := b1.cell 6
  have f2 := b1.frozen 2
  simp at q2 q6
  have hn2 := hO2.ne b1 (by decide)
  have hl0 : w0.heap.size < w2.heap.size := b1.lt
  have b1' := b1.set 2 (.slice (some ⟨g2, 0, none⟩) lq k2)
  have b2' := b2.other (c := w0.heap.size) (by omega) 2 (.slice (some ⟨g2, 0, none⟩) lq k2)
  have hO1' := hO1.other hn1 2 (.slice (some ⟨g2, 0, none⟩) lq k2)
  have hO2' := hO2.other hn2 2 (.slice (some ⟨g2, 0, none⟩) lq k2)
  have hB3' := hB3.setCell (p := ⟨w0.heap.size, 2, none⟩) (Nat.le_refl _) (.slice (some ⟨g2, 0, none⟩) lq k2)
  have hB4 := hB3'.alloc (hB3'.size) (.cells #[] 41)
  have hsz3 : w0.heap.size ≤ w2.heap.size := hB3.size
  have hE := Blk.new (w2.setCell ⟨w0.heap.size, 2, none⟩ (.slice (some ⟨g2, 0, none⟩) lq k2)) #[] 41
  rw [World.size_setCell] at hE
  clear hB2 hK2
  go_wp2_with (at_builtin; refine app_rows (w1 := w0) rfl _ _ rfl hsz3 hB4 hE rfl HR.out.zero n HNL.out rfl hl ?_)
  intro g cap w4 hRB hgr
  have hS : SCp w0 #[Value.int .i64 m, .slice (some ⟨g1, 0, none⟩) la k1, .slice (some ⟨g2, 0, none⟩) lq k2, .int .i64 tick, .int .i64 gate, .int .i64 rmin, .slice aR n cR] #[Value.int .i64 0, .slice none 0 0, .slice none 0 0, .int .i64 0, .int .i64 0, .int .i64 0, .slice none 0 0] A Q qs g1 k1 g2 k2 w2.heap.size g cap 0 w4 := by
    have hb' : Below (w2.setCell ⟨w0.heap.size, 2, none⟩ (.slice (some ⟨g2, 0, none⟩) lq k2)).heap.size (w2.setCell ⟨w0.heap.size, 2, none⟩ (.slice (some ⟨g2, 0, none⟩) lq k2)) w4 := ((Below.refl _ _).alloc (Nat.le_refl _) _).grown hgr (by simp) (fun k hk => by cases hk; simp [World.size_setCell])
    exact ⟨b1'.keep hb', b2'.keep hb', hO1'.keep hb', hO2'.keep hb', hRB, more hB3' hb', hsz3⟩
  clear b1' b2' hO1' hO2' hB3' hB4 hE hgr hRB b1 b2 hO1 hO2 hB3 q2 q6 f2 hn1 hn2
  go_wp2_with fail
  go_loopw [4] (fun i wr => ∃ (k : Nat), k ≤ n ∧ i = .int .i64 k ∧ SCp w0 #[Value.int .i64 m, .slice (some ⟨g1, 0, none⟩) la k1, .slice (some ⟨g2, 0, none⟩) lq k2, .int .i64 tick, .int .i64 gate, .int .i64 rmin, .slice aR n cR] #[Value.int .i64 0, .slice none 0 0, .slice none 0 0, .int .i64 0, .int .i64 0, .int .i64 0, .slice none 0 0] A Q qs g1 k1 g2 k2 w2.heap.size g cap k wr) (fun i _ => n - (intOf i).toNat)
  case atStart => exact ⟨0, Nat.zero_le _, rfl, hS⟩
  case round =>
    clear hS
    obtain ⟨k, hk, rfl, hS⟩ := hrel
    by_cases hkl : k < n
    · have hkl' : (k : Int) < (n : Int) := by omega
      have hk0 : (0 : Int) ≤ (k : Int) := by omega
      have hkz : k < qs.length := by rw [HNL.out]; exact hkl
      obtain ⟨cur, hbg, hcs, hrq, _⟩ := hS.rb.ex
      obtain ⟨a, c, e0, e1, e2, e3, _⟩ := (hrq k hkz).ex
      have hcc := copyInts_is e3 (hh _ (List.getElem_mem hkz))
      obtain ⟨nh, hnh⟩ : ∃ nh, qs[k].h.length = nh := ⟨_, rfl⟩
      rw [hnh] at hcc e1
      have HNH := Lib.hid hnh
      clear hnh
      have d1 : wr.cell? ⟨g, k * 3 + 1, none⟩ = some (.slice a nh c) := (hbg.cell _).trans e1
      have hfr := hbg.frozen (k * 3 + 1)
      clear e0 e1 e2 e3 hrq hbg
      go_wp2_with fail
      refine hcc.mono ?_
      rintro e w5 ⟨g5, c5, rfl, hO5, hK5⟩
      have hlo : w2.heap.size ≤ wr.heap.size := by
        obtain ⟨_, hgg, _⟩ := hS.rb.ex
        have := hS.rb.lo
        have := hgg.lt
        omega
      have hS5 := hS.keep hK5
      have HS6 := Lib.hid (hS5.set hkz HNH.out (hO5.mono hlo))
      obtain ⟨cur5, hbg5, hcs5, hrq5, _⟩ := hS5.rb.ex
      obtain ⟨a5, c5', _, e5, _, _, _⟩ := (hrq5 k hkz).ex
      have d5 := (hbg5.cell (k * 3 + 1)).trans e5
      have f5 := hbg5.frozen (k * 3 + 1)
      clear e5 hrq5 hbg5 hO5 hcc d1 hfr
      go_wp2_with fail
      go_roundw
      case rel => exact ⟨k + 1, by omega, by go_num, HS6.out⟩
      case measure => simp [intOf]; omega
    · have hge : ¬ (k : Int) < (n : Int) := by omega
      have hkn : k = n := by omega
      subst hkn
      obtain ⟨b1, b2, hO1, hO2, hRB, hB5, hle⟩ := hS
      have hOR := hRB.or (by rw [HNL.out]; exact Nat.le_refl _) hrng.out
      rw [HNL.out] at hOR
      obtain ⟨cur, hbg, _⟩ := hRB.ex
      have q0 := b1.cell 0
      have q1 := b1.cell 1
      have q2 := b1.cell 2
      have q3 := b1.cell 3
      have q4 := b1.cell 4
      have q5 := b1.cell 5
      have q6 := b1.cell 6
      have f6 := b1.frozen 6
      have r0 := b2.cell 0
      have r1 := b2.cell 1
      have r2 := b2.cell 2
      have r3 := b2.cell 3
      have r4 := b2.cell 4
      have r5 := b2.cell 5
      have r6 := b2.cell 6
      have fr := b2.frozen
      simp at q0 q1 q2 q3 q4 q5 q6 r0 r1 r2 r3 r4 r5 r6
      go_wp2_with fail
      have st : ∀ {W : World} {cs zs : Array Value}, Blk W w0.heap.size cs 25 → Blk W (w0.heap.size + 1) zs 25 → OI w0.heap.size W g1 k1 A → OI w0.heap.size W g2 k2 Q → Blk W g cur 41 → OR w2.heap.size W (.slice (some ⟨g, 0, none⟩) k cap) qs → Below w0.heap.size w0 W →
          ∀ o u, Blk (W.setCell ⟨w0.heap.size + 1, o, none⟩ u) w0.heap.size cs 25 ∧ Blk (W.setCell ⟨w0.heap.size + 1, o, none⟩ u) (w0.heap.size + 1) (zs.setIfInBounds o u) 25 ∧ OI w0.heap.size (W.setCell ⟨w0.heap.size + 1, o, none⟩ u) g1 k1 A ∧ OI w0.heap.size (W.setCell ⟨w0.heap.size + 1, o, none⟩ u) g2 k2 Q ∧ Blk (W.setCell ⟨w0.heap.size + 1, o, none⟩ u) g cur 41 ∧ OR w2.heap.size (W.setCell ⟨w0.heap.size + 1, o, none⟩ u) (.slice (some ⟨g, 0, none⟩) k cap) qs ∧ Below w0.heap.size w0 (W.setCell ⟨w0.heap.size + 1, o, none⟩ u) :=
        fun a b c d e f h o u => ⟨a.other (by omega) o u, b.set o u, c.other (c.ne b (by decide)) o u, d.other (d.ne b (by decide)) o u, e.other (blk_ne e b (by decide)) o u, f.setOther (noInts_of b (by decide)) (fun g' hg' => by simp [Value.ownBlock] at hg'; subst hg'; exact blk_ne e b (by decide)) o u, h.setCell (by simp) _⟩
      have a1 := b1.set 6 (.slice (some ⟨g, 0, none⟩) k cap)
      have a2 := b2.other (c := w0.heap.size) (by omega) 6 (.slice (some ⟨g, 0, none⟩) k cap)
      have a3 := hO1.other (hO1.ne b1 (by decide)) 6 (.slice (some ⟨g, 0, none⟩) k cap)
      have a4 := hO2.other (hO2.ne b1 (by decide)) 6 (.slice (some ⟨g, 0, none⟩) k cap)
      have a5 := hbg.other (blk_ne hbg b1 (by decide)) 6 (.slice (some ⟨g, 0, none⟩) k cap)
      have a6 := hOR.setOther (noInts_of b1 (by decide)) (fun g' hg' => by simp [Value.ownBlock] at hg'; subst hg'; exact blk_ne hbg b1 (by decide)) 6 (.slice (some ⟨g, 0, none⟩) k cap)
      have a7 := hB5.setCell (p := ⟨w0.heap.size, 6, none⟩) (Nat.le_refl _) (.slice (some ⟨g, 0, none⟩) k cap)
      obtain ⟨a1, a2, a3, a4, a5, a6, a7⟩ := st a1 a2 a3 a4 a5 a6 a7 0 (.int .i64 m)
      obtain ⟨a1, a2, a3, a4, a5, a6, a7⟩ := st a1 a2 a3 a4 a5 a6 a7 1 (.slice (some ⟨g1, 0, none⟩) la k1)
      obtain ⟨a1, a2, a3, a4, a5, a6, a7⟩ := st a1 a2 a3 a4 a5 a6 a7 2 (.slice (some ⟨g2, 0, none⟩) lq k2)
      obtain ⟨a1, a2, a3, a4, a5, a6, a7⟩ := st a1 a2 a3 a4 a5 a6 a7 3 (.int .i64 tick)
      obtain ⟨a1, a2, a3, a4, a5, a6, a7⟩ := st a1 a2 a3 a4 a5 a6 a7 4 (.int .i64 gate)
      obtain ⟨a1, a2, a3, a4, a5, a6, a7⟩ := st a1 a2 a3 a4 a5 a6 a7 5 (.int .i64 rmin)
      obtain ⟨a1, a2, a3, a4, a5, a6, a7⟩ := st a1 a2 a3 a4 a5 a6 a7 6 (.slice (some ⟨g, 0, none⟩) k cap)
      clear st b1 b2 hO1 hO2 hRB hB5 hbg hOR q0 q1 q2 q3 q4 q5 q6 f6 r0 r1 r2 r3 r4 r5 r6 fr a1 a5
      generalize (((((((wr.setCell ⟨w0.heap.size, 6, none⟩ (.slice (some ⟨g, 0, none⟩) k cap)).setCell ⟨w0.heap.size + 1, 0, none⟩ (.int .i64 m)).setCell ⟨w0.heap.size + 1, 1, none⟩ (.slice (some ⟨g1, 0, none⟩) la k1)).setCell ⟨w0.heap.size + 1, 2, none⟩ (.slice (some ⟨g2, 0, none⟩) lq k2)).setCell ⟨w0.heap.size + 1, 3, none⟩ (.int .i64 tick)).setCell ⟨w0.heap.size + 1, 4, none⟩ (.int .i64 gate)).setCell ⟨w0.heap.size + 1, 5, none⟩ (.int .i64 rmin)).setCell ⟨w0.heap.size + 1, 6, none⟩ (.slice (some ⟨g, 0, none⟩) k cap) = W9 at *
      have q0 := a2.cell 0
      have q1 := a2.cell 1
      have q2 := a2.cell 2
      have q3 := a2.cell 3
      have q4 := a2.cell 4
      have q5 := a2.cell 5
      have q6 := a2.cell 6
      simp at q0 q1 q2 q3 q4 q5 q6
      refine bodyPost_ret (v := .agg #[.int .i64 m, .slice (some ⟨g1, 0, none⟩) la k1, .slice (some ⟨g2, 0, none⟩) lq k2, .int .i64 tick, .int .i64 gate, .int .i64 rmin, .slice (some ⟨g, 0, none⟩) k cap]) (by simp [results, Try.results16, go_sem, q0, q1, q2, q3, q4, q5, q6]) rfl ?_
      rw [← HNL.out] at a6
      exact ⟨_, rfl, ⟨⟨some ⟨g1, 0, none⟩, k1, some ⟨g2, 0, none⟩, k2, some ⟨g, 0, none⟩, cap, by dsimp only; rw [HNL.out, HLA.out, HLQ.out], a3.li, a4.li, a6.mono hle⟩, hn64.out, ht64.out, hg64.out, hr64.out⟩, a7⟩
theorem copyModel_is {B : Nat} {w0 : World} {v : Value} {M : Mdl} (hM : MM B w0 v M) (h1 : M.A.length ≤ 100000) (h2 : M.Q.length ≤ 100000) (hl : M.rows.length ≤ 1000) (hh : ∀ q ∈ M.rows, q.h.length ≤ 100000) :
    Calls Try.prog 16 #[v] w0 fun e w' => ∃ v', e = .returned v' ∧ MM w0.heap.size w' v' M ∧ Below w0.heap.size w0 w' :=
  (copyModel_om hM h1 h2 hl hh).mono fun _ _ ⟨v', he, hm, hb⟩ => ⟨v', he, hm.mm hl, hb⟩

end Go.Proofs.Ytagakcnhhhlolaa.Base
