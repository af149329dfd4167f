/- mat: Mul. -/
import Derived.Test.YtnofoommindocaaGreatMatH
import Derived.Deep.RegionHeld3
namespace Go.Proofs.YtnofoommindocaaGreat.Base
open Go.RowKit
set_option linter.unusedVariables false
set_option linter.unusedSimpArgs false

def rowL (zs : List Int) (c i : Nat) : List Int := (zs.drop (i * c)).take c
theorem rowL_len {zs : List Int} {r c i : Nat} (hl : zs.length = r * c) (hi : i < r) : (rowL zs c i).length = c := by
  have : (i + 1) * c ≤ r * c := Nat.mul_le_mul_right c hi
  rw [Nat.succ_mul] at this
  unfold rowL
  rw [List.length_take, List.length_drop, hl]
  omega
theorem add_add (x : Addr) (p q : Nat) : (x.add p).add q = x.add (p + q) := by
  by_cases hp : p = 0
  · subst hp; simp [Addr.add]
  · by_cases hq : q = 0
    · subst hq; simp [Addr.add]
    · simp [Addr.add, hp, hq, Nat.add_assoc]
theorem ml_row {W : World} {b : Nat} {x : Addr} {k r c i : Nat} {zs : List Int} (h : ML b W (some x) k zs) (hl : zs.length = r * c) (hi : i < r) (h0 : 0 < c) : ML b W (some (x.add (i * c))) (k - i * c) (rowL zs c i) := by
  have hle : (i + 1) * c ≤ r * c := Nat.mul_le_mul_right c hi
  rw [Nat.succ_mul] at hle
  have hlen := rowL_len hl hi
  have hcap := h.mi.cap
  have hml := h.mi.len
  refine ⟨⟨fun j hj => ?_, fun z hz => h.mi.rng z (List.mem_of_mem_drop (List.mem_of_mem_take hz)), by omega, fun _ _ _ => Nat.zero_le _, fun e => (by cases e), by omega⟩, fun y hy _ => ?_⟩
  · rw [hlen] at hj
    obtain ⟨y, hy, hc⟩ := h.mi.cell (i * c + j) (by omega)
    cases hy
    refine ⟨_, rfl, ?_⟩
    have e : (x.add (i * c)).add j = x.add (i * c + j) := add_add x _ _
    rw [e, hc]
    simp [rowL]
  · cases hy
    rw [add_block]
    exact h.ne x rfl (by omega)

structure MulS (w : World) (b ub ab tb : Nat) (x y : Addr) (k1 k2 n n' c : Nat) (W' : World) : Prop where
  c1 : W'.cell? ⟨ub, 0, none⟩ = some (.pointer (some ⟨b, 0, none⟩))
  c2 : W'.cell? ⟨ab, 1, none⟩ = some (.int .i64 c)
  c3 : W'.cell? ⟨ab, 2, none⟩ = some (.slice (some x) n k1)
  c4 : W'.cell? ⟨tb, 1, none⟩ = some (.int .i64 c)
  c5 : W'.cell? ⟨tb, 2, none⟩ = some (.slice (some y) n' k2)
  bt : But b w W'
  n1 : ub ≠ b
  n2 : ab ≠ b
  n3 : tb ≠ b
theorem MulS.cells {w : World} {b ub ab tb : Nat} {x y : Addr} {k1 k2 n n' c : Nat} {W' : World} (h : MulS w b ub ab tb x y k1 k2 n n' c W') : MulS w b ub ab tb x y k1 k2 n n' c W' ∧ W'.cell? ⟨ub, 0, none⟩ = some (.pointer (some ⟨b, 0, none⟩)) ∧ W'.cell? ⟨ab, 1, none⟩ = some (.int .i64 c) ∧ W'.cell? ⟨ab, 2, none⟩ = some (.slice (some x) n k1) ∧ W'.cell? ⟨tb, 1, none⟩ = some (.int .i64 c) ∧ W'.cell? ⟨tb, 2, none⟩ = some (.slice (some y) n' k2) := ⟨h, h.c1, h.c2, h.c3, h.c4, h.c5⟩
theorem cell_but0 {b : Nat} {w w' : World} {p : Addr} {v : Value} (hc : w.cell? p = some v) (hn : p.block ≠ b) (h : But b w w') : w'.cell? p = some v :=
  (World.cell?_of_block (w := w) (h.block _ (World.block_lt_of_cell? w _ hc) hn)).trans hc
theorem MulS.but {w : World} {b ub ab tb : Nat} {x y : Addr} {k1 k2 n n' c : Nat} {W' W'' : World} (h : MulS w b ub ab tb x y k1 k2 n n' c W') (k : But b W' W'') : MulS w b ub ab tb x y k1 k2 n n' c W'' :=
  ⟨cell_but0 h.c1 h.n1 k, cell_but0 h.c2 h.n2 k, cell_but0 h.c3 h.n2 k, cell_but0 h.c4 h.n3 k, cell_but0 h.c5 h.n3 k, h.bt.trans k, h.n1, h.n2, h.n3⟩
theorem mul_small {ic jc ie je i j : Nat} (h1 : ic ≤ 1000) (h2 : jc ≤ 1000) (h3 : ie ≤ 1000) (h4 : je ≤ 1000) (h5 : i ≤ 1000) (h6 : j ≤ 1000) :
    IntKind.i64.wrap (ic : Int) = (ic : Int) ∧ IntKind.i64.wrap (jc : Int) = (jc : Int) ∧ IntKind.i64.wrap (ie : Int) = (ie : Int) ∧ IntKind.i64.wrap (je : Int) = (je : Int) ∧ IntKind.i64.wrap ((i : Int) + 1) = (i : Int) + 1 ∧ IntKind.i64.wrap ((j : Int) + 1) = (j : Int) + 1 :=
  ⟨IntWalk.i64_in _ (by omega), IntWalk.i64_in _ (by omega), IntWalk.i64_in _ (by omega), IntWalk.i64_in _ (by omega), IntWalk.i64_in _ (by omega), IntWalk.i64_in _ (by omega)⟩
set_option maxHeartbeats 4000000 in
set_option maxRecDepth 100000 in
theorem mul1_is {W : World} {b : Nat} {c0 : Bool} (hU : UP W b c0) {ub ab tb : Nat} {x y : Addr} {k1 k2 r c d : Nat} {xs ys : List Int}
    (hu : Blk W ub #[.pointer (some ⟨b, 0, none⟩)] 30) (ha : Blk W ab #[.int .i64 r, .int .i64 c, .slice (some x) xs.length k1] 78) (hb : Blk W tb #[.int .i64 d, .int .i64 c, .slice (some y) ys.length k2] 78)
    (hx : ML b W (some x) k1 xs) (hy : ML b W (some y) k2 ys) (lx : xs.length = r * c) (ly : ys.length = d * c) (hr : r ≤ 12) (hc : c ≤ 12) (hc1 : 1 ≤ c) (hd : d ≤ 12) (i j : Nat) (hi : i < r) (hj : j < d) :
    Calls Tryz.prog 187 #[.int .i64 i, .int .i64 j, .pointer (some ⟨ub, 0, none⟩), .pointer (some ⟨ab, 0, none⟩), .pointer (some ⟨tb, 0, none⟩)] W fun e w' => e = .returned (.int .i64 (dotF (rowL xs c i) (rowL ys c j)).1) ∧ UP w' b (c0 || (dotF (rowL xs c i) (rowL ys c j)).2) ∧ But b W w' := by
  have hrx := ml_row hx lx hi hc1
  have hry := ml_row hy ly hj hc1
  have hlx := rowL_len lx hi
  have hly := rowL_len ly hj
  have hD := fun (W' : World) (hU' : UP W' b c0) (h1 : ML b W' (some (x.add (i * c))) (k1 - i * c) (rowL xs c i)) (h2 : ML b W' (some (y.add (j * c))) (k2 - j * c) (rowL ys c j)) => uDot_is hU' h1 h2 (hlx.trans hly.symm)
  rw [hlx, hly] at hD
  obtain ⟨mU, hbU⟩ := hU
  have nu : ub ≠ b := blk_ne hu hbU (by decide)
  have na : ab ≠ b := blk_ne ha hbU (by decide)
  have nt : tb ≠ b := blk_ne hb hbU (by decide)
  have hU : UP W b c0 := ⟨mU, hbU⟩
  clear hbU
  have d0 := hu.cell 0
  have m1 := ha.cell 1
  have m2 := ha.cell 2
  have n1 := hb.cell 1
  have n2 := hb.cell 2
  simp at d0 m1 m2 n1 n2
  have hcx := hx.mi.cap
  have hcy := hy.mi.cap
  rw [lx] at m2 hcx
  rw [ly] at n2 hcy
  generalize dotF (rowL xs c i) (rowL ys c j) = p at *
  generalize rowL xs c i = xr at *
  generalize rowL ys c j = yr at *
  have hx9 : (i + 1) * c ≤ r * c := Nat.mul_le_mul_right c hi
  have hy9 : (j + 1) * c ≤ d * c := Nat.mul_le_mul_right c hj
  have hx8 : r * c ≤ 144 := Nat.mul_le_mul hr hc
  have hy8 : d * c ≤ 144 := Nat.mul_le_mul hd hc
  rw [Nat.succ_mul] at hx9 hy9
  obtain ⟨ic, hic⟩ : ∃ ic, i * c = ic := ⟨_, rfl⟩
  obtain ⟨jc, hjc⟩ : ∃ jc, j * c = jc := ⟨_, rfl⟩
  rw [hic] at hx9 hrx
  rw [hjc] at hy9 hry
  simp only [hic, hjc] at hD
  obtain ⟨ie, hie⟩ : ∃ ie, ic + c = ie := ⟨_, rfl⟩
  obtain ⟨je, hje⟩ : ∃ je, jc + c = je := ⟨_, rfl⟩
  have e1 : (i : Int) * (c : Int) = (ic : Int) := by rw [← hic, Int.natCast_mul]
  have e2 : (j : Int) * (c : Int) = (jc : Int) := by rw [← hjc, Int.natCast_mul]
  have e3 : ((i : Int) + 1) * (c : Int) = (ie : Int) := by rw [Int.add_mul, Int.one_mul, e1, ← hie, Int.natCast_add]
  have e4 : ((j : Int) + 1) * (c : Int) = (je : Int) := by rw [Int.add_mul, Int.one_mul, e2, ← hje, Int.natCast_add]
  rw [hie] at hx9
  rw [hje] at hy9
  have h91 : ie - ic = c := by omega
  have h92 : je - jc = c := by omega
  have hi9 : ic ≤ ie := by omega
  have hj9 : jc ≤ je := by omega
  have hS : MulS W b ub ab tb x y k1 k2 (r * c) (d * c) c W.drew := ⟨d0, m1, m2, n1, n2, (But.refl _ _).drew, nu, na, nt⟩
  clear hx hy hu ha hb lx ly hlx hly hic hjc hie hje d0 m1 m2 n1 n2
  generalize r * c = n at *
  generalize d * c = n' at *
  have hik : ie ≤ k1 := by omega
  have hjk : je ≤ k2 := by omega
  have nk1 : ¬ (k1 = ic) := by omega
  have nk2 : ¬ (k2 = jc) := by omega
  obtain ⟨f1, f2, f3, f4, f5, f6⟩ := mul_small (i := i) (j := j) (show ic ≤ 1000 by omega) (show jc ≤ 1000 by omega) (show ie ≤ 1000 by omega) (show je ≤ 1000 by omega) (show i ≤ 1000 by omega) (show j ≤ 1000 by omega)
  have hUd := hU.drew
  have hBd := (But.refl b W).drew
  have hrxd := hrx.but hBd
  have hryd := hry.but hBd
  clear hrx hry hBd
  go_enter Tryz.func187, Tryz.ntmps187
  go_wp2_with fail
  go_region_held3 (fun W' => MulS W b ub ab tb x y k1 k2 n n' c W' ∧ W'.cell? ⟨ub, 0, none⟩ = some (.pointer (some ⟨b, 0, none⟩)) ∧ W'.cell? ⟨ab, 1, none⟩ = some (.int .i64 c) ∧ W'.cell? ⟨ab, 2, none⟩ = some (.slice (some x) n k1) ∧ W'.cell? ⟨tb, 1, none⟩ = some (.int .i64 c) ∧ W'.cell? ⟨tb, 2, none⟩ = some (.slice (some y) n' k2))
    (exact MulS.cells (by assumption))
    (first
      | (go_at_call 39; refine (hD _ hUd hrxd hryd).mono ?_; rintro e w3 ⟨rfl, hU3, hB3⟩; have hS3 := MulS.but (by assumption) hB3; clear hB3))
  have hB4 := hS3.bt
  clear hS3 hS hrxd hryd
  go_wp2_with fail
  go_ret
  exact ⟨rfl, hU3, hB4⟩

def mulM (a b : Mt) : Mt × Bool := madeF a.r.toNat b.c.toNat fun i k => dotF (rowL a.v a.c.toNat i) (rowL (turnM b).v b.r.toNat k)
set_option maxHeartbeats 4000000 in
set_option maxRecDepth 100000 in
theorem mmul_is {W : World} {b : Nat} {c0 : Bool} (hU : UP W b c0) {m1 m2 : Mt} {a1 a2 : Option Addr} {k1 k2 : Nat}
    (h1 : ML b W a1 k1 m1.v) (h2 : ML b W a2 k2 m2.v) (ok1 : okMt m1) (ok2 : okMt m2) (er : m1.c = m2.r) :
    Calls Tryz.prog 132 #[.pointer (some ⟨b, 0, none⟩), .agg #[.int .i64 m1.r, .int .i64 m1.c, .slice a1 m1.v.length k1], .agg #[.int .i64 m2.r, .int .i64 m2.c, .slice a2 m2.v.length k2]] W
      fun e w' => ∃ v, e = .returned (.tuple #[v, .int .i64 0]) ∧ MO W.heap.size w' v (mulM m1 m2).1 ∧ UP w' b (c0 || (mulM m1 m2).2) ∧ But b W w' := by
  have hR := ref2_ok ok1 ok2
  have hTURN := fun W' h => turn_is (B := 0) (W := W') (a := a2) (k := k2) h ok2
  obtain ⟨r, c, hr, hc, hr1, hr2, hc1, hc2, hlen⟩ := ok1.nat
  obtain ⟨c', d, hr', hc', _, _, hd1, hd2, hlen'⟩ := ok2.nat
  have e1 : c' = c := by omega
  subst e1
  obtain ⟨mr, mc, xs⟩ := m1
  obtain ⟨nr, nc, ys⟩ := m2
  dsimp only at *
  subst hr hc hr' hc'
  clear er
  obtain ⟨zs, hzs⟩ : ∃ zs, (turnM ⟨(c' : Int), (d : Int), ys⟩).v = zs := ⟨_, rfl⟩
  have hzT : turnM ⟨(c' : Int), (d : Int), ys⟩ = ⟨(d : Int), (c' : Int), zs⟩ := by rw [← hzs]; simp [turnM, madeM]
  have hzl : zs.length = d * c' := by rw [← hzs]; simp [turnM, madeM]
  rw [hzT] at hTURN
  have HT := Lib.hid (show mulM ⟨(r : Int), (c' : Int), xs⟩ ⟨(c' : Int), (d : Int), ys⟩ = madeF r d fun i k => dotF (rowL xs c' i) (rowL zs c' k) by simp [mulM, hzs])
  clear hzs hzT
  have hms : ∀ {W' : World} {lb : Nat}, Blk W' lb #[.int .i64 (r : Int), .int .i64 (c' : Int), .slice a1 xs.length k1, .int .i64 (c' : Int), .int .i64 (d : Int), .slice a2 ys.length k2] 78 → MsC W' ⟨lb, 0, none⟩ [⟨(r : Int), (c' : Int), xs⟩, ⟨(c' : Int), (d : Int), ys⟩] := fun h => msc2 h
  obtain ⟨n, hn⟩ : ∃ n, xs.length = n := ⟨_, rfl⟩
  obtain ⟨n', hn'⟩ : ∃ n', ys.length = n' := ⟨_, rfl⟩
  obtain ⟨q, hq⟩ : ∃ q, zs.length = q := ⟨_, rfl⟩
  rw [hn, hn'] at hms
  rw [hn, hn']
  rw [hn'] at hTURN
  have HTURN := Lib.hid hTURN
  have HREF := Lib.hid (fun (W' : World) (lb : Nat) (hU' : UP W' b c0) h => refuses_is hU' (hms (W' := W') (lb := lb) h) (by simp) 2 true)
  rw [hR] at HREF
  clear hR hms hTURN
  go_enter Tryz.func132, Tryz.ntmps132
  go_wp2_with fail
  have hB := below_allocs W [Obj.cells #[Value.pointer (some ⟨b, 0, none⟩)] 30, Obj.cells #[Value.int .i64 (r : Int), .int .i64 (c' : Int), .slice a1 n k1] 78, Obj.cells #[Value.int .i64 (c' : Int), .int .i64 (d : Int), .slice a2 n' k2] 78, Obj.cells #[Value.int .i64 0, .int .i64 0, .slice none 0 0] 78, Obj.cells #[Value.int .i64 (r : Int), .int .i64 (c' : Int), .slice a1 n k1, .int .i64 (c' : Int), .int .i64 (d : Int), .slice a2 n' k2] 78]
  have g0 := blk_at W [Obj.cells #[Value.pointer (some ⟨b, 0, none⟩)] 30, Obj.cells #[Value.int .i64 (r : Int), .int .i64 (c' : Int), .slice a1 n k1] 78, Obj.cells #[Value.int .i64 (c' : Int), .int .i64 (d : Int), .slice a2 n' k2] 78, Obj.cells #[Value.int .i64 0, .int .i64 0, .slice none 0 0] 78, Obj.cells #[Value.int .i64 (r : Int), .int .i64 (c' : Int), .slice a1 n k1, .int .i64 (c' : Int), .int .i64 (d : Int), .slice a2 n' k2] 78] 0 _ _ rfl
  have g1 := blk_at W [Obj.cells #[Value.pointer (some ⟨b, 0, none⟩)] 30, Obj.cells #[Value.int .i64 (r : Int), .int .i64 (c' : Int), .slice a1 n k1] 78, Obj.cells #[Value.int .i64 (c' : Int), .int .i64 (d : Int), .slice a2 n' k2] 78, Obj.cells #[Value.int .i64 0, .int .i64 0, .slice none 0 0] 78, Obj.cells #[Value.int .i64 (r : Int), .int .i64 (c' : Int), .slice a1 n k1, .int .i64 (c' : Int), .int .i64 (d : Int), .slice a2 n' k2] 78] 1 _ _ rfl
  have g2 := blk_at W [Obj.cells #[Value.pointer (some ⟨b, 0, none⟩)] 30, Obj.cells #[Value.int .i64 (r : Int), .int .i64 (c' : Int), .slice a1 n k1] 78, Obj.cells #[Value.int .i64 (c' : Int), .int .i64 (d : Int), .slice a2 n' k2] 78, Obj.cells #[Value.int .i64 0, .int .i64 0, .slice none 0 0] 78, Obj.cells #[Value.int .i64 (r : Int), .int .i64 (c' : Int), .slice a1 n k1, .int .i64 (c' : Int), .int .i64 (d : Int), .slice a2 n' k2] 78] 2 _ _ rfl
  have g3 := blk_at W [Obj.cells #[Value.pointer (some ⟨b, 0, none⟩)] 30, Obj.cells #[Value.int .i64 (r : Int), .int .i64 (c' : Int), .slice a1 n k1] 78, Obj.cells #[Value.int .i64 (c' : Int), .int .i64 (d : Int), .slice a2 n' k2] 78, Obj.cells #[Value.int .i64 0, .int .i64 0, .slice none 0 0] 78, Obj.cells #[Value.int .i64 (r : Int), .int .i64 (c' : Int), .slice a1 n k1, .int .i64 (c' : Int), .int .i64 (d : Int), .slice a2 n' k2] 78] 3 _ _ rfl
  have g4 := blk_at W [Obj.cells #[Value.pointer (some ⟨b, 0, none⟩)] 30, Obj.cells #[Value.int .i64 (r : Int), .int .i64 (c' : Int), .slice a1 n k1] 78, Obj.cells #[Value.int .i64 (c' : Int), .int .i64 (d : Int), .slice a2 n' k2] 78, Obj.cells #[Value.int .i64 0, .int .i64 0, .slice none 0 0] 78, Obj.cells #[Value.int .i64 (r : Int), .int .i64 (c' : Int), .slice a1 n k1, .int .i64 (c' : Int), .int .i64 (d : Int), .slice a2 n' k2] 78] 4 _ _ rfl
  simp only [List.foldl_cons, List.foldl_nil, Nat.add_zero] at hB g0 g1 g2 g3 g4
  replace hB := hB.1
  refine (HREF.out _ _ (hU.keep hB) g4).mono ?_
  rintro e w2 ⟨rfl, hK⟩
  replace g0 := g0.keep hK
  replace g1 := g1.keep hK
  replace g2 := g2.keep hK
  replace g3 := g3.keep hK
  replace hB := more hB hK
  have cc2 := g2.cell
  clear g4 hK HREF
  go_wp2_with fail
  refine (HTURN.out w2 (h2.mi.keep hB)).mono ?_
  rintro e w3 ⟨v, rfl, hmo, hK⟩
  obtain ⟨at', kt, rfl, hLI⟩ := hmo.ex
  dsimp only at hLI ⊢
  rw [hq]
  replace g0 := g0.keep hK
  replace g1 := g1.keep hK
  replace g2 := g2.keep hK
  replace g3 := g3.keep hK
  replace hB := more hB hK
  have cc1 := g1.cell
  have cc2 := g2.cell
  clear hK hmo HTURN
  have lt1 : W.heap.size + 1 < w3.heap.size := g1.lt
  have lt2 : W.heap.size + 1 + 1 < w3.heap.size := g2.lt
  go_wp2_with fail
  have hBA := upA (upR w3) (Obj.cells #[Value.int .i64 (d : Int), .int .i64 (c' : Int), .slice at' q kt] 78)
  have g9 := Blk.new w3 #[Value.int .i64 (d : Int), .int .i64 (c' : Int), .slice at' q kt] 78
  replace g0 := g0.keep hBA
  replace g1 := g1.keep hBA
  replace g3 := g3.keep hBA
  have hLI2 := hLI.keep hBA
  replace hB := more hB hBA
  clear cc1 cc2 hBA hLI lt1 lt2 g2
  obtain ⟨p9, hp9⟩ : ∃ p9, w3.heap.size = p9 := ⟨_, rfl⟩
  rw [hp9] at g9 ⊢
  generalize w3.alloc (Obj.cells #[Value.int .i64 (d : Int), .int .i64 (c' : Int), .slice at' q kt] 78) = w5 at *
  clear hp9
  have hx := h1.keep hB
  have hU2 := hU.keep hB
  have hy := hLI2.ml hU2
  have hbW := hU.lt
  have n9 : p9 ≠ b := by obtain ⟨m, hm⟩ := hU2; exact blk_ne g9 hm (by decide)
  have hax : ∃ x, a1 = some x := by obtain ⟨x, hx', _⟩ := h1.mi.cell 0 (by rw [hlen]; exact Nat.mul_pos hr1 hc1); exact ⟨x, hx'⟩
  have hay : ∃ y, at' = some y := by obtain ⟨y, hy', _⟩ := hLI2.mi.cell 0 (by rw [hzl]; exact Nat.mul_pos hd1 hc1); exact ⟨y, hy'⟩
  obtain ⟨x, rfl⟩ := hax
  obtain ⟨y, rfl⟩ := hay
  refine (made_is (w0 := w5) (fun k => k = b) (fun k h => by subst h; exact hU2.lt) 187 (enters_of Tryz.func187 (by kernel_rfl) rfl) #[.pointer (some ⟨W.heap.size, 0, none⟩), .pointer (some ⟨W.heap.size + 1, 0, none⟩), .pointer (some ⟨p9, 0, none⟩)] r d (r * d) rfl ⟨hr1, hr2⟩ ⟨hd1, hd2⟩ (fun x => (dotF (rowL xs c' (x / d)) (rowL zs c' (x % d))).1)
    (fun pre W' => But b w5 W' ∧ UP W' b (c0 || pre.any fun x => (dotF (rowL xs c' (x / d)) (rowL zs c' (x % d))).2))
    (fun pre W1 W2 h1 h2 => ⟨but_below h1.1 h2, h1.2.below h2 hU2.lt⟩) (fun pre x W1 hx' hj hs => ?_) ⟨But.refl _ _, by simpa using hU2⟩).mono ?_
  · rw [any_snoc, ← Bool.or_assoc]
    refine (mul1_is hj.2 (hj.1.blk g0 (Nat.ne_of_gt hbW)) (by rw [hn]; exact hj.1.blk g1 (Nat.ne_of_gt (Nat.lt_succ_of_lt hbW))) (by rw [hq]; exact hj.1.blk g9 n9) (hx.but hj.1) (hy.but hj.1) hlen hzl hr2 hc2 hc1 hd2 (x / d) (x % d) (div_lt' hx') (mod_lt' hx')).mono ?_
    rintro e w3 ⟨rfl, hU3, hB3⟩
    exact ⟨rfl, ⟨hj.1.trans hB3, hU3⟩, but_eff hB3⟩
  · rintro e w3 ⟨v, rfl, hrow, hj, hE⟩
    have hpos := Nat.mul_pos hr1 hd1
    obtain ⟨gv, cv, rfl⟩ := Joins.ownsRow_form hrow (by simpa using hpos)
    have hmo := mo_of_row (r := r) (c := d) hrow hpos (Nat.le_trans (Nat.mul_le_mul hr2 hd2) (by decide)) (fun x _ => (dotF_fx _ _).i64) (Nat.le_trans hr2 (by decide)) (Nat.le_trans hd2 (by decide))
    obtain ⟨hB3, hU3⟩ := hj
    have hB4 := (But.of (b := b) hB).trans hB3
    have g5 := hB3.blk g3 (Nat.ne_of_gt (Nat.lt_add_right 3 hbW))
    have hsz := hB.size
    have hU3' : UP w3 b (c0 || (mulM ⟨(r : Int), (c' : Int), xs⟩ ⟨(c' : Int), (d : Int), ys⟩).2) := by rw [HT.out]; exact hU3
    clear hrow hE g0 g1 g3 g9 hx hy hU2 hB3 hU3 hLI2
    go_wp2_with ((with_reducible refine at_st (p := 6) (q := 35) rfl ?_); refine ev_store rfl 78 _ _ rfl rfl g5 0 rfl rfl [.int .i64 r, .int .i64 d, .slice (some ⟨gv, 0, none⟩) (r * d) cv] rfl (by kernel_rfl) rfl rfl #[.int .i64 r, .int .i64 d, .slice (some ⟨gv, 0, none⟩) (r * d) cv] rfl ?_; intro w4 g6 ef hz4)
    have hmo4 := (hmo.eff ef (fun k hk ht => by subst hk; exact absurd (ht.inj g5.ty) (by decide))).mono hsz
    have hU4 : UP w4 b (c0 || (mulM ⟨(r : Int), (c' : Int), xs⟩ ⟨(c' : Int), (d : Int), ys⟩).2) := by obtain ⟨m, hm⟩ := hU3'; exact ⟨m, ef.blk hm (Nat.ne_of_lt (Nat.lt_add_right 3 hbW))⟩
    have hB5 : But b W w4 := ⟨ef.os.trans hB4.os, ef.tape.trans hB4.tape, ef.output.trans hB4.output, Nat.le_trans hB4.size ef.size, fun k hk hn => (ef.block k (Nat.lt_of_lt_of_le hk hB4.size) (fun h => absurd hk (by rw [h]; exact Nat.not_lt.2 (Nat.le_add_right _ _)))).trans (hB4.block k hk hn)⟩
    refine bodyPost_ret (results_ct (g := W.heap.size + 3) (cs := #[.int .i64 r, .int .i64 d, .slice (some ⟨gv, 0, none⟩) (r * d) cv]) rfl _ _ rfl g6 Tryz.underlying78 rfl (by kernel_rfl)) rfl ?_
    exact ⟨_, rfl, by rw [HT.out]; exact hmo4, hU4, hB5⟩

end Go.Proofs.YtnofoommindocaaGreat.Base
