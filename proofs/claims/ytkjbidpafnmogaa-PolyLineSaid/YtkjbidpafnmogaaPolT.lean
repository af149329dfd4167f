/- binnaclelaw09: PolyLine (the plain seat of r3). -/
import Derived.Test.YtkjbidpafnmogaaPolS
namespace Go.Proofs.Ytkjbidpafnmogaa.Base
open Go.RowKit Go
set_option linter.unusedVariables false
set_option linter.unusedSimpArgs false

theorem line_pow {t : Int} (ht : t.natAbs ≤ 20) : ∀ (l : List Int) (s : Int × Int), (l.foldl (lineF t) s).2.natAbs ≤ s.2.natAbs * 20 ^ l.length
  | [], s => by simp
  | n :: l, s => by
    have h1 := line_pow ht l (lineF t s n)
    have h2 : (lineF t s n).2.natAbs ≤ s.2.natAbs * 20 := by show (s.2 * t).natAbs ≤ _; rw [Int.natAbs_mul]; exact Nat.mul_le_mul (Nat.le_refl _) ht
    rw [List.foldl_cons, List.length_cons, Nat.pow_succ, Nat.mul_comm (20 ^ _) 20, ← Nat.mul_assoc]
    exact Nat.le_trans h1 (Nat.mul_le_mul h2 (Nat.le_refl _))
theorem line_bd {t : Int} (ht : t.natAbs ≤ 20) (l : List Int) (h : ∀ n ∈ l, n.natAbs ≤ 20) (hl : l.length ≤ 3) : (l.foldl (lineF t) (0, 1)).1.natAbs ≤ 8420 ∧ (l.foldl (lineF t) (0, 1)).2.natAbs ≤ 8000 := by
  have h1 := hornZ_bd ht l h
  have h2 := bndZ_3 hl
  have h3 := line_pow ht l (0, 1)
  have h4 : 20 ^ l.length ≤ 20 ^ 3 := Nat.pow_le_pow_right (by decide) hl
  refine ⟨by rw [line_want]; omega, ?_⟩
  have h5 : ((0, 1) : Int × Int).2.natAbs * 20 ^ l.length = 20 ^ l.length := Nat.one_mul _
  omega
theorem pick_bd {x n m : Int} (h : 0 < n) (hm : n = 2 * m + 1) : (pickI x n - m).natAbs ≤ m.natAbs := by
  have := pickI_bd (x := x) h
  omega
theorem MLs.first {b : Nat} {W : World} {x : Addr} {m : Mt} {l : List Mt} (h : MLs b W x (m :: l)) : MLs b W x [m] := by
  refine ⟨fun j hj => ?_, h.ne⟩
  have e : j = 0 := by simpa using hj
  subst e
  exact h.at_ 0 (by simp)
theorem ML.below0 {b : Nat} {W W' : World} {a : Option Addr} {c : Nat} {zs : List Int} (h : ML b W a c zs) (k : Below W.heap.size W W') : ML b W' a c zs := h.keep k
/-- A 1x1 matrix, boxed. -/
structure Bx1 (b g : Nat) (a : Option Addr) (k : Nat) (z : Int) (W : World) : Prop where
  bk : Blk W g #[.int .i64 1, .int .i64 1, .slice a 1 k] 26
  l : ML b W a k [z * 4294967296]
  ne : g ≠ b
theorem Bx1.but {b g : Nat} {a : Option Addr} {k : Nat} {z : Int} {W W' : World} (h : Bx1 b g a k z W) (hb : But b W W') : Bx1 b g a k z W' := ⟨hb.blk h.bk h.ne, h.l.but hb, h.ne⟩
theorem Bx1.keep {b g : Nat} {a : Option Addr} {k : Nat} {z : Int} {W W' : World} (h : Bx1 b g a k z W) (hb : Below W.heap.size W W') : Bx1 b g a k z W' := h.but (But.of hb)
theorem MO.one {B : Nat} {W : World} {v : Value} {z : Int} (h : MO B W v (ofM 1 [z])) : ∃ a k, v = .agg #[.int .i64 1, .int .i64 1, .slice a 1 k] ∧ LI B W a k [z * 4294967296] := h.ex
theorem poly_line {l : List Int} (h0 : 0 < l.length) (hl : l.length ≤ 4) : polyM (lineL l) := by
  refine ⟨by simp [lineL]; omega, by simp [lineL]; omega, fun m hm => ?_⟩
  obtain ⟨n, hn, rfl⟩ := List.mem_map.1 hm
  obtain ⟨a, l', rfl⟩ : ∃ a l', l = a :: l' := by cases l with | nil => simp at h0 | cons a l' => exact ⟨a, l', rfl⟩
  exact ⟨⟨⟨show (1 : Int) ≤ 1 by decide, show (1 : Int) ≤ 12 by decide⟩, ⟨show (1 : Int) ≤ 1 by decide, show (1 : Int) ≤ 12 by decide⟩, rfl⟩, rfl, rfl⟩
theorem poly_one (n : Int) : polyM [ofM 1 [n]] := poly_line (l := [n]) (by simp) (by simp)
theorem At_one {w0 : World} {b : Nat} {c0 : Bool} (hU : UP w0 b c0) {x : Addr} {k : Nat} {n : Int} (hms : MLs b w0 x [ofM 1 [n]]) (hk : 1 ≤ k) (t : Int) (ht : I64 t) :
    Calls Try.prog 13 #[.pointer (some ⟨b, 0, none⟩), .slice (some x) 1 k, .int .i64 t] w0 fun e w' => ∃ v c, e = .returned (.tuple #[v, .int .i64 0]) ∧ MO w0.heap.size w' v (ofM 1 [n]) ∧ UP w' b c ∧ But b w0 w' :=
  (At_is hU hms (by simpa using hk) (poly_one n) t ht).mono fun e w' ⟨v, h1, h2, h3, h4⟩ => ⟨v, _, h1, h2, h3, h4⟩
theorem At_line {w0 : World} {b : Nat} {c0 : Bool} (hU : UP w0 b c0) {x : Addr} {n k : Nat} {l : List Int} (hms : MLs b w0 x (lineL l)) (hn : l.length = n) (hk : n ≤ k) (h0 : 0 < n) (h4 : n ≤ 4) (hb : ∀ z ∈ l, z.natAbs ≤ 20) (t : Int) (ht : t.natAbs ≤ 20) :
    Calls Try.prog 13 #[.pointer (some ⟨b, 0, none⟩), .slice (some x) n k, .int .i64 (t * 4294967296)] w0 fun e w' => ∃ v c, e = .returned (.tuple #[v, .int .i64 0]) ∧ MO w0.heap.size w' v (ofM 1 [hornZ t l]) ∧ UP w' b c ∧ But b w0 w' := by
  subst hn
  have e : (lineL l).length = l.length := by simp [lineL]
  have h := At_is hU hms (by rw [e]; exact hk) (poly_line h0 h4) (t * 4294967296) (by unfold I64; omega)
  rw [e, horn_line ht l h0 h4 hb] at h
  exact h.mono fun e w' ⟨v, h1, h2, h3, h4⟩ => ⟨v, _, h1, h2, h3, h4⟩
theorem At_nought {w0 : World} {b : Nat} {c0 : Bool} (hU : UP w0 b c0) {x : Addr} {n k : Nat} {l : List Int} (hms : MLs b w0 x (lineL l)) (hn : l.length = n) (hk : n ≤ k) (h0 : 0 < n) (h4 : n ≤ 4) (hb : ∀ z ∈ l, z.natAbs ≤ 20) :
    Calls Try.prog 13 #[.pointer (some ⟨b, 0, none⟩), .slice (some x) n k, .int .i64 0] w0 fun e w' => ∃ v c, e = .returned (.tuple #[v, .int .i64 0]) ∧ MO w0.heap.size w' v (ofM 1 [l.headD 0]) ∧ UP w' b c ∧ But b w0 w' := by
  subst hn
  have e : (lineL l).length = l.length := by simp [lineL]
  have h := At_is hU hms (by rw [e]; exact hk) (poly_line h0 h4) 0 (by unfold I64; omega)
  rw [e, horn_nought l h0 h4 hb] at h
  exact h.mono fun e w' ⟨v, h1, h2, h3, h4⟩ => ⟨v, _, h1, h2, h3, h4⟩
theorem add_nought (x : Addr) : x.add (0 * 3) = x := by rw [Nat.zero_mul]; rfl
theorem same_one {W : World} {z : Int} {a1 a2 : Option Addr} {k1 k2 : Nat} (h1 : MI 0 W a1 k1 [z * 4294967296]) (h2 : MI 0 W a2 k2 [z * 4294967296]) :
    Calls Try.prog 16 #[.agg #[.int .i64 1, .int .i64 1, .slice a1 1 k1], .agg #[.int .i64 1, .int .i64 1, .slice a2 1 k2]] W fun e w' => e = .returned (.bool true) ∧ Below W.heap.size W w' := by
  have h := sameMat_is (m1 := ofM 1 [z]) (m2 := ofM 1 [z]) h1 h2
  rwa [decide_eq_true ⟨rfl, rfl, rfl⟩] at h
/-- What the loop has at j. -/
structure LnI (w0 : World) (xs : List Int) (t : Int) (j : Nat) (v : Value) (s1 s2 : Int) (W : World) : Prop where
  o : OMs w0.heap.size W v (lineL (xs.take j))
  e1 : s1 = ((xs.take j).foldl (lineF t) (0, 1)).1
  e2 : s2 = ((xs.take j).foldl (lineF t) (0, 1)).2
  bel : Below w0.heap.size w0 W
theorem take_len {xs : List Int} {n j : Nat} (h : xs.length = n) (hj : j ≤ n) : (lineL (xs.take j)).length = j := by simp [lineL]; omega

set_option maxHeartbeats 8000000 in
set_option maxRecDepth 100000 in
theorem line_walk (a : Option Addr) (c : Nat) (zs : List Int) (t0 : Int) (w0 : World) (hz : MI 0 w0 a c zs) (ht0 : (Lit.int .i64 t0).wf = true) :
    Calls Try.prog 5 #[.slice a zs.length c, .int .i64 t0] w0 fun e w' => e = .returned (.bool true) ∧ Below w0.heap.size w0 w' := by
  obtain ⟨n, hn⟩ : ∃ n, zs.length = n := ⟨_, rfl⟩
  have hmax := hz.len
  rw [hn] at hmax ⊢
  unfold maxLen at hmax
  have HN := Lib.hid hn
  by_cases hn0 : n = 0
  · have q1 : ((n : Nat) : Int) = 0 := by omega
    subst hn0
    clear hn
    go_enter Try.func5, Try.ntmps5
    go_wp2_with fail
    refine (awake09_is w0).mono ?_
    rintro e w1 ⟨rfl, hB⟩
    go_wp2_with fail
    go_ret
    exact ⟨rfl, hB⟩
  by_cases hn4 : 4 < n
  · have q1 : ¬ ((n : Nat) : Int) = 0 := by omega
    have q2 : (4 : Int) < (n : Nat) := by omega
    clear hn
    go_enter Try.func5, Try.ntmps5
    go_wp2_with fail
    refine (awake09_is w0).mono ?_
    rintro e w1 ⟨rfl, hB⟩
    go_wp2_with fail
    go_ret
    exact ⟨rfl, hB⟩
  have q1 : ¬ ((n : Nat) : Int) = 0 := by omega
  have q2 : ¬ (4 : Int) < (n : Nat) := by omega
  have q3 : (((n : Nat) : Int) == 0) = false := beq_false_of_ne q1
  have q4 : decide ((4 : Int) < (n : Nat)) = false := decide_eq_false q2
  obtain ⟨t, het⟩ : ∃ t, pickI t0 41 - 20 = t := ⟨_, rfl⟩
  have htb : t.natAbs ≤ 20 := by rw [← het]; exact pick_bd (m := 20) (by decide) (by decide)
  have hwt : IntKind.i64.wrap (pickI t0 41 - 20) = t := by rw [het]; exact IntWalk.i64_in _ (by omega)
  obtain ⟨xs, hxs⟩ : ∃ xs, xs = zs.map (fun z => pickI z 41 - 20) := ⟨_, rfl⟩
  have hxn : xs.length = n := by rw [hxs, List.length_map]; exact hn
  have hxb : ∀ x ∈ xs, x.natAbs ≤ 20 := fun x hx => by
    rw [hxs] at hx
    obtain ⟨z, _, rfl⟩ := List.mem_map.1 hx
    exact pick_bd (m := 20) (by decide) (by decide)
  have HX : Hid (∀ j (h : j < n) (W : World), Below w0.heap.size w0 W → ∃ x z, a = some x ∧ W.cell? (x.add j) = some (.int .i64 z) ∧ xs[j]? = some (pickI z 41 - 20)) := Lib.hid (fun j h W hb => by
    obtain ⟨x, hx, hc⟩ := (hz.keep hb).cell j (by rw [hn]; exact h)
    exact ⟨x, _, hx, hc, by rw [hxs, List.getElem?_map, List.getElem?_eq_getElem (by rw [hn]; exact h)]; rfl⟩)
  have HXN := Lib.hid hxn
  have HXB := Lib.hid hxb
  clear hn het hxs hz hxn hxb
  go_enter Try.func5, Try.ntmps5
  go_wp2_with fail
  refine (awake09_is w0).mono ?_
  rintro e w1 ⟨rfl, hB⟩
  go_wp2_with fail
  refine (pick_is t0 41 (by decide) (by decide) _).mono ?_
  rintro e w2 ⟨rfl, hw2⟩
  rw [← hw2]
  clear hw2 w2
  go_wp2_with fail
  have hst : LnI w0 xs t 0 (.slice none 0 0) 0 1 w1 := ⟨OMs.nil _ _, rfl, rfl, hB⟩
  clear hB
  go_loopw [6, 7, 8, 9] (fun v6 v7 v8 v9 wr => ∃ (j : Nat) (s1 s2 : Int) (ga : Option Addr) (gn gc : Nat), j ≤ n ∧ v9 = .int .i64 j ∧ v7 = .int .i64 s1 ∧ v8 = .int .i64 s2 ∧ v6 = .slice ga gn gc ∧ LnI w0 xs t j (.slice ga gn gc) s1 s2 wr) (fun _ _ _ i _ => n - (intOf i).toNat)
  case atStart => exact ⟨0, 0, 1, none, 0, 0, Nat.zero_le _, rfl, rfl, rfl, rfl, hst⟩
  case round =>
    clear hst
    obtain ⟨j, s1, s2, ga, gn, gc, hj, rfl, rfl, rfl, rfl, hI⟩ := hrel
    by_cases hlt : j < n
    · have hlt' : (j : Int) < (n : Int) := by omega
      have hj0 : (0 : Int) ≤ (j : Int) := by omega
      obtain ⟨x, z, rfl, hc, hxj⟩ := HX.out j hlt _ hI.bel
      obtain ⟨m, hm⟩ : ∃ m, pickI z 41 - 20 = m := ⟨_, rfl⟩
      rw [hm] at hxj
      have hmb : m.natAbs ≤ 20 := HXB.out m (List.mem_of_getElem? hxj)
      have hwm : IntKind.i64.wrap (pickI z 41 - 20) = m := by rw [hm]; exact IntWalk.i64_in _ (by omega)
      have htk : xs.take (j + 1) = xs.take j ++ [m] := by rw [List.take_add_one, hxj]; rfl
      have hbd := line_bd htb (xs.take j) (fun y hy => HXB.out y (List.mem_of_mem_take hy)) (by rw [List.length_take]; omega)
      rw [← hI.e1, ← hI.e2] at hbd
      have hp1 : (m * s2).natAbs ≤ 20 * 8000 := by rw [Int.natAbs_mul]; exact Nat.mul_le_mul hmb hbd.2
      have hp2 : (s2 * t).natAbs ≤ 8000 * 20 := by rw [Int.natAbs_mul]; exact Nat.mul_le_mul hbd.2 htb
      have hw3 : IntKind.i64.wrap (m * s2) = m * s2 := IntWalk.i64_in _ (by omega)
      have hw4 : IntKind.i64.wrap (s1 + m * s2) = s1 + m * s2 := IntWalk.i64_in _ (by omega)
      have hw5 : IntKind.i64.wrap (s2 * t) = s2 * t := IntWalk.i64_in _ (by omega)
      have hw6 : IntKind.i64.wrap ((j : Int) + 1) = (j : Int) + 1 := IntWalk.i64_in _ (by omega)
      have HS1 := Lib.hid (show s1 + m * s2 = ((xs.take (j + 1)).foldl (lineF t) (0, 1)).1 by rw [htk, List.foldl_append, hI.e1, hI.e2]; rfl)
      have HS2 := Lib.hid (show s2 * t = ((xs.take (j + 1)).foldl (lineF t) (0, 1)).2 by rw [htk, List.foldl_append, hI.e2]; rfl)
      have HTK := Lib.hid (show lineL (xs.take (j + 1)) = lineL (xs.take j) ++ [ofM 1 [m]] by rw [htk]; simp [lineL])
      have HLEN := Lib.hid (take_len HXN.out (Nat.le_of_lt hlt))
      have hO := hI.o
      have hB := hI.bel
      clear hm hxj htk hI hbd hp1 hp2
      go_wp2_with fail
      refine (pick_is z 41 (by decide) (by decide) _).mono ?_
      rintro e w2 ⟨rfl, hw2⟩
      rw [← hw2]
      clear hw2 w2
      go_wp2_with fail
      have hBA := upA (upR wr) (Obj.cells #[Value.int .i64 m] 3)
      have gz := (Blk.new wr #[Value.int .i64 m] 3)
      have hmz := MI.of_blk (B := 0) (zs := [m]) gz (Nat.zero_le _) (fun y hy => by simp at hy; subst hy; unfold I64; omega) (show (1 : Nat) ≤ 1000 by decide)
      have hO2 := hO.keep hBA
      have hB2 := more hB hBA
      have hof := of_is hmz 1 (i64_lit (by decide)) (fun y hy => by simp at hy; subst hy; omega) (show (1 : Nat) ≤ 1000 by decide) (show 0 < 1 by decide)
      generalize wr.alloc (Obj.cells #[Value.int .i64 m] 3) = w2 at *
      clear hBA gz hmz hO hB hc
      refine hof.mono ?_
      rintro e w3 ⟨v, rfl, hmo, hK⟩
      obtain ⟨a3, k3, rfl, hL3⟩ := hmo.one
      have hO3 := hO2.keep hK
      have hB3 := more hB2 hK
      have hL3' := hL3.mono hB2.size
      clear hof hO2 hB2 hmo hL3 hK
      have hBA := upA (upR w3) (Obj.cells #[Value.int .i64 1, .int .i64 1, .slice a3 1 k3] 26)
      have hbx := (Blk.new w3 #[Value.int .i64 1, .int .i64 1, .slice a3 1 k3] 26)
      have hO4 := hO3.keep hBA
      have hB4 := more hB3 hBA
      have hL4 := hL3'.keep hBA
      have hlen : (lineL (xs.take j)).length ≤ 1000 := by rw [HLEN.out]; omega
      have hsz4 : w0.heap.size ≤ (w3.alloc (Obj.cells #[Value.int .i64 1, .int .i64 1, .slice a3 1 k3] 26)).heap.size := hB4.size
      clear hO3 hL3' hBA
      go_wp2_with (at_builtin; refine app_mat (B := w0.heap.size) (m := ofM 1 [m]) (aH := a3) (cH := k3) rfl _ _ rfl rfl hO4 hsz4 w3.heap.size rfl 1 1 1 rfl rfl rfl hbx hL4 (i64_lit (z := 1) (by decide)) (i64_lit (z := 1) (by decide)) hlen ?_)
      intro u' w5 hO5 hg5 hown hu5
      have hB5 : Below w0.heap.size w0 w5 := hB4.trans ⟨hg5.os, hg5.tape, hg5.output, hg5.size, fun k hk => hg5.block k (by omega) (fun e => by
        obtain ⟨vs, ho, _⟩ := hO4.ex
        have := (ho.lt k e.symm).1; omega)⟩
      obtain ⟨g5, c5, rfl⟩ := hu5
      rw [← HTK.out] at hO5
      clear hO4 hB4 hL4 hbx hlen hsz4 hB3 hown hg5
      go_wp2_with fail
      go_roundw
      case rel => exact ⟨j + 1, _, _, _, _, _, by omega, by go_num, rfl, rfl, rfl, ⟨hO5, HS1.out, HS2.out, hB5⟩⟩
      case measure => simp [intOf]; omega
    · have hge : ¬ (j : Int) < (n : Int) := by omega
      have hjn : j = n := by omega
      have htk : xs.take j = xs := by rw [hjn, ← HXN.out]; exact List.take_length
      have HO := Lib.hid hI.o
      have HE : s1 = hornZ t xs := hI.e1.trans (by rw [htk]; exact line_want t xs)
      have hB := hI.bel
      rw [htk] at HO
      obtain ⟨p0, l', hx0⟩ : ∃ p0 l', xs = p0 :: l' := by
        cases hx : xs with
        | nil => have h9 := HXN.out; rw [hx] at h9; have h8 : (0 : Nat) = n := h9; omega
        | cons p0 l' => exact ⟨p0, l', rfl⟩
      have HX0 := Lib.hid hx0
      have hpb : p0.natAbs ≤ 20 := HXB.out p0 (by rw [hx0]; simp)
      have hhb : (hornZ t xs).natAbs ≤ 168420 := by
        have h1 := hornZ_bd htb xs HXB.out
        have h2 : xs.length ≤ 4 := by have := HXN.out; omega
        have h3 := bndZ_3 (k := xs.length - 1) (by omega)
        have h4 : bndZ xs.length = 20 + 20 * bndZ (xs.length - 1) := by rw [show xs.length = (xs.length - 1) + 1 by have := HXN.out; omega]; rfl
        omega
      obtain ⟨hz, hhz⟩ : ∃ hz, hornZ t xs = hz := ⟨_, rfl⟩
      rw [hhz] at HE hhb
      have HHZ := Lib.hid hhz
      subst HE
      have hw7 : IntKind.i64.wrap (t * 4294967296) = t * 4294967296 := IntWalk.i64_in _ (by omega)
      have hw8 : IntKind.i64.wrap (7 * t) = 7 * t := IntWalk.i64_in _ (by omega)
      have hnpos : 0 < n := by omega
      have hn4' : n ≤ 4 := by omega
      clear hjn htk hI hx0 hhz hge hj
      go_wp2_with fail
      refine (uNew_is _).mono ?_
      rintro e w2 ⟨rfl, hU, hK⟩
      have hO := HO.out.keep hK
      obtain ⟨x, kc, hgv, hck, hMLs⟩ := hO.mls hU (by simp [lineL, HX0.out])
      rw [show (lineL xs).length = n by simp [lineL, HXN.out]] at hgv
      obtain ⟨rfl, hgn, hgc⟩ : ga = some x ∧ gn = n ∧ gc = kc := by simpa using hgv
      have hgn' : n = gn := hgn.symm
      have hgc' : kc = gc := hgc.symm
      subst hgn' hgc'
      clear hgv
      rw [show (lineL xs).length = n by simp [lineL, HXN.out]] at hck
      have hB2 := more hB hK
      have hub : w0.heap.size ≤ wr.heap.size := hB.size
      obtain ⟨b, hbb⟩ : ∃ b, wr.heap.size = b := ⟨_, rfl⟩
      rw [hbb] at hU hMLs hub ⊢
      clear hO HO hK hB hbb
      have hA1 := At_line hU hMLs HXN.out hck hnpos hn4' HXB.out t htb
      rw [HHZ.out] at hA1
      have HA1 := Lib.hid hA1
      clear hA1
      go_wp2_with fail
      refine HA1.out.mono ?_
      rintro e w3 ⟨v, c1, rfl, hmo, hU3, hB3⟩
      obtain ⟨a3, k3, rfl, hL3⟩ := hmo.one
      have hML3 := hMLs.but hB3
      have hBB := hB2.trans (hB3.below hub hB2.size)
      have hl3 := hL3.ml hU3
      have hlt3 := hU3.lt
      clear hmo hL3 hMLs hU hB2 hB3 HA1
      go_wp2_with fail
      have hBA := upA (upR w3) (Obj.cells #[Value.int .i64 1, .int .i64 1, .slice a3 1 k3] 26)
      have b3 : Bx1 b w3.heap.size a3 k3 s1 _ := ⟨Blk.new w3 #[Value.int .i64 1, .int .i64 1, .slice a3 1 k3] 26, hl3.keep hBA, by omega⟩
      replace hU3 := hU3.keep hBA
      replace hML3 := hML3.but (But.of hBA)
      replace hBB := more hBB hBA
      generalize w3.alloc (Obj.cells #[Value.int .i64 1, .int .i64 1, .slice a3 1 k3] 26) = w4 at *
      obtain ⟨g3, hg3⟩ : ∃ g, w3.heap.size = g := ⟨_, rfl⟩
      rw [hg3] at b3 ⊢
      clear hBA hl3 hlt3 hg3
      have HA2 := Lib.hid (At_nought hU3 hML3 HXN.out hck hnpos hn4' HXB.out)
      go_wp2_with fail
      refine HA2.out.mono ?_
      rintro e w5 ⟨v, c2, rfl, hmo, hU5, hB5⟩
      rw [show xs.headD 0 = p0 by rw [HX0.out]; rfl] at hmo
      obtain ⟨a5, k5, rfl, hL5⟩ := hmo.one
      have hML5 := hML3.but hB5
      replace b3 := b3.but hB5
      replace hBB := hBB.trans (hB5.below hub hBB.size)
      have hl5 := hL5.ml hU5
      have hlt5 := hU5.lt
      clear hmo hL5 hML3 hU3 hB5 HA2
      go_wp2_with fail
      have hBA := upA (upR w5) (Obj.cells #[Value.int .i64 1, .int .i64 1, .slice a5 1 k5] 26)
      have b5 : Bx1 b w5.heap.size a5 k5 p0 _ := ⟨Blk.new w5 #[Value.int .i64 1, .int .i64 1, .slice a5 1 k5] 26, hl5.keep hBA, by omega⟩
      replace hU5 := hU5.keep hBA
      replace hML5 := hML5.but (But.of hBA)
      replace b3 := b3.keep hBA
      replace hBB := more hBB hBA
      generalize w5.alloc (Obj.cells #[Value.int .i64 1, .int .i64 1, .slice a5 1 k5] 26) = w6 at *
      obtain ⟨g5, hg5⟩ : ∃ g, w5.heap.size = g := ⟨_, rfl⟩
      rw [hg5] at b5 ⊢
      clear hBA hl5 hlt5 hg5
      rw [HX0.out] at hML5
      have hML1 : MLs b w6 x [ofM 1 [p0]] := MLs.first hML5
      have hk1 : 1 ≤ kc := by omega
      have hk1' : (1 : Int) ≤ (kc : Int) := by omega
      have HA3 := Lib.hid (At_one hU5 hML1 hk1 (7 * t) (by unfold I64; omega))
      go_wp2_with fail
      refine HA3.out.mono ?_
      rintro e w7 ⟨v, c3, rfl, hmo, hU7, hB7⟩
      obtain ⟨a7, k7, rfl, hL7⟩ := hmo.one
      have hML7 := hML1.but hB7
      replace b3 := b3.but hB7
      replace b5 := b5.but hB7
      replace hBB := hBB.trans (hB7.below hub hBB.size)
      have hl7 := hL7.ml hU7
      have hlt7 := hU7.lt
      clear hmo hL7 hML1 hML5 hU5 hB7 HA3
      go_wp2_with fail
      have hBA := (upA (upR w7) (Obj.cells #[Value.int .i64 1, .int .i64 1, .slice a7 1 k7] 26)).drew
      have b7 : Bx1 b w7.heap.size a7 k7 p0 _ := ⟨(Blk.new w7 #[Value.int .i64 1, .int .i64 1, .slice a7 1 k7] 26).drew, hl7.keep hBA, by omega⟩
      replace hML7 := hML7.but (But.of hBA)
      replace b3 := b3.keep hBA
      replace b5 := b5.keep hBA
      replace hBB := more hBB hBA
      obtain ⟨ap, kp, ⟨h1, h2, h3⟩, hlp⟩ := hML7.at_ 0 (by simp)
      have HS0 := (show Bx1 b g3 a3 k3 s1 _ ∧ Bx1 b g5 a5 k5 p0 _ ∧ Bx1 b _ a7 k7 p0 _ ∧ (_ ∧ _ ∧ _) ∧ MI 0 _ ap kp [p0 * 4294967296] ∧ Below w0.heap.size w0 _ from ⟨b3, b5, b7, ⟨h1, h2, h3⟩, hlp.mi, hBB⟩)
      have hn1 : (0 : Int) < (n : Int) := by omega
      have hwb : (s1 : Int).natAbs ≤ 168420 := hhb
      clear b3 b5 b7 h1 h2 h3 hlp hBB hML7 hU7 hBA hl7 hlt7
      clear HX HXN HXB HX0 HHZ hwt htb hw7 hw8 hck hn4' hpb hhb hk1 hk1' q1 q2 q3 q4 hn0 hn4 hmax HN ht0 hlt hub
      refine region_fp [some 81, some 82, some 83, some 84, some 85, some 86, some 87, some 88, some 89, some 90, some 91, some 92, some 93, some 94, some 95, some 96, some 97, some 98, some 99, some 100, some 101, some 102, some 103, some 104, some 105, some 106, some 107, some 108, some 109, some 110, some 111, some 112, some 113, some 114, some 4] [] [some (Value.bool true), some (Value.bool true), some (Value.int .i64 0), some (Value.bool true), some (Value.bool true), some (Value.bool true), some (Value.int .i64 0), some (Value.bool true), some (Value.bool true), some (Value.bool true), some (Value.int .i64 0), some (Value.bool true), some (Value.bool true), some (Value.bool true), some (Value.agg #[Value.int .i64 1, Value.int .i64 1, Value.slice a3 1 k3]), some (Value.int .i64 s1), none, none, some (Value.bool true), some (Value.bool true), some (Value.bool true), some (Value.agg #[Value.int .i64 1, Value.int .i64 1, Value.slice a5 1 k5]), some (Value.slice (some x) n kc), some (Value.pointer (some x)), some (Value.agg #[Value.int .i64 1, Value.int .i64 1, Value.slice ap 1 kp]), some (Value.bool true), some (Value.bool true), some (Value.bool true), some (Value.agg #[Value.int .i64 1, Value.int .i64 1, Value.slice a7 1 k7]), some (Value.slice (some x) n kc), some (Value.pointer (some x)), some (Value.agg #[Value.int .i64 1, Value.int .i64 1, Value.slice ap 1 kp]), some (Value.bool true), some (Value.bool true), some (Value.bool true)]
        (fun i v W => match i with | 16 => ∃ e1, v = Value.slice (some ⟨e1, 0, none⟩) 1 1 ∧ Blk W e1 #[Value.int .i64 s1] 3 | 17 => MO 0 W v (ofM 1 [s1]) | _ => True) (fun W W' => Below W.heap.size W W') (fun L f W => Bx1 b g3 a3 k3 s1 W ∧ Bx1 b g5 a5 k5 p0 W ∧ Bx1 b w7.heap.size a7 k7 p0 W ∧ (W.cell? (x.add (0 * 3)) = some (.int .i64 (ofM 1 [p0]).r) ∧ W.cell? ⟨(x.add (0 * 3)).block, (x.add (0 * 3)).off + 1, none⟩ = some (.int .i64 (ofM 1 [p0]).c) ∧ W.cell? ⟨(x.add (0 * 3)).block, (x.add (0 * 3)).off + 2, none⟩ = some (.slice ap (ofM 1 [p0]).v.length kp)) ∧ MI 0 W ap kp [p0 * 4294967296] ∧ Below w0.heap.size w0 W)
        (by kernel_rfl) (by kernel_rfl) (by kernel_rfl) (by kernel_rfl) (by kernel_rfl) (fun _ => Below.refl _ _) (fun i v W W' h hb => by
          match i, h with
          | 16, ⟨e1, h1, h2⟩ => exact ⟨e1, h1, h2.keep hb⟩
          | 17, h => exact h.keep hb
          | 0, _ | 1, _ | 2, _ | 3, _ | 4, _ | 5, _ | 6, _ | 7, _ | 8, _ | 9, _ | 10, _ | 11, _ | 12, _ | 13, _ | 14, _ | 15, _ | 18, _ | 19, _ | 20, _ | 21, _ | 22, _ | 23, _ | 24, _ | 25, _ | 26, _ | 27, _ | 28, _ | 29, _ | 30, _ | 31, _ | 32, _ | 33, _ | 34, _ => trivial
          | (n + 35), _ => trivial) (fun _ _ _ _ _ _ h => h) HS0 ?_ ?_
      · intro i hi b' L f W hSW hL hdep hsh he hsv hsl hFF K hK1 hK2
        replace hi : i < 35 := hi
        have hcs : i = 0 ∨ i = 1 ∨ i = 2 ∨ i = 3 ∨ i = 4 ∨ i = 5 ∨ i = 6 ∨ i = 7 ∨ i = 8 ∨ i = 9 ∨ i = 10 ∨ i = 11 ∨ i = 12 ∨ i = 13 ∨ i = 14 ∨ i = 15 ∨ i = 16 ∨ i = 17 ∨ i = 18 ∨ i = 19 ∨ i = 20 ∨ i = 21 ∨ i = 22 ∨ i = 23 ∨ i = 24 ∨ i = 25 ∨ i = 26 ∨ i = 27 ∨ i = 28 ∨ i = 29 ∨ i = 30 ∨ i = 31 ∨ i = 32 ∨ i = 33 ∨ i = 34 := by omega
        clear hi
        rcases hcs with rfl | rfl | rfl | rfl | rfl | rfl | rfl | rfl | rfl | rfl | rfl | rfl | rfl | rfl | rfl | rfl | rfl | rfl | rfl | rfl | rfl | rfl | rfl | rfl | rfl | rfl | rfl | rfl | rfl | rfl | rfl | rfl | rfl | rfl | rfl
        · refine wpOpS_go rfl rfl ?_
          have t5 : b'.tmps[5]?.getD undef = Value.bool true := he 5 (by kernel_rfl)
          have HK := Lib.hid hK1
          clear hK1 hK2 hdep hsh he hsv hsl hFF hL hSW
          go_simp
          exact HK.out rfl _ (fp_mk rfl rfl trivial)
        · refine wpOpS_go rfl rfl ?_
          have t81 : b'.tmps[81]?.getD undef = Value.bool true := hsv 0 81 _ (by kernel_rfl) (by kernel_rfl) rfl
          have HK := Lib.hid hK1
          clear hK1 hK2 hdep hsh he hsv hsl hFF hL hSW
          go_simp
          exact HK.out rfl _ (fp_mk rfl rfl trivial)
        · refine wpOpS_guard (dg := 82) rfl rfl rfl rfl (hsv 1 82 _ (by kernel_rfl) (by kernel_rfl) rfl) ?_
          rw [if_pos rfl]
          have t13 : b'.tmps[13]?.getD undef = Value.int .i64 0 := he 13 (by kernel_rfl)
          have HK := Lib.hid hK1
          clear hK1 hK2 hdep hsh he hsv hsl hFF hL hSW
          go_simp
          exact HK.out rfl _ (fp_mk rfl rfl trivial)
        · refine wpOpS_guard (dg := 82) rfl rfl rfl rfl (hsv 1 82 _ (by kernel_rfl) (by kernel_rfl) rfl) ?_
          rw [if_pos rfl]
          have t83 : b'.tmps[83]?.getD undef = Value.int .i64 0 := hsv 2 83 _ (by kernel_rfl) (by kernel_rfl) rfl
          have HK := Lib.hid hK1
          clear hK1 hK2 hdep hsh he hsv hsl hFF hL hSW
          go_simp
          exact HK.out rfl _ (fp_mk rfl rfl trivial)
        · refine wpOpS_go rfl rfl ?_
          have t82 : b'.tmps[82]?.getD undef = Value.bool true := hsv 1 82 _ (by kernel_rfl) (by kernel_rfl) rfl
          have t84 : b'.tmps[84]?.getD undef = Value.bool true := hsv 3 84 _ (by kernel_rfl) (by kernel_rfl) rfl
          have HK := Lib.hid hK1
          clear hK1 hK2 hdep hsh he hsv hsl hFF hL hSW
          go_simp
          exact HK.out rfl _ (fp_mk rfl rfl trivial)
        · refine wpOpS_go rfl rfl ?_
          have t85 : b'.tmps[85]?.getD undef = Value.bool true := hsv 4 85 _ (by kernel_rfl) (by kernel_rfl) rfl
          have HK := Lib.hid hK1
          clear hK1 hK2 hdep hsh he hsv hsl hFF hL hSW
          go_simp
          exact HK.out rfl _ (fp_mk rfl rfl trivial)
        · refine wpOpS_guard (dg := 86) rfl rfl rfl rfl (hsv 5 86 _ (by kernel_rfl) (by kernel_rfl) rfl) ?_
          rw [if_pos rfl]
          have t15 : b'.tmps[15]?.getD undef = Value.int .i64 0 := he 15 (by kernel_rfl)
          have HK := Lib.hid hK1
          clear hK1 hK2 hdep hsh he hsv hsl hFF hL hSW
          go_simp
          exact HK.out rfl _ (fp_mk rfl rfl trivial)
        · refine wpOpS_guard (dg := 86) rfl rfl rfl rfl (hsv 5 86 _ (by kernel_rfl) (by kernel_rfl) rfl) ?_
          rw [if_pos rfl]
          have t87 : b'.tmps[87]?.getD undef = Value.int .i64 0 := hsv 6 87 _ (by kernel_rfl) (by kernel_rfl) rfl
          have HK := Lib.hid hK1
          clear hK1 hK2 hdep hsh he hsv hsl hFF hL hSW
          go_simp
          exact HK.out rfl _ (fp_mk rfl rfl trivial)
        · refine wpOpS_go rfl rfl ?_
          have t86 : b'.tmps[86]?.getD undef = Value.bool true := hsv 5 86 _ (by kernel_rfl) (by kernel_rfl) rfl
          have t88 : b'.tmps[88]?.getD undef = Value.bool true := hsv 7 88 _ (by kernel_rfl) (by kernel_rfl) rfl
          have HK := Lib.hid hK1
          clear hK1 hK2 hdep hsh he hsv hsl hFF hL hSW
          go_simp
          exact HK.out rfl _ (fp_mk rfl rfl trivial)
        · refine wpOpS_go rfl rfl ?_
          have t89 : b'.tmps[89]?.getD undef = Value.bool true := hsv 8 89 _ (by kernel_rfl) (by kernel_rfl) rfl
          have HK := Lib.hid hK1
          clear hK1 hK2 hdep hsh he hsv hsl hFF hL hSW
          go_simp
          exact HK.out rfl _ (fp_mk rfl rfl trivial)
        · refine wpOpS_guard (dg := 90) rfl rfl rfl rfl (hsv 9 90 _ (by kernel_rfl) (by kernel_rfl) rfl) ?_
          rw [if_pos rfl]
          have t17 : b'.tmps[17]?.getD undef = Value.int .i64 0 := he 17 (by kernel_rfl)
          have HK := Lib.hid hK1
          clear hK1 hK2 hdep hsh he hsv hsl hFF hL hSW
          go_simp
          exact HK.out rfl _ (fp_mk rfl rfl trivial)
        · refine wpOpS_guard (dg := 90) rfl rfl rfl rfl (hsv 9 90 _ (by kernel_rfl) (by kernel_rfl) rfl) ?_
          rw [if_pos rfl]
          have t91 : b'.tmps[91]?.getD undef = Value.int .i64 0 := hsv 10 91 _ (by kernel_rfl) (by kernel_rfl) rfl
          have HK := Lib.hid hK1
          clear hK1 hK2 hdep hsh he hsv hsl hFF hL hSW
          go_simp
          exact HK.out rfl _ (fp_mk rfl rfl trivial)
        · refine wpOpS_go rfl rfl ?_
          have t90 : b'.tmps[90]?.getD undef = Value.bool true := hsv 9 90 _ (by kernel_rfl) (by kernel_rfl) rfl
          have t92 : b'.tmps[92]?.getD undef = Value.bool true := hsv 11 92 _ (by kernel_rfl) (by kernel_rfl) rfl
          have HK := Lib.hid hK1
          clear hK1 hK2 hdep hsh he hsv hsl hFF hL hSW
          go_simp
          exact HK.out rfl _ (fp_mk rfl rfl trivial)
        · refine wpOpS_go rfl rfl ?_
          have t93 : b'.tmps[93]?.getD undef = Value.bool true := hsv 12 93 _ (by kernel_rfl) (by kernel_rfl) rfl
          have HK := Lib.hid hK1
          clear hK1 hK2 hdep hsh he hsv hsl hFF hL hSW
          go_simp
          exact HK.out rfl _ (fp_mk rfl rfl trivial)
        · refine wpOpS_guard (dg := 94) rfl rfl rfl rfl (hsv 13 94 _ (by kernel_rfl) (by kernel_rfl) rfl) ?_
          rw [if_pos rfl]
          have t12 : b'.tmps[12]?.getD undef = Value.pointer (some ⟨g3, 0, none⟩) := he 12 (by kernel_rfl)
          obtain ⟨s3, s5, s7, ⟨c1, c2, c3⟩, sp, sb⟩ := hSW
          have c0 := s3.bk.cell
          have HK := Lib.hid hK1
          clear hK1 hK2 hdep hsh he hsv hsl hFF hL
          clear s3 s5 s7 sp sb
          clear c1 c2 c3
          go_simp
          exact HK.out rfl _ (fp_mk rfl rfl trivial)
        · refine wpOpS_guard (dg := 94) rfl rfl rfl rfl (hsv 13 94 _ (by kernel_rfl) (by kernel_rfl) rfl) ?_
          rw [if_pos rfl]
          have t7 : b'.tmps[7]?.getD undef = Value.int .i64 s1 := he 7 (by kernel_rfl)
          have HK := Lib.hid hK1
          clear hK1 hK2 hdep hsh he hsv hsl hFF hL hSW
          go_simp
          exact HK.out rfl _ (fp_mk rfl rfl trivial)
        · refine wpOpS_guard (dg := 94) rfl rfl rfl rfl (hsv 13 94 _ (by kernel_rfl) (by kernel_rfl) rfl) ?_
          rw [if_pos rfl]
          have t96 : b'.tmps[96]?.getD undef = Value.int .i64 s1 := hsv 15 96 _ (by kernel_rfl) (by kernel_rfl) rfl
          obtain ⟨s3, s5, s7, ⟨c1, c2, c3⟩, sp, sb⟩ := hSW
          have HK := Lib.hid hK2
          clear hK1 hK2 hdep hsh he hsv hsl hFF hL
          go_simp
          have hb := upA (upR W) (Obj.cells #[Value.int .i64 s1] 3)
          exact HK.out _ _ (fp_x rfl ⟨_, rfl, Blk.new _ _ _⟩) hb ⟨s3.keep hb, s5.keep hb, s7.keep hb, ⟨cell_kp c1 hb, cell_kp c2 hb, cell_kp c3 hb⟩, sp.keep hb, more sb hb⟩
        · refine wpOpS_guard (dg := 94) rfl rfl rfl rfl (hsv 13 94 _ (by kernel_rfl) (by kernel_rfl) rfl) ?_
          rw [if_pos rfl]
          obtain ⟨t97, hx⟩ := hsl 16 97 (by kernel_rfl) (by kernel_rfl)
          obtain ⟨e1, e4, b4⟩ := hx
          rw [e4] at t97
          obtain ⟨s3, s5, s7, ⟨c1, c2, c3⟩, sp, sb⟩ := hSW
          have HK := Lib.hid hK2
          clear hK1 hK2 hdep hsh he hsv hsl hFF hL e4
          have hmi := MI.of_blk (B := 0) (zs := [s1]) b4 (Nat.zero_le _) (fun y hy => by simp at hy; subst hy; unfold I64; omega) (show (1 : Nat) ≤ 1000 by decide)
          have hof := of_is hmi 1 (i64_lit (by decide)) (fun y hy => by simp at hy; subst hy; omega) (show (1 : Nat) ≤ 1000 by decide) (show 0 < 1 by decide)
          go_simp
          refine hof.mono ?_
          rintro e w6 ⟨v, rfl, hmo, hK⟩
          exact HK.out _ _ (fp_x rfl (show MO 0 w6 v (ofM 1 [s1]) from hmo.mono (Nat.zero_le _))) hK ⟨s3.keep hK, s5.keep hK, s7.keep hK, ⟨cell_kp c1 hK, cell_kp c2 hK, cell_kp c3 hK⟩, sp.keep hK, more sb hK⟩
        · refine wpOpS_guard (dg := 94) rfl rfl rfl rfl (hsv 13 94 _ (by kernel_rfl) (by kernel_rfl) rfl) ?_
          rw [if_pos rfl]
          have t95 : b'.tmps[95]?.getD undef = Value.agg #[Value.int .i64 1, Value.int .i64 1, Value.slice a3 1 k3] := hsv 14 95 _ (by kernel_rfl) (by kernel_rfl) rfl
          obtain ⟨t98, hx⟩ := hsl 17 98 (by kernel_rfl) (by kernel_rfl)
          have hx5 : MO 0 W (f 17) (ofM 1 [s1]) := hx
          obtain ⟨a9, k9, e9, l9⟩ := hx5.one
          rw [e9] at t98
          obtain ⟨s3, s5, s7, ⟨c1, c2, c3⟩, sp, sb⟩ := hSW
          have HK := Lib.hid hK2
          clear hK1 hK2 hdep hsh he hsv hsl hFF hL hx hx5 e9
          have hsm := same_one (z := s1) s3.l.mi (l9.mi.mono (Nat.zero_le _))
          go_simp
          refine hsm.mono ?_
          rintro e w6 ⟨rfl, hK⟩
          exact HK.out _ _ (fp_mk rfl rfl trivial) hK ⟨s3.keep hK, s5.keep hK, s7.keep hK, ⟨cell_kp c1 hK, cell_kp c2 hK, cell_kp c3 hK⟩, sp.keep hK, more sb hK⟩
        · refine wpOpS_go rfl rfl ?_
          have t94 : b'.tmps[94]?.getD undef = Value.bool true := hsv 13 94 _ (by kernel_rfl) (by kernel_rfl) rfl
          have t99 : b'.tmps[99]?.getD undef = Value.bool true := hsv 18 99 _ (by kernel_rfl) (by kernel_rfl) rfl
          have HK := Lib.hid hK1
          clear hK1 hK2 hdep hsh he hsv hsl hFF hL hSW
          go_simp
          exact HK.out rfl _ (fp_mk rfl rfl trivial)
        · refine wpOpS_go rfl rfl ?_
          have t100 : b'.tmps[100]?.getD undef = Value.bool true := hsv 19 100 _ (by kernel_rfl) (by kernel_rfl) rfl
          have HK := Lib.hid hK1
          clear hK1 hK2 hdep hsh he hsv hsl hFF hL hSW
          go_simp
          exact HK.out rfl _ (fp_mk rfl rfl trivial)
        · refine wpOpS_guard (dg := 101) rfl rfl rfl rfl (hsv 20 101 _ (by kernel_rfl) (by kernel_rfl) rfl) ?_
          rw [if_pos rfl]
          have t14 : b'.tmps[14]?.getD undef = Value.pointer (some ⟨g5, 0, none⟩) := he 14 (by kernel_rfl)
          obtain ⟨s3, s5, s7, ⟨c1, c2, c3⟩, sp, sb⟩ := hSW
          have c0 := s5.bk.cell
          have HK := Lib.hid hK1
          clear hK1 hK2 hdep hsh he hsv hsl hFF hL
          clear s3 s5 s7 sp sb
          clear c1 c2 c3
          go_simp
          exact HK.out rfl _ (fp_mk rfl rfl trivial)
        · refine wpOpS_guard (dg := 101) rfl rfl rfl rfl (hsv 20 101 _ (by kernel_rfl) (by kernel_rfl) rfl) ?_
          rw [if_pos rfl]
          have t6 : b'.tmps[6]?.getD undef = Value.slice (some x) n kc := he 6 (by kernel_rfl)
          have HK := Lib.hid hK1
          clear hK1 hK2 hdep hsh he hsv hsl hFF hL hSW
          go_simp
          exact HK.out rfl _ (fp_mk rfl rfl trivial)
        · refine wpOpS_guard (dg := 101) rfl rfl rfl rfl (hsv 20 101 _ (by kernel_rfl) (by kernel_rfl) rfl) ?_
          rw [if_pos rfl]
          have t103 : b'.tmps[103]?.getD undef = Value.slice (some x) n kc := hsv 22 103 _ (by kernel_rfl) (by kernel_rfl) rfl
          have HK := Lib.hid hK1
          clear hK1 hK2 hdep hsh he hsv hsl hFF hL
          clear hSW
          go_simp
          exact HK.out rfl _ (fp_mk rfl rfl trivial)
        · refine wpOpS_guard (dg := 101) rfl rfl rfl rfl (hsv 20 101 _ (by kernel_rfl) (by kernel_rfl) rfl) ?_
          rw [if_pos rfl]
          have t104 : b'.tmps[104]?.getD undef = Value.pointer (some x) := hsv 23 104 _ (by kernel_rfl) (by kernel_rfl) rfl
          obtain ⟨s3, s5, s7, ⟨c1, c2, c3⟩, sp, sb⟩ := hSW
          have d1 : W.cell? x = some (.int .i64 1) := by have h := c1; rwa [show x.add (0 * 3) = x from add_nought x] at h
          have d2 : W.cell? ⟨x.block, x.off + 1, none⟩ = some (.int .i64 1) := by have h := c2; rwa [show x.add (0 * 3) = x from add_nought x] at h
          have d3 : W.cell? ⟨x.block, x.off + 2, none⟩ = some (.slice ap 1 kp) := by have h := c3; rwa [show x.add (0 * 3) = x from add_nought x] at h
          have HK := Lib.hid hK1
          clear hK1 hK2 hdep hsh he hsv hsl hFF hL
          clear s3 s5 s7 sp sb
          clear c1 c2 c3
          go_simp
          exact HK.out rfl _ (fp_mk rfl rfl trivial)
        · refine wpOpS_guard (dg := 101) rfl rfl rfl rfl (hsv 20 101 _ (by kernel_rfl) (by kernel_rfl) rfl) ?_
          rw [if_pos rfl]
          have t102 : b'.tmps[102]?.getD undef = Value.agg #[Value.int .i64 1, Value.int .i64 1, Value.slice a5 1 k5] := hsv 21 102 _ (by kernel_rfl) (by kernel_rfl) rfl
          have t105 : b'.tmps[105]?.getD undef = Value.agg #[Value.int .i64 1, Value.int .i64 1, Value.slice ap 1 kp] := hsv 24 105 _ (by kernel_rfl) (by kernel_rfl) rfl
          obtain ⟨s3, s5, s7, ⟨c1, c2, c3⟩, sp, sb⟩ := hSW
          have HK := Lib.hid hK2
          clear hK1 hK2 hdep hsh he hsv hsl hFF hL
          have hsm := same_one (z := p0) s5.l.mi sp
          go_simp
          refine hsm.mono ?_
          rintro e w6 ⟨rfl, hK⟩
          exact HK.out _ _ (fp_mk rfl rfl trivial) hK ⟨s3.keep hK, s5.keep hK, s7.keep hK, ⟨cell_kp c1 hK, cell_kp c2 hK, cell_kp c3 hK⟩, sp.keep hK, more sb hK⟩
        · refine wpOpS_go rfl rfl ?_
          have t101 : b'.tmps[101]?.getD undef = Value.bool true := hsv 20 101 _ (by kernel_rfl) (by kernel_rfl) rfl
          have t106 : b'.tmps[106]?.getD undef = Value.bool true := hsv 25 106 _ (by kernel_rfl) (by kernel_rfl) rfl
          have HK := Lib.hid hK1
          clear hK1 hK2 hdep hsh he hsv hsl hFF hL hSW
          go_simp
          exact HK.out rfl _ (fp_mk rfl rfl trivial)
        · refine wpOpS_go rfl rfl ?_
          have t107 : b'.tmps[107]?.getD undef = Value.bool true := hsv 26 107 _ (by kernel_rfl) (by kernel_rfl) rfl
          have HK := Lib.hid hK1
          clear hK1 hK2 hdep hsh he hsv hsl hFF hL hSW
          go_simp
          exact HK.out rfl _ (fp_mk rfl rfl trivial)
        · refine wpOpS_guard (dg := 108) rfl rfl rfl rfl (hsv 27 108 _ (by kernel_rfl) (by kernel_rfl) rfl) ?_
          rw [if_pos rfl]
          have t16 : b'.tmps[16]?.getD undef = Value.pointer (some ⟨w7.heap.size, 0, none⟩) := he 16 (by kernel_rfl)
          obtain ⟨s3, s5, s7, ⟨c1, c2, c3⟩, sp, sb⟩ := hSW
          have c0 := s7.bk.cell
          have HK := Lib.hid hK1
          clear hK1 hK2 hdep hsh he hsv hsl hFF hL
          clear s3 s5 s7 sp sb
          clear c1 c2 c3
          go_simp
          exact HK.out rfl _ (fp_mk rfl rfl trivial)
        · refine wpOpS_guard (dg := 108) rfl rfl rfl rfl (hsv 27 108 _ (by kernel_rfl) (by kernel_rfl) rfl) ?_
          rw [if_pos rfl]
          have t6 : b'.tmps[6]?.getD undef = Value.slice (some x) n kc := he 6 (by kernel_rfl)
          have HK := Lib.hid hK1
          clear hK1 hK2 hdep hsh he hsv hsl hFF hL hSW
          go_simp
          exact HK.out rfl _ (fp_mk rfl rfl trivial)
        · refine wpOpS_guard (dg := 108) rfl rfl rfl rfl (hsv 27 108 _ (by kernel_rfl) (by kernel_rfl) rfl) ?_
          rw [if_pos rfl]
          have t110 : b'.tmps[110]?.getD undef = Value.slice (some x) n kc := hsv 29 110 _ (by kernel_rfl) (by kernel_rfl) rfl
          have HK := Lib.hid hK1
          clear hK1 hK2 hdep hsh he hsv hsl hFF hL
          clear hSW
          go_simp
          exact HK.out rfl _ (fp_mk rfl rfl trivial)
        · refine wpOpS_guard (dg := 108) rfl rfl rfl rfl (hsv 27 108 _ (by kernel_rfl) (by kernel_rfl) rfl) ?_
          rw [if_pos rfl]
          have t111 : b'.tmps[111]?.getD undef = Value.pointer (some x) := hsv 30 111 _ (by kernel_rfl) (by kernel_rfl) rfl
          obtain ⟨s3, s5, s7, ⟨c1, c2, c3⟩, sp, sb⟩ := hSW
          have d1 : W.cell? x = some (.int .i64 1) := by have h := c1; rwa [show x.add (0 * 3) = x from add_nought x] at h
          have d2 : W.cell? ⟨x.block, x.off + 1, none⟩ = some (.int .i64 1) := by have h := c2; rwa [show x.add (0 * 3) = x from add_nought x] at h
          have d3 : W.cell? ⟨x.block, x.off + 2, none⟩ = some (.slice ap 1 kp) := by have h := c3; rwa [show x.add (0 * 3) = x from add_nought x] at h
          have HK := Lib.hid hK1
          clear hK1 hK2 hdep hsh he hsv hsl hFF hL
          clear s3 s5 s7 sp sb
          clear c1 c2 c3
          go_simp
          exact HK.out rfl _ (fp_mk rfl rfl trivial)
        · refine wpOpS_guard (dg := 108) rfl rfl rfl rfl (hsv 27 108 _ (by kernel_rfl) (by kernel_rfl) rfl) ?_
          rw [if_pos rfl]
          have t109 : b'.tmps[109]?.getD undef = Value.agg #[Value.int .i64 1, Value.int .i64 1, Value.slice a7 1 k7] := hsv 28 109 _ (by kernel_rfl) (by kernel_rfl) rfl
          have t112 : b'.tmps[112]?.getD undef = Value.agg #[Value.int .i64 1, Value.int .i64 1, Value.slice ap 1 kp] := hsv 31 112 _ (by kernel_rfl) (by kernel_rfl) rfl
          obtain ⟨s3, s5, s7, ⟨c1, c2, c3⟩, sp, sb⟩ := hSW
          have HK := Lib.hid hK2
          clear hK1 hK2 hdep hsh he hsv hsl hFF hL
          have hsm := same_one (z := p0) s7.l.mi sp
          go_simp
          refine hsm.mono ?_
          rintro e w6 ⟨rfl, hK⟩
          exact HK.out _ _ (fp_mk rfl rfl trivial) hK ⟨s3.keep hK, s5.keep hK, s7.keep hK, ⟨cell_kp c1 hK, cell_kp c2 hK, cell_kp c3 hK⟩, sp.keep hK, more sb hK⟩
        · refine wpOpS_go rfl rfl ?_
          have t108 : b'.tmps[108]?.getD undef = Value.bool true := hsv 27 108 _ (by kernel_rfl) (by kernel_rfl) rfl
          have t113 : b'.tmps[113]?.getD undef = Value.bool true := hsv 32 113 _ (by kernel_rfl) (by kernel_rfl) rfl
          have HK := Lib.hid hK1
          clear hK1 hK2 hdep hsh he hsv hsl hFF hL hSW
          go_simp
          exact HK.out rfl _ (fp_mk rfl rfl trivial)
        · refine wpOpS_go rfl rfl ?_
          have t114 : b'.tmps[114]?.getD undef = Value.bool true := hsv 33 114 _ (by kernel_rfl) (by kernel_rfl) rfl
          have HK := Lib.hid hK1
          clear hK1 hK2 hdep hsh he hsv hsl hFF hL hSW
          go_simp
          exact HK.out rfl _ (fp_mk rfl rfl trivial)
      · intro f W hf L hL hS
        obtain ⟨_, _, _, _, _, sb⟩ := (hS : _ ∧ _ ∧ _ ∧ _ ∧ _ ∧ _)
        have e34 : f 34 = Value.bool true := (hf 34 (by decide)).1 _ rfl
        clear hf hL
        simp only [puts2, Act.put]
        generalize f 0 = y0, f 1 = y1, f 2 = y2, f 3 = y3, f 4 = y4, f 5 = y5, f 6 = y6, f 7 = y7, f 8 = y8, f 9 = y9, f 10 = y10, f 11 = y11, f 12 = y12, f 13 = y13, f 14 = y14, f 15 = y15, f 16 = y16, f 17 = y17, f 18 = y18, f 19 = y19, f 20 = y20, f 21 = y21, f 22 = y22, f 23 = y23, f 24 = y24, f 25 = y25, f 26 = y26, f 27 = y27, f 28 = y28, f 29 = y29, f 30 = y30, f 31 = y31, f 32 = y32, f 33 = y33
        rw [e34]
        try simp only [List.setIfInBounds_toArray, List.set_cons_zero, List.set_cons_succ]
        go_wp2_with fail
        go_ret
        exact ⟨rfl, sb⟩

end Go.Proofs.Ytkjbidpafnmogaa.Base
