/- binnaclelaw09: upper, a strictly upper matrix of whole numbers. -/
import Derived.Test.YtkjbidpafnmogaaPick
namespace Go.Proofs.Ytkjbidpafnmogaa.Base
open Go.RowKit Go
set_option linter.unusedVariables false
set_option linter.unusedSimpArgs false

def cellsZ (vs : List Int) : Array Value := (vs.map fun z => Value.int .i64 z).toArray
theorem cellsZ_set (vs : List Int) (j : Nat) (z : Int) : (cellsZ vs).setIfInBounds j (.int .i64 z) = cellsZ (vs.set j z) := by
  unfold cellsZ
  rw [List.setIfInBounds_toArray, List.map_set]
theorem cellsZ_at {vs : List Int} {j : Nat} (h : j < vs.length) : (cellsZ vs)[j]? = some (.int .i64 vs[j]) := by
  unfold cellsZ
  rw [List.getElem?_toArray, List.getElem?_map, List.getElem?_eq_getElem h]; rfl
/-- Strictly upper, of whole numbers from -most to most. -/
def UpV (n : Nat) (most : Int) (vs : List Int) : Prop := vs.length = n * n ∧ ∀ j, (h : j < vs.length) → (j % n ≤ j / n → vs[j] = 0) ∧ ∃ y : Int, vs[j] = y * 4294967296 ∧ y.natAbs ≤ most.natAbs
theorem UpV.start (n : Nat) (most : Int) : UpV n most (List.replicate (n * n) 0) := ⟨List.length_replicate, fun j h => by
  rw [List.getElem_replicate]
  exact ⟨fun _ => rfl, 0, (Int.zero_mul _).symm, Nat.zero_le _⟩⟩
theorem UpV.put {n : Nat} {most : Int} {vs : List Int} (h : UpV n most vs) {i k : Nat} (hik : i < k) (hk : k < n) {y : Int} (hy : y.natAbs ≤ most.natAbs) : UpV n most (vs.set (i * n + k) (y * 4294967296)) := by
  refine ⟨by rw [List.length_set]; exact h.1, fun j hj => ?_⟩
  rw [List.length_set] at hj
  rw [List.getElem_set]
  by_cases e : i * n + k = j
  · rw [if_pos e]
    refine ⟨fun hle => ?_, y, rfl, hy⟩
    rw [← e, Nat.mul_comm, Nat.mul_add_mod, Nat.mod_eq_of_lt hk, Nat.mul_add_div (by omega), Nat.div_eq_of_lt hk] at hle
    omega
  · rw [if_neg e]; exact h.2 j hj
theorem UpV.rng {n : Nat} {most : Int} {vs : List Int} (h : UpV n most vs) (hm : most.natAbs ≤ 1000) : ∀ z ∈ vs, I64 z := fun z hz => by
  obtain ⟨j, hj, rfl⟩ := List.getElem_of_mem hz
  obtain ⟨y, hy, hb⟩ := (h.2 j hj).2
  rw [hy]; unfold I64; omega
theorem UpV.up {n : Nat} {most : Int} {vs : List Int} (h : UpV n most vs) (h1 : 1 ≤ n) (h2 : n ≤ 12) : upM ⟨n, n, vs⟩ := by
  refine ⟨⟨⟨⟨?_, ?_⟩, ⟨?_, ?_⟩, ?_⟩, rfl⟩, fun j hj hle => ?_⟩
  · show (1 : Int) ≤ (n : Int); omega
  · show (n : Int) ≤ 12; omega
  · show (1 : Int) ≤ (n : Int); omega
  · show (n : Int) ≤ 12; omega
  · show ((vs.length : Nat) : Int) = (n : Int) * (n : Int); rw [h.1, Int.natCast_mul]
  · have e : ((n : Int)).toNat = n := Int.toNat_natCast n
    have hle' : j % n ≤ j / n := by have h9 := hle; simp only [e] at h9; exact h9
    have hj' : j < vs.length := hj
    show vs.getD j 0 = 0
    rw [List.getD_eq_getElem?_getD, List.getElem?_eq_getElem hj', Option.getD_some]
    exact (h.2 j hj').1 hle'
/-- What the loops have. -/
structure UpI (w0 : World) (n nn : Nat) (most : Int) (mb bl : Nat) (vs : List Int) (W : World) : Prop where
  lb : Blk W bl (cellsZ vs) 3
  mt : Blk W mb #[.int .i64 (n : Int), .int .i64 (n : Int), .slice (some ⟨bl, 0, none⟩) nn nn] 26
  rs : Blk W w0.heap.size #[.int .i64 0, .int .i64 0, .slice none 0 0] 26
  bel : Below w0.heap.size w0 W
theorem cell_kp0 {w w' : World} {p : Addr} {v : Value} (hc : w.cell? p = some v) (h : Below w.heap.size w w') : w'.cell? p = some v := (h.cell (World.block_lt_of_cell? w _ hc)).trans hc
theorem pick_bd0 {x m : Int} (h : 0 ≤ m) : (pickI x (2 * m + 1) - m).natAbs ≤ m.natAbs := by
  have := pickI_bd (x := x) (n := 2 * m + 1) (by omega)
  omega
theorem sq_le {n : Nat} (h : n ≤ 6) : n * n ≤ 36 := Nat.mul_le_mul h h

set_option maxHeartbeats 8000000 in
set_option maxRecDepth 100000 in
theorem kupper_is {w0 : World} {a : Option Addr} {c : Nat} {zs : List Int} (h : MI 0 w0 a c zs) (n : Nat) (h1 : 1 ≤ n) (h6 : n ≤ 6) (m : Int) (hm0 : 0 ≤ m) (hm1 : m ≤ 1000) :
    Calls Try.prog 18 #[.int .i64 n, .int .i64 m, .slice a zs.length c] w0 fun e w' => ∃ v vs, e = .returned v ∧ MO w0.heap.size w' v ⟨n, n, vs⟩ ∧ UpV n m vs ∧ Below w0.heap.size w0 w' := by
  obtain ⟨ln, hln⟩ : ∃ ln, zs.length = ln := ⟨_, rfl⟩
  rw [hln]
  have HZ : Hid (∀ j, j < ln → ∀ W, Below w0.heap.size w0 W → ∃ x z, a = some x ∧ W.cell? (x.add j) = some (.int .i64 z)) := Lib.hid (fun j hj W hb => by
    obtain ⟨x, hx, hc⟩ := (h.keep hb).cell j (by rw [hln]; exact hj)
    exact ⟨x, _, hx, hc⟩)
  have hmx : ln ≤ 9223372036854775807 := by have := h.len; unfold maxLen at this; omega
  clear hln h
  obtain ⟨nn, hnn⟩ : ∃ nn, n * n = nn := ⟨_, rfl⟩
  have hnn36 : nn ≤ 36 := by rw [← hnn]; exact sq_le h6
  have hwn : IntKind.i64.wrap ((n : Int) * (n : Int)) = ((nn : Nat) : Int) := by rw [← Int.natCast_mul, hnn]; exact IntWalk.i64_in _ (by omega)
  have HNN := Lib.hid hnn
  clear hnn
  go_enter Try.func18, Try.ntmps18
  have hB := upA (upR w0) (Obj.cells #[Value.int .i64 0, .int .i64 0, .slice none 0 0] 26)
  have g0 := Blk.new w0 #[Value.int .i64 0, .int .i64 0, .slice none 0 0] 26
  go_wp2_with (at_make; refine make_ints _ rfl _ _ rfl nn rfl rfl (by omega) ?_)
  intro w2 hb hK
  have hbl0 := hB.size
  have hK' : Below (w0.alloc (Obj.cells #[Value.int .i64 0, .int .i64 0, .slice none 0 0] 26)).heap.size (w0.alloc (Obj.cells #[Value.int .i64 0, .int .i64 0, .slice none 0 0] 26)) w2 := by rw [World.size_alloc]; exact hK
  have hb' : Blk w2 (w0.heap.size + 1) (cellsZ (List.replicate nn 0)) 3 := by rw [show cellsZ (List.replicate nn 0) = Array.replicate nn (Value.int .i64 0) by simp [cellsZ]]; exact hb
  replace hB := more hB hK'
  replace g0 := g0.keep hK'
  obtain ⟨bl, hbl⟩ : ∃ bl, w0.heap.size + 1 = bl := ⟨_, rfl⟩
  have hbl1 : w0.heap.size < bl := by omega
  rw [hbl] at hb' ⊢
  clear hK hK' hbl hb hbl0
  have hBA := upA (upR w2) (Obj.cells #[Value.int .i64 (n : Int), .int .i64 (n : Int), .slice (some ⟨bl, 0, none⟩) nn nn] 26)
  have hU0 : UpI w0 n nn m w2.heap.size bl (List.replicate nn 0) _ := ⟨hb'.keep hBA, Blk.new w2 #[Value.int .i64 (n : Int), .int .i64 (n : Int), .slice (some ⟨bl, 0, none⟩) nn nn] 26, g0.keep hBA, more hB hBA⟩
  have hV0 : UpV n m (List.replicate nn 0) := by rw [← HNN.out]; exact UpV.start n m
  have hmb0 : bl < w2.heap.size := hb'.lt
  clear hBA hb' g0 hB
  go_wp2_with fail
  generalize w2.alloc (Obj.cells #[Value.int .i64 (n : Int), .int .i64 (n : Int), .slice (some ⟨bl, 0, none⟩) nn nn] 26) = w3 at *
  obtain ⟨mb, hmb⟩ : ∃ mb, w2.heap.size = mb := ⟨_, rfl⟩
  rw [hmb] at hU0 hmb0 ⊢
  clear hmb
  go_loopw [8, 9] (fun v8 v9 wr => ∃ (i at_ : Nat) (vs : List Int), i ≤ n ∧ v9 = .int .i64 i ∧ v8 = .int .i64 at_ ∧ at_ ≤ i * n ∧ UpV n m vs ∧ UpI w0 n nn m mb bl vs wr) (fun _ i _ => n - (intOf i).toNat)
  case atStart => exact ⟨0, 0, _, Nat.zero_le _, rfl, rfl, Nat.zero_le _, hV0, hU0⟩
  case round =>
    clear hU0 hV0
    obtain ⟨i, at0, vs0, hi, rfl, rfl, hat0, hV, hU⟩ := hrel
    by_cases hlt : i < n
    · have hlt' : (i : Int) < (n : Int) := by omega
      have hi0 : (0 : Int) ≤ (i : Int) := by omega
      obtain ⟨p, hp⟩ : ∃ p, i * n = p := ⟨_, rfl⟩
      have hp36 : p ≤ 36 := by rw [← hp]; exact Nat.mul_le_mul (show i ≤ 6 by omega) h6
      have hpn : p + n ≤ nn := by rw [← hp, ← HNN.out, ← Nat.succ_mul]; exact Nat.mul_le_mul hlt (Nat.le_refl _)
      rw [hp] at hat0
      have hwp : IntKind.i64.wrap ((i : Int) * (n : Int)) = ((p : Nat) : Int) := by rw [← Int.natCast_mul, hp]; exact IntWalk.i64_in _ (by omega)
      have hwi : IntKind.i64.wrap ((i : Int) + 1) = ((i + 1 : Nat) : Int) := IntWalk.i64_in _ (by omega)
      have HP := Lib.hid hp
      clear hp
      go_wp2_with fail
      go_loopw [8, 10] (fun v8 v10 wr => ∃ (k at_ : Nat) (vs : List Int), i < k ∧ k ≤ n ∧ v10 = .int .i64 k ∧ v8 = .int .i64 at_ ∧ at_ ≤ p + k ∧ UpV n m vs ∧ UpI w0 n nn m mb bl vs wr) (fun _ k _ => n - (intOf k).toNat)
      case atStart => exact ⟨i + 1, at0, vs0, by omega, by omega, by go_num, rfl, by omega, hV, hU⟩
      case round =>
        clear hV hU
        obtain ⟨k, at1, vs, hik, hk, rfl, rfl, hat1, hV, hU⟩ := hrel
        by_cases hkn : k < n
        · have hkn' : (k : Int) < (n : Int) := by omega
          have hk0 : (0 : Int) ≤ (k : Int) := by omega
          have hwk : IntKind.i64.wrap ((k : Int) + 1) = (k : Int) + 1 := IntWalk.i64_in _ (by omega)
          have hwa : IntKind.i64.wrap ((at1 : Int) + 1) = (at1 : Int) + 1 := IntWalk.i64_in _ (by omega)
          by_cases hal : at1 < ln
          · have hal' : (at1 : Int) < (ln : Int) := by omega
            have ha0 : (0 : Int) ≤ (at1 : Int) := by omega
            obtain ⟨x, z, rfl, hc⟩ := HZ.out at1 hal _ hU.bel
            obtain ⟨idx, hidx⟩ : ∃ idx, p + k = idx := ⟨_, rfl⟩
            have hix : idx < nn := by omega
            have hix' : (idx : Int) < (nn : Int) := by omega
            have hix0 : (0 : Int) ≤ (idx : Int) := by omega
            have hw1 : IntKind.i64.wrap ((p : Int) + (k : Int)) = (idx : Int) := by rw [IntWalk.i64_in _ (by omega)]; omega
            have hw2 : IntKind.i64.wrap (2 * m) = 2 * m := IntWalk.i64_in _ (by omega)
            have hw3 : IntKind.i64.wrap (2 * m + 1) = 2 * m + 1 := IntWalk.i64_in _ (by omega)
            have hpk := pick_bd0 (x := z) hm0
            have HPK := Lib.hid (fun W => pick_is z (2 * m + 1) (by omega) (by omega) W)
            obtain ⟨q, hq⟩ : ∃ q, pickI z (2 * m + 1) = q := ⟨_, rfl⟩
            rw [hq] at hpk HPK
            clear hq
            obtain ⟨y, hy⟩ : ∃ y, q - m = y := ⟨_, rfl⟩
            rw [hy] at hpk
            have hw4 : IntKind.i64.wrap (q - m) = y := by rw [hy]; exact IntWalk.i64_in _ (by omega)
            have hw5 : IntKind.i64.wrap (y * 4294967296) = y * 4294967296 := IntWalk.i64_in _ (by omega)
            have hvl : idx < vs.length := by rw [hV.1, HNN.out]; exact hix
            have HV2 := Lib.hid (show UpV n m (vs.set idx (y * 4294967296)) by rw [← hidx, ← HP.out]; exact hV.put hik hkn hpk)
            have hcl : ∀ W, Blk W bl (cellsZ vs) 3 → W.cell? ⟨bl, idx, none⟩ = some (.int .i64 vs[idx]) := fun W h => by rw [h.cell, cellsZ_at hvl]
            have hcz : ∀ W, Below w0.heap.size w0 W → W.cell? (x.add at1) = some (.int .i64 z) := fun W hb => by
              obtain ⟨x', z', e, h1⟩ := HZ.out at1 hal W hb
              cases e
              obtain ⟨x'', z'', e2, h2⟩ := HZ.out at1 hal w0 (Below.refl _ _)
              cases e2
              have h3 := cell_kp0 h2 hU.bel
              have h4 := cell_kp0 h2 hb
              rw [hc] at h3
              rw [h1] at h4
              cases h3; cases h4; exact h1
            have hset : cellsZ (vs.set idx (y * 4294967296)) = (cellsZ vs).setIfInBounds idx (.int .i64 (y * 4294967296)) := (cellsZ_set _ _ _).symm
            have HSET := Lib.hid hset
            generalize vs[idx] = old at hcl
            have hne1 : w0.heap.size ≠ bl := by omega
            have hne2 : mb ≠ bl := by omega
            clear hidx hy hset hV hpk hc
            go_wp2_with fail
            have HS0 : ((fun _ : Nat => false) 19 = false → Blk wr.drew bl (cellsZ vs) 3) ∧ ((fun _ : Nat => false) 19 = true → Blk wr.drew bl (cellsZ (vs.set idx (y * 4294967296))) 3) ∧ Blk wr.drew mb #[.int .i64 (n : Int), .int .i64 (n : Int), .slice (some ⟨bl, 0, none⟩) nn nn] 26 ∧ Blk wr.drew w0.heap.size #[.int .i64 0, .int .i64 0, .slice none 0 0] 26 ∧ Below w0.heap.size w0 wr.drew :=
              ⟨fun _ => hU.lb.drew, fun h => (by cases h), hU.mt.drew, hU.rs.drew, more hU.bel (upD (upR _))⟩
            clear hU
            refine region_fp [some 34, some 35, some 36, some 37, some 38, some 39, some 40, some 41, some 42, some 43, some 44, some 45, some 46, some 47, some 48, some 49, some 50, some 51, some 52, none] [19] [some (Value.pointer (some ⟨mb, 2, none⟩)), some (Value.slice (some ⟨bl, 0, none⟩) nn nn), some (Value.int .i64 (i : Int)), some (Value.int .i64 (n : Int)), some (Value.int .i64 (p : Int)), some (Value.int .i64 (k : Int)), some (Value.int .i64 (idx : Int)), some (Value.slice (some x) ln c), some (Value.int .i64 (at1 : Int)), some (Value.pointer (some (x.add at1))), some (Value.int .i64 (z)), some (Value.int .i64 (m)), some (Value.int .i64 (2 * m)), some (Value.int .i64 (2 * m + 1)), some (Value.int .i64 (q)), some (Value.int .i64 (m)), some (Value.int .i64 (y)), some (Value.int .i64 (y * 4294967296)), some (Value.pointer (some ⟨bl, idx, none⟩)), none]
              (fun _ _ _ => True) (fun _ _ => True) (fun L f W => (L 19 = false → Blk W bl (cellsZ vs) 3) ∧ (L 19 = true → Blk W bl (cellsZ (vs.set idx (y * 4294967296))) 3) ∧ Blk W mb #[.int .i64 (n : Int), .int .i64 (n : Int), .slice (some ⟨bl, 0, none⟩) nn nn] 26 ∧ Blk W w0.heap.size #[.int .i64 0, .int .i64 0, .slice none 0 0] 26 ∧ Below w0.heap.size w0 W)
              (by kernel_rfl) (by kernel_rfl) (by kernel_rfl) (by kernel_rfl) (by kernel_rfl) (fun _ => trivial) (fun _ _ _ _ _ _ => trivial) (fun L L' f f' W h hs => by have q19 := (h 19 (by decide)).1; (try dsimp only at hs ⊢); rw [← q19]; exact hs) HS0 ?_ ?_
            · intro i hi b' L f W hSW hL hdep hsh he hsv hsl hFF K hK1 hK2
              replace hi : i < 20 := hi
              have hcs : i = 0 ∨ i = 1 ∨ i = 2 ∨ i = 3 ∨ i = 4 ∨ i = 5 ∨ i = 6 ∨ i = 7 ∨ i = 8 ∨ i = 9 ∨ i = 10 ∨ i = 11 ∨ i = 12 ∨ i = 13 ∨ i = 14 ∨ i = 15 ∨ i = 16 ∨ i = 17 ∨ i = 18 ∨ i = 19 := by omega
              clear hi
              rcases hcs with rfl | rfl | rfl | rfl | rfl | rfl | rfl | rfl | rfl | rfl | rfl | rfl | rfl | rfl | rfl | rfl | rfl | rfl | rfl | rfl
              · refine wpOpS_go rfl rfl ?_
                have t7 : b'.tmps[7]?.getD undef = Value.pointer (some ⟨mb, 0, none⟩) := he 7 (by kernel_rfl)
                have HK := Lib.hid hK1
                clear hK1 hK2 hdep hsh he hsv hsl hFF hL hSW
                go_simp
                exact HK.out rfl _ (fp_mk rfl rfl trivial)
              · refine wpOpS_go rfl rfl ?_
                have t34 : b'.tmps[34]?.getD undef = Value.pointer (some ⟨mb, 2, none⟩) := hsv 0 34 _ (by kernel_rfl) (by kernel_rfl) rfl
                obtain ⟨s0, s1, s2, s3, s4⟩ := hSW
                have c0 := s2.cell
                have HK := Lib.hid hK1
                clear hK1 hK2 hdep hsh he hsv hsl hFF hL
                clear s0 s1 s2 s3 s4
                go_simp
                exact HK.out rfl _ (fp_mk rfl rfl trivial)
              · refine wpOpS_go rfl rfl ?_
                have t9 : b'.tmps[9]?.getD undef = Value.int .i64 (i : Int) := he 9 (by kernel_rfl)
                have HK := Lib.hid hK1
                clear hK1 hK2 hdep hsh he hsv hsl hFF hL hSW
                go_simp
                exact HK.out rfl _ (fp_mk rfl rfl trivial)
              · refine wpOpS_go rfl rfl ?_
                have t0 : b'.tmps[0]?.getD undef = Value.int .i64 (n : Int) := he 0 (by kernel_rfl)
                have HK := Lib.hid hK1
                clear hK1 hK2 hdep hsh he hsv hsl hFF hL hSW
                go_simp
                exact HK.out rfl _ (fp_mk rfl rfl trivial)
              · refine wpOpS_go rfl rfl ?_
                have t36 : b'.tmps[36]?.getD undef = Value.int .i64 (i : Int) := hsv 2 36 _ (by kernel_rfl) (by kernel_rfl) rfl
                have t37 : b'.tmps[37]?.getD undef = Value.int .i64 (n : Int) := hsv 3 37 _ (by kernel_rfl) (by kernel_rfl) rfl
                have HK := Lib.hid hK1
                clear hK1 hK2 hdep hsh he hsv hsl hFF hL hSW
                go_simp
                exact HK.out rfl _ (fp_mk rfl rfl trivial)
              · refine wpOpS_go rfl rfl ?_
                have t10 : b'.tmps[10]?.getD undef = Value.int .i64 (k : Int) := he 10 (by kernel_rfl)
                have HK := Lib.hid hK1
                clear hK1 hK2 hdep hsh he hsv hsl hFF hL hSW
                go_simp
                exact HK.out rfl _ (fp_mk rfl rfl trivial)
              · refine wpOpS_go rfl rfl ?_
                have t38 : b'.tmps[38]?.getD undef = Value.int .i64 (p : Int) := hsv 4 38 _ (by kernel_rfl) (by kernel_rfl) rfl
                have t39 : b'.tmps[39]?.getD undef = Value.int .i64 (k : Int) := hsv 5 39 _ (by kernel_rfl) (by kernel_rfl) rfl
                have HK := Lib.hid hK1
                clear hK1 hK2 hdep hsh he hsv hsl hFF hL hSW
                go_simp
                exact HK.out rfl _ (fp_mk rfl rfl trivial)
              · refine wpOpS_go rfl rfl ?_
                have t2 : b'.tmps[2]?.getD undef = Value.slice (some x) ln c := he 2 (by kernel_rfl)
                have HK := Lib.hid hK1
                clear hK1 hK2 hdep hsh he hsv hsl hFF hL hSW
                go_simp
                exact HK.out rfl _ (fp_mk rfl rfl trivial)
              · refine wpOpS_go rfl rfl ?_
                have t8 : b'.tmps[8]?.getD undef = Value.int .i64 (at1 : Int) := he 8 (by kernel_rfl)
                have HK := Lib.hid hK1
                clear hK1 hK2 hdep hsh he hsv hsl hFF hL hSW
                go_simp
                exact HK.out rfl _ (fp_mk rfl rfl trivial)
              · refine wpOpS_go rfl rfl ?_
                have t41 : b'.tmps[41]?.getD undef = Value.slice (some x) ln c := hsv 7 41 _ (by kernel_rfl) (by kernel_rfl) rfl
                have t42 : b'.tmps[42]?.getD undef = Value.int .i64 (at1 : Int) := hsv 8 42 _ (by kernel_rfl) (by kernel_rfl) rfl
                have HK := Lib.hid hK1
                clear hK1 hK2 hdep hsh he hsv hsl hFF hL hSW
                go_simp
                exact HK.out rfl _ (fp_mk rfl rfl trivial)
              · refine wpOpS_go rfl rfl ?_
                have t43 : b'.tmps[43]?.getD undef = Value.pointer (some (x.add at1)) := hsv 9 43 _ (by kernel_rfl) (by kernel_rfl) rfl
                obtain ⟨s0, s1, s2, s3, s4⟩ := hSW
                have hz1 := hcz W s4
                have HK := Lib.hid hK1
                clear hK1 hK2 hdep hsh he hsv hsl hFF hL
                clear s0 s1 s2 s3 s4
                go_simp
                exact HK.out rfl _ (fp_mk rfl rfl trivial)
              · refine wpOpS_go rfl rfl ?_
                have t1 : b'.tmps[1]?.getD undef = Value.int .i64 (m) := he 1 (by kernel_rfl)
                have HK := Lib.hid hK1
                clear hK1 hK2 hdep hsh he hsv hsl hFF hL hSW
                go_simp
                exact HK.out rfl _ (fp_mk rfl rfl trivial)
              · refine wpOpS_go rfl rfl ?_
                have t45 : b'.tmps[45]?.getD undef = Value.int .i64 (m) := hsv 11 45 _ (by kernel_rfl) (by kernel_rfl) rfl
                have HK := Lib.hid hK1
                clear hK1 hK2 hdep hsh he hsv hsl hFF hL hSW
                go_simp
                exact HK.out rfl _ (fp_mk rfl rfl trivial)
              · refine wpOpS_go rfl rfl ?_
                have t46 : b'.tmps[46]?.getD undef = Value.int .i64 (2 * m) := hsv 12 46 _ (by kernel_rfl) (by kernel_rfl) rfl
                have HK := Lib.hid hK1
                clear hK1 hK2 hdep hsh he hsv hsl hFF hL hSW
                go_simp
                exact HK.out rfl _ (fp_mk rfl rfl trivial)
              · refine wpOpS_go rfl rfl ?_
                have t44 : b'.tmps[44]?.getD undef = Value.int .i64 (z) := hsv 10 44 _ (by kernel_rfl) (by kernel_rfl) rfl
                have t47 : b'.tmps[47]?.getD undef = Value.int .i64 (2 * m + 1) := hsv 13 47 _ (by kernel_rfl) (by kernel_rfl) rfl
                have HK := Lib.hid hK1
                clear hK1 hK2 hdep hsh he hsv hsl hFF hL
                clear hSW
                go_simp
                refine (HPK.out W).mono ?_
                rintro e w6 ⟨rfl, rfl⟩
                exact HK.out rfl _ (fp_mk rfl rfl trivial)
              · refine wpOpS_go rfl rfl ?_
                have t1 : b'.tmps[1]?.getD undef = Value.int .i64 (m) := he 1 (by kernel_rfl)
                have HK := Lib.hid hK1
                clear hK1 hK2 hdep hsh he hsv hsl hFF hL hSW
                go_simp
                exact HK.out rfl _ (fp_mk rfl rfl trivial)
              · refine wpOpS_go rfl rfl ?_
                have t48 : b'.tmps[48]?.getD undef = Value.int .i64 (q) := hsv 14 48 _ (by kernel_rfl) (by kernel_rfl) rfl
                have t49 : b'.tmps[49]?.getD undef = Value.int .i64 (m) := hsv 15 49 _ (by kernel_rfl) (by kernel_rfl) rfl
                have HK := Lib.hid hK1
                clear hK1 hK2 hdep hsh he hsv hsl hFF hL hSW
                go_simp
                exact HK.out rfl _ (fp_mk rfl rfl trivial)
              · refine wpOpS_go rfl rfl ?_
                have t50 : b'.tmps[50]?.getD undef = Value.int .i64 (y) := hsv 16 50 _ (by kernel_rfl) (by kernel_rfl) rfl
                have HK := Lib.hid hK1
                clear hK1 hK2 hdep hsh he hsv hsl hFF hL hSW
                go_simp
                exact HK.out rfl _ (fp_mk rfl rfl trivial)
              · refine wpOpS_go rfl rfl ?_
                have t35 : b'.tmps[35]?.getD undef = Value.slice (some ⟨bl, 0, none⟩) nn nn := hsv 1 35 _ (by kernel_rfl) (by kernel_rfl) rfl
                have t40 : b'.tmps[40]?.getD undef = Value.int .i64 (idx : Int) := hsv 6 40 _ (by kernel_rfl) (by kernel_rfl) rfl
                have HK := Lib.hid hK1
                clear hK1 hK2 hdep hsh he hsv hsl hFF hL hSW
                go_simp
                exact HK.out rfl _ (fp_mk rfl rfl trivial)
              · refine wpOpS_go rfl rfl ?_
                have t51 : b'.tmps[51]?.getD undef = Value.int .i64 (y * 4294967296) := hsv 17 51 _ (by kernel_rfl) (by kernel_rfl) rfl
                have t52 : b'.tmps[52]?.getD undef = Value.pointer (some ⟨bl, idx, none⟩) := hsv 18 52 _ (by kernel_rfl) (by kernel_rfl) rfl
                obtain ⟨s0, s1, s2, s3, s4⟩ := hSW
                have hb := s0 hL
                have hz1 := hcl W hb
                have hfz := hb.frozen idx
                have HK := Lib.hid hK2
                clear hK1 hK2 hdep hsh he hsv hsl hFF hL
                go_simp
                have hwb := hb.set idx (.int .i64 (y * 4294967296))
                rw [← HSET.out] at hwb
                have hE : Eff (fun k => k = bl) W (W.setCell ⟨bl, idx, none⟩ (.int .i64 (y * 4294967296))) := Eff.set _ _ rfl
                exact HK.out undef _ (fp_x (v := undef) rfl trivial) trivial ⟨fun h => absurd h (by rw [updF_same]; decide), fun _ => hwb, hE.blk s2 hne2, hE.blk s3 hne1, hE.below s4 (fun k hk => by omega)⟩
            · intro f W hf L hL hS
              obtain ⟨s0, s1, s2, s3, s4⟩ := (hS : _ ∧ _ ∧ _ ∧ _ ∧ _)
              replace s1 := s1 (hL 19 (by decide))
              clear hf hL s0
              simp only [puts2, Act.put]
              generalize f 0 = y0, f 1 = y1, f 2 = y2, f 3 = y3, f 4 = y4, f 5 = y5, f 6 = y6, f 7 = y7, f 8 = y8, f 9 = y9, f 10 = y10, f 11 = y11, f 12 = y12, f 13 = y13, f 14 = y14, f 15 = y15, f 16 = y16, f 17 = y17, f 18 = y18
              try simp only [List.setIfInBounds_toArray, List.set_cons_zero, List.set_cons_succ]
              go_wp2_with fail
              go_roundw
              case rel => exact ⟨k + 1, at1 + 1, _, by omega, by omega, by go_num, by go_num, by omega, HV2.out, ⟨s1, s2, s3, s4⟩⟩
              case measure => simp [intOf]; omega
          · have hal' : ¬ (at1 : Int) < (ln : Int) := by omega
            go_wp2_with fail
            go_roundw
            case rel => exact ⟨k + 1, at1 + 1, vs, by omega, by omega, by go_num, by go_num, by omega, hV, hU⟩
            case measure => simp [intOf]; omega
        · have hge : ¬ (k : Int) < (n : Int) := by omega
          go_wp2_with fail
          go_roundw
          case rel => exact ⟨i + 1, at1, vs, by omega, by go_num, rfl, by rw [Nat.succ_mul, HP.out]; omega, hV, hU⟩
          case measure => simp [intOf]; omega
    · have hge : ¬ (i : Int) < (n : Int) := by omega
      have hr64 := hV.rng (by omega)
      have hvl : vs0.length = nn := by rw [hV.1, HNN.out]
      have hLI : LI w0.heap.size wr (some ⟨bl, 0, none⟩) vs0.length vs0 := LI.of_blk hU.lb (by omega) hr64 (by omega)
      rw [hvl] at hLI
      have HLI := Lib.hid hLI
      have HVL := Lib.hid hvl
      have HV := Lib.hid hV
      have c0 := hU.mt.cell
      have g0 := hU.rs
      have hB := hU.bel
      have hmi := hU.mt
      clear hV hU hLI hvl
      go_wp2_with ((with_reducible refine at_st (p := 6) (q := 55) rfl ?_); refine ev_store rfl 26 _ _ rfl rfl g0 0 rfl rfl [.int .i64 (n : Int), .int .i64 (n : Int), .slice (some ⟨bl, 0, none⟩) nn nn] rfl (by kernel_rfl) rfl rfl #[.int .i64 (n : Int), .int .i64 (n : Int), .slice (some ⟨bl, 0, none⟩) nn nn] rfl ?_; intro w6 g6 ef hz6)
      refine bodyPost_ret (results_cell_row rfl _ _ _ 26 #[.int .i64 (n : Int), .int .i64 (n : Int), .slice (some ⟨bl, 0, none⟩) nn nn] (0, 0) _ rfl g6 Try.underlying26 rfl (by kernel_rfl)) rfl ?_
      have hL6 := HLI.out.eff ef (fun k hk ht => by subst hk; exact absurd (ht.inj g0.ty) (by decide))
      refine ⟨_, rfl, vs0, ⟨⟨some ⟨bl, 0, none⟩, nn, by rw [HVL.out], hL6⟩, ?_, ?_⟩, HV.out, ef.below hB (fun k hk => by omega)⟩
      · show I64 (n : Int); unfold I64; omega
      · show I64 (n : Int); unfold I64; omega

end Go.Proofs.Ytkjbidpafnmogaa.Base
