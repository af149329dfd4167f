/- poly: what Terms, At and Flow refuse. -/
import Derived.Test.YtkjbidpafnmogaaGreatPolK
namespace Go.Proofs.YtkjbidpafnmogaaGreat.Base
open Go.RowKit Go
set_option linter.unusedVariables false
set_option linter.unusedSimpArgs false

theorem pnone_up {W : World} {p : Value} (hp : ∀ W', Below W.heap.size W W' → Calls Tryz.prog 114 #[p] W' fun e w' => e = .returned (.bool true) ∧ W' = w') : ∀ W', Below W.heap.size W W' → Calls Tryz.prog 48 #[p] W' fun e w' => e = .returned (.bool true) ∧ W' = w' := fun W' hb => pnone_un (hp W' hb)

set_option maxHeartbeats 2000000 in
set_option maxRecDepth 100000 in
theorem Terms_none {w0 : World} {m : Mt} {a : Option Addr} {k : Nat} {p : Value} (hp : ∀ W', Below w0.heap.size w0 W' → Calls Tryz.prog 114 #[p] W' fun e w' => e = .returned (.bool true) ∧ W' = w') (n : Int) :
    Calls Tryz.prog 14 #[p, .agg #[.int .i64 m.r, .int .i64 m.c, .slice a m.v.length k], .int .i64 n] w0 fun e w' => e = .returned (.tuple #[.slice none 0 0, .int .i64 1]) ∧ Below w0.heap.size w0 w' := by
  obtain ⟨nv, hnv⟩ : ∃ nv, m.v.length = nv := ⟨_, rfl⟩
  rw [hnv]
  clear hnv
  go_enter Tryz.func14, Tryz.ntmps14
  go_wp2_with fail
  have hB := below_allocs w0 [Obj.cells #[Value.int .i64 m.r, .int .i64 m.c, .slice a nv k] 24, Obj.cells #[Value.int .i64 n] 3]
  have g0 := blk_at w0 [Obj.cells #[Value.int .i64 m.r, .int .i64 m.c, .slice a nv k] 24, Obj.cells #[Value.int .i64 n] 3] 0 _ _ rfl
  have g1 := blk_at w0 [Obj.cells #[Value.int .i64 m.r, .int .i64 m.c, .slice a nv k] 24, Obj.cells #[Value.int .i64 n] 3] 1 _ _ rfl
  simp only [List.foldl_cons, List.foldl_nil, Nat.add_zero] at hB g0 g1
  replace hB := hB.1
  generalize ((w0.alloc (Obj.cells #[Value.int .i64 m.r, .int .i64 m.c, .slice a nv k] 24)).alloc (Obj.cells #[Value.int .i64 n] 3)) = w1 at *
  refine (pnone_up hp _ hB).mono ?_
  rintro e w2 ⟨rfl, hw⟩
  rw [← hw]
  clear hw
  have c0_0 := g0.cell
  have c0_1 := g1.cell
  go_wp2_with fail
  go_ret2
  exact ⟨rfl, hB⟩

set_option maxHeartbeats 2000000 in
set_option maxRecDepth 100000 in
theorem Terms_size {w0 : World} {m : Mt} {a : Option Addr} {k : Nat} {b : Nat} {c0 : Bool} (hU : UP w0 b c0) (hsq : ¬ sqM m) (n : Int) :
    Calls Tryz.prog 14 #[.pointer (some ⟨b, 0, none⟩), .agg #[.int .i64 m.r, .int .i64 m.c, .slice a m.v.length k], .int .i64 n] w0 fun e w' => e = .returned (.tuple #[.slice none 0 0, .int .i64 3]) ∧ Below w0.heap.size w0 w' := by
  obtain ⟨nv, hnv⟩ : ∃ nv, m.v.length = nv := ⟨_, rfl⟩
  have hSQ := Lib.hid (fun w => square_is m a k w)
  rw [decide_eq_false hsq, hnv] at hSQ
  rw [hnv]
  clear hnv
  go_enter Tryz.func14, Tryz.ntmps14
  go_wp2_with fail
  have hB := below_allocs w0 [Obj.cells #[Value.int .i64 m.r, .int .i64 m.c, .slice a nv k] 24, Obj.cells #[Value.int .i64 n] 3]
  have g0 := blk_at w0 [Obj.cells #[Value.int .i64 m.r, .int .i64 m.c, .slice a nv k] 24, Obj.cells #[Value.int .i64 n] 3] 0 _ _ rfl
  have g1 := blk_at w0 [Obj.cells #[Value.int .i64 m.r, .int .i64 m.c, .slice a nv k] 24, Obj.cells #[Value.int .i64 n] 3] 1 _ _ rfl
  simp only [List.foldl_cons, List.foldl_nil, Nat.add_zero] at hB g0 g1
  replace hB := hB.1
  generalize ((w0.alloc (Obj.cells #[Value.int .i64 m.r, .int .i64 m.c, .slice a nv k] 24)).alloc (Obj.cells #[Value.int .i64 n] 3)) = w1 at *
  refine (pnone_ok (hU.keep hB)).mono ?_
  rintro e w2 ⟨rfl, hw⟩
  rw [← hw]
  clear hw
  have c0_0 := g0.cell
  have c0_1 := g1.cell
  go_wp2_with fail
  clear c0_0
  clear c0_1
  refine (hSQ.out _).mono ?_
  rintro e w3 ⟨rfl, hK⟩
  replace hB := more hB hK
  replace g0 := g0.keep hK
  replace g1 := g1.keep hK
  clear hK
  have c1_0 := g0.cell
  have c1_1 := g1.cell
  go_wp2_with fail
  go_ret2
  exact ⟨rfl, hB⟩

set_option maxHeartbeats 2000000 in
set_option maxRecDepth 100000 in
theorem Terms_low {w0 : World} {m : Mt} {a : Option Addr} {k : Nat} {b : Nat} {c0 : Bool} (hU : UP w0 b c0) (hsq : sqM m) (n : Int) (hn : n < 0) :
    Calls Tryz.prog 14 #[.pointer (some ⟨b, 0, none⟩), .agg #[.int .i64 m.r, .int .i64 m.c, .slice a m.v.length k], .int .i64 n] w0 fun e w' => e = .returned (.tuple #[.slice none 0 0, .int .i64 2]) ∧ Below w0.heap.size w0 w' := by
  obtain ⟨nv, hnv⟩ : ∃ nv, m.v.length = nv := ⟨_, rfl⟩
  have hSQ := Lib.hid (fun w => square_is m a k w)
  rw [decide_eq_true hsq, hnv] at hSQ
  rw [hnv]
  clear hnv
  go_enter Tryz.func14, Tryz.ntmps14
  go_wp2_with fail
  have hB := below_allocs w0 [Obj.cells #[Value.int .i64 m.r, .int .i64 m.c, .slice a nv k] 24, Obj.cells #[Value.int .i64 n] 3]
  have g0 := blk_at w0 [Obj.cells #[Value.int .i64 m.r, .int .i64 m.c, .slice a nv k] 24, Obj.cells #[Value.int .i64 n] 3] 0 _ _ rfl
  have g1 := blk_at w0 [Obj.cells #[Value.int .i64 m.r, .int .i64 m.c, .slice a nv k] 24, Obj.cells #[Value.int .i64 n] 3] 1 _ _ rfl
  simp only [List.foldl_cons, List.foldl_nil, Nat.add_zero] at hB g0 g1
  replace hB := hB.1
  generalize ((w0.alloc (Obj.cells #[Value.int .i64 m.r, .int .i64 m.c, .slice a nv k] 24)).alloc (Obj.cells #[Value.int .i64 n] 3)) = w1 at *
  refine (pnone_ok (hU.keep hB)).mono ?_
  rintro e w2 ⟨rfl, hw⟩
  rw [← hw]
  clear hw
  have c0_0 := g0.cell
  have c0_1 := g1.cell
  go_wp2_with fail
  clear c0_0
  clear c0_1
  refine (hSQ.out _).mono ?_
  rintro e w3 ⟨rfl, hK⟩
  replace hB := more hB hK
  replace g0 := g0.keep hK
  replace g1 := g1.keep hK
  clear hK
  have c1_0 := g0.cell
  have c1_1 := g1.cell
  go_wp2_with fail
  go_ret2
  exact ⟨rfl, hB⟩

set_option maxHeartbeats 2000000 in
set_option maxRecDepth 100000 in
theorem Terms_high {w0 : World} {m : Mt} {a : Option Addr} {k : Nat} {b : Nat} {c0 : Bool} (hU : UP w0 b c0) (hsq : sqM m) (n : Int) (hn : 25 ≤ n) (hn0 : ¬ n < 0) :
    Calls Tryz.prog 14 #[.pointer (some ⟨b, 0, none⟩), .agg #[.int .i64 m.r, .int .i64 m.c, .slice a m.v.length k], .int .i64 n] w0 fun e w' => e = .returned (.tuple #[.slice none 0 0, .int .i64 2]) ∧ Below w0.heap.size w0 w' := by
  obtain ⟨nv, hnv⟩ : ∃ nv, m.v.length = nv := ⟨_, rfl⟩
  have hSQ := Lib.hid (fun w => square_is m a k w)
  rw [decide_eq_true hsq, hnv] at hSQ
  rw [hnv]
  clear hnv
  go_enter Tryz.func14, Tryz.ntmps14
  go_wp2_with fail
  have hB := below_allocs w0 [Obj.cells #[Value.int .i64 m.r, .int .i64 m.c, .slice a nv k] 24, Obj.cells #[Value.int .i64 n] 3]
  have g0 := blk_at w0 [Obj.cells #[Value.int .i64 m.r, .int .i64 m.c, .slice a nv k] 24, Obj.cells #[Value.int .i64 n] 3] 0 _ _ rfl
  have g1 := blk_at w0 [Obj.cells #[Value.int .i64 m.r, .int .i64 m.c, .slice a nv k] 24, Obj.cells #[Value.int .i64 n] 3] 1 _ _ rfl
  simp only [List.foldl_cons, List.foldl_nil, Nat.add_zero] at hB g0 g1
  replace hB := hB.1
  generalize ((w0.alloc (Obj.cells #[Value.int .i64 m.r, .int .i64 m.c, .slice a nv k] 24)).alloc (Obj.cells #[Value.int .i64 n] 3)) = w1 at *
  refine (pnone_ok (hU.keep hB)).mono ?_
  rintro e w2 ⟨rfl, hw⟩
  rw [← hw]
  clear hw
  have c0_0 := g0.cell
  have c0_1 := g1.cell
  go_wp2_with fail
  clear c0_0
  clear c0_1
  refine (hSQ.out _).mono ?_
  rintro e w3 ⟨rfl, hK⟩
  replace hB := more hB hK
  replace g0 := g0.keep hK
  replace g1 := g1.keep hK
  clear hK
  have c1_0 := g0.cell
  have c1_1 := g1.cell
  go_wp2_with fail
  go_ret2
  exact ⟨rfl, hB⟩

set_option maxHeartbeats 2000000 in
set_option maxRecDepth 100000 in
theorem Flow_none {w0 : World} {m : Mt} {a : Option Addr} {k : Nat} {p : Value} (hp : ∀ W', Below w0.heap.size w0 W' → Calls Tryz.prog 114 #[p] W' fun e w' => e = .returned (.bool true) ∧ W' = w') (t : Int) :
    Calls Tryz.prog 16 #[p, .agg #[.int .i64 m.r, .int .i64 m.c, .slice a m.v.length k], .int .i64 t] w0 fun e w' => e = .returned (.tuple #[noMat, .int .i64 1]) ∧ Below w0.heap.size w0 w' := by
  obtain ⟨nv, hnv⟩ : ∃ nv, m.v.length = nv := ⟨_, rfl⟩
  rw [hnv]
  clear hnv
  go_enter Tryz.func16, Tryz.ntmps16
  go_wp2_with fail
  have hB := below_allocs w0 [Obj.cells #[Value.int .i64 m.r, .int .i64 m.c, .slice a nv k] 24, Obj.cells #[Value.int .i64 0, .int .i64 0, .slice none 0 0] 24]
  have g0 := blk_at w0 [Obj.cells #[Value.int .i64 m.r, .int .i64 m.c, .slice a nv k] 24, Obj.cells #[Value.int .i64 0, .int .i64 0, .slice none 0 0] 24] 0 _ _ rfl
  have g1 := blk_at w0 [Obj.cells #[Value.int .i64 m.r, .int .i64 m.c, .slice a nv k] 24, Obj.cells #[Value.int .i64 0, .int .i64 0, .slice none 0 0] 24] 1 _ _ rfl
  simp only [List.foldl_cons, List.foldl_nil, Nat.add_zero] at hB g0 g1
  replace hB := hB.1
  generalize ((w0.alloc (Obj.cells #[Value.int .i64 m.r, .int .i64 m.c, .slice a nv k] 24)).alloc (Obj.cells #[Value.int .i64 0, .int .i64 0, .slice none 0 0] 24)) = w1 at *
  refine (pnone_up hp _ hB).mono ?_
  rintro e w2 ⟨rfl, hw⟩
  rw [← hw]
  clear hw
  have c0_0 := g0.cell
  have c0_1 := g1.cell
  have f0_1 := g1.frozen
  go_wp2_with fail
  have ⟨r4, hE4⟩ := set3 g1 (.int .i64 0) (.int .i64 0) (.slice none 0 0)
  refine bodyPost_ret (results_ct (g := w0.heap.size + 1) (cs := #[.int .i64 0, .int .i64 0, .slice none 0 0]) rfl _ _ rfl r4 Tryz.underlying24 rfl (by kernel_rfl)) rfl ?_
  exact ⟨rfl, hE4.below hB (fun k hk => by omega)⟩

set_option maxHeartbeats 2000000 in
set_option maxRecDepth 100000 in
theorem Flow_size {w0 : World} {m : Mt} {a : Option Addr} {k : Nat} {b : Nat} {c0 : Bool} (hU : UP w0 b c0) (hsq : ¬ sqM m) (t : Int) :
    Calls Tryz.prog 16 #[.pointer (some ⟨b, 0, none⟩), .agg #[.int .i64 m.r, .int .i64 m.c, .slice a m.v.length k], .int .i64 t] w0 fun e w' => e = .returned (.tuple #[noMat, .int .i64 3]) ∧ Below w0.heap.size w0 w' := by
  obtain ⟨nv, hnv⟩ : ∃ nv, m.v.length = nv := ⟨_, rfl⟩
  have hSQ := Lib.hid (fun w => square_is m a k w)
  rw [decide_eq_false hsq, hnv] at hSQ
  rw [hnv]
  clear hnv
  go_enter Tryz.func16, Tryz.ntmps16
  go_wp2_with fail
  have hB := below_allocs w0 [Obj.cells #[Value.int .i64 m.r, .int .i64 m.c, .slice a nv k] 24, Obj.cells #[Value.int .i64 0, .int .i64 0, .slice none 0 0] 24]
  have g0 := blk_at w0 [Obj.cells #[Value.int .i64 m.r, .int .i64 m.c, .slice a nv k] 24, Obj.cells #[Value.int .i64 0, .int .i64 0, .slice none 0 0] 24] 0 _ _ rfl
  have g1 := blk_at w0 [Obj.cells #[Value.int .i64 m.r, .int .i64 m.c, .slice a nv k] 24, Obj.cells #[Value.int .i64 0, .int .i64 0, .slice none 0 0] 24] 1 _ _ rfl
  simp only [List.foldl_cons, List.foldl_nil, Nat.add_zero] at hB g0 g1
  replace hB := hB.1
  generalize ((w0.alloc (Obj.cells #[Value.int .i64 m.r, .int .i64 m.c, .slice a nv k] 24)).alloc (Obj.cells #[Value.int .i64 0, .int .i64 0, .slice none 0 0] 24)) = w1 at *
  refine (pnone_ok (hU.keep hB)).mono ?_
  rintro e w2 ⟨rfl, hw⟩
  rw [← hw]
  clear hw
  have c0_0 := g0.cell
  have c0_1 := g1.cell
  have f0_1 := g1.frozen
  go_wp2_with fail
  clear c0_0
  clear c0_1 f0_1
  refine (hSQ.out _).mono ?_
  rintro e w3 ⟨rfl, hK⟩
  replace hB := more hB hK
  replace g0 := g0.keep hK
  replace g1 := g1.keep hK
  clear hK
  have c1_0 := g0.cell
  have c1_1 := g1.cell
  have f1_1 := g1.frozen
  go_wp2_with fail
  have ⟨r4, hE4⟩ := set3 g1 (.int .i64 0) (.int .i64 0) (.slice none 0 0)
  refine bodyPost_ret (results_ct (g := w0.heap.size + 1) (cs := #[.int .i64 0, .int .i64 0, .slice none 0 0]) rfl _ _ rfl r4 Tryz.underlying24 rfl (by kernel_rfl)) rfl ?_
  exact ⟨rfl, hE4.below hB (fun k hk => by omega)⟩

set_option maxHeartbeats 2000000 in
set_option maxRecDepth 100000 in
theorem Flow_arg {w0 : World} {m : Mt} {a : Option Addr} {k : Nat} {b : Nat} {c0 : Bool} (hU : UP w0 b c0) (hl : MI 0 w0 a k m.v) (hsq : sqM m) (hup : ¬ upM m) (t : Int) :
    Calls Tryz.prog 16 #[.pointer (some ⟨b, 0, none⟩), .agg #[.int .i64 m.r, .int .i64 m.c, .slice a m.v.length k], .int .i64 t] w0 fun e w' => e = .returned (.tuple #[noMat, .int .i64 2]) ∧ Below w0.heap.size w0 w' := by
  obtain ⟨nv, hnv⟩ : ∃ nv, m.v.length = nv := ⟨_, rfl⟩
  have hSQ := Lib.hid (fun w => square_is m a k w)
  rw [decide_eq_true hsq, hnv] at hSQ
  have hUQ := Lib.hid (fun (W : World) (h : MI 0 W a k m.v) => upper_is h)
  rw [decide_eq_false hup, hnv] at hUQ
  rw [hnv]
  clear hnv
  go_enter Tryz.func16, Tryz.ntmps16
  go_wp2_with fail
  have hB := below_allocs w0 [Obj.cells #[Value.int .i64 m.r, .int .i64 m.c, .slice a nv k] 24, Obj.cells #[Value.int .i64 0, .int .i64 0, .slice none 0 0] 24]
  have g0 := blk_at w0 [Obj.cells #[Value.int .i64 m.r, .int .i64 m.c, .slice a nv k] 24, Obj.cells #[Value.int .i64 0, .int .i64 0, .slice none 0 0] 24] 0 _ _ rfl
  have g1 := blk_at w0 [Obj.cells #[Value.int .i64 m.r, .int .i64 m.c, .slice a nv k] 24, Obj.cells #[Value.int .i64 0, .int .i64 0, .slice none 0 0] 24] 1 _ _ rfl
  simp only [List.foldl_cons, List.foldl_nil, Nat.add_zero] at hB g0 g1
  replace hB := hB.1
  generalize ((w0.alloc (Obj.cells #[Value.int .i64 m.r, .int .i64 m.c, .slice a nv k] 24)).alloc (Obj.cells #[Value.int .i64 0, .int .i64 0, .slice none 0 0] 24)) = w1 at *
  refine (pnone_ok (hU.keep hB)).mono ?_
  rintro e w2 ⟨rfl, hw⟩
  rw [← hw]
  clear hw
  have c0_0 := g0.cell
  have c0_1 := g1.cell
  have f0_1 := g1.frozen
  go_wp2_with fail
  clear c0_0
  clear c0_1 f0_1
  refine (hSQ.out _).mono ?_
  rintro e w3 ⟨rfl, hK⟩
  replace hB := more hB hK
  replace g0 := g0.keep hK
  replace g1 := g1.keep hK
  clear hK
  have c1_0 := g0.cell
  have c1_1 := g1.cell
  have f1_1 := g1.frozen
  go_wp2_with fail
  clear c1_0
  clear c1_1 f1_1
  refine (hUQ.out _ (hl.keep hB)).mono ?_
  rintro e w4 ⟨rfl, hK⟩
  replace hB := more hB hK
  replace g0 := g0.keep hK
  replace g1 := g1.keep hK
  clear hK
  have c2_0 := g0.cell
  have c2_1 := g1.cell
  have f2_1 := g1.frozen
  go_wp2_with fail
  have ⟨r4, hE4⟩ := set3 g1 (.int .i64 0) (.int .i64 0) (.slice none 0 0)
  refine bodyPost_ret (results_ct (g := w0.heap.size + 1) (cs := #[.int .i64 0, .int .i64 0, .slice none 0 0]) rfl _ _ rfl r4 Tryz.underlying24 rfl (by kernel_rfl)) rfl ?_
  exact ⟨rfl, hE4.below hB (fun k hk => by omega)⟩

set_option maxHeartbeats 2000000 in
set_option maxRecDepth 100000 in
theorem At_none {w0 : World} {p : Option Addr} (hp : ∀ W', Below w0.heap.size w0 W' → Calls Tryz.prog 114 #[.pointer p] W' fun e w' => e = .returned (.bool true) ∧ W' = w') (v : Value) (t : Int) :
    Calls Tryz.prog 25 #[.pointer p, v, .int .i64 t] w0 fun e w' => e = .returned (.tuple #[noMat, .int .i64 1]) ∧ Below w0.heap.size w0 w' := by
  go_enter Tryz.func25, Tryz.ntmps25
  go_wp2_with fail
  have hB := below_allocs w0 [Obj.cells #[Value.pointer p] 25, Obj.cells #[Value.int .i64 t] 3, Obj.cells #[Value.int .i64 0, .int .i64 0, .slice none 0 0] 24]
  have g0 := blk_at w0 [Obj.cells #[Value.pointer p] 25, Obj.cells #[Value.int .i64 t] 3, Obj.cells #[Value.int .i64 0, .int .i64 0, .slice none 0 0] 24] 0 _ _ rfl
  have g1 := blk_at w0 [Obj.cells #[Value.pointer p] 25, Obj.cells #[Value.int .i64 t] 3, Obj.cells #[Value.int .i64 0, .int .i64 0, .slice none 0 0] 24] 1 _ _ rfl
  have g2 := blk_at w0 [Obj.cells #[Value.pointer p] 25, Obj.cells #[Value.int .i64 t] 3, Obj.cells #[Value.int .i64 0, .int .i64 0, .slice none 0 0] 24] 2 _ _ rfl
  simp only [List.foldl_cons, List.foldl_nil, Nat.add_zero] at hB g0 g1 g2
  replace hB := hB.1
  generalize (((w0.alloc (Obj.cells #[Value.pointer p] 25)).alloc (Obj.cells #[Value.int .i64 t] 3)).alloc (Obj.cells #[Value.int .i64 0, .int .i64 0, .slice none 0 0] 24)) = w1 at *
  refine (pnone_up hp _ hB).mono ?_
  rintro e w2 ⟨rfl, hw⟩
  rw [← hw]
  clear hw
  have c0_0 := g0.cell
  have c0_1 := g1.cell
  have c0_2 := g2.cell
  have f0_2 := g2.frozen
  go_wp2_with fail
  have ⟨r4, hE4⟩ := set3 g2 (.int .i64 0) (.int .i64 0) (.slice none 0 0)
  refine bodyPost_ret (results_ct (g := w0.heap.size + 2) (cs := #[.int .i64 0, .int .i64 0, .slice none 0 0]) rfl _ _ rfl r4 Tryz.underlying24 rfl (by kernel_rfl)) rfl ?_
  exact ⟨rfl, hE4.below hB (fun k hk => by omega)⟩

set_option maxHeartbeats 2000000 in
set_option maxRecDepth 100000 in
theorem At_size {w0 : World} {b : Nat} {c0 : Bool} (hU : UP w0 b c0) {a : Option Addr} {k : Nat} {ms : List Mt} (hm : 0 < ms.length → ∃ x, a = some x ∧ MsC w0 x ms) (hpm : ¬ polyM ms) (t : Int) :
    Calls Tryz.prog 25 #[.pointer (some ⟨b, 0, none⟩), .slice a ms.length k, .int .i64 t] w0 fun e w' => e = .returned (.tuple #[noMat, .int .i64 3]) ∧ Below w0.heap.size w0 w' := by
  have hPQ := Lib.hid (fun (W : World) (hb : Below w0.heap.size w0 W) => polynomial_is (W := W) (a := a) (k := k) (ms := ms) (fun h => by obtain ⟨x, h1, h2⟩ := hm h; exact ⟨x, h1, h2.keep hb⟩))
  rw [decide_eq_false hpm] at hPQ
  obtain ⟨nv, hnv⟩ : ∃ nv, ms.length = nv := ⟨_, rfl⟩
  rw [hnv] at hPQ ⊢
  clear hnv hm hpm
  go_enter Tryz.func25, Tryz.ntmps25
  go_wp2_with fail
  have hB := below_allocs w0 [Obj.cells #[Value.pointer (some ⟨b, 0, none⟩)] 25, Obj.cells #[Value.int .i64 t] 3, Obj.cells #[Value.int .i64 0, .int .i64 0, .slice none 0 0] 24]
  have g0 := blk_at w0 [Obj.cells #[Value.pointer (some ⟨b, 0, none⟩)] 25, Obj.cells #[Value.int .i64 t] 3, Obj.cells #[Value.int .i64 0, .int .i64 0, .slice none 0 0] 24] 0 _ _ rfl
  have g1 := blk_at w0 [Obj.cells #[Value.pointer (some ⟨b, 0, none⟩)] 25, Obj.cells #[Value.int .i64 t] 3, Obj.cells #[Value.int .i64 0, .int .i64 0, .slice none 0 0] 24] 1 _ _ rfl
  have g2 := blk_at w0 [Obj.cells #[Value.pointer (some ⟨b, 0, none⟩)] 25, Obj.cells #[Value.int .i64 t] 3, Obj.cells #[Value.int .i64 0, .int .i64 0, .slice none 0 0] 24] 2 _ _ rfl
  simp only [List.foldl_cons, List.foldl_nil, Nat.add_zero] at hB g0 g1 g2
  replace hB := hB.1
  generalize (((w0.alloc (Obj.cells #[Value.pointer (some ⟨b, 0, none⟩)] 25)).alloc (Obj.cells #[Value.int .i64 t] 3)).alloc (Obj.cells #[Value.int .i64 0, .int .i64 0, .slice none 0 0] 24)) = w1 at *
  refine (pnone_ok (hU.keep hB)).mono ?_
  rintro e w2 ⟨rfl, hw⟩
  rw [← hw]
  clear hw
  have c0_0 := g0.cell
  have c0_1 := g1.cell
  have c0_2 := g2.cell
  have f0_2 := g2.frozen
  go_wp2_with fail
  clear c0_0
  clear c0_1
  clear c0_2 f0_2
  refine (hPQ.out _ hB).mono ?_
  rintro e w3 ⟨rfl, hK⟩
  replace hB := more hB hK
  replace g0 := g0.keep hK
  replace g1 := g1.keep hK
  replace g2 := g2.keep hK
  clear hK
  have c1_0 := g0.cell
  have c1_1 := g1.cell
  have c1_2 := g2.cell
  have f1_2 := g2.frozen
  go_wp2_with fail
  have ⟨r4, hE4⟩ := set3 g2 (.int .i64 0) (.int .i64 0) (.slice none 0 0)
  refine bodyPost_ret (results_ct (g := w0.heap.size + 2) (cs := #[.int .i64 0, .int .i64 0, .slice none 0 0]) rfl _ _ rfl r4 Tryz.underlying24 rfl (by kernel_rfl)) rfl ?_
  exact ⟨rfl, hE4.below hB (fun k hk => by omega)⟩

end Go.Proofs.YtkjbidpafnmogaaGreat.Base
