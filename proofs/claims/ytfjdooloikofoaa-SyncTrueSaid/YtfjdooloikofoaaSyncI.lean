/- sync.Clock: its contracts over lists of exchanges. -/
import Derived.Test.YtfjdooloikofoaaSyncH
namespace Go.Proofs.Ytfjdooloikofoaa.SyncA
open Go.RowKit Go.Shelf Go.Proofs.Ytfjdooloikofoaa.StampA Go.Proofs.Ytfjdooloikofoaa.Base
set_option linter.unusedVariables false

/-- Block b is a clock of that window with those exchanges. -/
structure CK (w : World) (b : Nat) (win : Int) (l : List TSw) : Prop where
  w1 : 1 ≤ win
  w2 : win ≤ 32
  len : (l.length : Int) ≤ win
  ex : ∃ f g, Clk w b win f l.length g ∧ 0 ≤ f ∧ f < win ∧ Is g win f l

theorem CK.below {w w' : World} {b : Nat} {win : Int} {l : List TSw} (h : CK w b win l) (hb : Below w.heap.size w w') : CK w' b win l := by
  obtain ⟨f, g, hc, h1, h2, h3⟩ := h.ex
  exact ⟨h.w1, h.w2, h.len, f, g, hc.below hb, h1, h2, h3⟩
theorem CK.lt {w : World} {b : Nat} {win : Int} {l : List TSw} (h : CK w b win l) : b < w.heap.size := by
  obtain ⟨f, g, hc, _⟩ := h.ex
  exact hc.lt
theorem CK.cell0 {w : World} {b : Nat} {win : Int} {l : List TSw} (h : CK w b win l) : w.cell? ⟨b, 0, none⟩ = some (.int .i64 win) := by
  obtain ⟨f, g, hc, _⟩ := h.ex
  exact hc.c0

theorem emod_ne (f i m win : Int) (h1 : i < m) (h2 : m - i < win) : (f + i) % win ≠ (f + m) % win := by
  intro h
  have h3 : ((f + m) - (f + i)) % win = 0 := Int.emod_eq_emod_iff_emod_sub_eq_zero.1 h.symm
  rw [show f + m - (f + i) = m - i by omega, Int.emod_eq_of_lt (by omega) h2] at h3
  omega

theorem is_push {g : Nat → Sw} {win f : Int} {l : List TSw} (h : Is g win f l) (hl : (l.length : Int) < win) (x : TSw) :
    Is (fun j => if (j : Int) = (f + l.length) % win then x.1 else g j) win f (l ++ [x]) := by
  refine ⟨fun i hi => ?_⟩
  have hn : 0 ≤ (f + (i : Int)) % win := Int.emod_nonneg _ (by omega)
  unfold nthS
  dsimp only
  rw [Int.toNat_of_nonneg hn]
  simp at hi
  by_cases e : i = l.length
  · subst e
    rw [if_pos rfl]
    simp
  · have hil : i < l.length := by omega
    rw [if_neg (emod_ne f i l.length win (by omega) (by omega))]
    rw [List.getElem_append_left hil]
    exact h.all i hil

theorem is_tail {g : Nat → Sw} {win f : Int} {l : List TSw} (h : Is g win f l) : Is g win ((f + 1) % win) l.tail := by
  refine ⟨fun i hi => ?_⟩
  simp at hi
  have := h.all (i + 1) (by omega)
  unfold nthS at this ⊢
  rw [List.getElem_tail]
  rw [← this]
  congr 2
  rw [Int.emod_add_emod]
  congr 1
  push_cast
  omega

def pushL (win : Int) (l : List TSw) (x : TSw) : List TSw := if (l.length : Int) = win then l.tail ++ [x] else l ++ [x]

theorem pushL_len (win : Int) (l : List TSw) (x : TSw) (h : (l.length : Int) ≤ win) (hw : 1 ≤ win) : ((pushL win l x).length : Int) = if (l.length : Int) = win then win else l.length + 1 := by
  unfold pushL
  by_cases e : (l.length : Int) = win
  · rw [if_pos e, if_pos e]; simp; omega
  · rw [if_neg e, if_neg e]; simp

theorem add_ok {w : World} {b : Nat} {win : Int} {l : List TSw} (h : CK w b win l) (x : Sw) (hx : okS x) :
    Calls Try.prog 27 #[.pointer (some ⟨b, 0, none⟩), x.val] w fun e w' => e = .returned (.int .i64 0) ∧ CK w' b win (pushL win l ⟨x, hx.1⟩) ∧ But b w w' := by
  obtain ⟨f, g, hc, h1, h2, h3⟩ := h.ex
  have hw1 := h.w1
  have hw2 := h.w2
  have hlen := h.len
  by_cases e : (l.length : Int) = win
  · rw [e] at hc
    refine (add_full b w win f win g x hw1 hw2 h1 h2 hx.1 hx.2.1 hx.2.2.1 hx.2.2.2 hc).mono ?_
    rintro e w' ⟨he, hA⟩
    refine ⟨he, ⟨hw1, hw2, ?_, ?_⟩, hA.but⟩
    · rw [pushL_len win l _ hlen hw1, if_pos ‹_›]; omega
    · have ht : ((l.tail.length : Nat) : Int) = win - 1 := by simp; omega
      have hI := is_push (is_tail h3) (by omega : (l.tail.length : Int) < win) ⟨x, hx.1⟩
      have hp : pushL win l ⟨x, hx.1⟩ = l.tail ++ [⟨x, hx.1⟩] := by unfold pushL; rw [if_pos ‹_›]
      rw [hp]
      rw [ht] at hI
      refine ⟨(f + 1) % win, _, ?_, Int.emod_nonneg _ (by omega), Int.emod_lt_of_pos _ (by omega), hI⟩
      have := hA.clk
      rw [show (((l.tail ++ [(⟨x, hx.1⟩ : TSw)]).length : Nat) : Int) = win - 1 + 1 by simp; omega]
      exact this
  · refine (add_part b w win f l.length g x hw1 hw2 h1 h2 (by omega) (by omega) hx.1 hx.2.1 hx.2.2.1 hx.2.2.2 hc).mono ?_
    rintro e' w' ⟨he, hA⟩
    refine ⟨he, ⟨hw1, hw2, ?_, ?_⟩, hA.but⟩
    · rw [pushL_len win l _ hlen hw1, if_neg e]; omega
    · have hp : pushL win l ⟨x, hx.1⟩ = l ++ [⟨x, hx.1⟩] := by unfold pushL; rw [if_neg e]
      rw [hp]
      refine ⟨f, _, ?_, h1, h2, is_push h3 (by omega) ⟨x, hx.1⟩⟩
      have := hA.clk
      rw [show (((l ++ [(⟨x, hx.1⟩ : TSw)]).length : Nat) : Int) = l.length + 1 by simp]
      exact this

theorem len_ck {w : World} {b : Nat} {win : Int} {l : List TSw} (h : CK w b win l) :
    Calls Try.prog 36 #[.pointer (some ⟨b, 0, none⟩)] w fun e w' => e = .returned (.int .i64 l.length) ∧ w = w' := by
  obtain ⟨f, g, hc, h1, h2, h3⟩ := h.ex
  exact len_clk b w win f l.length g h.w1 hc

theorem new_ck (win : Int) (w : World) (hw : 1 ≤ win) (hw2 : win ≤ 32) :
    Calls Try.prog 30 #[.int .i64 win] w fun e w' => ∃ b, e = .returned (.tuple #[.pointer (some ⟨b, 0, none⟩), .int .i64 0]) ∧ w.heap.size ≤ b ∧ CK w' b win [] ∧ Below w.heap.size w w' :=
  (new_good win w hw hw2).mono fun _ _ ⟨b, he, hb, hc, hB⟩ => ⟨b, he, hb, ⟨hw, hw2, by simp; omega, 0, _, hc, by omega, by omega, ⟨fun i hi => absurd hi (by simp)⟩⟩, hB⟩

/-- What the best exchange comes to. -/
def offS (x : Sw) : Int := (x.t2 - x.t1 + (x.t3 - x.t4)) / 2

theorem all_any (b : Nat) (w : World) :
    Calls Try.prog 52 #[.pointer (some ⟨b, 0, none⟩)] w fun e w' => e = .returned (.func (.func 56) #[] #[.pointer (some ⟨w.heap.size, 0, none⟩)]) ∧ w.alloc (.cells #[.pointer (some ⟨b, 0, none⟩)] 44) = w' := by
  go_enter Try.func52, Try.ntmps52
  go_wp2
  go_ret
  exact ⟨rfl, rfl⟩

theorem bestN {Bn b : Nat} {win : Int} {l : List TSw} {w : World} (hBn : w.cell? ⟨Bn, 0, none⟩ = some (.pointer (some ⟨b, 0, none⟩))) (h : CK w b win l) (hb : bst l = none) :
    Calls Try.prog 51 #[.func (.func 56) #[] #[.pointer (some ⟨Bn, 0, none⟩)], .func (.func 53) #[] #[]] w
      fun e w' => e = .returned (.tuple #[.agg #[.int .i64 0, .int .i64 0, .int .i64 0, .int .i64 0], .bool false]) ∧ Below w.heap.size w w' := by
  obtain ⟨f, g, hc, h1, h2, h3⟩ := h.ex
  have := h.len
  have := h.w2
  refine (best_any Bn b win f g l w hBn hc h.w1 h.w2 h1 h2 (by omega) h3).mono ?_
  rw [hb]
  exact fun _ _ h => h
theorem bestS {Bn b : Nat} {win : Int} {l : List TSw} {w : World} {x1 x2 x3 x4 : Int} {hx : Tm ⟨x1, x2, x3, x4⟩} (hBn : w.cell? ⟨Bn, 0, none⟩ = some (.pointer (some ⟨b, 0, none⟩))) (h : CK w b win l) (hb : bst l = some ⟨⟨x1, x2, x3, x4⟩, hx⟩) :
    Calls Try.prog 51 #[.func (.func 56) #[] #[.pointer (some ⟨Bn, 0, none⟩)], .func (.func 53) #[] #[]] w
      fun e w' => e = .returned (.tuple #[.agg #[.int .i64 x1, .int .i64 x2, .int .i64 x3, .int .i64 x4], .bool true]) ∧ Below w.heap.size w w' := by
  obtain ⟨f, g, hc, h1, h2, h3⟩ := h.ex
  have := h.len
  have := h.w2
  refine (best_any Bn b win f g l w hBn hc h.w1 h.w2 h1 h2 (by omega) h3).mono ?_
  rw [hb]
  exact fun _ _ h => h

structure S1 (w : World) (bx : Nat) (a1 a2 a3 a4 : Int) (W' : World) : Prop where
  blk : Blk W' bx #[.int .i64 a1, .int .i64 a2, .int .i64 a3, .int .i64 a4] 48
  le : w.heap.size ≤ bx
  below : Below w.heap.size w W'
theorem S1.cells {w : World} {bx : Nat} {a1 a2 a3 a4 : Int} {W' : World} (h : S1 w bx a1 a2 a3 a4 W') :
    S1 w bx a1 a2 a3 a4 W' ∧ (W'.cell? ⟨bx, 0, none⟩ = some (.int .i64 a1) ∧ W'.cell? ⟨bx, 1, none⟩ = some (.int .i64 a2) ∧ W'.cell? ⟨bx, 2, none⟩ = some (.int .i64 a3) ∧ W'.cell? ⟨bx, 3, none⟩ = some (.int .i64 a4)) :=
  ⟨h, h.blk.cell 0, h.blk.cell 1, h.blk.cell 2, h.blk.cell 3⟩
theorem S1.keep {w : World} {bx : Nat} {a1 a2 a3 a4 : Int} {W' W'' : World} (h : S1 w bx a1 a2 a3 a4 W') (hK : Below W'.heap.size W' W'') : S1 w bx a1 a2 a3 a4 W'' :=
  ⟨h.blk.keep hK, h.le, h.below.trans (hK.mono h.below.size)⟩
theorem S1.drew {w : World} {bx : Nat} {a1 a2 a3 a4 : Int} {W' : World} (h : S1 w bx a1 a2 a3 a4 W') : S1 w bx a1 a2 a3 a4 W'.drew := ⟨h.blk, h.le, h.below.drew⟩

set_option maxHeartbeats 2000000 in
theorem Best_none {w : World} {b : Nat} {win : Int} {l : List TSw} (h : CK w b win l) (hb : bst l = none) :
    Calls Try.prog 34 #[.pointer (some ⟨b, 0, none⟩)] w fun e w' => e = .returned (.tuple #[.int .i64 0, .int .i64 0, .int .i64 11]) ∧ Below w.heap.size w w' := by
  have h0 := h.cell0
  have hw1 := h.w1
  have hO : Old w w := ⟨Below.refl _ _⟩
  go_enter Try.func34, Try.ntmps34
  go_wp2_with (first
    | (go_at_call 47; refine (none_clk _ _ _ hw1 h0).mono ?_; rintro e w' ⟨rfl, rfl⟩)
    | (go_at_call 52; refine (all_any _ _).mono ?_; rintro e w' ⟨rfl, rfl⟩)
    | (go_at_call 51; refine (bestN (Blk.new w #[.pointer (some ⟨b, 0, none⟩)] 44 |>.cell 0) (h.below ((Below.refl _ _).alloc (Nat.le_refl _) _)) hb).mono ?_; rintro e w1 ⟨rfl, hK⟩))
  have hB := ((hO.keep ((Below.refl _ _).alloc (Nat.le_refl _) _)).keep hK).below
  have hs := hB.size
  go_ret3
  exact ⟨rfl, by go_grown⟩

set_option maxHeartbeats 2000000 in
theorem Best_some {w : World} {b : Nat} {win : Int} {l : List TSw} {x1 x2 x3 x4 : Int} {hx : Tm ⟨x1, x2, x3, x4⟩} (h : CK w b win l) (hb : bst l = some ⟨⟨x1, x2, x3, x4⟩, hx⟩) :
    Calls Try.prog 34 #[.pointer (some ⟨b, 0, none⟩)] w fun e w' => e = .returned (.tuple #[.int .i64 ((x2 - x1 + (x3 - x4)) / 2), .int .i64 (x4 - x1 - (x3 - x2)), .int .i64 0]) ∧ Below w.heap.size w w' := by
  have h0 := h.cell0
  have hw1 := h.w1
  go_enter Try.func34, Try.ntmps34
  go_wp2_with (first
    | (go_at_call 47; refine (none_clk _ _ _ hw1 h0).mono ?_; rintro e w' ⟨rfl, rfl⟩)
    | (go_at_call 52; refine (all_any _ _).mono ?_; rintro e w' ⟨rfl, rfl⟩)
    | (go_at_call 51; refine (bestS (Blk.new w #[.pointer (some ⟨b, 0, none⟩)] 44 |>.cell 0) (h.below ((Below.refl _ _).alloc (Nat.le_refl _) _)) hb).mono ?_; rintro e w1 ⟨rfl, hK⟩))
  have hO : Old w w := ⟨Below.refl _ _⟩
  have hB := ((hO.keep ((Below.refl _ _).alloc (Nat.le_refl _) _)).keep hK).below
  have hs := hB.size
  have qa := hx.a
  have qb := hx.b
  have qc := hx.c
  have qd := hx.d
  dsimp only at qa qb qc qd
  have hS : S1 w w1.heap.size x1 x2 x3 x4 (w1.alloc (.cells #[.int .i64 x1, .int .i64 x2, .int .i64 x3, .int .i64 x4] 48)) := ⟨Blk.new w1 _ _, hs, hB.alloc hs _⟩
  have hS1 := hS.drew
  generalize w1.heap.size = bx at *
  clear hS h0 hK hB hs h hb
  go_region_held3 (fun W' => S1 w bx x1 x2 x3 x4 W' ∧ (W'.cell? ⟨bx, 0, none⟩ = some (.int .i64 x1) ∧ W'.cell? ⟨bx, 1, none⟩ = some (.int .i64 x2) ∧ W'.cell? ⟨bx, 2, none⟩ = some (.int .i64 x3) ∧ W'.cell? ⟨bx, 3, none⟩ = some (.int .i64 x4)))
    (exact S1.cells (by assumption))
    (first
      | (go_at_call 48; refine (round_any x1 x2 x3 x4 _ qa qb qc qd).mono ?_; rintro e w5 ⟨rfl, hK⟩; have hS5 := S1.keep (by assumption) hK; clear hK)
      | (go_at_call 54; refine (offset_any x1 x2 x3 x4 _ qa qb qc qd).mono ?_; rintro e w6 ⟨rfl, hK⟩; have hS6 := S1.keep (by assumption) hK; clear hK))
  go_wp2
  go_ret3
  exact ⟨rfl, S1.below (by assumption)⟩

end Go.Proofs.Ytfjdooloikofoaa.SyncA
