/- The reference's clock: its contracts. -/
import Derived.Test.YtfjdooloikofoaaSyncL
namespace Go.Proofs.Ytfjdooloikofoaa.SyncA
open Go.RowKit Go.Shelf Go.Proofs.Ytfjdooloikofoaa.StampA Go.Proofs.Ytfjdooloikofoaa.Base
set_option linter.unusedVariables false
set_option linter.unusedSimpArgs false

theorem time_any (n : Int) (w : World) :
    Calls Try.prog 49 #[.int .i64 n] w fun e w' => e = .returned (.bool (decide (0 ≤ n ∧ n ≤ 1099511627776))) ∧ w = w' := by
  by_cases h : 0 ≤ n
  · by_cases h2 : n ≤ 1099511627776
    · go_enter Try.func49, Try.ntmps49
      go_wp2
      go_ret
      exact ⟨by simp [h, h2], rfl⟩
    · go_enter Try.func49, Try.ntmps49
      go_wp2
      go_ret
      exact ⟨by simp; omega, rfl⟩
  · go_enter Try.func49, Try.ntmps49
    go_wp2
    go_ret
    exact ⟨by simp; omega, rfl⟩

theorem rround_any (a1 a2 a3 a4 : Int) (w : World) (h1 : 0 ≤ a1 ∧ a1 ≤ 1099511627776) (h2 : 0 ≤ a2 ∧ a2 ≤ 1099511627776) (h3 : 0 ≤ a3 ∧ a3 ≤ 1099511627776) (h4 : 0 ≤ a4 ∧ a4 ≤ 1099511627776) :
    Calls Try.prog 50 #[.agg #[.int .i64 a1, .int .i64 a2, .int .i64 a3, .int .i64 a4]] w fun e w' => e = .returned (.int .i64 (a4 - a1 - (a3 - a2))) ∧ Below w.heap.size w w' := by
  go_enter Try.func50, Try.ntmps50
  go_wp2
  go_ret
  exact ⟨rfl, (Below.refl _ _).alloc (Nat.le_refl _) _⟩

theorem half_pos (n : Int) (h : 0 ≤ n) : n.tdiv 2 = n / 2 := Int.tdiv_eq_ediv_of_nonneg h
theorem tdiv_neg (n : Int) (h : n < 0) : n.tdiv 2 = -((-n) / 2) := by
  rw [← Int.tdiv_eq_ediv_of_nonneg (by omega), Int.neg_tdiv, Int.neg_neg]
theorem half_neg (n : Int) (h : n < 0) (h2 : ¬ n.tmod 2 = 0) : n.tdiv 2 - 1 = n / 2 := by
  have e := tdiv_neg n h
  rw [Int.tmod_def] at h2
  omega
theorem half_even (n : Int) (h2 : n.tmod 2 = 0) : n.tdiv 2 = n / 2 := by
  rw [Int.tmod_def] at h2
  omega

theorem roffset_any (a1 a2 a3 a4 : Int) (w : World) (h1 : 0 ≤ a1 ∧ a1 ≤ 1099511627776) (h2 : 0 ≤ a2 ∧ a2 ≤ 1099511627776) (h3 : 0 ≤ a3 ∧ a3 ≤ 1099511627776) (h4 : 0 ≤ a4 ∧ a4 ≤ 1099511627776) :
    Calls Try.prog 55 #[.agg #[.int .i64 a1, .int .i64 a2, .int .i64 a3, .int .i64 a4]] w fun e w' => e = .returned (.int .i64 ((a2 - a1 + (a3 - a4)) / 2)) ∧ Below w.heap.size w w' := by
  by_cases hneg : a2 - a1 + a3 - a4 < 0
  · by_cases ht : (a2 - a1 + a3 - a4).tmod 2 = 0
    · have hq := half_even _ ht
      rw [show a2 - a1 + (a3 - a4) = a2 - a1 + a3 - a4 by omega]
      go_enter Try.func55, Try.ntmps55
      go_wp2
      go_ret
      exact ⟨by first | rfl | (rw [hq]), (Below.refl _ _).alloc (Nat.le_refl _) _⟩
    · have hq := half_neg _ hneg ht
      rw [show a2 - a1 + (a3 - a4) = a2 - a1 + a3 - a4 by omega]
      go_enter Try.func55, Try.ntmps55
      go_wp2
      go_ret
      exact ⟨by first | rfl | (rw [hq]), (Below.refl _ _).alloc (Nat.le_refl _) _⟩
  · have hq := half_pos _ (by omega : 0 ≤ a2 - a1 + a3 - a4)
    rw [show a2 - a1 + (a3 - a4) = a2 - a1 + a3 - a4 by omega]
    go_enter Try.func55, Try.ntmps55
    go_wp2
    go_ret
    exact ⟨by first | rfl | (rw [hq]), (Below.refl _ _).alloc (Nat.le_refl _) _⟩

theorem rnew_bad (win : Int) (w : World) (hw : win < 1 ∨ 32 < win) :
    Calls Try.prog 32 #[.int .i64 win] w fun e w' => e = .returned (.tuple #[.pointer none, .int .i64 2]) ∧ w = w' := by
  by_cases h : win < 1
  · go_enter Try.func32, Try.ntmps32
    go_wp2
    go_ret2
    exact ⟨rfl, rfl⟩
  · have h2 : 32 < win := by omega
    go_enter Try.func32, Try.ntmps32
    go_wp2
    go_ret2
    exact ⟨rfl, rfl⟩

/-- The cells of a list of exchanges. -/
def flat : List TSw → List Value
  | [] => []
  | x :: r => .int .i64 x.1.t1 :: .int .i64 x.1.t2 :: .int .i64 x.1.t3 :: .int .i64 x.1.t4 :: flat r
theorem flat_len (l : List TSw) : (flat l).length = l.length * 4 := by
  induction l with
  | nil => rfl
  | cons x r ih => simp [flat, ih]; omega
theorem flat_app (l m : List TSw) : flat (l ++ m) = flat l ++ flat m := by
  induction l with
  | nil => rfl
  | cons x r ih => simp [flat, ih]
theorem flat_get (l : List TSw) : ∀ i (h : i < l.length), (flat l)[i * 4]? = some (.int .i64 (l[i]).1.t1) ∧ (flat l)[i * 4 + 1]? = some (.int .i64 (l[i]).1.t2) ∧ (flat l)[i * 4 + 2]? = some (.int .i64 (l[i]).1.t3) ∧ (flat l)[i * 4 + 3]? = some (.int .i64 (l[i]).1.t4) := by
  induction l with
  | nil => intro i h; simp at h
  | cons x r ih =>
    intro i h
    cases i with
    | zero => simp [flat]
    | succ i =>
      have := ih i (by simpa using h)
      rw [show (i + 1) * 4 = i * 4 + 1 + 1 + 1 + 1 by omega]
      simpa [flat] using this
theorem flat_one (l : List TSw) : ∀ u ∈ flat l, u.oneCell' = true := by
  induction l with
  | nil => intro u h; simp [flat] at h
  | cons x r ih =>
    intro u h
    simp [flat] at h
    rcases h with rfl | rfl | rfl | rfl | h
    · rfl
    · rfl
    · rfl
    · rfl
    · exact ih u h

/-- Block b is the reference's clock of that window with those exchanges; none of its memory is block av. -/
structure RK (w : World) (b av : Nat) (win : Int) (l : List TSw) : Prop where
  w1 : 1 ≤ win
  w2 : win ≤ 32
  len : (l.length : Int) ≤ win
  ex : (l = [] ∧ Blk w b #[.int .i64 win, .slice none 0 0] 78) ∨
    ∃ g off c, Blk w b #[.int .i64 win, .slice (some ⟨g, off, none⟩) l.length c] 78 ∧ l.length ≤ c ∧ 0 < l.length ∧ g ≠ b ∧ g ≠ av ∧ ∀ j u, (flat l)[j]? = some u → w.cell? ⟨g, off + j, none⟩ = some u

theorem rnew_ok (av : Nat) (win : Int) (w : World) (hw : 1 ≤ win) (hw2 : win ≤ 32) :
    Calls Try.prog 32 #[.int .i64 win] w fun e w' => e = .returned (.tuple #[.pointer (some ⟨w.heap.size, 0, none⟩), .int .i64 0]) ∧ RK w' w.heap.size av win [] ∧ Below w.heap.size w w' := by
  go_enter Try.func32, Try.ntmps32
  go_wp2
  go_ret2
  exact ⟨rfl, ⟨hw, hw2, by simp; omega, .inl ⟨rfl, Blk.new w _ _⟩⟩, (Below.refl _ _).alloc (Nat.le_refl _) _⟩

theorem rlen {w : World} {b av : Nat} {win : Int} {l : List TSw} (h : RK w b av win l) :
    Calls Try.prog 37 #[.pointer (some ⟨b, 0, none⟩)] w fun e w' => e = .returned (.int .i64 l.length) ∧ w = w' := by
  rcases h.ex with ⟨rfl, hb⟩ | ⟨g, off, c, hb, _⟩
  · have c1 := hb.cell 1
    simp at c1
    go_enter Try.func37, Try.ntmps37
    go_wp2
    go_ret
    exact ⟨rfl, rfl⟩
  · have c1 := hb.cell 1
    simp at c1
    go_enter Try.func37, Try.ntmps37
    go_wp2
    go_ret
    exact ⟨rfl, rfl⟩
theorem RK.keep {w w' : World} {b av : Nat} {win : Int} {l : List TSw} (h : RK w b av win l) (hb : Below w.heap.size w w') : RK w' b av win l := by
  refine ⟨h.w1, h.w2, h.len, ?_⟩
  rcases h.ex with ⟨rfl, hk⟩ | ⟨g, off, c, hk, h1, h2, h3, ha, h4⟩
  · exact .inl ⟨rfl, hk.keep hb⟩
  · refine .inr ⟨g, off, c, hk.keep hb, h1, h2, h3, ha, fun j u hj => ?_⟩
    have := h4 j u hj
    exact (hb.cell (World.block_lt_of_cell? w _ this)).trans this
theorem RK.but {w w' : World} {b av : Nat} {win : Int} {l : List TSw} (h : RK w b av win l) (hne : b ≠ av) (hb : But av w w') : RK w' b av win l := by
  refine ⟨h.w1, h.w2, h.len, ?_⟩
  rcases h.ex with ⟨rfl, hk⟩ | ⟨g, off, c, hk, h1, h2, h3, ha, h4⟩
  · exact .inl ⟨rfl, (hb.block b hk.lt hne).trans hk⟩
  · refine .inr ⟨g, off, c, (hb.block b hk.lt hne).trans hk, h1, h2, h3, ha, fun j u hj => ?_⟩
    have := h4 j u hj
    exact (World.cell?_of_block (w := w) (a := ⟨g, off + j, none⟩) (hb.block g (World.block_lt_of_cell? w _ this) ha)).trans this
theorem RK.lt {w : World} {b av : Nat} {win : Int} {l : List TSw} (h : RK w b av win l) : b < w.heap.size := by
  rcases h.ex with ⟨rfl, hk⟩ | ⟨g, off, c, hk, _⟩
  · exact hk.lt
  · exact hk.lt

end Go.Proofs.Ytfjdooloikofoaa.SyncA
