/- ModelFits: the plain law; Pick. -/
import Derived.Test.YtagakcnhhhlolaaL10C
import Derived.Maps.AppendAt
namespace Go.Proofs.Ytagakcnhhhlolaa.Base
open Go.RowKit
set_option linter.unusedVariables false
set_option linter.unusedSimpArgs false

/-- What Pick yields. -/
def pickV (x n : Int) : Int := if x.tmod n < 0 then x.tmod n + n else x.tmod n
theorem pickV_in {x n : Int} (hn : 0 < n) : 0 ≤ pickV x n ∧ pickV x n < n := by
  unfold pickV
  have h1 := Int.lt_tmod_of_pos x hn
  have h2 := Int.tmod_lt_of_pos x hn
  split <;> omega
theorem pick_is (w : World) (x n : Int) (hn : 0 < n) (hn2 : n ≤ 1000000) : Calls Try.prog 31 #[.int .i64 x, .int .i64 n] w fun e w' => e = .returned (.int .i64 (pickV x n)) ∧ w' = w := by
  have h1 := Int.lt_tmod_of_pos x hn
  have h2 := Int.tmod_lt_of_pos x hn
  have hw : IntKind.i64.wrap (x.tmod n) = x.tmod n := IntWalk.i64_in _ (by omega)
  have hn0 : ¬ n ≤ 0 := by omega
  have hnz : ¬ n = 0 := by omega
  by_cases hneg : x.tmod n < 0
  · have HP := Lib.hid (show pickV x n = x.tmod n + n by unfold pickV; rw [if_pos hneg])
    have hw2 : IntKind.i64.wrap (x.tmod n + n) = x.tmod n + n := IntWalk.i64_in _ (by omega)
    go_enter Try.func31, Try.ntmps31
    go_wp2_with fail
    go_ret
    exact ⟨by rw [HP.out]; rfl, rfl⟩
  · have HP := Lib.hid (show pickV x n = x.tmod n by unfold pickV; rw [if_neg hneg])
    go_enter Try.func31, Try.ntmps31
    go_wp2_with fail
    go_ret
    exact ⟨by rw [HP.out]; rfl, rfl⟩

theorem fits_long {M : Mdl} {b : Blf} (h : fitsV M b = 0) : fitsV M { b with X := b.X ++ [0] } = 3 := by
  obtain ⟨h1, h2, h3, h4⟩ := fitsV_iff.1 h
  exact fitsV_3 h1 fun h5 => by have := h5.x; have := h2.x; simp at *; omega
theorem fits_short {M : Mdl} {b : Blf} (h : fitsV M b = 0) (hp : 0 < b.P.length) : fitsV M { b with P := b.P.drop 1 } = 3 := by
  obtain ⟨h1, h2, h3, h4⟩ := fitsV_iff.1 h
  exact fitsV_3 h1 fun h5 => by have := h5.p; have := h2.p; simp at *; omega
/-- One of P, changed. -/
def oddV (z : Int) : Int := if z < 1 then 7 else z - 1
theorem ij_eq {n i j i' j' : Nat} (hj : j < n) (hj' : j' < n) (h : i * n + j = i' * n + j') : i = i' ∧ j = j' := by
  have e1 : (i * n + j) / n = i := by rw [Nat.mul_comm, Nat.mul_add_div (by omega), Nat.div_eq_of_lt hj]; rfl
  have e2 : (i' * n + j') / n = i' := by rw [Nat.mul_comm, Nat.mul_add_div (by omega), Nat.div_eq_of_lt hj']; rfl
  have : i = i' := by rw [← e1, ← e2, h]
  subst this
  exact ⟨rfl, by omega⟩
theorem getD_set {P : List Int} {k : Nat} (z : Int) (a : Nat) (hk : k < P.length) : (P.set k z).getD a 0 = if k = a then z else P.getD a 0 := by
  simp only [List.getD_eq_getElem?_getD, List.getElem?_set]
  split
  · subst_vars; simp [hk]
  · rfl
theorem fits_odd {M : Mdl} {b : Blf} {n i j : Nat} (h : fitsV M b = 0) (hn : M.n = n) (hi : i < n) (hj : j < n) :
    fitsV M { b with P := b.P.set (i * n + j) (oddV (b.P.getD (i * n + j) 0)) } = if i = j then 0 else 5 := by
  obtain ⟨h1, h2, h3, h4⟩ := fitsV_iff.1 h
  have hnn : M.n.toNat = n := by omega
  rw [hnn] at h4
  have hlp : b.P.length = n * n := by have := h2.p; rw [hn] at this; exact_mod_cast this
  have hk : i * n + j < b.P.length := by rw [hlp]; exact ij_lt hi hj
  have hz : oddV (b.P.getD (i * n + j) 0) ≠ lowest ∧ 0 ≤ oddV (b.P.getD (i * n + j) 0) ∧ oddV (b.P.getD (i * n + j) 0) ≠ b.P.getD (i * n + j) 0 := by
    unfold oddV lowest; split <;> omega
  have hL : okBL M { b with P := b.P.set (i * n + j) (oddV (b.P.getD (i * n + j) 0)) } := ⟨h2.x, by simpa using h2.p⟩
  have hT : okBT { b with P := b.P.set (i * n + j) (oddV (b.P.getD (i * n + j) 0)) } := ⟨h3.t, h3.p, h3.f⟩
  by_cases e : i = j
  · subst e
    rw [if_pos rfl]
    refine fitsV_0 h1 hL hT ?_
    rw [hnn]
    intro a ha
    have g := h4 a ha
    refine ⟨g.1, ?_, fun c hc => ⟨?_, ?_⟩⟩
    · rw [getD_set _ _ hk]; split
      · exact hz.2.1
      · exact g.2.1
    · rw [getD_set _ _ hk]; split
      · exact hz.1
      · exact (g.2.2 c hc).1
    · rw [getD_set _ _ hk, getD_set _ _ hk]
      by_cases e1 : i * n + i = a * n + c
      · obtain ⟨e2, e3⟩ := ij_eq hi hc e1
        subst e2 e3
        rfl
      · rw [if_neg e1, if_neg (fun e4 => e1 (by obtain ⟨e2, e3⟩ := ij_eq hi ha e4; subst e2 e3; rfl))]
        exact (g.2.2 c hc).2
  · rw [if_neg e]
    refine fitsV_5 h1 hL hT ?_
    rw [hnn]
    intro h5
    have := ((h5 i hi).2.2 j hj).2
    rw [getD_set _ _ hk, getD_set _ _ hk, if_pos rfl, if_neg (fun e4 => e (by obtain ⟨e2, e3⟩ := ij_eq hj hi e4; exact e2))] at this
    exact hz.2.2 (this.trans ((h4 i hi).2.2 j hj).2.symm)

/-- A slice's last but the first. -/
theorem MI.tail {B : Nat} {W : World} {g c : Nat} {zs : List Int} (h : MI B W (some ⟨g, 0, none⟩) c zs) (h1 : 1 ≤ zs.length) : MI B W (some ⟨g, 1, none⟩) (c - 1) (zs.drop 1) := by
  refine ⟨fun k hk => ⟨_, rfl, ?_⟩, fun z hz => h.rng z (List.mem_of_mem_drop hz), by have := h.len; simp; omega, fun x hx _ => ?_, fun h => (by cases h), (by have := h.cap; simp; omega)⟩
  · have hk' : k + 1 < zs.length := by simp at hk; omega
    obtain ⟨x, hx, hc⟩ := h.cell (k + 1) hk'
    cases hx
    rw [Addr.add_lit] at hc ⊢
    have e1 : (1 + k : Nat) = 0 + (k + 1) := by omega
    rw [e1, hc]
    simp [Nat.add_comm]
  · cases hx; exact h.lo ⟨g, 0, none⟩ rfl (by omega)

/-- 'append(zs, z)', zs one's own, in one way. -/
theorem app_int {ops : Array Oper} {rest : List Oper} {o : Oper} {a : Act} {Q : Exit → Act → World → Prop} {w : World} {B g c e1 : Nat} {zs : List Int} {z : Int}
    (hg : o.guard = none) (s x : Operand) (hop : o.op = Op.call { callee := Callee.builtin Builtin.append, args := #[s, x], argTypes := #[22, 22] })
    (h : OI B w g c zs) (n : Nat) (hn : zs.length = n) (hs : a.eval s = .slice (some ⟨g, 0, none⟩) n c) (hB : B ≤ w.heap.size) (hx : a.eval x = .slice (some ⟨e1, 0, none⟩) 1 1) (he : Blk w e1 #[.int .i64 z] 3) (hz : I64 z) (hlen : n ≤ 100000)
    (hK : ∀ g' c' w', OI B w' g' c' (zs ++ [z]) → w.grownBy w' (some g) → (g' = g ∨ g' = w.heap.size) → wpList Try.prog ops Q rest (a.put o.dst (.slice (some ⟨g', 0, none⟩) (n + 1) c')) w') :
    wpList Try.prog ops Q (o :: rest) a w := by
  subst hn
  obtain ⟨i0, hi, hz0, hz1, hz2⟩ : ∃ i, Try.prog.info? 3 = some i ∧ i.zero = some (.int .i64 0) ∧ i.size = 1 ∧ i.bytes = 8 := info_parts (by kernel_rfl)
  obtain ⟨cur, hb, hsz, hcur⟩ := h.ex
  have hE : w.ownsRow B 3 1 (.slice (some ⟨g, 0, none⟩) zs.length c) zs.length (zs.map fun z => Value.int .i64 z) := by
    refine ⟨by simp, .inr ⟨g, c, cur, rfl, h.lo, hb, h.fit, h.len, by omega, ?_⟩⟩
    have hf := h.fit
    apply List.ext_getElem
    · simp; omega
    · intro j h1 h2
      have hj : j < zs.length := by simpa using h2
      have := hcur j hj
      rw [Array.getElem?_eq_some_iff] at this
      obtain ⟨_, this⟩ := this
      simp [this]
  refine wpList_append_own_at w hg s x 22 hop B 3 i0 _ 1 8 Try.underlying22 hi hz0 hz1 hz2 rfl (by decide) _ zs.length _ hs hE ⟨e1, 0, none⟩ 1 1 [.int .i64 z] hx rfl (fun j u hj => ?_) (fun u hu => ?_) (by unfold maxLen; omega) (by omega) hB ?_
  · rw [Addr.add_lit, Nat.zero_add, he.cell]
    simpa using hj
  · simp at hu; rw [hu]; rfl
  · intro v' w' ho hgr _ hat
    have ho2 : w'.ownsRow B 3 1 v' (zs ++ [z]).length ((zs ++ [z]).map fun z => Value.int .i64 z) := by simpa using ho
    obtain ⟨g', cap, rfl⟩ := Joins.ownsRow_form ho2 (by simp)
    obtain ⟨hO, _⟩ := OI.of_row (v := .slice none 0 0) ho2 (by intro u hu; rcases List.mem_append.1 hu with hu | hu; exact h.rng u hu; rw [List.mem_singleton.1 hu]; exact hz)
    have hdis : g' = g ∨ g' = w.heap.size := by simpa [Value.ownBlock] using hat
    have := hK g' cap w' hO hgr hdis
    rwa [← show (zs ++ [z]).length = zs.length + 1 by simp] at this

end Go.Proofs.Ytagakcnhhhlolaa.Base
