/- Strictly upper matrices: what terms and flows have in and below the diagonal. -/
import Derived.Test.YtkjbidpafnmogaaUpA
namespace Go.Proofs.Ytkjbidpafnmogaa.Base
open Go.RowKit Go
set_option linter.unusedVariables false
set_option linter.unusedSimpArgs false

theorem ix_dm {i k n : Nat} (h : k < n) : (i * n + k) / n = i ∧ (i * n + k) % n = k := by
  constructor
  · rw [Nat.mul_comm, Nat.mul_add_div (by omega), Nat.div_eq_of_lt h, Nat.add_zero]
  · rw [Nat.mul_comm, Nat.mul_add_mod, Nat.mod_eq_of_lt h]
theorem ix_in {i k n : Nat} (hi : i < n) (h : k < n) : i * n + k < n * n := by
  have : (i + 1) * n ≤ n * n := Nat.mul_le_mul_right n hi
  rw [Nat.succ_mul] at this
  omega
/-- The form of a square matrix. -/
structure Sh (n : Nat) (m : Mt) : Prop where
  r : m.r = n
  c : m.c = n
  l : m.v.length = n * n
theorem Sh.ix {n : Nat} {m : Mt} (h : Sh n m) (i k : Nat) : atM m i k = m.v.getD (i * n + k) 0 := by
  unfold atM
  rw [h.c, Int.toNat_natCast]
theorem made_sh (n : Nat) (f : Nat → Nat → Int × Bool) : Sh n (madeF n n f).1 := ⟨rfl, rfl, by simp [madeF]⟩
theorem made_at {n i k : Nat} (f : Nat → Nat → Int × Bool) (hi : i < n) (hk : k < n) : atM (madeF n n f).1 i k = (f i k).1 := by
  rw [(made_sh n f).ix]
  have hx := ix_in hi hk
  obtain ⟨e1, e2⟩ := ix_dm (i := i) hk
  unfold madeF
  rw [List.getD_eq_getElem?_getD, List.getElem?_map, List.getElem?_range hx, Option.map_some, Option.getD_some, e1, e2]
theorem each_sh {n : Nat} {a : Mt} (h : Sh n a) (f : Int → Int → Int × Bool) (b : Mt) : Sh n (eachM f a b).1 := by
  unfold eachM
  rw [h.r, h.c, Int.toNat_natCast]
  exact made_sh n _
theorem each_at {n i k : Nat} {a : Mt} (h : Sh n a) (f : Int → Int → Int × Bool) (b : Mt) (hi : i < n) (hk : k < n) : atM (eachM f a b).1 i k = (f (atM a i k) (atM b i k)).1 := by
  unfold eachM
  rw [h.r, h.c, Int.toNat_natCast]
  exact made_at _ hi hk
theorem mul_sh {n : Nat} {a b : Mt} (h : Sh n a) (h' : Sh n b) : Sh n (mulM a b).1 := by
  unfold mulM
  rw [h.r, h'.c, Int.toNat_natCast]
  exact made_sh n _
theorem row_at {zs : List Int} {n i j : Nat} (hj : j < n) : (rowL zs n i).getD j 0 = zs.getD (i * n + j) 0 := by
  unfold rowL
  rw [List.getD_eq_getElem?_getD, List.getD_eq_getElem?_getD, List.getElem?_take, if_pos hj, List.getElem?_drop]
theorem turn_at {n k j : Nat} {b : Mt} (h : Sh n b) (hk : k < n) (hj : j < n) : (turnM b).v.getD (k * n + j) 0 = atM b j k := by
  have hx := ix_in hk hj
  obtain ⟨e1, e2⟩ := ix_dm (i := k) hj
  unfold turnM madeM
  rw [h.r, h.c, Int.toNat_natCast, List.getD_eq_getElem?_getD, List.getElem?_map, List.getElem?_range hx, Option.map_some, Option.getD_some, e1, e2]
theorem mulF_0l (y : Int) : (mulF 0 y).1 = 0 := by
  unfold mulF opF
  show fitN (rndI (heldI 0 * heldI y) 4294967296) = 0
  rw [show heldI 0 = 0 by decide, Int.zero_mul]
  decide
theorem mulF_0r (y : Int) : (mulF y 0).1 = 0 := by
  unfold mulF opF
  show fitN (rndI (heldI y * heldI 0) 4294967296) = 0
  rw [show heldI 0 = 0 by decide, Int.mul_zero]
  decide
theorem addF_00 : (addF 0 0).1 = 0 := by decide
theorem addF_01 : (addF 0 4294967296).1 = 4294967296 := by decide
theorem fold_0 : ∀ (l : List (Int × Int)) (q : Int × Bool), q.1 = 0 → (∀ p ∈ l, p.1 = 0 ∨ p.2 = 0) → (l.foldl (fun q p => dotS q p.1 p.2) q).1 = 0
  | [], q, h, _ => h
  | p :: l, q, h, hl => by
    refine fold_0 l _ ?_ (fun x hx => hl x (List.mem_cons_of_mem _ hx))
    show (addF q.1 (mulF p.1 p.2).1).1 = 0
    have h0 : (mulF p.1 p.2).1 = 0 := by
      rcases hl p (by simp) with e | e
      · rw [e]; exact mulF_0l _
      · rw [e]; exact mulF_0r _
    rw [h, h0]; exact addF_00
theorem dot_0 {xs ys : List Int} (h : ∀ j, j < xs.length → j < ys.length → xs.getD j 0 = 0 ∨ ys.getD j 0 = 0) : (dotF xs ys).1 = 0 := by
  refine fold_0 _ _ rfl (fun p hp => ?_)
  obtain ⟨j, hj, rfl⟩ := List.getElem_of_mem hp
  rw [List.length_zip] at hj
  have h1 : j < xs.length := by omega
  have h2 : j < ys.length := by omega
  have := h j h1 h2
  rw [List.getD_eq_getElem?_getD, List.getD_eq_getElem?_getD, List.getElem?_eq_getElem h1, List.getElem?_eq_getElem h2] at this
  rw [List.getElem_zip]
  exact this
/-- Nought below the d-th diagonal. -/
def Off (n d : Nat) (m : Mt) : Prop := ∀ i k, i < n → k < n → k < i + d → atM m i k = 0
theorem off_mul {n d : Nat} {a b : Mt} (h : Sh n a) (h' : Sh n b) (ha : Off n d a) (hb : Off n 1 b) : Off n (d + 1) (mulM a b).1 := by
  intro i k hi hk hik
  unfold mulM
  rw [h.r, h'.c, Int.toNat_natCast, made_at _ hi hk, h.c, h'.r, Int.toNat_natCast]
  refine dot_0 (fun j hj1 hj2 => ?_)
  have hjn : j < n := by
    have : (rowL a.v n i).length ≤ n := by unfold rowL; rw [List.length_take]; omega
    omega
  rw [row_at hjn, row_at hjn, turn_at h' hk hjn, ← h.ix]
  by_cases e : j < i + d
  · exact .inl (ha i j hi hjn e)
  · exact .inr (hb j k hjn hk (by omega))
theorem divF_0 (b : Int) : (divF 0 b).1 = 0 := by
  unfold divF
  by_cases hb : b = 0
  · rw [if_pos hb, if_pos rfl]
  · rw [if_neg hb]
    have hh : heldI b ≠ 0 := by unfold heldI; split <;> omega
    show fitN (divI (heldI 0 * 4294967296) (heldI b)) = 0
    rw [show heldI 0 = 0 by decide, Int.zero_mul]
    generalize heldI b = d at hh
    have ha : 0 < absI d := by unfold absI; split <;> omega
    have hr : rheI 0 (absI d) = 0 := by
      generalize absI d = e at ha
      unfold rheI
      rw [Int.zero_ediv, Int.zero_emod, if_neg (by unfold nearP; omega)]
    have hd : divI 0 d = 0 := by
      unfold divI
      rw [show absI 0 = 0 by decide, hr]
      unfold sgnI
      split <;> rfl
    rw [hd]; decide
theorem divs_sh {n : Nat} {m : Mt} (h : Sh n m) (k : Int) : Sh n (divsM m k).1 := ⟨h.r, h.c, by show (m.v.map _).length = _; rw [List.length_map]; exact h.l⟩
theorem divs_at {n : Nat} {m : Mt} (h : Sh n m) (q : Int) (i k : Nat) (h0 : atM m i k = 0) : atM (divsM m q).1 i k = 0 := by
  rw [(divs_sh h q).ix]
  rw [h.ix] at h0
  show (m.v.map (dvw (wholeF q).1)).getD (i * n + k) 0 = 0
  generalize (wholeF q).1 = w
  rw [List.getD_eq_getElem?_getD, List.getElem?_map]
  rw [List.getD_eq_getElem?_getD] at h0
  generalize m.v[i * n + k]? = o at h0
  cases o with
  | none => rfl
  | some z =>
    have hz : z = 0 := h0
    subst hz
    exact divF_0 w
theorem eye_sh (n : Nat) : Sh n (eyeM n) := ⟨eyeM_r n, eyeM_c n, by simp [eyeM, diagM, madeM]⟩
theorem eye_at {n i k : Nat} (hi : i < n) (hk : k < n) : atM (eyeM n) i k = if i = k then 4294967296 else 0 := by
  rw [(eye_sh n).ix]
  have hx := ix_in hi hk
  obtain ⟨e1, e2⟩ := ix_dm (i := i) hk
  unfold eyeM diagM madeM
  rw [List.length_replicate, List.getD_eq_getElem?_getD, List.getElem?_map, List.getElem?_range hx, Option.map_some, Option.getD_some, e1, e2]
  dsimp only
  by_cases e : i = k
  · rw [if_pos e, if_pos e, List.getD_eq_getElem?_getD, List.getElem?_replicate, if_pos hi]; rfl
  · rw [if_neg e, if_neg e]
theorem term_off {n : Nat} {m : Mt} (h : Sh n m) (hm : Off n 1 m) : ∀ j, Sh n (termM m j).1 ∧ Off n j (termM m j).1
  | 0 => by
    have e : (termM m 0).1 = eyeM n := by show eyeM m.r.toNat = _; rw [h.r, Int.toNat_natCast]
    rw [e]
    refine ⟨eye_sh n, fun i k hi hk hik => ?_⟩
    rw [eye_at hi hk, if_neg (by omega)]
  | j + 1 => by
    obtain ⟨h1, h2⟩ := term_off h hm j
    have h3 := mul_sh h1 h
    have h4 := off_mul h1 h h2 hm
    exact ⟨divs_sh h3 _, fun i k hi hk hik => divs_at h3 _ i k (h4 i k hi hk hik)⟩
theorem times_0 (t : Int) : (timesL [0, t]).1 = 0 := by
  show (mulF (mulF 4294967296 0).1 t).1 = 0
  rw [mulF_0r, mulF_0l]
theorem times_r (x : Int) : (timesL [x, 0]).1 = 0 := mulF_0r _
theorem plus_00 : (plusL [0, 0]).1 = 0 := by
  show (addF (addF 0 0).1 0).1 = 0
  rw [addF_00, addF_00]
theorem plus_01 : (plusL [0, 4294967296]).1 = 4294967296 := by
  show (addF (addF 0 0).1 4294967296).1 = _
  rw [addF_00, addF_01]
theorem horn_off {n : Nat} {t : Int} : ∀ (l : List Mt), 0 < l.length → (∀ m ∈ l, Sh n m ∧ Off n 1 m) → Sh n (hornM t l).1 ∧ Off n 1 (hornM t l).1
  | [], h, _ => by simp at h
  | [m], _, h => h m (by simp)
  | m :: m' :: l, _, h => by
    obtain ⟨h1, h2⟩ := horn_off (t := t) (m' :: l) (by simp) (fun x hx => h x (List.mem_cons_of_mem _ hx))
    obtain ⟨h3, h4⟩ := h m (by simp)
    rw [hornM_cons t m (by simp)]
    have s1 := each_sh h1 (fun x _ => timesL [x, t]) (hornM t (m' :: l)).1
    refine ⟨(show Sh n (sumM (scaleM (hornM t (m' :: l)).1 t).1 m).1 from each_sh s1 _ _), fun i k hi hk hik => ?_⟩
    show atM (eachM (fun x y => plusL [x, y]) (eachM (fun x _ => timesL [x, t]) (hornM t (m' :: l)).1 (hornM t (m' :: l)).1).1 m).1 i k = 0
    rw [each_at s1 _ _ hi hk, each_at h1 _ _ hi hk, h2 i k hi hk hik, h4 i k hi hk hik, times_0, plus_00]
/-- The eye ahead of strictly upper ones. -/
theorem horn_eye {n : Nat} (t : Int) (l : List Mt) (h : ∀ m ∈ l, Sh n m ∧ Off n 1 m) : Sh n (hornM t (eyeM n :: l)).1 ∧ ∀ i k, i < n → k < n → (k ≤ i ∨ t = 0) → atM (hornM t (eyeM n :: l)).1 i k = atM (eyeM n) i k := by
  cases l with
  | nil => exact ⟨eye_sh n, fun _ _ _ _ _ => rfl⟩
  | cons m l =>
    obtain ⟨h1, h2⟩ := horn_off (t := t) (m :: l) (by simp) h
    rw [hornM_cons t _ (by simp)]
    have s1 := each_sh h1 (fun x _ => timesL [x, t]) (hornM t (m :: l)).1
    refine ⟨(show Sh n (sumM (scaleM (hornM t (m :: l)).1 t).1 (eyeM n)).1 from each_sh s1 _ _), fun i k hi hk hik => ?_⟩
    show atM (eachM (fun x y => plusL [x, y]) (eachM (fun x _ => timesL [x, t]) (hornM t (m :: l)).1 (hornM t (m :: l)).1).1 (eyeM n)).1 i k = _
    rw [each_at s1 _ _ hi hk, each_at h1 _ _ hi hk]
    have hz : (timesL [atM (hornM t (m :: l)).1 i k, t]).1 = 0 := by
      rcases hik with e | e
      · rw [h2 i k hi hk (by omega), times_0]
      · rw [e, times_r]
    rw [hz, eye_at hi hk]
    split
    · exact plus_01
    · exact plus_00
theorem sh_ext {n : Nat} {a b : Mt} (h : Sh n a) (h' : Sh n b) (he : ∀ i k, i < n → k < n → atM a i k = atM b i k) : a = b := by
  obtain ⟨r, c, v⟩ := a
  obtain ⟨r', c', v'⟩ := b
  have hv : v = v' := by
    refine List.ext_getElem (h.l.trans h'.l.symm) fun x hx hx' => ?_
    have hxn : x < n * n := by have h8 : v.length = n * n := h.l; have h9 : x < v.length := hx; omega
    have hn : 0 < n := by rcases Nat.eq_zero_or_pos n with e | e; subst e; simp at hxn; exact e
    have h1 : x / n < n := Nat.div_lt_of_lt_mul hxn
    have h2 := Nat.mod_lt x hn
    have h3 := he _ _ h1 h2
    rw [h.ix, h'.ix, Nat.mul_comm, Nat.div_add_mod] at h3
    simpa [List.getD_eq_getElem?_getD, hx, hx'] using h3
  have hr := h.r.trans h'.r.symm
  have hc := h.c.trans h'.c.symm
  dsimp only at hr hc
  subst hv hr hc
  rfl
theorem flow_law {n : Nat} {m : Mt} (h : Sh n m) (hn : 1 ≤ n) (hm : Off n 1 m) (t : Int) : Sh n (flowM m t).1 ∧ ∀ i k, i < n → k < n → (k ≤ i ∨ t = 0) → atM (flowM m t).1 i k = atM (eyeM n) i k := by
  obtain ⟨q, rfl⟩ : ∃ q, n = q + 1 := ⟨n - 1, by omega⟩
  have e : termsL m m.r.toNat = eyeM (q + 1) :: (List.range q).map fun i => (termM m (i + 1)).1 := by
    rw [h.r, Int.toNat_natCast]
    unfold termsL
    rw [List.range_succ_eq_map, List.map_cons, List.map_map]
    show eyeM m.r.toNat :: _ = _
    rw [h.r, Int.toNat_natCast]
    rfl
  unfold flowM
  show Sh _ (hornM t (termsL m m.r.toNat)).1 ∧ _
  rw [e]
  refine horn_eye t _ (fun p hp => ?_)
  obtain ⟨i, _, rfl⟩ := List.mem_map.1 hp
  obtain ⟨h1, h2⟩ := term_off h hm (i + 1)
  exact ⟨h1, fun a b ha hb hab => h2 a b ha hb (by omega)⟩
theorem flow_nought {n : Nat} {m : Mt} (h : Sh n m) (hn : 1 ≤ n) (hm : Off n 1 m) : (flowM m 0).1 = eyeM n := by
  obtain ⟨h1, h2⟩ := flow_law h hn hm 0
  exact sh_ext h1 (eye_sh n) (fun i k hi hk => h2 i k hi hk (.inr rfl))
theorem off_up {n d : Nat} {m : Mt} (h : Sh n m) (h1 : 1 ≤ n) (h2 : n ≤ 12) (hd : 1 ≤ d) (ho : Off n d m) : upM m := by
  obtain ⟨hr, hc, hl⟩ := h
  refine ⟨⟨⟨⟨?_, ?_⟩, ⟨?_, ?_⟩, ?_⟩, hr.trans hc.symm⟩, fun j hj hle => ?_⟩
  · omega
  · omega
  · omega
  · omega
  · rw [hr, hc, hl, Int.natCast_mul]
  · rw [hc, Int.toNat_natCast] at hle
    have hjn : j < n * n := by omega
    have h3 : j / n < n := Nat.div_lt_of_lt_mul hjn
    have h4 := Nat.mod_lt j (show n > 0 by omega)
    have h5 := ho _ _ h3 h4 (by omega)
    rw [(⟨hr, hc, hl⟩ : Sh n m).ix, Nat.mul_comm, Nat.div_add_mod] at h5
    exact h5
theorem off_zero {n d : Nat} {m : Mt} (h : Sh n m) (hd : n ≤ d) (ho : Off n d m) : ∀ x, x < n * n → m.v.getD x 0 = 0 := by
  intro x hx
  have hn : 0 < n := by rcases Nat.eq_zero_or_pos n with e | e; subst e; simp at hx; exact e
  have h3 : x / n < n := Nat.div_lt_of_lt_mul hx
  have h4 := Nat.mod_lt x hn
  have h5 := ho _ _ h3 h4 (Nat.lt_of_lt_of_le (Nat.lt_of_lt_of_le h4 hd) (Nat.le_add_left _ _))
  rwa [h.ix, Nat.mul_comm, Nat.div_add_mod] at h5
theorem UpV.off {n : Nat} {most : Int} {vs : List Int} (h : UpV n most vs) : Sh n ⟨n, n, vs⟩ ∧ Off n 1 ⟨n, n, vs⟩ := by
  have hs : Sh n ⟨n, n, vs⟩ := ⟨rfl, rfl, h.1⟩
  refine ⟨hs, fun i k hi hk hik => ?_⟩
  have hx := ix_in hi hk
  obtain ⟨e1, e2⟩ := ix_dm (i := i) hk
  have hxl : i * n + k < vs.length := by rw [h.1]; exact hx
  rw [hs.ix]
  show vs.getD (i * n + k) 0 = 0
  rw [List.getD_eq_getElem?_getD, List.getElem?_eq_getElem hxl, Option.getD_some]
  exact (h.2 _ hxl).1 (by rw [e1, e2]; omega)

end Go.Proofs.Ytkjbidpafnmogaa.Base
