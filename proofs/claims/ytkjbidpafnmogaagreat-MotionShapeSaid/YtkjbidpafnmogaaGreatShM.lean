/- Exact reckoning with halves and wholes; 2x2 matrices. Strictly upper matrices: what terms and flows have in and below the diagonal. What a noise and a flow look like: symmetric; nothing in no ticks. -/
import Derived.Test.YtkjbidpafnmogaaGreatMotI
import Derived.Test.YtkjbidpafnmogaaGreatPolM
namespace Go.Proofs.YtkjbidpafnmogaaGreat.Base
open Go.RowKit Go
set_option linter.unusedVariables false
set_option linter.unusedSimpArgs false

theorem rhe_whole {a : Int} (h : 0 ≤ a) : rheI (a * 4294967296) 4294967296 = a := by
  have h1 : a * 4294967296 / 4294967296 = a := Int.mul_ediv_cancel a (by decide)
  have h2 : a * 4294967296 % 4294967296 = 0 := Int.mul_emod_left a _
  unfold rheI
  rw [h1, h2, if_neg (by unfold nearP; simp)]
theorem rnd_whole (a : Int) : rndI (a * 4294967296) 4294967296 = a := by
  unfold rndI absI
  by_cases h : a * 4294967296 < 0
  · rw [if_pos h, if_pos h, show -(a * 4294967296) = (-a) * 4294967296 by omega, rhe_whole (by omega)]; omega
  · rw [if_neg h, if_neg h, rhe_whole (by omega)]
theorem held_in {a : Int} (h : -9223372036854775807 ≤ a) : heldI a = a ∧ oddI a = false := by
  unfold heldI oddI
  rw [if_neg (by omega)]
  exact ⟨rfl, decide_eq_false (by omega)⟩
theorem fit_in {a : Int} (h : Fx a) : fitN a = a ∧ fitC a = false := by
  unfold Fx at h
  unfold fitN fitC
  rw [if_neg (by omega), if_neg (by omega), decide_eq_false (by omega), decide_eq_false (by omega)]
  exact ⟨rfl, rfl⟩
theorem op_in {g : Int → Int → Int} {a b v : Int} (ha : -9223372036854775807 ≤ a) (hb : -9223372036854775807 ≤ b) (hv : g a b = v) (h : Fx v) : opF g a b = (v, false) := by
  unfold opF
  rw [(held_in ha).1, (held_in hb).1, (held_in ha).2, (held_in hb).2, hv, (fit_in h).1, (fit_in h).2]
  rfl
theorem mul_ex {x y v : Int} (hx : Fx x) (hy : Fx y) (h : x * y = v * 4294967296) (hv : Fx v) : mulF x y = (v, false) := by
  unfold Fx at hx hy
  refine op_in hx.1 hy.1 ?_ hv
  show rndI (x * y) 4294967296 = v
  rw [h]; exact rnd_whole v
theorem add_ex {x y : Int} (hx : Fx x) (hy : Fx y) (hv : Fx (x + y)) : addF x y = (x + y, false) := by
  unfold Fx at hx hy
  exact op_in hx.1 hy.1 rfl hv
theorem fx0 : Fx 0 := by unfold Fx; omega
theorem fx1 : Fx 4294967296 := by unfold Fx; omega
theorem mul1l {y : Int} (h : Fx y) : mulF 4294967296 y = (y, false) := mul_ex fx1 h (Int.mul_comm _ _) h
theorem mul1r {y : Int} (h : Fx y) : mulF y 4294967296 = (y, false) := mul_ex h fx1 rfl h
theorem mul0l {y : Int} (h : Fx y) : mulF 0 y = (0, false) := mul_ex fx0 h (by rw [Int.zero_mul, Int.zero_mul]) fx0
theorem mul0r {y : Int} (h : Fx y) : mulF y 0 = (0, false) := mul_ex h fx0 (by rw [Int.mul_zero, Int.zero_mul]) fx0
theorem add0l {y : Int} (h : Fx y) : addF 0 y = (y, false) := by
  have := add_ex fx0 h (by rw [Int.zero_add]; exact h)
  rwa [Int.zero_add] at this
theorem divI_ex {v d : Int} (hd : 0 < d) : divI (v * d) d = v := by
  have hd' : ¬ d < 0 := by omega
  have hr : ∀ u : Int, 0 ≤ u → rheI (u * d) d = u := fun u hu => by
    unfold rheI
    rw [Int.mul_ediv_cancel u (by omega), Int.mul_emod_left, if_neg (by unfold nearP; omega)]
  unfold divI sgnI absI
  rw [if_neg hd', decide_eq_false hd']
  by_cases hv : v < 0
  · have h1 : v * d < 0 := Int.mul_neg_of_neg_of_pos hv hd
    rw [if_pos h1, decide_eq_true h1, ← Int.neg_mul, hr (-v) (by omega)]
    simp
  · have h1 : ¬ v * d < 0 := by have := Int.mul_nonneg (show 0 ≤ v by omega) (show 0 ≤ d by omega); omega
    rw [if_neg h1, decide_eq_false h1, hr v (by omega)]
    simp
theorem div_ex {z v k : Int} (hk : 0 < k) (fz : Fx z) (fw : Fx (k * 4294967296)) (h : z = v * k) (fv : Fx v) : divF z (k * 4294967296) = (v, false) := by
  unfold divF
  rw [if_neg (by omega)]
  unfold Fx at fz fw
  refine op_in fz.1 fw.1 ?_ fv
  show divI (z * 4294967296) (k * 4294967296) = v
  rw [h, Int.mul_assoc]
  exact divI_ex (by omega)
theorem abs_mul {a b : Int} {n m : Nat} (h1 : a.natAbs ≤ n) (h2 : b.natAbs ≤ m) : (a * b).natAbs ≤ n * m := by rw [Int.natAbs_mul]; exact Nat.mul_le_mul h1 h2
/-- Small: a billion. -/
def Sm (a : Int) : Prop := a.natAbs ≤ 1000000000
theorem fxw {a : Int} (h : Sm a) : Fx (a * 4294967296) := by unfold Sm at h; unfold Fx; omega
theorem fxh {a : Int} (h : Sm a) : Fx (a * 2147483648) := by unfold Sm at h; unfold Fx; omega
theorem mul_hw {a b : Int} (ha : Sm a) (hb : Sm b) (h : Sm (a * b)) : mulF (a * 2147483648) (b * 4294967296) = (a * b * 2147483648, false) := by
  refine mul_ex (fxh ha) (fxw hb) ?_ (fxh h)
  simp only [Int.mul_assoc, Int.mul_left_comm, Int.mul_comm]
theorem mul_wh {a b : Int} (ha : Sm a) (hb : Sm b) (h : Sm (a * b)) : mulF (a * 4294967296) (b * 2147483648) = (a * b * 2147483648, false) := by
  refine mul_ex (fxw ha) (fxh hb) ?_ (fxh h)
  simp only [Int.mul_assoc, Int.mul_left_comm, Int.mul_comm]
def G (a b c d : Int) : Mt := ⟨2, 2, [a, b, c, d]⟩
set_option maxHeartbeats 2000000 in
theorem mul_g {a b c d a' b' c' d' p1 p2 p3 p4 p5 p6 p7 p8 : Int} (h1 : mulF a a' = (p1, false)) (h2 : mulF b c' = (p2, false)) (h3 : mulF a b' = (p3, false)) (h4 : mulF b d' = (p4, false)) (h5 : mulF c a' = (p5, false)) (h6 : mulF d c' = (p6, false)) (h7 : mulF c b' = (p7, false)) (h8 : mulF d d' = (p8, false))
    (f1 : Fx p1) (f2 : Fx p2) (f3 : Fx p3) (f4 : Fx p4) (f5 : Fx p5) (f6 : Fx p6) (f7 : Fx p7) (f8 : Fx p8) (g1 : Fx (p1 + p2)) (g2 : Fx (p3 + p4)) (g3 : Fx (p5 + p6)) (g4 : Fx (p7 + p8)) :
    mulM (G a b c d) (G a' b' c' d') = (G (p1 + p2) (p3 + p4) (p5 + p6) (p7 + p8), false) := by
  have e1 := add_ex f1 f2 g1
  have e2 := add_ex f3 f4 g2
  have e3 := add_ex f5 f6 g3
  have e4 := add_ex f7 f8 g4
  simp [mulM, madeF, G, List.range_succ, rowL, turnM, madeM, atM, dotF, dotS, h1, h2, h3, h4, h5, h6, h7, h8, add0l, f1, f3, f5, f7, e1, e2, e3, e4]
theorem sum_g {a b c d a' b' c' d' : Int} (f1 : Fx a) (f2 : Fx b) (f3 : Fx c) (f4 : Fx d) (f1' : Fx a') (f2' : Fx b') (f3' : Fx c') (f4' : Fx d') (g1 : Fx (a + a')) (g2 : Fx (b + b')) (g3 : Fx (c + c')) (g4 : Fx (d + d')) :
    sumM (G a b c d) (G a' b' c' d') = (G (a + a') (b + b') (c + c') (d + d'), false) := by
  have e1 := add_ex f1 f1' g1
  have e2 := add_ex f2 f2' g2
  have e3 := add_ex f3 f3' g3
  have e4 := add_ex f4 f4' g4
  simp [sumM, eachM, madeF, G, List.range_succ, atM, plusL, foldF, add0l, f1, f2, f3, f4, e1, e2, e3, e4]
theorem scale_g {a b c d t x y z w : Int} (f1 : Fx a) (f2 : Fx b) (f3 : Fx c) (f4 : Fx d) (h1 : mulF a t = (x, false)) (h2 : mulF b t = (y, false)) (h3 : mulF c t = (z, false)) (h4 : mulF d t = (w, false)) : scaleM (G a b c d) t = (G x y z w, false) := by
  simp [scaleM, eachM, madeF, G, List.range_succ, atM, timesL, foldF, mul1l, f1, f2, f3, f4, h1, h2, h3, h4]
theorem turn_g (a b c d : Int) : turnM (G a b c d) = G a c b d := by
  simp [turnM, madeM, G, List.range_succ, atM]
theorem divs_g {a b c d k w x y z u : Int} (hw : wholeF k = (w, false)) (h1 : divF a w = (x, false)) (h2 : divF b w = (y, false)) (h3 : divF c w = (z, false)) (h4 : divF d w = (u, false)) : divsM (G a b c d) k = (G x y z u, false) := by
  simp [divsM, G, dvw, flw, hw, h1, h2, h3, h4]
theorem whole_t {t : Int} (h : Sm t) : wholeF t = (t * 4294967296, false) := by
  have f := fxw h
  unfold wholeF
  rw [(fit_in f).1, (fit_in f).2]
theorem span_t {t : Int} (h : Sm t) : spanM 4294967296 t = (t * 4294967296, false) := by
  have f := fxw h
  unfold spanM
  rw [whole_t h]
  simp [timesL, foldF, mul1l, mul1r, f]

end Go.Proofs.YtkjbidpafnmogaaGreat.Base
namespace Go.Proofs.YtkjbidpafnmogaaGreat.Base
open Go.RowKit Go
set_option linter.unusedVariables false
set_option linter.unusedSimpArgs false

theorem ix_dm {i k n : Nat} (h : k < n) : (i * n + k) / n = i ∧ (i * n + k) % n = k := by
  constructor
  · rw [Nat.mul_comm, Nat.mul_add_div (by omega), Nat.div_eq_of_lt h, Nat.add_zero]
  · rw [Nat.mul_comm, Nat.mul_add_mod, Nat.mod_eq_of_lt h]
theorem ix_in {i k n : Nat} (hi : i < n) (h : k < n) : i * n + k < n * n := by
  have : (i + 1) * n ≤ n * n := Nat.mul_le_mul_right n hi
  rw [Nat.succ_mul] at this
  omega
/-- The form of a square matrix. -/
structure Sh (n : Nat) (m : Mt) : Prop where
  r : m.r = n
  c : m.c = n
  l : m.v.length = n * n
theorem Sh.ix {n : Nat} {m : Mt} (h : Sh n m) (i k : Nat) : atM m i k = m.v.getD (i * n + k) 0 := by
  unfold atM
  rw [h.c, Int.toNat_natCast]
theorem made_sh (n : Nat) (f : Nat → Nat → Int × Bool) : Sh n (madeF n n f).1 := ⟨rfl, rfl, by simp [madeF]⟩
theorem made_at {n i k : Nat} (f : Nat → Nat → Int × Bool) (hi : i < n) (hk : k < n) : atM (madeF n n f).1 i k = (f i k).1 := by
  rw [(made_sh n f).ix]
  have hx := ix_in hi hk
  obtain ⟨e1, e2⟩ := ix_dm (i := i) hk
  unfold madeF
  rw [List.getD_eq_getElem?_getD, List.getElem?_map, List.getElem?_range hx, Option.map_some, Option.getD_some, e1, e2]
theorem each_sh {n : Nat} {a : Mt} (h : Sh n a) (f : Int → Int → Int × Bool) (b : Mt) : Sh n (eachM f a b).1 := by
  unfold eachM
  rw [h.r, h.c, Int.toNat_natCast]
  exact made_sh n _
theorem each_at {n i k : Nat} {a : Mt} (h : Sh n a) (f : Int → Int → Int × Bool) (b : Mt) (hi : i < n) (hk : k < n) : atM (eachM f a b).1 i k = (f (atM a i k) (atM b i k)).1 := by
  unfold eachM
  rw [h.r, h.c, Int.toNat_natCast]
  exact made_at _ hi hk
theorem mul_sh {n : Nat} {a b : Mt} (h : Sh n a) (h' : Sh n b) : Sh n (mulM a b).1 := by
  unfold mulM
  rw [h.r, h'.c, Int.toNat_natCast]
  exact made_sh n _
theorem row_at {zs : List Int} {n i j : Nat} (hj : j < n) : (rowL zs n i).getD j 0 = zs.getD (i * n + j) 0 := by
  unfold rowL
  rw [List.getD_eq_getElem?_getD, List.getD_eq_getElem?_getD, List.getElem?_take, if_pos hj, List.getElem?_drop]
theorem turn_at {n k j : Nat} {b : Mt} (h : Sh n b) (hk : k < n) (hj : j < n) : (turnM b).v.getD (k * n + j) 0 = atM b j k := by
  have hx := ix_in hk hj
  obtain ⟨e1, e2⟩ := ix_dm (i := k) hj
  unfold turnM madeM
  rw [h.r, h.c, Int.toNat_natCast, List.getD_eq_getElem?_getD, List.getElem?_map, List.getElem?_range hx, Option.map_some, Option.getD_some, e1, e2]
theorem mulF_0l (y : Int) : (mulF 0 y).1 = 0 := by
  unfold mulF opF
  show fitN (rndI (heldI 0 * heldI y) 4294967296) = 0
  rw [show heldI 0 = 0 by decide, Int.zero_mul]
  decide
theorem mulF_0r (y : Int) : (mulF y 0).1 = 0 := by
  unfold mulF opF
  show fitN (rndI (heldI y * heldI 0) 4294967296) = 0
  rw [show heldI 0 = 0 by decide, Int.mul_zero]
  decide
theorem addF_00 : (addF 0 0).1 = 0 := by decide
theorem addF_01 : (addF 0 4294967296).1 = 4294967296 := by decide
theorem fold_0 : ∀ (l : List (Int × Int)) (q : Int × Bool), q.1 = 0 → (∀ p ∈ l, p.1 = 0 ∨ p.2 = 0) → (l.foldl (fun q p => dotS q p.1 p.2) q).1 = 0
  | [], q, h, _ => h
  | p :: l, q, h, hl => by
    refine fold_0 l _ ?_ (fun x hx => hl x (List.mem_cons_of_mem _ hx))
    show (addF q.1 (mulF p.1 p.2).1).1 = 0
    have h0 : (mulF p.1 p.2).1 = 0 := by
      rcases hl p (by simp) with e | e
      · rw [e]; exact mulF_0l _
      · rw [e]; exact mulF_0r _
    rw [h, h0]; exact addF_00
theorem dot_0 {xs ys : List Int} (h : ∀ j, j < xs.length → j < ys.length → xs.getD j 0 = 0 ∨ ys.getD j 0 = 0) : (dotF xs ys).1 = 0 := by
  refine fold_0 _ _ rfl (fun p hp => ?_)
  obtain ⟨j, hj, rfl⟩ := List.getElem_of_mem hp
  rw [List.length_zip] at hj
  have h1 : j < xs.length := by omega
  have h2 : j < ys.length := by omega
  have := h j h1 h2
  rw [List.getD_eq_getElem?_getD, List.getD_eq_getElem?_getD, List.getElem?_eq_getElem h1, List.getElem?_eq_getElem h2] at this
  rw [List.getElem_zip]
  exact this
/-- Nought below the d-th diagonal. -/
def Off (n d : Nat) (m : Mt) : Prop := ∀ i k, i < n → k < n → k < i + d → atM m i k = 0
theorem off_mul {n d : Nat} {a b : Mt} (h : Sh n a) (h' : Sh n b) (ha : Off n d a) (hb : Off n 1 b) : Off n (d + 1) (mulM a b).1 := by
  intro i k hi hk hik
  unfold mulM
  rw [h.r, h'.c, Int.toNat_natCast, made_at _ hi hk, h.c, h'.r, Int.toNat_natCast]
  refine dot_0 (fun j hj1 hj2 => ?_)
  have hjn : j < n := by
    have : (rowL a.v n i).length ≤ n := by unfold rowL; rw [List.length_take]; omega
    omega
  rw [row_at hjn, row_at hjn, turn_at h' hk hjn, ← h.ix]
  by_cases e : j < i + d
  · exact .inl (ha i j hi hjn e)
  · exact .inr (hb j k hjn hk (by omega))
theorem divF_0 (b : Int) : (divF 0 b).1 = 0 := by
  unfold divF
  by_cases hb : b = 0
  · rw [if_pos hb, if_pos rfl]
  · rw [if_neg hb]
    have hh : heldI b ≠ 0 := by unfold heldI; split <;> omega
    show fitN (divI (heldI 0 * 4294967296) (heldI b)) = 0
    rw [show heldI 0 = 0 by decide, Int.zero_mul]
    generalize heldI b = d at hh
    have ha : 0 < absI d := by unfold absI; split <;> omega
    have hr : rheI 0 (absI d) = 0 := by
      generalize absI d = e at ha
      unfold rheI
      rw [Int.zero_ediv, Int.zero_emod, if_neg (by unfold nearP; omega)]
    have hd : divI 0 d = 0 := by
      unfold divI
      rw [show absI 0 = 0 by decide, hr]
      unfold sgnI
      split <;> rfl
    rw [hd]; decide
theorem divs_sh {n : Nat} {m : Mt} (h : Sh n m) (k : Int) : Sh n (divsM m k).1 := ⟨h.r, h.c, by show (m.v.map _).length = _; rw [List.length_map]; exact h.l⟩
theorem divs_at {n : Nat} {m : Mt} (h : Sh n m) (q : Int) (i k : Nat) (h0 : atM m i k = 0) : atM (divsM m q).1 i k = 0 := by
  rw [(divs_sh h q).ix]
  rw [h.ix] at h0
  show (m.v.map (dvw (wholeF q).1)).getD (i * n + k) 0 = 0
  generalize (wholeF q).1 = w
  rw [List.getD_eq_getElem?_getD, List.getElem?_map]
  rw [List.getD_eq_getElem?_getD] at h0
  generalize m.v[i * n + k]? = o at h0
  cases o with
  | none => rfl
  | some z =>
    have hz : z = 0 := h0
    subst hz
    exact divF_0 w
theorem eye_sh (n : Nat) : Sh n (eyeM n) := ⟨eyeM_r n, eyeM_c n, by simp [eyeM, diagM, madeM]⟩
theorem eye_at {n i k : Nat} (hi : i < n) (hk : k < n) : atM (eyeM n) i k = if i = k then 4294967296 else 0 := by
  rw [(eye_sh n).ix]
  have hx := ix_in hi hk
  obtain ⟨e1, e2⟩ := ix_dm (i := i) hk
  unfold eyeM diagM madeM
  rw [List.length_replicate, List.getD_eq_getElem?_getD, List.getElem?_map, List.getElem?_range hx, Option.map_some, Option.getD_some, e1, e2]
  dsimp only
  by_cases e : i = k
  · rw [if_pos e, if_pos e, List.getD_eq_getElem?_getD, List.getElem?_replicate, if_pos hi]; rfl
  · rw [if_neg e, if_neg e]
theorem term_off {n : Nat} {m : Mt} (h : Sh n m) (hm : Off n 1 m) : ∀ j, Sh n (termM m j).1 ∧ Off n j (termM m j).1
  | 0 => by
    have e : (termM m 0).1 = eyeM n := by show eyeM m.r.toNat = _; rw [h.r, Int.toNat_natCast]
    rw [e]
    refine ⟨eye_sh n, fun i k hi hk hik => ?_⟩
    rw [eye_at hi hk, if_neg (by omega)]
  | j + 1 => by
    obtain ⟨h1, h2⟩ := term_off h hm j
    have h3 := mul_sh h1 h
    have h4 := off_mul h1 h h2 hm
    exact ⟨divs_sh h3 _, fun i k hi hk hik => divs_at h3 _ i k (h4 i k hi hk hik)⟩
theorem times_0 (t : Int) : (timesL [0, t]).1 = 0 := by
  show (mulF (mulF 4294967296 0).1 t).1 = 0
  rw [mulF_0r, mulF_0l]
theorem times_r (x : Int) : (timesL [x, 0]).1 = 0 := mulF_0r _
theorem plus_00 : (plusL [0, 0]).1 = 0 := by
  show (addF (addF 0 0).1 0).1 = 0
  rw [addF_00, addF_00]
theorem plus_01 : (plusL [0, 4294967296]).1 = 4294967296 := by
  show (addF (addF 0 0).1 4294967296).1 = _
  rw [addF_00, addF_01]
theorem horn_off {n : Nat} {t : Int} : ∀ (l : List Mt), 0 < l.length → (∀ m ∈ l, Sh n m ∧ Off n 1 m) → Sh n (hornM t l).1 ∧ Off n 1 (hornM t l).1
  | [], h, _ => by simp at h
  | [m], _, h => h m (by simp)
  | m :: m' :: l, _, h => by
    obtain ⟨h1, h2⟩ := horn_off (t := t) (m' :: l) (by simp) (fun x hx => h x (List.mem_cons_of_mem _ hx))
    obtain ⟨h3, h4⟩ := h m (by simp)
    rw [hornM_cons t m (by simp)]
    have s1 := each_sh h1 (fun x _ => timesL [x, t]) (hornM t (m' :: l)).1
    refine ⟨(show Sh n (sumM (scaleM (hornM t (m' :: l)).1 t).1 m).1 from each_sh s1 _ _), fun i k hi hk hik => ?_⟩
    show atM (eachM (fun x y => plusL [x, y]) (eachM (fun x _ => timesL [x, t]) (hornM t (m' :: l)).1 (hornM t (m' :: l)).1).1 m).1 i k = 0
    rw [each_at s1 _ _ hi hk, each_at h1 _ _ hi hk, h2 i k hi hk hik, h4 i k hi hk hik, times_0, plus_00]
/-- The eye ahead of strictly upper ones. -/
theorem horn_eye {n : Nat} (t : Int) (l : List Mt) (h : ∀ m ∈ l, Sh n m ∧ Off n 1 m) : Sh n (hornM t (eyeM n :: l)).1 ∧ ∀ i k, i < n → k < n → (k ≤ i ∨ t = 0) → atM (hornM t (eyeM n :: l)).1 i k = atM (eyeM n) i k := by
  cases l with
  | nil => exact ⟨eye_sh n, fun _ _ _ _ _ => rfl⟩
  | cons m l =>
    obtain ⟨h1, h2⟩ := horn_off (t := t) (m :: l) (by simp) h
    rw [hornM_cons t _ (by simp)]
    have s1 := each_sh h1 (fun x _ => timesL [x, t]) (hornM t (m :: l)).1
    refine ⟨(show Sh n (sumM (scaleM (hornM t (m :: l)).1 t).1 (eyeM n)).1 from each_sh s1 _ _), fun i k hi hk hik => ?_⟩
    show atM (eachM (fun x y => plusL [x, y]) (eachM (fun x _ => timesL [x, t]) (hornM t (m :: l)).1 (hornM t (m :: l)).1).1 (eyeM n)).1 i k = _
    rw [each_at s1 _ _ hi hk, each_at h1 _ _ hi hk]
    have hz : (timesL [atM (hornM t (m :: l)).1 i k, t]).1 = 0 := by
      rcases hik with e | e
      · rw [h2 i k hi hk (by omega), times_0]
      · rw [e, times_r]
    rw [hz, eye_at hi hk]
    split
    · exact plus_01
    · exact plus_00
theorem sh_ext {n : Nat} {a b : Mt} (h : Sh n a) (h' : Sh n b) (he : ∀ i k, i < n → k < n → atM a i k = atM b i k) : a = b := by
  obtain ⟨r, c, v⟩ := a
  obtain ⟨r', c', v'⟩ := b
  have hv : v = v' := by
    refine List.ext_getElem (h.l.trans h'.l.symm) fun x hx hx' => ?_
    have hxn : x < n * n := by have h8 : v.length = n * n := h.l; have h9 : x < v.length := hx; omega
    have hn : 0 < n := by rcases Nat.eq_zero_or_pos n with e | e; subst e; simp at hxn; exact e
    have h1 : x / n < n := Nat.div_lt_of_lt_mul hxn
    have h2 := Nat.mod_lt x hn
    have h3 := he _ _ h1 h2
    rw [h.ix, h'.ix, Nat.mul_comm, Nat.div_add_mod] at h3
    simpa [List.getD_eq_getElem?_getD, hx, hx'] using h3
  have hr := h.r.trans h'.r.symm
  have hc := h.c.trans h'.c.symm
  dsimp only at hr hc
  subst hv hr hc
  rfl
theorem flow_law {n : Nat} {m : Mt} (h : Sh n m) (hn : 1 ≤ n) (hm : Off n 1 m) (t : Int) : Sh n (flowM m t).1 ∧ ∀ i k, i < n → k < n → (k ≤ i ∨ t = 0) → atM (flowM m t).1 i k = atM (eyeM n) i k := by
  obtain ⟨q, rfl⟩ : ∃ q, n = q + 1 := ⟨n - 1, by omega⟩
  have e : termsL m m.r.toNat = eyeM (q + 1) :: (List.range q).map fun i => (termM m (i + 1)).1 := by
    rw [h.r, Int.toNat_natCast]
    unfold termsL
    rw [List.range_succ_eq_map, List.map_cons, List.map_map]
    show eyeM m.r.toNat :: _ = _
    rw [h.r, Int.toNat_natCast]
    rfl
  unfold flowM
  show Sh _ (hornM t (termsL m m.r.toNat)).1 ∧ _
  rw [e]
  refine horn_eye t _ (fun p hp => ?_)
  obtain ⟨i, _, rfl⟩ := List.mem_map.1 hp
  obtain ⟨h1, h2⟩ := term_off h hm (i + 1)
  exact ⟨h1, fun a b ha hb hab => h2 a b ha hb (by omega)⟩
theorem flow_nought {n : Nat} {m : Mt} (h : Sh n m) (hn : 1 ≤ n) (hm : Off n 1 m) : (flowM m 0).1 = eyeM n := by
  obtain ⟨h1, h2⟩ := flow_law h hn hm 0
  exact sh_ext h1 (eye_sh n) (fun i k hi hk => h2 i k hi hk (.inr rfl))
theorem off_up {n d : Nat} {m : Mt} (h : Sh n m) (h1 : 1 ≤ n) (h2 : n ≤ 12) (hd : 1 ≤ d) (ho : Off n d m) : upM m := by
  obtain ⟨hr, hc, hl⟩ := h
  refine ⟨⟨⟨⟨?_, ?_⟩, ⟨?_, ?_⟩, ?_⟩, hr.trans hc.symm⟩, fun j hj hle => ?_⟩
  · omega
  · omega
  · omega
  · omega
  · rw [hr, hc, hl, Int.natCast_mul]
  · rw [hc, Int.toNat_natCast] at hle
    have hjn : j < n * n := by omega
    have h3 : j / n < n := Nat.div_lt_of_lt_mul hjn
    have h4 := Nat.mod_lt j (show n > 0 by omega)
    have h5 := ho _ _ h3 h4 (by omega)
    rw [(⟨hr, hc, hl⟩ : Sh n m).ix, Nat.mul_comm, Nat.div_add_mod] at h5
    exact h5
theorem off_zero {n d : Nat} {m : Mt} (h : Sh n m) (hd : n ≤ d) (ho : Off n d m) : ∀ x, x < n * n → m.v.getD x 0 = 0 := by
  intro x hx
  have hn : 0 < n := by rcases Nat.eq_zero_or_pos n with e | e; subst e; simp at hx; exact e
  have h3 : x / n < n := Nat.div_lt_of_lt_mul hx
  have h4 := Nat.mod_lt x hn
  have h5 := ho _ _ h3 h4 (Nat.lt_of_lt_of_le (Nat.lt_of_lt_of_le h4 hd) (Nat.le_add_left _ _))
  rwa [h.ix, Nat.mul_comm, Nat.div_add_mod] at h5

end Go.Proofs.YtkjbidpafnmogaaGreat.Base
namespace Go.Proofs.YtkjbidpafnmogaaGreat.Base
open Go.RowKit Go
set_option linter.unusedVariables false
set_option linter.unusedSimpArgs false

def Sym (n : Nat) (m : Mt) : Prop := ∀ i k, i < n → k < n → atM m i k = atM m k i
theorem Sq.sh {n nn : Nat} {m : Mt} (h : Sq n nn m) (hnn : n * n = nn) : Sh n m := ⟨h.r, h.c, h.l.trans hnn.symm⟩
theorem turn_sh {n : Nat} {m : Mt} (h : Sh n m) : Sh n (turnM m) := by
  unfold turnM madeM
  rw [h.r, h.c, Int.toNat_natCast]
  exact ⟨rfl, rfl, by simp⟩
theorem turn_ix {n i k : Nat} {m : Mt} (h : Sh n m) (hi : i < n) (hk : k < n) : atM (turnM m) i k = atM m k i := by
  rw [(turn_sh h).ix, turn_at h hi hk]
theorem sym_turn {n : Nat} {m : Mt} (h : Sh n m) (hs : Sym n m) : turnM m = m :=
  sh_ext (turn_sh h) h (fun i k hi hk => by rw [turn_ix h hi hk]; exact hs k i hk hi)
theorem diag_sh (l : List Int) : Sh l.length (diagM l) := ⟨rfl, rfl, by simp [diagM, madeM]⟩
theorem diag_ix {l : List Int} {i k : Nat} (hi : i < l.length) (hk : k < l.length) : atM (diagM l) i k = if i = k then l.getD i 0 else 0 := by
  rw [(diag_sh l).ix]
  have hx := ix_in hi hk
  obtain ⟨e1, e2⟩ := ix_dm (i := i) hk
  unfold diagM madeM
  rw [List.getD_eq_getElem?_getD, List.getElem?_map, List.getElem?_range hx, Option.map_some, Option.getD_some, e1, e2]
theorem sym_diag (l : List Int) : Sym l.length (diagM l) := fun i k hi hk => by
  rw [diag_ix hi hk, diag_ix hk hi]
  by_cases e : i = k
  · subst e; rfl
  · rw [if_neg e, if_neg (fun h => e h.symm)]
theorem add_comm1 (a b : Int) : (addF a b).1 = (addF b a).1 := by
  show fitN (heldI a + heldI b) = fitN (heldI b + heldI a)
  rw [Int.add_comm]
theorem plus_comm {a b : Int} (ha : Fx a) (hb : Fx b) : (plusL [a, b]).1 = (plusL [b, a]).1 := by
  show (addF (addF 0 a).1 b).1 = (addF (addF 0 b).1 a).1
  rw [add0l ha, add0l hb]
  exact add_comm1 a b
theorem mul_fx {n i k : Nat} {a b : Mt} (h : Sh n a) (h' : Sh n b) (hi : i < n) (hk : k < n) : Fx (atM (mulM a b).1 i k) := by
  unfold mulM
  rw [h.r, h'.c, Int.toNat_natCast, made_at _ hi hk]
  exact dotF_fx _ _
theorem divs_ix {n : Nat} {m : Mt} (h : Sh n m) (q : Int) {i k : Nat} (hi : i < n) (hk : k < n) : atM (divsM m q).1 i k = dvw (wholeF q).1 (atM m i k) := by
  rw [(divs_sh h q).ix, h.ix]
  have hx := ix_in hi hk
  have hl : i * n + k < m.v.length := by rw [h.l]; exact hx
  show (m.v.map (dvw (wholeF q).1)).getD (i * n + k) 0 = _
  generalize (wholeF q).1 = w
  rw [List.getD_eq_getElem?_getD, List.getElem?_map, List.getD_eq_getElem?_getD, List.getElem?_eq_getElem hl]
  rfl
theorem sym_coef {n : Nat} {a d : Mt} (ha : Sh n a) (hd : Sh n d) (q : Int) : Sh n (coefS a d q).1 ∧ Sym n (coefS a d q).1 := by
  have hx := mul_sh ha hd
  have hs : Sh n (sumM (mulM a d).1 (turnM (mulM a d).1)).1 := each_sh hx _ _
  refine ⟨divs_sh hs q, fun i k hi hk => ?_⟩
  show atM (divsM (sumM (mulM a d).1 (turnM (mulM a d).1)).1 q).1 i k = atM (divsM (sumM (mulM a d).1 (turnM (mulM a d).1)).1 q).1 k i
  rw [divs_ix hs q hi hk, divs_ix hs q hk hi]
  congr 1
  show atM (eachM (fun x y => plusL [x, y]) (mulM a d).1 (turnM (mulM a d).1)).1 i k = atM (eachM (fun x y => plusL [x, y]) (mulM a d).1 (turnM (mulM a d).1)).1 k i
  rw [each_at hx _ _ hi hk, each_at hx _ _ hk hi, turn_ix hx hi hk, turn_ix hx hk hi]
  exact plus_comm (mul_fx ha hd hi hk) (mul_fx ha hd hk hi)
theorem sym_coefs {n : Nat} {a : Mt} (ha : Sh n a) : ∀ (fuel k : Nat) (d : Mt), Sh n d → Sym n d → ∀ m ∈ (coefR a fuel k d).1, Sh n m ∧ Sym n m
  | 0, k, d, h1, h2, m, hm => by
    have : m ∈ [d] := hm
    simp at this
    rw [this]; exact ⟨h1, h2⟩
  | fuel + 1, k, d, h1, h2, m, hm => by
    have : m ∈ d :: (coefR a fuel (k + 1) (coefS a d k).1).1 := hm
    rcases List.mem_cons.1 this with e | e
    · rw [e]; exact ⟨h1, h2⟩
    · obtain ⟨q1, q2⟩ := sym_coef ha h1 (k : Int)
      exact sym_coefs ha fuel (k + 1) _ q1 q2 m e
theorem sym_scale {n : Nat} {m : Mt} (h : Sh n m) (hs : Sym n m) (t : Int) : Sh n (scaleM m t).1 ∧ Sym n (scaleM m t).1 := by
  refine ⟨each_sh h _ _, fun i k hi hk => ?_⟩
  show atM (eachM (fun x _ => timesL [x, t]) m m).1 i k = atM (eachM (fun x _ => timesL [x, t]) m m).1 k i
  rw [each_at h _ _ hi hk, each_at h _ _ hk hi, hs i k hi hk]
theorem sym_horn {n : Nat} {t : Int} : ∀ (l : List Mt), 0 < l.length → (∀ m ∈ l, Sh n m ∧ Sym n m) → Sh n (hornM t l).1 ∧ Sym n (hornM t l).1
  | [], h, _ => by simp at h
  | [m], _, h => h m (by simp)
  | m :: m' :: l, _, h => by
    obtain ⟨h1, h2⟩ := sym_horn (t := t) (m' :: l) (by simp) (fun x hx => h x (List.mem_cons_of_mem _ hx))
    obtain ⟨h3, h4⟩ := h m (by simp)
    rw [hornM_cons t m (by simp)]
    obtain ⟨s1, s2⟩ := sym_scale h1 h2 t
    refine ⟨(show Sh n (sumM (scaleM (hornM t (m' :: l)).1 t).1 m).1 from each_sh s1 _ _), fun i k hi hk => ?_⟩
    show atM (eachM (fun x y => plusL [x, y]) (scaleM (hornM t (m' :: l)).1 t).1 m).1 i k = atM (eachM (fun x y => plusL [x, y]) (scaleM (hornM t (m' :: l)).1 t).1 m).1 k i
    rw [each_at s1 _ _ hi hk, each_at s1 _ _ hk hi, s2 i k hi hk, h4 i k hi hk]
theorem span_0 (tick : Int) : (spanM tick 0).1 = 0 := by
  show (timesL [(wholeF 0).1, tick]).1 = 0
  rw [show (wholeF 0).1 = 0 by kernel_rfl]
  exact times_0 tick
/-- What is true of noises and flows. -/
structure ShL (n nn : Nat) (M : Mdl) : Prop where
  f0 : (mflowM M 0).1 = eyeM n
  n0 : ∀ x, x < nn → (noiseM M 0).1.v.getD x 0 = 0
  fs : ∀ t, Sh n (mflowM M t).1 ∧ ∀ i k, i < n → k ≤ i → atM (mflowM M t).1 i k = atM (eyeM n) i k
  ns : ∀ t, Sh n (noiseM M t).1
  ny : ∀ t, turnM (noiseM M t).1 = (noiseM M t).1
theorem shape_law {M : Mdl} (hok : okM M) {n nn : Nat} (hn : M.n = n) (hnn : n * n = nn) (h1 : 1 ≤ n) : ShL n nn M := by
  obtain ⟨n', nn', hn', hn1, hn6, hnn', hla, hlq, hA, hD, hcl, hcs⟩ := hok.nat
  have e : n' = n := by have := hn'.symm.trans hn; omega
  subst e
  have e2 : nn' = nn := hnn'.symm.trans hnn
  subst e2
  have hsA : Sh n' (movesM M) := hA.sh hnn
  have hup := okM_up hok
  have hoff : Off n' 1 (movesM M) := fun i k hi hk hik => by
    rw [hsA.ix]
    have hx := ix_in hi hk
    obtain ⟨e1, e2⟩ := ix_dm (i := i) hk
    refine hup.2 _ (by rw [hsA.l]; exact hx) ?_
    rw [hsA.c, Int.toNat_natCast, e1, e2]
    omega
  have hsD : Sh n' (diagM M.Q) := hD.sh hnn
  have hyD : Sym n' (diagM M.Q) := by have := sym_diag M.Q; rwa [hlq] at this
  have hcf : ∀ m ∈ (coefL M).1, Sh n' m ∧ Sym n' m := sym_coefs hsA _ _ _ hsD hyD
  have hnz : ∀ t, Sh n' (noiseM M t).1 ∧ Sym n' (noiseM M t).1 := fun t => by
    obtain ⟨q1, q2⟩ := sym_horn (t := (spanM M.tick t).1) (coefL M).1 (by omega) hcf
    exact sym_scale q1 q2 _
  refine ⟨?_, fun x hx => ?_, fun t => ?_, fun t => (hnz t).1, fun t => sym_turn (hnz t).1 (hnz t).2⟩
  · show (flowM (movesM M) (spanM M.tick 0).1).1 = _
    rw [span_0]
    exact flow_nought hsA hn1 hoff
  · have hq := (sym_horn (t := (spanM M.tick 0).1) (coefL M).1 (by omega) hcf).1
    have hs := (hnz 0).1
    have h3 : x / n' < n' := Nat.div_lt_of_lt_mul (by rw [hnn]; exact hx)
    have h4 := Nat.mod_lt x (show n' > 0 by omega)
    have h5 : atM (noiseM M 0).1 (x / n') (x % n') = 0 := by
      show atM (eachM (fun x _ => timesL [x, (spanM M.tick 0).1]) (hornM (spanM M.tick 0).1 (coefL M).1).1 (hornM (spanM M.tick 0).1 (coefL M).1).1).1 _ _ = 0
      rw [each_at hq _ _ h3 h4]
      show (timesL [_, (spanM M.tick 0).1]).1 = 0
      rw [span_0]
      exact times_r _
    rwa [hs.ix, Nat.mul_comm, Nat.div_add_mod] at h5
  · obtain ⟨q1, q2⟩ := flow_law hsA hn1 hoff (spanM M.tick t).1
    exact ⟨q1, fun i k hi hk => q2 i k hi (by omega) (.inl hk)⟩

end Go.Proofs.YtkjbidpafnmogaaGreat.Base
