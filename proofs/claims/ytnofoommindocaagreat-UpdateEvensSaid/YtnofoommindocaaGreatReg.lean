/- A region that draws its order: each operation by itself, whatever has come up; what holds of the world hangs on which have come up, and on what they yielded. No conditions. -/
import Derived.Test.YtnofoommindocaaGreatGrow
namespace Go.Proofs.YtnofoommindocaaGreat.Base
open Go Go.RowKit
set_option linter.unusedVariables false

section
variable {P : Program} {ops : Array Oper} {Q : Exit → Act → World → Prop}
/-- One operation: nothing but what it does. -/
def wpOpS (P : Program) (ops : Array Oper) (Q : Exit → Act → World → Prop) (i : Nat) (K : Act → World → Prop) (a : Act) (w : World) : Prop :=
  match ops[i]? with
  | none => K a w
  | some o => if Region.wanted o (yielded ops a.tmps) = true then o.wp P a w K Q else K (a.put o.dst undef) w
def wpAnyS (P : Program) (ops : Array Oper) (Q : Exit → Act → World → Prop) : Nat → Array Bool → Act → World → Prop
  | 0, listed, a, w => Region.ready .any ops listed = [] ∧ Q .normal a w
  | fuel + 1, listed, a, w => (Region.ready .any ops listed = [] → Q .normal a w) ∧ ∀ i ∈ Region.ready .any ops listed, wpOpS P ops Q i (wpAnyS P ops Q fuel (listed.setIfInBounds i true)) a w
theorem wpOp_of {i : Nat} {K : Act → World → Prop} {a : Act} {w : World} (h : wpOpS P ops Q i K a w) : wpOp P ops Q i K a w := by
  unfold wpOpS at h
  unfold wpOp
  split
  · rename_i ho; simp only [ho] at h; exact h
  · rename_i o ho
    simp only [ho] at h
    split
    · rename_i hw; simp only [hw, if_true] at h; exact .inl h
    · rename_i hw; simp only [hw] at h; exact h
theorem wpAny_of : ∀ (fuel : Nat) (L : Array Bool) (a : Act) (w : World), wpAnyS P ops Q fuel L a w → wpAny P .any ops Q fuel L a w
  | 0, L, a, w, h => h
  | f + 1, L, a, w, h => ⟨h.1, fun i hi => wpOp_mono (fun a' w' h' => wpAny_of f _ a' w' h') (wpOp_of (h.2 i hi))⟩
theorem wpOpS_guard {i g : Nat} {o og : Oper} {dg : Tmp} {want v : Bool} {a : Act} {w : World} {K : Act → World → Prop} (ho : ops[i]? = some o) (hg : o.guard = some (g, want)) (hog : ops[g]? = some og) (hdg : og.dst = some dg) (hv : a.tmps[dg]?.getD undef = .bool v)
    (h : if v = want then o.wp P a w K Q else K (a.put o.dst undef) w) : wpOpS P ops Q i K a w := by
  have hw : Region.wanted o (yielded ops a.tmps) = decide (v = want) := by
    have he : a.tmps[dg]? = some (.bool v) := by
      cases hx : a.tmps[dg]? with
      | none => rw [hx] at hv; cases hv
      | some y => rw [hx] at hv; exact congrArg some hv
    simp [Region.wanted, hg, yielded, hog, hdg, he]
    try (cases v <;> cases want <;> rfl)
  unfold wpOpS
  simp only [ho, hw]
  by_cases e : v = want
  · rw [if_pos e] at h
    rw [if_pos (by simpa using e)]
    exact h
  · rw [if_neg e] at h
    rw [if_neg (by simpa using e)]
    exact h
theorem wpOpS_go {i : Nat} {o : Oper} {a : Act} {w : World} {K : Act → World → Prop} (ho : ops[i]? = some o) (hg : o.guard = none) (h : o.wp P a w K Q) : wpOpS P ops Q i K a w := by
  unfold wpOpS
  simp only [ho, Region.wanted, hg, if_true]
  exact h
def updF {α : Type} (f : Nat → α) (i : Nat) (v : α) : Nat → α := fun j => if j = i then v else f j
theorem updF_same {α : Type} (f : Nat → α) (i : Nat) (v : α) : updF f i v i = v := if_pos rfl
theorem updF_ne {α : Type} (f : Nat → α) {i j : Nat} (v : α) (h : j ≠ i) : updF f i v j = f j := if_neg h
/-- The slots, with what the operations yielded. -/
def putsD (a : Act) (d : Nat → Option Nat) (f : Nat → Value) : Nat → Act
  | 0 => a
  | n + 1 => (putsD a d f n).put (d n) (f n)
theorem put_none (a : Act) (v : Value) : a.put none v = a := rfl
theorem putsD_size (a : Act) (d : Nat → Option Nat) (f : Nat → Value) (n : Nat) : (putsD a d f n).tmps.size = a.tmps.size := by
  induction n with
  | zero => rfl
  | succ n ih =>
    simp only [putsD]
    cases d n with
    | none => exact ih
    | some t => simp [Act.put, ih]
theorem putsD_defers (a : Act) (d : Nat → Option Nat) (f : Nat → Value) (n : Nat) : (putsD a d f n).defers = a.defers := by
  induction n with
  | zero => rfl
  | succ n ih =>
    simp only [putsD]
    cases d n with
    | none => exact ih
    | some t => simp [Act.put, ih]
theorem putsD_other (a : Act) (d : Nat → Option Nat) (f : Nat → Value) (n t : Nat) (h : ∀ i, i < n → d i ≠ some t) : (putsD a d f n).tmps[t]? = a.tmps[t]? := by
  induction n with
  | zero => rfl
  | succ n ih =>
    have h1 := h n (by omega)
    simp only [putsD]
    have := ih fun i hi => h i (by omega)
    cases hd : d n with
    | none => exact this
    | some u =>
      rw [hd] at h1
      simp only [Act.put]
      rw [Array.getElem?_setIfInBounds, if_neg (fun e => h1 (by rw [e]))]
      exact this
theorem putsD_at (a : Act) (d : Nat → Option Nat) (f : Nat → Value) (n i t : Nat) (hi : i < n) (hd : d i = some t) (hinj : ∀ i j t, i < n → j < n → d i = some t → d j = some t → i = j) (ht : t < a.tmps.size) : (putsD a d f n).tmps[t]? = some (f i) := by
  induction n with
  | zero => omega
  | succ n ih =>
    simp only [putsD]
    by_cases e : i = n
    · subst e
      rw [hd]
      simp only [Act.put]
      rw [Array.getElem?_setIfInBounds, if_pos rfl, if_pos (by rw [putsD_size]; exact ht)]
    · have := ih (by omega) (fun i j t h1 h2 => hinj i j t (by omega) (by omega))
      cases hn : d n with
      | none => exact this
      | some u =>
        simp only [Act.put]
        rw [Array.getElem?_setIfInBounds, if_neg (fun e2 => e (hinj i n t hi (by omega) hd (by rw [hn, e2])))]
        exact this
def dstOf (ops : Array Oper) (i : Nat) : Option Nat := match ops[i]? with | some o => o.dst | none => none

structure Ra (ops : Array Oper) (F : Nat → Value → World → Prop) (S : (Nat → Bool) → (Nat → Value) → World → Prop) (a : Act) (L : Array Bool) (f : Nat → Value) (b : Act) (W : World) : Prop where
  size : b.tmps.size = a.tmps.size
  defers : b.defers = a.defers
  other : ∀ t, (∀ i, i < ops.size → L.getD i false = true → dstOf ops i ≠ some t) → b.tmps[t]? = a.tmps[t]?
  slot : ∀ i t, i < ops.size → L.getD i false = true → dstOf ops i = some t → b.tmps[t]? = some (f i)
  got : ∀ i, i < ops.size → L.getD i false = true → F i (f i) W
  s : S (fun i => L.getD i false) f W
  lsize : L.size = ops.size
  shut : ∀ i, i < ops.size → L.getD i false = true → ∀ j ∈ depsOf ops i, L.getD j false = true

theorem getD_set_b {L : Array Bool} {i j : Nat} (hi : i < L.size) : (L.setIfInBounds i true).getD j false = if j = i then true else L.getD j false := by
  simp only [Array.getD_eq_getD_getElem?, Array.getElem?_setIfInBounds]
  by_cases e : j = i
  · subst e; simp [hi]
  · rw [if_neg (fun h => e h.symm), if_neg e]

theorem region_any0 {a : Act} {w : World} (R : World → World → Prop) (F : Nat → Value → World → Prop) (S : (Nat → Bool) → (Nat → Value) → World → Prop)
    (hinj : ∀ i j t, i < ops.size → j < ops.size → dstOf ops i = some t → dstOf ops j = some t → i = j) (hd : ∀ i t, i < ops.size → dstOf ops i = some t → t < a.tmps.size)
    (c1 : ∀ i, i < ops.size → ∀ j ∈ depsOf ops i, j < i)
    (hF : ∀ i v W W', F i v W → R W W' → F i v W') (hS0 : S (fun _ => false) (fun _ => undef) w.drew)
    (hstep : ∀ i, i < ops.size → ∀ (b : Act) (L : Nat → Bool) (f : Nat → Value) W, S L f W → L i = false → (∀ j ∈ depsOf ops i, L j = true) → (∀ k, k < ops.size → L k = true → ∀ j ∈ depsOf ops k, L j = true) →
      (∀ t, (∀ j, j < ops.size → dstOf ops j ≠ some t) → b.tmps[t]?.getD undef = a.tmps[t]?.getD undef) → (∀ j t, j < ops.size → L j = true → dstOf ops j = some t → b.tmps[t]?.getD undef = f j) → (∀ j, j < ops.size → L j = true → F j (f j) W) →
      ∀ K : Act → World → Prop, (∀ v W', F i v W' → R W W' → S (updF L i true) (updF f i v) W' → K (b.put (dstOf ops i) v) W') → wpOpS P ops Q i K b W)
    (hend : ∀ f W, (∀ i, i < ops.size → F i (f i) W) → (∀ L : Nat → Bool, (∀ i, i < ops.size → L i = true) → (∀ i, ops.size ≤ i → L i = false) → S L f W → Q .normal (putsD a (dstOf ops) f ops.size) W)) : wpAnyS P ops Q ops.size (Array.replicate ops.size false) a w.drew := by
  have main : ∀ fuel (L : Array Bool) (f : Nat → Value) (b : Act) (W : World), Ra ops F S a L f b W → cnt L = fuel → wpAnyS P ops Q fuel L b W := by
    intro fuel
    induction fuel using Nat.strongRecOn with
    | ind fuel ih =>
    intro L f b W hG hc
    by_cases hall : ∀ i, i < ops.size → L.getD i false = true
    · have hnr : Region.ready .any ops L = [] := by
        rw [List.eq_nil_iff_forall_not_mem]
        intro i hi
        obtain ⟨h1, h2, _⟩ := mem_ready hi
        have := hall i h1
        have hl := hG.lsize
        simp [Array.getD, show i < L.size by omega] at h2 this
        rw [this] at h2
        cases h2
      have hz : cnt L = 0 := by
        unfold cnt
        rw [List.countP_eq_zero]
        intro x hx
        obtain ⟨i, hi, rfl⟩ := List.mem_iff_getElem.1 hx
        have hi' : i < L.size := by simpa using hi
        have := hall i (by rw [← hG.lsize]; exact hi')
        simp [Array.getD, hi'] at this
        simp [this]
      have hf : fuel = 0 := by omega
      subst hf
      refine ⟨hnr, ?_⟩
      have hb : b = putsD a (dstOf ops) f ops.size := by
        have e1 : b.tmps = (putsD a (dstOf ops) f ops.size).tmps := by
          refine Array.ext (by rw [putsD_size, hG.size]) fun t h1 h2 => ?_
          have key : b.tmps[t]? = (putsD a (dstOf ops) f ops.size).tmps[t]? := by
            by_cases e : ∃ i, i < ops.size ∧ dstOf ops i = some t
            · obtain ⟨i, hi, ht⟩ := e
              rw [putsD_at a (dstOf ops) f ops.size i t hi ht hinj (hd i t hi ht), hG.slot i t hi (hall i hi) ht]
            · have hne : ∀ i, i < ops.size → dstOf ops i ≠ some t := fun i hi h => e ⟨i, hi, h⟩
              rw [putsD_other a (dstOf ops) f ops.size t hne, hG.other t (fun i hi _ => hne i hi)]
          rw [Array.getElem?_eq_getElem h1, Array.getElem?_eq_getElem h2] at key
          exact Option.some.inj key
        have e2 : b.defers = (putsD a (dstOf ops) f ops.size).defers := by rw [putsD_defers, hG.defers]
        cases b
        cases hp : putsD a (dstOf ops) f ops.size
        rw [hp] at e1 e2
        simp at e1 e2
        rw [e1, e2]
      rw [hb]
      refine hend f W (fun i hi => hG.got i hi (hall i hi)) _ hall (fun i hi => ?_) hG.s
      have hl := hG.lsize
      simp [Array.getD, show ¬ i < L.size by omega]
    · have hex : ∃ i, i < ops.size ∧ L.getD i false = false ∧ ∀ j, j < i → L.getD j false = true := by
        have h0 : ∃ i, i < ops.size ∧ ¬ L.getD i false = true := Classical.byContradiction fun h => hall fun i hi => Classical.byContradiction fun h2 => h ⟨i, hi, h2⟩
        have hw : ∀ n, (∃ i, i < n ∧ i < ops.size ∧ ¬ L.getD i false = true) → ∃ i, i < ops.size ∧ L.getD i false = false ∧ ∀ j, j < i → L.getD j false = true := by
          intro n
          induction n with
          | zero => rintro ⟨i, hi, _⟩; omega
          | succ n ihn =>
            rintro ⟨i, h1, h2, h3⟩
            by_cases e : ∃ j, j < n ∧ j < ops.size ∧ ¬ L.getD j false = true
            · exact ihn e
            · refine ⟨i, h2, by simpa using h3, fun j hj => ?_⟩
              exact Classical.byContradiction fun h4 => e ⟨j, by omega, by omega, h4⟩
        obtain ⟨i, hi, h1⟩ := h0
        exact hw (i + 1) ⟨i, by omega, hi, h1⟩
      obtain ⟨i0, hi0, hn0, hb0⟩ := hex
      have hl := hG.lsize
      have hgt : ∀ i, i < ops.size → L.getD i true = L.getD i false := fun i hi => by simp [Array.getD, show i < L.size by omega]
      have hr0 : i0 ∈ Region.ready .any ops L := ready_mem hi0 (by rw [hgt i0 hi0]; exact hn0) (fun j hj => by
        have hji := c1 i0 hi0 j hj
        exact hb0 j hji)
      have hpos : 0 < fuel := by
        rw [← hc]
        have := cnt_set (L := L) (i := i0) (by omega) (by rw [hgt i0 hi0]; exact hn0)
        omega
      obtain ⟨n, rfl⟩ : ∃ n, fuel = n + 1 := ⟨fuel - 1, by omega⟩
      refine ⟨fun h => (by rw [h] at hr0; cases hr0), fun i hi => ?_⟩
      obtain ⟨h1, h2, h3⟩ := mem_ready hi
      have hnF : L.getD i false = false := by rw [← hgt i h1]; exact h2
      have hdeps : ∀ j ∈ depsOf ops i, L.getD j false = true := h3
      have hiL : i < L.size := by omega
      refine hstep i h1 b (fun i => L.getD i false) f W hG.s hnF hdeps hG.shut (fun t ht => by rw [hG.other t fun i hi _ => ht i hi]) (fun j t hj hjl hjt => by rw [hG.slot j t hj hjl hjt]; rfl) (fun j hj hjl => hG.got j hj hjl) _ ?_
      intro v W' hv hR hS'
      have hset : ∀ j, (L.setIfInBounds i true).getD j false = if j = i then true else L.getD j false := fun j => getD_set_b hiL
      refine ih n (by omega) (L.setIfInBounds i true) (updF f i v) (b.put (dstOf ops i) v) W' ⟨?_, ?_, ?_, ?_, ?_, ?_, ?_, ?_⟩ ?_
      · cases dstOf ops i with
        | none => exact hG.size
        | some t => simp [Act.put, hG.size]
      · cases dstOf ops i with
        | none => exact hG.defers
        | some t => simp [Act.put, hG.defers]
      · intro t ht
        have hti := ht i h1 (by rw [hset, if_pos rfl])
        have hrest := hG.other t fun j hj hjl => ht j hj (by rw [hset]; split; rfl; exact hjl)
        cases hq : dstOf ops i with
        | none => exact hrest
        | some u =>
          rw [hq] at hti
          simp only [Act.put]
          rw [Array.getElem?_setIfInBounds, if_neg (fun e => hti (by rw [e]))]
          exact hrest
      · intro j t hj hjl hjt
        rw [hset] at hjl
        by_cases e : j = i
        · subst e
          rw [hjt, updF_same]
          simp only [Act.put]
          rw [Array.getElem?_setIfInBounds, if_pos rfl, if_pos (by rw [hG.size]; exact hd _ _ hj hjt)]
        · rw [if_neg e] at hjl
          rw [updF_ne f v e]
          have := hG.slot j t hj hjl hjt
          cases hq : dstOf ops i with
          | none => exact this
          | some u =>
            simp only [Act.put]
            rw [Array.getElem?_setIfInBounds, if_neg (fun e2 => e (hinj j i t hj h1 hjt (by rw [hq, e2])))]
            exact this
      · intro j hj hjl
        rw [hset] at hjl
        by_cases e : j = i
        · subst e; rw [updF_same]; exact hv
        · rw [if_neg e] at hjl; rw [updF_ne f v e]; exact hF _ _ _ _ (hG.got j hj hjl) hR
      · have : (fun j => (L.setIfInBounds i true).getD j false) = updF (fun j => L.getD j false) i true := by
          funext j
          rw [hset]
          rfl
        rw [this]
        exact hS'
      · simp [hl]
      · intro k hk hkl j hj
        rw [hset] at hkl ⊢
        by_cases e : j = i
        · rw [if_pos e]
        · rw [if_neg e]
          by_cases e2 : k = i
          · subst e2; exact hdeps j hj
          · rw [if_neg e2] at hkl; exact hG.shut k hk hkl j hj
      · have := cnt_set (L := L) (i := i) hiL (by rw [hgt i h1]; exact hnF)
        omega
  refine main ops.size (Array.replicate ops.size false) (fun _ => undef) a w.drew ⟨rfl, rfl, fun _ _ => rfl, fun i t hi h => ?_, fun i hi h => ?_, ?_, by simp, fun i hi h => ?_⟩ ?_
  · simp [Array.getD, hi] at h
  · simp [Array.getD, hi] at h
  · have : (fun i => (Array.replicate ops.size false).getD i false) = fun _ => false := by
      funext i
      simp [Array.getD]
    rw [this]
    exact hS0
  · simp [Array.getD, hi] at h
  · unfold cnt
    simp [List.countP_replicate]
/-- All on which the k-th operation waits, nearly or far. -/
def ancs (ops : Array Oper) (k : Nat) : List Nat := (List.range k).reverse.foldl (fun acc j => if acc.contains j then (depsOf ops j).foldl (fun a x => if a.contains x then a else x :: a) acc else acc) (depsOf ops k)
theorem fold_add {p : Nat → Prop} : ∀ (l acc : List Nat), (∀ x ∈ acc, p x) → (∀ x ∈ l, p x) → ∀ x ∈ l.foldl (fun a x => if a.contains x then a else x :: a) acc, p x
  | [], acc, h, _ => h
  | y :: l, acc, h, h2 => by
    refine fold_add l _ ?_ (fun x hx => h2 x (List.mem_cons_of_mem _ hx))
    dsimp only
    split
    · exact h
    · intro x hx
      rcases List.mem_cons.1 hx with rfl | hx
      · exact h2 x (List.mem_cons_self ..)
      · exact h x hx
theorem ancs_true {L : Nat → Bool} (hs : ∀ k, L k = true → ∀ j ∈ depsOf ops k, L j = true) {k : Nat} (hk : L k = true) : ∀ j ∈ ancs ops k, L j = true := by
  unfold ancs
  generalize (List.range k).reverse = l
  have h0 : ∀ j ∈ depsOf ops k, L j = true := hs k hk
  generalize depsOf ops k = acc at h0
  clear hk
  induction l generalizing acc with
  | nil => exact h0
  | cons y l ih =>
    rw [List.foldl_cons]
    refine ih _ ?_
    by_cases e : acc.contains y = true
    · rw [if_pos e]
      exact fold_add _ _ h0 (hs y (h0 y (by simpa using e)))
    · rw [if_neg e]; exact h0
/-- The same, its small conditions reckoned; what the operations outside of E do leaves the world as it is. -/
theorem region_any1 {a : Act} {w : World} (E : List Nat) (R : World → World → Prop) (F : Nat → Value → World → Prop) (S : (Nat → Bool) → (Nat → Value) → World → Prop)
    (hinj : (List.range ops.size).all (fun i => (List.range ops.size).all fun j => i == j || match dstOf ops i with | none => true | some t => dstOf ops j != some t) = true) (hd : (List.range ops.size).all (fun i => match dstOf ops i with | none => true | some t => decide (t < a.tmps.size)) = true)
    (c1 : (List.range ops.size).all (fun i => (depsOf ops i).all fun j => decide (j < i)) = true)
    (hR : ∀ W, R W W) (hF : ∀ i v W W', F i v W → R W W' → F i v W') (hS : ∀ L L' f f' W, (∀ e ∈ E, L e = L' e ∧ f e = f' e) → S L f W → S L' f' W) (hS0 : S (fun _ => false) (fun _ => undef) w.drew)
    (hstep : ∀ i, i < ops.size → ∀ (b : Act) (L : Nat → Bool) (f : Nat → Value) W, S L f W → L i = false → (∀ j, (depsOf ops i).contains j = true → L j = true) → (∀ k, (ancs ops k).contains i = true → L k = false) →
      (∀ t, (List.range ops.size).all (fun j => dstOf ops j != some t) = true → b.tmps[t]?.getD undef = a.tmps[t]?.getD undef) → (∀ j t, L j = true → (dstOf ops j == some t) = true → b.tmps[t]?.getD undef = f j) → (∀ j, L j = true → F j (f j) W) →
      ∀ K : Act → World → Prop, (E.contains i = false → ∀ v, F i v W → K (b.put (dstOf ops i) v) W) → (∀ v W', F i v W' → R W W' → S (updF L i true) (updF f i v) W' → K (b.put (dstOf ops i) v) W') → wpOpS P ops Q i K b W)
    (hend : ∀ f W, (∀ i, i < ops.size → F i (f i) W) → (∀ L : Nat → Bool, (∀ i, i < ops.size → L i = true) → S L f W → Q .normal (putsD a (dstOf ops) f ops.size) W)) : wpAnyS P ops Q ops.size (Array.replicate ops.size false) a w.drew := by
  refine region_any0 R F (fun L f W => S L f W ∧ ∀ i, ops.size ≤ i → L i = false) (fun i j t hi hj h1 h2 => ?_) (fun i t hi h => ?_) (fun i hi j hj => ?_) hF ⟨hS0, fun _ _ => rfl⟩ (fun i hi b L f W hSW hL hdep hshut he hsl hFF K hK => ?_) (fun f W h1 L h2 h3 h4 => hend f W h1 L h2 h4.1)
  · have := all_range (all_range hinj i hi) j hj
    simp only [h1] at this
    rcases Bool.or_eq_true _ _ ▸ this with h | h
    · simpa using h
    · rw [h2] at h; simp at h
  · have := all_range hd i hi
    simp only [h] at this
    simpa using this
  · have := List.all_eq_true.1 (all_range c1 i hi) j hj
    simpa using this
  · have hlt : ∀ k, L k = true → k < ops.size := fun k hk => by
      refine Nat.lt_of_not_le fun h => ?_
      have := hSW.2 k h
      rw [hk] at this
      cases this
    have hK2 : ∀ v W', F i v W' → R W W' → S (updF L i true) (updF f i v) W' → K (b.put (dstOf ops i) v) W' := fun v W' h1 h2 h3 => hK v W' h1 h2 ⟨h3, fun j hj => by rw [updF_ne L true (by omega)]; exact hSW.2 j hj⟩
    refine hstep i hi b L f W hSW.1 hL (fun j hj => hdep j (by simpa using hj)) (fun k hk => ?_) (fun t ht => he t fun j hj e => ?_) (fun j t hj hjt => hsl j t (hlt j hj) hj (by simpa using hjt)) (fun j hj => hFF j (hlt j hj) hj) K (fun hE v hv => hK2 v W hv (hR W) (hS _ _ _ _ _ (fun e he => ?_) hSW.1)) hK2
    · cases hq : L k with
      | false => rfl
      | true =>
        have := ancs_true (fun k hk => hshut k (hlt k hk) hk) hq i (by simpa using hk)
        rw [hL] at this
        cases this
    · have := all_range ht j hj
      rw [e] at this
      simp at this
    · have hne : e ≠ i := by rintro rfl; rw [List.contains_iff_mem.2 he] at hE; cases hE
      exact ⟨(updF_ne L true hne).symm, (updF_ne f v hne).symm⟩
theorem eval_tmp {b : Act} {t : Nat} {v : Value} (h : b.tmps[t]?.getD undef = v) : b.eval (.tmp t) = v := by simpa [Act.eval] using h
/-- The slots, one behind the other. -/
def puts2 : Act → List (Option Nat) → (Nat → Value) → Nat → Act
  | a, [], _, _ => a
  | a, d :: ds, f, i => puts2 (a.put d (f i)) ds f (i + 1)
theorem putsD_congr (a : Act) {d d' : Nat → Option Nat} (f : Nat → Value) : ∀ n, (∀ i, i < n → d i = d' i) → putsD a d f n = putsD a d' f n
  | 0, _ => rfl
  | n + 1, h => by simp only [putsD]; rw [putsD_congr a f n fun i hi => h i (by omega), h n (by omega)]
theorem putsD_shift (a : Act) (d : Nat → Option Nat) (f : Nat → Value) : ∀ n, putsD a d f (n + 1) = putsD (a.put (d 0) (f 0)) (fun i => d (i + 1)) (fun i => f (i + 1)) n
  | 0 => rfl
  | n + 1 => by
    have := putsD_shift a d f n
    simp only [putsD] at this ⊢
    rw [this]
theorem puts2_eq : ∀ (ds : List (Option Nat)) (a : Act) (f : Nat → Value) (i : Nat), puts2 a ds f i = putsD a (fun j => ds.getD j none) (fun j => f (j + i)) ds.length
  | [], _, _, _ => rfl
  | d :: ds, a, f, i => by
    simp only [puts2, List.length_cons]
    rw [putsD_shift, puts2_eq ds _ f (i + 1)]
    simp only [List.getD_cons_zero, Nat.zero_add, List.getD_cons_succ]
    congr 1
    funext j
    congr 1
    omega
/-- What the operations yield: those that only reckon and read a known value; the others what X says. -/
def FP (vals : List (Option Value)) (X : Nat → Value → World → Prop) (i : Nat) (v : Value) (W : World) : Prop := (∀ u, vals.getD i none = some u → v = u) ∧ X i v W
theorem fp_mk {vals : List (Option Value)} {X : Nat → Value → World → Prop} {i : Nat} {v : Value} {W : World} {u : Value} (h : vals.getD i none = some u) (e : v = u) (hx : X i v W) : FP vals X i v W := ⟨fun u' h' => by rw [h] at h'; cases h'; exact e, hx⟩
theorem fp_x {vals : List (Option Value)} {X : Nat → Value → World → Prop} {i : Nat} {v : Value} {W : World} (h : vals.getD i none = none) (hx : X i v W) : FP vals X i v W := ⟨fun u' h' => (by rw [h] at h'; cases h'), hx⟩
theorem region_any2 {a : Act} {w : World} (ds : List (Option Nat)) (E : List Nat) (vals : List (Option Value)) (X : Nat → Value → World → Prop) (R : World → World → Prop) (S : (Nat → Bool) → (Nat → Value) → World → Prop)
    (hds : (ds.length == ops.size && (List.range ops.size).all (fun i => dstOf ops i == ds.getD i none)) = true)
    (hinj : (List.range ops.size).all (fun i => (List.range ops.size).all fun j => i == j || match dstOf ops i with | none => true | some t => dstOf ops j != some t) = true) (hd : (List.range ops.size).all (fun i => match dstOf ops i with | none => true | some t => decide (t < a.tmps.size)) = true)
    (c1 : (List.range ops.size).all (fun i => (depsOf ops i).all fun j => decide (j < i)) = true)
    (hR : ∀ W, R W W) (hF : ∀ i v W W', X i v W → R W W' → X i v W') (hS : ∀ L L' f f' W, (∀ e ∈ E, L e = L' e ∧ f e = f' e) → S L f W → S L' f' W) (hS0 : S (fun _ => false) (fun _ => undef) w.drew)
    (hstep : ∀ i, i < ds.length → ∀ (b : Act) (L : Nat → Bool) (f : Nat → Value) W, S L f W → L i = false → (∀ j, (depsOf ops i).contains j = true → L j = true) → (∀ k, (ancs ops k).contains i = true → L k = false) →
      (∀ t, (List.range ops.size).all (fun j => dstOf ops j != some t) = true → b.tmps[t]?.getD undef = a.tmps[t]?.getD undef) →
      (∀ j t u, (depsOf ops i).contains j = true → (dstOf ops j == some t) = true → vals.getD j none = some u → b.tmps[t]?.getD undef = u) →
      (∀ j t, (depsOf ops i).contains j = true → (dstOf ops j == some t) = true → b.tmps[t]?.getD undef = f j ∧ X j (f j) W) → (∀ j, L j = true → FP vals X j (f j) W) →
      ∀ K : Act → World → Prop, (E.contains i = false → ∀ v, FP vals X i v W → K (b.put (ds.getD i none) v) W) → (∀ v W', FP vals X i v W' → R W W' → S (updF L i true) (updF f i v) W' → K (b.put (ds.getD i none) v) W') → wpOpS P ops Q i K b W)
    (hend : ∀ f W, (∀ i, i < ds.length → FP vals X i (f i) W) → (∀ L : Nat → Bool, (∀ i, i < ds.length → L i = true) → S L f W → Q .normal (puts2 a ds f 0) W)) : wpAnyS P ops Q ops.size (Array.replicate ops.size false) a w.drew := by
  obtain ⟨hl, hdd⟩ := Bool.and_eq_true_iff.1 hds
  have hl : ds.length = ops.size := by simpa using hl
  have hde : ∀ i, i < ops.size → dstOf ops i = ds.getD i none := fun i hi => by simpa using all_range hdd i hi
  refine region_any1 E R (FP vals X) S hinj hd c1 hR (fun i v W W' h hr => ⟨h.1, hF i v W W' h.2 hr⟩) hS hS0 (fun i hi b L f W hSW hL hdep hsh he hsl hFF K hK1 hK2 => ?_) (fun f W hf L hL hSW => ?_)
  · rw [hde i hi] at hK1 hK2
    exact hstep i (by omega) b L f W hSW hL hdep hsh he (fun j t u hj hjt hu => by rw [hsl j t (hdep j hj) hjt]; exact (hFF j (hdep j hj)).1 u hu) (fun j t hj hjt => ⟨hsl j t (hdep j hj) hjt, (hFF j (hdep j hj)).2⟩) hFF K hK1 hK2
  · have := hend f W (fun i hi => hf i (by omega)) L (fun i hi => hL i (by omega)) hSW
    rw [puts2_eq] at this
    rw [putsD_congr a f ops.size hde, ← hl]
    exact this
theorem region_fp {id : Nat} {a : Act} {w : World} (ds : List (Option Nat)) (E : List Nat) (vals : List (Option Value)) (X : Nat → Value → World → Prop) (R : World → World → Prop) (S : (Nat → Bool) → (Nat → Value) → World → Prop) (hm : P.follows .mixedOrders = true)
    (hds : (ds.length == ops.size && (List.range ops.size).all (fun i => dstOf ops i == ds.getD i none)) = true)
    (hinj : (List.range ops.size).all (fun i => (List.range ops.size).all fun j => i == j || match dstOf ops i with | none => true | some t => dstOf ops j != some t) = true) (hd : (List.range ops.size).all (fun i => match dstOf ops i with | none => true | some t => decide (t < a.tmps.size)) = true)
    (c1 : (List.range ops.size).all (fun i => (depsOf ops i).all fun j => decide (j < i)) = true)
    (hR : ∀ W, R W W) (hF : ∀ i v W W', X i v W → R W W' → X i v W') (hS : ∀ L L' f f' W, (∀ e ∈ E, L e = L' e ∧ f e = f' e) → S L f W → S L' f' W) (hS0 : S (fun _ => false) (fun _ => undef) w.drew)
    (hstep : ∀ i, i < ds.length → ∀ (b : Act) (L : Nat → Bool) (f : Nat → Value) W, S L f W → L i = false → (∀ j, (depsOf ops i).contains j = true → L j = true) → (∀ k, (ancs ops k).contains i = true → L k = false) →
      (∀ t, (List.range ops.size).all (fun j => dstOf ops j != some t) = true → b.tmps[t]?.getD undef = a.tmps[t]?.getD undef) →
      (∀ j t u, (depsOf ops i).contains j = true → (dstOf ops j == some t) = true → vals.getD j none = some u → b.tmps[t]?.getD undef = u) →
      (∀ j t, (depsOf ops i).contains j = true → (dstOf ops j == some t) = true → b.tmps[t]?.getD undef = f j ∧ X j (f j) W) → (∀ j, L j = true → FP vals X j (f j) W) →
      ∀ K : Act → World → Prop, (E.contains i = false → ∀ v, FP vals X i v W → K (b.put (ds.getD i none) v) W) → (∀ v W', FP vals X i v W' → R W W' → S (updF L i true) (updF f i v) W' → K (b.put (ds.getD i none) v) W') → wpOpS P ops Q i K b W)
    (hend : ∀ f W, (∀ i, i < ds.length → FP vals X i (f i) W) → (∀ L : Nat → Bool, (∀ i, i < ds.length → L i = true) → S L f W → Q .normal (puts2 a ds f 0) W)) : (Code.region id ops true).wp P Q a w :=
  wp_region_any hm (wpAny_of _ _ _ _ (region_any2 ds E vals X R S hds hinj hd c1 hR hF hS hS0 hstep hend))
end
end Go.Proofs.YtnofoommindocaaGreat.Base
