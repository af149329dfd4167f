/- A region that draws its order, whose operations read, call and make memory ahead of its stores: what they leave, in whatever order. No conditions. -/
import Derived.Test.YtnofoommindocaaGreatProg
import Derived.Orders
import Derived.Below
namespace Go.Proofs.YtnofoommindocaaGreat.Base
open Go Go.RowKit
set_option linter.unusedVariables false

section
variable {P : Program} {ops : Array Oper} {Q : Exit → Act → World → Prop}

/-- On which operations the i-th one waits. -/
def depsOf (ops : Array Oper) (i : Nat) : List Nat := match ops[i]? with
  | some o => (o.after.toList.filter fun e => Region.binds .any e).map (·.on)
  | none => []
/-- What must be done ahead of the i-th, in at most n + 1 steps. -/
def rch (ops : Array Oper) (m : Nat) : Nat → Nat → List Nat
  | 0, i => depsOf ops i
  | n + 1, i => rch ops m n i ++ ((rch ops m n i).filter fun k => decide (k < m)).flatMap (depsOf ops)
def putsL (a : Act) (d : Nat → Nat) (v : Nat → Value) : Nat → Act
  | 0 => a
  | n + 1 => (putsL a d v n).put (some (d n)) (v n)
theorem putsL_size (a : Act) (d : Nat → Nat) (v : Nat → Value) (n : Nat) : (putsL a d v n).tmps.size = a.tmps.size := by
  induction n with
  | zero => rfl
  | succ n ih => simp [putsL, Act.put, ih]
theorem putsL_defers (a : Act) (d : Nat → Nat) (v : Nat → Value) (n : Nat) : (putsL a d v n).defers = a.defers := by
  induction n with
  | zero => rfl
  | succ n ih => simp [putsL, Act.put, ih]
theorem putsL_other (a : Act) (d : Nat → Nat) (v : Nat → Value) (n t : Nat) (h : ∀ i, i < n → t ≠ d i) : (putsL a d v n).tmps[t]? = a.tmps[t]? := by
  induction n with
  | zero => rfl
  | succ n ih =>
    have h1 := h n (by omega)
    simp only [putsL, Act.put]
    rw [Array.getElem?_setIfInBounds, if_neg (by omega)]
    exact ih fun i hi => h i (by omega)
theorem putsL_at (a : Act) (d : Nat → Nat) (v : Nat → Value) (n i : Nat) (hi : i < n) (hinj : ∀ i j, i < n → j < n → d i = d j → i = j) (hd : d i < a.tmps.size) : (putsL a d v n).tmps[d i]? = some (v i) := by
  induction n with
  | zero => omega
  | succ n ih =>
    simp only [putsL, Act.put]
    rw [Array.getElem?_setIfInBounds]
    by_cases e : i = n
    · subst e
      rw [if_pos rfl, if_pos (by rw [putsL_size]; exact hd)]
    · rw [if_neg (fun h => e (hinj _ _ hi (by omega) h.symm))]
      exact ih (by omega) (fun i j h1 h2 => hinj i j (by omega) (by omega))

/-- What the slots hold. -/
def sl (d : Nat → Nat) (b : Act) (j : Nat) : Value := b.tmps[d j]?.getD undef
structure Gr (ops : Array Oper) (m : Nat) (d : Nat → Nat) (F : Nat → (Nat → Value) → World → Prop) (G : Nat → Nat → Value → Value → Prop) (S : World → Prop) (a : Act) (L : Array Bool) (b : Act) (W : World) : Prop where
  size : b.tmps.size = a.tmps.size
  defers : b.defers = a.defers
  other : ∀ t, (∀ i, i < m → t ≠ d i) → b.tmps[t]? = a.tmps[t]?
  got : ∀ i, i < m → L.getD i false = true → F i (sl d b) W
  pair : ∀ i j, i < m → j < m → i ≠ j → L.getD i false = true → L.getD j false = true → G i j (sl d b i) (sl d b j)
  s : S W
  lsize : L.size = ops.size
  late : ∀ i, m ≤ i → i < ops.size → L.getD i true = false
  shut : ∀ i, i < m → L.getD i false = true → ∀ j ∈ depsOf ops i, L.getD j false = true

theorem mem_ready {L : Array Bool} {i : Nat} (h : i ∈ Region.ready .any ops L) : i < ops.size ∧ L.getD i true = false ∧ ∀ j ∈ depsOf ops i, L.getD j false = true := by
  unfold Region.ready at h
  rw [List.mem_filter, List.mem_range] at h
  obtain ⟨h1, h2⟩ := h
  rw [Bool.and_eq_true] at h2
  obtain ⟨h3, h4⟩ := h2
  refine ⟨h1, by simpa using h3, fun j hj => ?_⟩
  unfold depsOf at hj
  cases ho : ops[i]? with
  | none => rw [ho] at hj; cases hj
  | some o =>
    rw [ho] at hj h4
    simp only [Option.map_some, Option.getD_some] at h4
    obtain ⟨e, he, rfl⟩ := List.mem_map.1 hj
    obtain ⟨he1, he2⟩ := List.mem_filter.1 he
    rw [Array.all_eq_true_iff_forall_mem] at h4
    have := h4 e (Array.mem_toList_iff.1 he1)
    rw [Bool.or_eq_true] at this
    rcases this with h | h
    · rw [he2] at h; cases h
    · exact h
theorem ready_mem {L : Array Bool} {i : Nat} (hi : i < ops.size) (h1 : L.getD i true = false) (h2 : ∀ j ∈ depsOf ops i, L.getD j false = true) : i ∈ Region.ready .any ops L := by
  unfold Region.ready
  rw [List.mem_filter, List.mem_range]
  refine ⟨hi, ?_⟩
  rw [h1, Array.getElem?_eq_getElem hi]
  simp only [Bool.not_false, Bool.true_and, Option.map_some, Option.getD_some]
  rw [Array.all_eq_true_iff_forall_mem]
  intro e he
  cases hb : Region.binds .any e with
  | false => rfl
  | true =>
    simp only [Bool.not_true, Bool.false_or]
    refine h2 _ ?_
    unfold depsOf
    rw [Array.getElem?_eq_getElem hi]
    exact List.mem_map.2 ⟨e, List.mem_filter.2 ⟨Array.mem_toList_iff.2 he, hb⟩, rfl⟩

def cnt (L : Array Bool) : Nat := L.toList.countP (fun x => !x)
theorem cnt_set {L : Array Bool} {i : Nat} (hi : i < L.size) (h : L.getD i true = false) : cnt (L.setIfInBounds i true) + 1 = cnt L := by
  obtain ⟨l⟩ := L
  unfold cnt
  simp at hi h ⊢
  induction l generalizing i with
  | nil => simp at hi
  | cons x l ih =>
    cases i with
    | zero =>
      simp at h
      subst h
      simp
    | succ i =>
      simp at hi h
      have := ih hi h
      simp [List.countP_cons]
      omega
def doneA (n m : Nat) : Array Bool := ((List.range n).map fun i => decide (i < m)).toArray

theorem region_grow {id : Nat} {a : Act} {w : World} (hm : P.follows .mixedOrders = true) (m : Nat) (hmn : m ≤ ops.size) (d : Nat → Nat) (F : Nat → (Nat → Value) → World → Prop) (G : Nat → Nat → Value → Value → Prop) (S : World → Prop)
    (hinj : ∀ i j, i < m → j < m → d i = d j → i = j) (hd : ∀ i, i < m → d i < a.tmps.size)
    (c1 : ∀ i, i < m → ∀ j ∈ depsOf ops i, j < i) (c2 : ∀ i, m ≤ i → i < ops.size → (∃ k ∈ depsOf ops i, m ≤ k ∧ k < ops.size) ∨ ∀ j, j < m → j ∈ rch ops m 3 i)
    (hF : ∀ i v W W', F i v W → Below W.heap.size W W' → F i v W') (hcong : ∀ i v v' W, v i = v' i → (∀ j ∈ depsOf ops i, v j = v' j) → F i v W → F i v' W) (hS : ∀ W W', S W → Below W.heap.size W W' → S W') (hS0 : S w.drew)
    (hstep : ∀ i, i < m → ∀ (b : Act) W, S W → (∀ t, (∀ i, i < m → t ≠ d i) → b.tmps[t]?.getD undef = a.tmps[t]?.getD undef) → (∀ j ∈ depsOf ops i, F j (sl d b) W) → ∀ D : Nat → Prop, (∀ j, j < m → D j → F j (sl d b) W) →
      ∀ K : Act → World → Prop, (∀ v W', (∀ v', v' i = v → (∀ j ∈ depsOf ops i, v' j = sl d b j) → F i v' W') → Below W.heap.size W W' → (∀ j, j < m → j ≠ i → D j → G i j v (sl d b j) ∧ G j i (sl d b j) v) → K (b.put (some (d i)) v) W') → wpOp P ops Q i K b W)
    (hend : ∀ v W, (∀ i, i < m → F i v W) → (∀ i j, i < m → j < m → i ≠ j → G i j (v i) (v j)) → S W → wpAny P .any ops Q (ops.size - m) (doneA ops.size m) (putsL a d v m) W) : (Code.region id ops true).wp P Q a w := by
  refine wp_region_any hm ?_
  have main : ∀ fuel (L : Array Bool) (b : Act) (W : World), Gr ops m d F G S a L b W → cnt L = fuel → wpAny P .any ops Q fuel L b W := by
    intro fuel
    induction fuel using Nat.strongRecOn with
    | ind fuel ih =>
    intro L b W hG hc
    by_cases hall : ∀ i, i < m → L.getD i false = true
    · have hLe : L = doneA ops.size m := by
        refine Array.ext (by simp [doneA, hG.lsize]) fun i h1 h2 => ?_
        have hi : i < ops.size := by rw [← hG.lsize]; exact h1
        by_cases him : i < m
        · have := hall i him
          simp [Array.getD, h1] at this
          simp [doneA, this, him]
        · have := hG.late i (by omega) hi
          simp [Array.getD, h1] at this
          simp [doneA, this, him]
      have hcn : cnt (doneA ops.size m) = ops.size - m := by
        unfold cnt doneA
        simp only [List.countP_map]
        have : ∀ n, m ≤ n → List.countP ((fun x => !x) ∘ fun i => decide (i < m)) (List.range n) = n - m := by
          intro n hn
          induction n with
          | zero => simp
          | succ n ihn =>
            rw [List.range_succ, List.countP_append]
            by_cases e : m ≤ n
            · have e2 : ¬ n < m := by omega
              rw [ihn e]
              simp [e2]
              omega
            · have : m = n + 1 := by omega
              subst this
              have hz : List.countP ((fun x => !x) ∘ fun i => decide (i < n + 1)) (List.range n) = 0 := by
                rw [List.countP_eq_zero]
                intro x hx
                simp at hx ⊢
                omega
              rw [hz]
              simp
        exact this _ hmn
      rw [← hc, hLe, hcn]
      let v : Nat → Value := sl d b
      have hv : ∀ i, i < m → b.tmps[d i]? = some (v i) := by
        intro i hi
        have hsz : d i < b.tmps.size := by rw [hG.size]; exact hd i hi
        simp [v, sl, hsz]
      have hb : b = putsL a d v m := by
        have e1 : b.tmps = (putsL a d v m).tmps := by
          refine Array.ext_getElem? fun t => ?_
          by_cases ht : ∃ i, i < m ∧ t = d i
          · obtain ⟨i, hi, rfl⟩ := ht
            rw [putsL_at a d v m i hi hinj (hd i hi), hv i hi]
          · have ht' : ∀ i, i < m → t ≠ d i := fun i hi e => ht ⟨i, hi, e⟩
            rw [putsL_other a d v m t ht', hG.other t ht']
        have e2 : b.defers = (putsL a d v m).defers := by rw [putsL_defers, hG.defers]
        cases b
        cases hp : putsL a d v m
        rw [hp] at e1 e2
        simp at e1 e2
        rw [e1, e2]
      rw [hb]
      exact hend v W (fun i hi => hG.got i hi (hall i hi)) (fun i j hi hj hne => hG.pair i j hi hj hne (hall i hi) (hall j hj)) hG.s
    · have hex : ∃ i, i < m ∧ L.getD i false = false ∧ ∀ j, j < i → L.getD j false = true := by
        have : ∃ i, i < m ∧ ¬ L.getD i false = true := Classical.byContradiction fun h => hall fun i hi => Classical.byContradiction fun h2 => h ⟨i, hi, h2⟩
        obtain ⟨i, hi, hn⟩ := this
        induction i using Nat.strongRecOn with
        | ind i ihi =>
          by_cases hj : ∃ j, j < i ∧ ¬ L.getD j false = true
          · obtain ⟨j, hji, hjn⟩ := hj
            exact ihi j hji (by omega) hjn
          · exact ⟨i, hi, by simpa using hn, fun j hj2 => Classical.byContradiction fun h => hj ⟨j, hj2, h⟩⟩
      have hgd : ∀ i, i < L.size → L.getD i true = L.getD i false := fun i hi => by simp [Array.getD, hi]
      obtain ⟨i0, hi0, hn0, hmin⟩ := hex
      have hrd : i0 ∈ Region.ready .any ops L := ready_mem (by omega) (by rw [hgd _ (by rw [hG.lsize]; omega)]; exact hn0) (fun j hj => hmin j (c1 i0 hi0 j hj))
      obtain ⟨f, rfl⟩ : ∃ f, fuel = f + 1 := by
        have := cnt_set (L := L) (i := i0) (by rw [hG.lsize]; omega) (by rw [hgd _ (by rw [hG.lsize]; omega)]; exact hn0)
        exact ⟨fuel - 1, by omega⟩
      refine ⟨fun h => ?_, fun i hi => ?_⟩
      · rw [h] at hrd; cases hrd
      · obtain ⟨h1, h2, h3⟩ := mem_ready hi
        have him : i < m := by
          refine Classical.byContradiction fun hge => ?_
          have key : ∀ n j, j ∈ rch ops m n i → L.getD j false = true := by
            intro n
            induction n with
            | zero => exact h3
            | succ n ih2 =>
              intro j hj
              rcases List.mem_append.1 hj with h | h
              · exact ih2 j h
              · obtain ⟨k, hk, hj⟩ := List.mem_flatMap.1 h
                obtain ⟨hk1, hk2⟩ := List.mem_filter.1 hk
                exact hG.shut k (by simpa using hk2) (ih2 k hk1) j hj
          rcases c2 i (by omega) h1 with ⟨k, hk, hk1, hk2⟩ | h
          · have := h3 k hk
            have h4 := hG.late k hk1 hk2
            rw [hgd k (by rw [hG.lsize]; exact hk2)] at h4
            rw [h4] at this
            cases this
          · have := key 3 i0 (h i0 hi0)
            rw [hn0] at this
            cases this
        have hslo : ∀ x j, j < m → j ≠ i → sl d (b.put (some (d i)) x) j = sl d b j := by
          intro x j hj hne
          unfold sl
          simp only [Act.put]
          rw [Array.getElem?_setIfInBounds, if_neg (fun h => hne (hinj _ _ hj him h.symm))]
        have hsli : ∀ x, sl d (b.put (some (d i)) x) i = x := by
          intro x
          unfold sl
          simp only [Act.put]
          rw [Array.getElem?_setIfInBounds, if_pos rfl, if_pos (by rw [hG.size]; exact hd i him)]
          rfl
        refine hstep i him b W hG.s (fun t ht => ?_) (fun j hj => ?_) (fun j => L.getD j false = true) (fun j hj hL => hG.got j hj hL) _ fun x W' hFx hB hP => ?_
        · rw [hG.other t ht]
        · exact hG.got j (by have := c1 i him j hj; omega) (h3 j hj)
        · have hLs : i < L.size := by rw [hG.lsize]; exact h1
          refine ih f (by omega) _ _ _ ⟨?_, ?_, ?_, ?_, ?_, hS _ _ hG.s hB, by simp [hG.lsize], ?_, ?_⟩ (by have := cnt_set hLs h2; omega)
          · simp [Act.put, hG.size]
          · simp [Act.put, hG.defers]
          · intro t ht
            simp only [Act.put]
            rw [Array.getElem?_setIfInBounds, if_neg (fun e => ht i him e.symm)]
            exact hG.other t ht
          · intro j hj hjL
            by_cases e : j = i
            · subst e
              exact hFx _ (hsli x) (fun k hk => hslo x k (by have := c1 j him k hk; omega) (by have := c1 j him k hk; omega))
            · have hjL' : L.getD j false = true := by
                simp only [Array.getD_eq_getD_getElem?] at hjL ⊢
                rwa [Array.getElem?_setIfInBounds, if_neg (by omega)] at hjL
              have hFy := hF _ _ _ _ (hG.got j hj hjL') hB
              refine hcong j _ _ _ (hslo x j hj e).symm (fun k hk => ?_) hFy
              have hkL := hG.shut j hj hjL' k hk
              have hki : k ≠ i := by
                intro e2
                subst e2
                simp only [Array.getD_eq_getD_getElem?] at hkL h2
                rw [Array.getElem?_eq_getElem hLs] at hkL h2
                simp at hkL h2
                rw [hkL] at h2
                cases h2
              exact (hslo x k (by have := c1 j hj k hk; omega) hki).symm
          · have back : ∀ j, j ≠ i → (L.setIfInBounds i true).getD j false = true → L.getD j false = true := by
              intro j e hjL
              simp only [Array.getD_eq_getD_getElem?] at hjL ⊢
              rwa [Array.getElem?_setIfInBounds, if_neg (by omega)] at hjL
            intro j k hj hk hne hjL hkL
            by_cases e : j = i
            · subst e
              rw [hsli, hslo x k hk (by omega)]
              exact (hP k hk (by omega) (back k (by omega) hkL)).1
            · by_cases e2 : k = i
              · subst e2
                rw [hsli, hslo x j hj e]
                exact (hP j hj e (back j e hjL)).2
              · rw [hslo x j hj e, hslo x k hk e2]
                exact hG.pair j k hj hk hne (back j e hjL) (back k e2 hkL)
          · intro j hj hjs
            have := hG.late j hj hjs
            simp only [Array.getD_eq_getD_getElem?] at this ⊢
            rw [Array.getElem?_setIfInBounds, if_neg (by omega)]
            exact this
          · intro j hj hjL k hk
            have up : ∀ k, L.getD k false = true → (L.setIfInBounds i true).getD k false = true := by
              intro k hk
              simp only [Array.getD_eq_getD_getElem?] at hk ⊢
              rw [Array.getElem?_setIfInBounds]
              by_cases e : i = k
              · rw [if_pos e, if_pos hLs]; rfl
              · rw [if_neg e]; exact hk
            by_cases e : j = i
            · subst e; exact up _ (h3 k hk)
            · have hjL' : L.getD j false = true := by
                simp only [Array.getD_eq_getD_getElem?] at hjL ⊢
                rwa [Array.getElem?_setIfInBounds, if_neg (by omega)] at hjL
              exact up _ (hG.shut j hj hjL' k hk)
  have hrep : ∀ n : Nat, cnt (Array.replicate n false) = n := by
    intro n
    unfold cnt
    rw [Array.toList_replicate, List.countP_replicate]
    simp
  refine main _ _ _ _ ⟨rfl, rfl, fun _ _ => rfl, fun i hi h => ?_, fun i j hi _ _ h _ => ?_, hS0, by simp, fun i _ h => by simp [Array.getD, h], fun i hi h => ?_⟩ (hrep _)
  · simp [Array.getD] at h
  · simp [Array.getD] at h
  · simp [Array.getD] at h

theorem all_range {m : Nat} {p : Nat → Bool} (h : (List.range m).all p = true) : ∀ i, i < m → p i = true := fun i hi => List.all_eq_true.1 h i (List.mem_range.2 hi)
/-- The same, its small conditions reckoned. -/
theorem region_growp {id : Nat} {a : Act} {w : World} (m : Nat) (d : Nat → Nat) (F : Nat → (Nat → Value) → World → Prop) (G : Nat → Nat → Value → Value → Prop) (S : World → Prop) (hm : P.follows .mixedOrders = true) (hmn : Nat.ble m ops.size = true)
    (hinj : (List.range m).all (fun i => (List.range m).all fun j => d i != d j || i == j) = true) (hd : (List.range m).all (fun i => decide (d i < a.tmps.size)) = true)
    (c1 : (List.range m).all (fun i => (depsOf ops i).all fun j => decide (j < i)) = true)
    (c2 : (List.range ops.size).all (fun i => decide (i < m) || ((depsOf ops i).any fun k => decide (m ≤ k) && decide (k < ops.size)) || (List.range m).all fun j => (rch ops m 3 i).contains j) = true)
    (hF : ∀ i v W W', F i v W → Below W.heap.size W W' → F i v W') (hc : ∀ i v v' W, v i = v' i → (∀ j, (depsOf ops i).contains j = true → v j = v' j) → F i v W → F i v' W) (hS : ∀ W W', S W → Below W.heap.size W W' → S W') (hS0 : S w.drew)
    (hstep : ∀ i, i < m → ∀ (b : Act) W, S W → (∀ t, (List.range m).all (fun i => t != d i) = true → b.tmps[t]?.getD undef = a.tmps[t]?.getD undef) → (∀ j, (depsOf ops i).contains j = true → F j (sl d b) W) → ∀ D : Nat → Prop, (∀ j, j < m → D j → F j (sl d b) W) →
      ∀ K : Act → World → Prop, (∀ v W', (∀ v', v' i = v → (∀ j, (depsOf ops i).contains j = true → v' j = sl d b j) → F i v' W') → Below W.heap.size W W' → (∀ j, j < m → j ≠ i → D j → G i j v (sl d b j) ∧ G j i (sl d b j) v) → K (b.put (some (d i)) v) W') → wpOp P ops Q i K b W)
    (hend : ∀ v W, (∀ i, i < m → F i v W) → (∀ i j, i < m → j < m → i ≠ j → G i j (v i) (v j)) → S W → wpAny P .any ops Q (ops.size - m) (doneA ops.size m) (putsL a d v m) W) : (Code.region id ops true).wp P Q a w := by
  have hcon : ∀ i j, j ∈ depsOf ops i ↔ (depsOf ops i).contains j = true := fun i j => by simp
  refine region_grow hm m (Nat.le_of_ble_eq_true hmn) d F G S (fun i j hi hj he => ?_) (fun i hi => of_decide_eq_true (all_range hd i hi)) (fun i hi j hj => ?_) (fun i hi hn => ?_) hF (fun i v v' W h1 h2 h3 => hc i v v' W h1 (fun j hj => h2 j ((hcon i j).2 hj)) h3) hS hS0 (fun i hi b W h1 h2 h3 D hD K hK => ?_) hend
  · have := all_range (all_range hinj i hi) j hj
    simp [he] at this
    exact this
  · exact of_decide_eq_true (List.all_eq_true.1 (all_range c1 i hi) j hj)
  · have h := all_range c2 i hn
    rw [Bool.or_eq_true, Bool.or_eq_true] at h
    rcases h with (h | h) | h
    · have := of_decide_eq_true h; omega
    · obtain ⟨k, hk, h2⟩ := List.any_eq_true.1 h
      rw [Bool.and_eq_true] at h2
      exact .inl ⟨k, hk, of_decide_eq_true h2.1, of_decide_eq_true h2.2⟩
    · exact .inr fun j hj => by simpa using all_range h j hj
  · refine hstep i hi b W h1 (fun t ht => h2 t fun k hk e => by have := all_range ht k hk; simp [e] at this) (fun j hj => h3 j ((hcon i j).2 hj)) D hD K (fun v W' h4 h5 h6 => hK v W' (fun v' e1 e2 => h4 v' e1 (fun j hj => e2 j ((hcon i j).2 hj))) h5 h6)
/-- Where each slot is told by itself. -/
theorem region_grows {id : Nat} {a : Act} {w : World} (m : Nat) (d : Nat → Nat) (F : Nat → Value → World → Prop) (S : World → Prop) (hm : P.follows .mixedOrders = true) (hmn : Nat.ble m ops.size = true)
    (hinj : (List.range m).all (fun i => (List.range m).all fun j => d i != d j || i == j) = true) (hd : (List.range m).all (fun i => decide (d i < a.tmps.size)) = true)
    (c1 : (List.range m).all (fun i => (depsOf ops i).all fun j => decide (j < i)) = true)
    (c2 : (List.range ops.size).all (fun i => decide (i < m) || ((depsOf ops i).any fun k => decide (m ≤ k) && decide (k < ops.size)) || (List.range m).all fun j => (rch ops m 3 i).contains j) = true)
    (hF : ∀ i v W W', F i v W → Below W.heap.size W W' → F i v W') (hS : ∀ W W', S W → Below W.heap.size W W' → S W') (hS0 : S w.drew)
    (hstep : ∀ i, i < m → ∀ (b : Act) W, S W → (∀ t, (List.range m).all (fun i => t != d i) = true → b.tmps[t]?.getD undef = a.tmps[t]?.getD undef) → (∀ j, (depsOf ops i).contains j = true → F j (b.tmps[d j]?.getD undef) W) →
      ∀ K : Act → World → Prop, (∀ v W', F i v W' → Below W.heap.size W W' → K (b.put (some (d i)) v) W') → wpOp P ops Q i K b W)
    (hend : ∀ v W, (∀ i, i < m → F i (v i) W) → S W → wpAny P .any ops Q (ops.size - m) (doneA ops.size m) (putsL a d v m) W) : (Code.region id ops true).wp P Q a w :=
  region_growp m d (fun i v W => F i (v i) W) (fun _ _ _ _ => True) S hm hmn hinj hd c1 c2 (fun i v W W' h hb => hF i (v i) W W' h hb) (fun i v v' W h1 _ h3 => by rw [← h1]; exact h3) hS hS0
    (fun i hi b W h1 h2 h3 _ _ K hK => hstep i hi b W h1 h2 h3 K fun v W' h4 h5 => hK v W' (fun v' e _ => by rw [e]; exact h4) h5 (fun _ _ _ _ => ⟨trivial, trivial⟩)) (fun v W h1 _ h2 => hend v W h1 h2)
/-- A guarded operation. -/
theorem wpOp_guard {i g : Nat} {o og : Oper} {dg : Tmp} {want v : Bool} {a : Act} {w : World} {K : Act → World → Prop} (ho : ops[i]? = some o) (hg : o.guard = some (g, want)) (hog : ops[g]? = some og) (hdg : og.dst = some dg) (hv : a.tmps[dg]?.getD undef = .bool v)
    (h : if v = want then o.wp P a w K Q else K (a.put o.dst undef) w) : wpOp P ops Q i K a w := by
  have hw : Region.wanted o (yielded ops a.tmps) = decide (v = want) := by
    have he : a.tmps[dg]? = some (.bool v) := by
      cases hx : a.tmps[dg]? with
      | none => rw [hx] at hv; cases hv
      | some y => rw [hx] at hv; exact congrArg some hv
    simp [Region.wanted, hg, yielded, hog, hdg, he]
    try (cases v <;> cases want <;> rfl)
  unfold wpOp
  simp only [ho, hw]
  by_cases e : v = want
  · rw [if_pos e] at h
    rw [if_pos (by simpa using e)]
    exact .inl h
  · rw [if_neg e] at h
    rw [if_neg (by simpa using e)]
    exact h

/-- One operation is next. -/
theorem wpAny_one {L : Array Bool} {i : Nat} {o : Oper} {fuel : Nat} {a : Act} {w : World} (hr : Region.ready .any ops L = [i]) (ho : ops[i]? = some o) (hg : o.guard = none)
    (h : ∀ K : Act → World → Prop, (∀ a w, wpAny P .any ops Q fuel (L.setIfInBounds i true) a w → K a w) → o.wp P a w K Q) : wpAny P .any ops Q (fuel + 1) L a w := by
  refine ⟨(fun e => by rw [hr] at e; cases e), fun j hj => ?_⟩
  rw [hr] at hj
  have : j = i := by simpa using hj
  subst this
  unfold wpOp
  simp only [ho, Region.wanted, hg, if_true]
  exact .inl (h _ fun _ _ h => h)
theorem wpAny_none {L : Array Bool} {a : Act} {w : World} (hr : Region.ready .any ops L = []) (h : Q .normal a w) : wpAny P .any ops Q 0 L a w := ⟨hr, h⟩
theorem wpOp_go {i : Nat} {o : Oper} {a : Act} {w : World} {K : Act → World → Prop} (ho : ops[i]? = some o) (hg : o.guard = none) (h : o.wp P a w K Q) : wpOp P ops Q i K a w := by
  unfold wpOp
  simp only [ho, Region.wanted, hg, if_true]
  exact .inl h
end
end Go.Proofs.YtnofoommindocaaGreat.Base
