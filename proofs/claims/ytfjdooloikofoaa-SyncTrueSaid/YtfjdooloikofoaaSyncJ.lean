/- SyncKnown: the chapter's examples of exchanges are answered as it says; no conditions. -/
import Derived.Test.YtfjdooloikofoaaSyncI
namespace Go.Proofs.Ytfjdooloikofoaa.SyncA
open Go.RowKit Go.Shelf Go.Proofs.Ytfjdooloikofoaa.StampA Go.Proofs.Ytfjdooloikofoaa.Base
set_option linter.unusedVariables false

theorem swap_any (a b c d : Int) (w : World) :
    Calls Try.prog 28 #[.int .i64 a, .int .i64 b, .int .i64 c, .int .i64 d] w fun e w' => e = .returned (.agg #[.int .i64 a, .int .i64 b, .int .i64 c, .int .i64 d]) ∧ Below w.heap.size w w' := by
  go_enter Try.func28, Try.ntmps28
  go_wp2
  exact bodyPost_ret (v := .agg #[.int .i64 a, .int .i64 b, .int .i64 c, .int .i64 d]) (by simp [results, Try.results28, go_sem]) rfl ⟨rfl, by go_grown⟩

/-- What a clock of these exchanges tells as the best one. -/
def bT (l : List TSw) : Int × Int × Int :=
  match bst l with
  | none => (0, 0, 11)
  | some x => (offS x.1, rnd x.1, 0)

theorem Best_ck {w : World} {b : Nat} {win : Int} {l : List TSw} (h : CK w b win l) :
    Calls Try.prog 34 #[.pointer (some ⟨b, 0, none⟩)] w fun e w' => e = .returned (.tuple #[.int .i64 (bT l).1, .int .i64 (bT l).2.1, .int .i64 (bT l).2.2]) ∧ Below w.heap.size w w' := by
  cases hb : bst l with
  | none =>
    refine (Best_none h hb).mono ?_
    rintro e w' ⟨he, hB⟩
    exact ⟨by rw [he]; unfold bT; rw [hb], hB⟩
  | some x =>
    obtain ⟨⟨x1, x2, x3, x4⟩, hx⟩ := x
    refine (Best_some h hb).mono ?_
    rintro e w' ⟨he, hB⟩
    exact ⟨by rw [he]; unfold bT; rw [hb]; rfl, hB⟩

theorem best_ck {w : World} {b : Nat} {win : Int} {l : List TSw} (h : CK w b win l) (o r : Int) (hb : bT l = (o, r, 0)) :
    Calls Try.prog 29 #[.pointer (some ⟨b, 0, none⟩), .int .i64 o, .int .i64 r] w fun e w' => e = .returned (.bool true) ∧ Below w.heap.size w w' := by
  have HC := Lib.hid (Best_ck h)
  rw [hb] at HC
  clear hb
  go_enter Try.func29, Try.ntmps29
  go_wp2_with (go_at_call 34; refine (HC.out).mono ?_; rintro e w1 ⟨rfl, hK⟩)
  go_ret
  exact ⟨rfl, hK⟩

theorem CK.but {w w' : World} {b c : Nat} {win : Int} {l : List TSw} (h : CK w b win l) (hne : b ≠ c) (hb : But c w w') : CK w' b win l := by
  obtain ⟨f, g, hc, h1, h2, h3⟩ := h.ex
  have k : ∀ o v, w.cell? ⟨b, o, none⟩ = some v → w'.cell? ⟨b, o, none⟩ = some v := fun o v hv => (World.cell?_of_block (w := w) (a := ⟨b, o, none⟩) (hb.block b hc.lt hne)).trans hv
  exact ⟨h.w1, h.w2, h.len, f, g, ⟨Nat.lt_of_lt_of_le hc.lt hb.size, k _ _ hc.c0, k _ _ hc.cf, k _ _ hc.cm, fun j hj => k _ _ (hc.r1 j hj), fun j hj => k _ _ (hc.r2 j hj), fun j hj => k _ _ (hc.r3 j hj), fun j hj => k _ _ (hc.r4 j hj), fun o => (World.frozen?_of_block (w := w) (a := ⟨b, o, none⟩) (hb.block b hc.lt hne)).trans (hc.fz o)⟩, h1, h2, h3⟩

def e1 : TSw := ⟨⟨10, 110, 112, 16⟩, ⟨by decide, by decide, by decide, by decide⟩⟩
def e2 : TSw := ⟨⟨20, 119, 119, 21⟩, ⟨by decide, by decide, by decide, by decide⟩⟩
def e3 : TSw := ⟨⟨30, 140, 141, 49⟩, ⟨by decide, by decide, by decide, by decide⟩⟩
def e4 : TSw := ⟨⟨50, 160, 160, 55⟩, ⟨by decide, by decide, by decide, by decide⟩⟩

theorem add_e (x : TSw) (hx : okS x.1) {w : World} {b : Nat} {win : Int} {l l' : List TSw} (h : CK w b win l) (hl : pushL win l x = l') :
    Calls Try.prog 27 #[.pointer (some ⟨b, 0, none⟩), x.1.val] w fun e w' => e = .returned (.int .i64 0) ∧ CK w' b win l' ∧ But b w w' := by
  rw [← hl]
  exact add_ok h x.1 hx

theorem ok1 : okS e1.1 := ⟨e1.2, by decide, by decide, by decide⟩
theorem ok2 : okS e2.1 := ⟨e2.2, by decide, by decide, by decide⟩
theorem ok3 : okS e3.1 := ⟨e3.2, by decide, by decide, by decide⟩
theorem ok4 : okS e4.1 := ⟨e4.2, by decide, by decide, by decide⟩

theorem begun_ok (w : World) :
    Calls Try.prog 26 #[] w fun e w' => ∃ b, e = .returned (.pointer (some ⟨b, 0, none⟩)) ∧ w.heap.size ≤ b ∧ CK w' b 2 [e1] ∧ Below w.heap.size w w' := by
  have hO : Old w w := ⟨Below.refl _ _⟩
  go_enter Try.func26, Try.ntmps26
  go_wp2_with fail
  refine (new_ck 2 _ (by omega) (by omega)).mono ?_
  rintro e w1 ⟨b, rfl, hb, hC, hK⟩
  replace hO := hO.keep hK
  clear hK
  go_wp2_with fail
  refine (Best_ck hC).mono ?_
  rintro e w2 ⟨rfl, hK⟩
  replace hO := hO.keep hK
  replace hC := hC.below hK
  clear hK
  rw [show bT [] = (0, 0, 11) from rfl]
  go_wp2_with fail
  refine (swap_any _ _ _ _ _).mono ?_
  rintro e w3 ⟨rfl, hK⟩
  replace hO := hO.keep hK
  replace hC := hC.below hK
  clear hK
  go_wp2_with fail
  refine (add_e e1 ok1 hC rfl).mono ?_
  rintro e w4 ⟨rfl, hC1, hK⟩
  replace hO := hO.but hK hb
  clear hK hC
  go_wp2_with fail
  refine (best_ck hC1 98 4 (by decide +kernel)).mono ?_
  rintro e w5 ⟨rfl, hK⟩
  replace hO := hO.keep hK
  replace hC1 := hC1.below hK
  clear hK
  go_wp2_with fail
  go_ret
  exact ⟨b, rfl, hb, hC1, hO.below⟩

theorem awake16 (w : World) : Calls Try.prog 31 #[] w fun e w' => e = .returned (.bool true) ∧ Below w.heap.size w w' := by
  go_enter Try.func31, Try.ntmps31
  go_wp2_with (go_at_call 26; refine (begun_ok _).mono ?_; rintro e w1 ⟨b, rfl, hb, hC, hK⟩)
  go_ret
  exact ⟨rfl, hK⟩

end Go.Proofs.Ytfjdooloikofoaa.SyncA
