/- poly.At. -/
import Derived.Test.YtkjbidpafnmogaaGreatPolH
import Derived.Test.YtkjbidpafnmogaaGreatEv
namespace Go.Proofs.YtkjbidpafnmogaaGreat.Base
open Go.RowKit Go.Shelf Go.Deep
set_option linter.unusedVariables false
set_option linter.unusedSimpArgs false
attribute [local go_sem] Oper.semAt_some

/-- A polynomial's value by Horner. -/
def hornM (t : Int) : List Mt → Mt × Bool
  | [] => (default, false)
  | [m] => (m, false)
  | m :: m' :: l =>
    let p := hornM t (m' :: l)
    let s := scaleM p.1 t
    let q := sumM s.1 m
    (q.1, p.2 || s.2 || q.2)
theorem hornM_cons (t : Int) (m : Mt) {l : List Mt} (h : 0 < l.length) : hornM t (m :: l) = ((sumM (scaleM (hornM t l).1 t).1 m).1, (hornM t l).2 || (scaleM (hornM t l).1 t).2 || (sumM (scaleM (hornM t l).1 t).1 m).2) := by
  cases l with
  | nil => simp at h
  | cons a l => rfl
theorem ok_each (f : Int → Int → Int × Bool) (m m' : Mt) (h : okMt m) : okMt (eachM f m m').1 ∧ (eachM f m m').1.r = m.r ∧ (eachM f m m').1.c = m.c := by
  obtain ⟨a1, a2⟩ := h.1
  obtain ⟨b1, b2⟩ := h.2.1
  refine ⟨ok_made (by omega) (by omega) (by omega) (by omega) _, ?_, ?_⟩ <;> simp [eachM, madeF] <;> omega
theorem horn_ok {t : Int} {p0 : Mt} : ∀ {l : List Mt}, 0 < l.length → (∀ m ∈ l, okMt m ∧ m.r = p0.r ∧ m.c = p0.c) → okMt (hornM t l).1 ∧ (hornM t l).1.r = p0.r ∧ (hornM t l).1.c = p0.c
  | [], h, _ => by simp at h
  | [m], _, h => h m (by simp)
  | m :: m' :: l, _, h => by
    obtain ⟨h1, h2, h3⟩ := horn_ok (t := t) (l := m' :: l) (by simp) (fun x hx => h x (List.mem_cons_of_mem _ hx))
    rw [hornM_cons t m (by simp)]
    obtain ⟨k1, k2, k3⟩ := ok_each (fun x _ => timesL [x, t]) (hornM t (m' :: l)).1 (hornM t (m' :: l)).1 h1
    obtain ⟨j1, j2, j3⟩ := ok_each (fun x y => plusL [x, y]) (scaleM (hornM t (m' :: l)).1 t).1 m k1
    exact ⟨j1, j2.trans (k2.trans h2), j3.trans (k3.trans h3)⟩

/-- A list of matrices at x, whose lists lie not in b. -/
structure MLs (b : Nat) (W : World) (x : Addr) (ms : List Mt) : Prop where
  at_ : ∀ j, (h : j < ms.length) → ∃ a k, (W.cell? (x.add (j * 3)) = some (.int .i64 ms[j].r) ∧ W.cell? ⟨(x.add (j * 3)).block, (x.add (j * 3)).off + 1, none⟩ = some (.int .i64 ms[j].c) ∧
    W.cell? ⟨(x.add (j * 3)).block, (x.add (j * 3)).off + 2, none⟩ = some (.slice a ms[j].v.length k)) ∧ ML b W a k ms[j].v
  ne : x.block ≠ b
theorem MLs.msc {b : Nat} {W : World} {x : Addr} {ms : List Mt} (h : MLs b W x ms) : MsC W x ms := ⟨fun j hj => by obtain ⟨a, k, h1, _⟩ := h.at_ j hj; exact ⟨a, k, h1⟩⟩
theorem MLs.but {b : Nat} {W W' : World} {x : Addr} {ms : List Mt} (h : MLs b W x ms) (k : But b W W') : MLs b W' x ms := by
  refine ⟨fun j hj => ?_, h.ne⟩
  obtain ⟨a, kk, ⟨h1, h2, h3⟩, h4⟩ := h.at_ j hj
  have hne : (x.add (j * 3)).block ≠ b := by rw [add_block]; exact h.ne
  exact ⟨a, kk, ⟨cell_but0 h1 hne k, cell_but0 h2 hne k, cell_but0 h3 hne k⟩, h4.but k⟩
/-- What a matrix that is handed on is good for. -/
structure GdM (b : Nat) (w : World) (p0 : Mt) (y : YM) : Prop where
  ml : ML b w y.a y.k y.m.v
  ok : okMt y.m
  r : y.m.r = p0.r
  c : y.m.c = p0.c
theorem MLs.mfm {b : Nat} {W : World} {x : Addr} {ms : List Mt} (h : MLs b W x ms) {p0 : Mt} (ho : ∀ m ∈ ms, okMt m ∧ m.r = p0.r ∧ m.c = p0.c) (y0 : { y : YM // GdM b W p0 y }) :
    ∃ f : Nat → { y : YM // GdM b W p0 y }, MFm W x ms.length (fun j => (f j).1) ∧ ∀ j, (hj : j < ms.length) → (f j).1.m = ms[j] := by
  have each : ∀ j, j < ms.length → ∃ y : { y : YM // GdM b W p0 y }, (W.cell? (x.add (j * 3)) = some (.int .i64 y.1.m.r) ∧ W.cell? ⟨(x.add (j * 3)).block, (x.add (j * 3)).off + 1, none⟩ = some (.int .i64 y.1.m.c) ∧
    W.cell? ⟨(x.add (j * 3)).block, (x.add (j * 3)).off + 2, none⟩ = some (.slice y.1.a y.1.m.v.length y.1.k)) ∧ some y.1.m = ms[j]? := by
    intro j hj
    obtain ⟨a, k, h1, h2⟩ := h.at_ j hj
    obtain ⟨o1, o2, o3⟩ := ho _ (List.getElem_mem hj)
    exact ⟨⟨⟨ms[j], a, k⟩, ⟨h2, o1, o2, o3⟩⟩, h1, by simp [hj]⟩
  have : Inhabited { y : YM // GdM b W p0 y } := ⟨y0⟩
  obtain ⟨f, hf⟩ := choose_lt each
  refine ⟨f, ⟨fun j hj => (hf j hj).1⟩, fun j hj => ?_⟩
  have := (hf j hj).2
  rw [List.getElem?_eq_getElem hj] at this
  exact Option.some.inj this

end Go.Proofs.YtkjbidpafnmogaaGreat.Base
