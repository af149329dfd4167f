/- snap: an act. No conditions. -/
import Derived.Test.YtagakcnhhhlolaaSnO
namespace Go.Proofs.Ytagakcnhhhlolaa.Base
open Go.RowKit
set_option linter.unusedVariables false
set_option linter.unusedSimpArgs false

/-- What an act makes of the marks. -/
noncomputable def actL (M : Mdl) (ms : List Mrk) (q : Ac) : List Mrk :=
  if q.kind = 0 ∨ q.kind = 1 ∨ q.kind = 2 then (if pushV M ms q.m = 0 then ms ++ [q.m] else ms)
  else if q.kind = 3 then (if q.n < 0 ∨ (ms.length : Int) ≤ q.n then ms else ms.take (q.n.toNat + 1))
  else if q.kind = 4 then (if ms.length = 1 then ms else dropL (ms.drop 1)) else ms
theorem trd_mt {W : World} {m : Mrk} {aH aR : Option Addr} {cH cR : Nat} (h1 : MI 0 W aH cH m.t.H) (h2 : MI 0 W aR cR m.t.R) (hs : I64 m.t.s) (hn : I64 m.t.nu) : MT W (.agg #[.bool m.t.is, .slice aH m.t.H.length cH, .slice aR m.t.R.length cR, .int .i64 m.t.s, .int .i64 m.t.nu]) m.t := ⟨⟨_, _, _, _, rfl, h1, h2⟩, hs, hn⟩
theorem mark_mb {W : World} {m : Mrk} {aX aP : Option Addr} {cX cP : Nat} (h1 : MI 0 W aX cX m.b.X) (h2 : MI 0 W aP cP m.b.P) (ht : I64 m.b.t) (hp : I64 m.b.pass) (hf : I64 m.b.fail) : MB 0 W (.agg #[.int .i64 m.b.t, .slice aX m.b.X.length cX, .slice aP m.b.P.length cP, .bool m.b.flag, .int .i64 m.b.pass, .int .i64 m.b.fail]) m.b := ⟨⟨_, _, _, _, rfl, h1, h2⟩, ht, hp, hf⟩

def ActEnd (W0 : World) (p : Nat) (M : Mdl) (ms : List Mrk) (w' : World) : Prop := ∃ v', PM W0.heap.size w' p v' M ms ∧ Below W0.heap.size W0 w'
def SomeInt (e : Ending) : Prop := ∃ r : Int, e = .returned (.int .i64 r)
theorem act_push {W0 w0 : World} {p : Nat} {v vb vt : Value} {M : Mdl} {ms : List Mrk} {m : Mrk} (h : PM W0.heap.size w0 p v M ms) (hB : Below W0.heap.size W0 w0) (hb : MB 0 w0 vb m.b) (ht : MT w0 vt m.t) (hok : MkOk m) :
    Calls Try.prog 35 #[.pointer (some ⟨p, 0, none⟩), vb, vt] w0 fun e w' => SomeInt e ∧ ActEnd W0 p M (if pushV M ms m = 0 then ms ++ [m] else ms) w' := by
  by_cases hv : pushV M ms m = 0
  · rw [if_pos hv]
    refine (push_yes h hB.size hb ht hok hv).mono ?_
    intro e w' hq
    obtain ⟨v', rfl, h1, h2⟩ := PushOk.below hB h hq
    exact ⟨⟨_, rfl⟩, v', h1, h2⟩
  · rw [if_neg hv]
    refine (push_refused h hB.size hb ht hok rfl hv).mono ?_
    rintro e w' ⟨rfl, hK⟩
    exact ⟨⟨_, rfl⟩, v, h.keep hK, more hB hK⟩
theorem act_cut {W0 w0 : World} {p : Nat} {v : Value} {M : Mdl} {ms : List Mrk} (h : PM W0.heap.size w0 p v M ms) (hB : Below W0.heap.size W0 w0) (n : Int) :
    Calls Try.prog 39 #[.pointer (some ⟨p, 0, none⟩), .int .i64 n] w0 fun e w' => SomeInt e ∧ ActEnd W0 p M (if n < 0 ∨ (ms.length : Int) ≤ n then ms else ms.take (n.toNat + 1)) w' := by
  by_cases hv : n < 0 ∨ (ms.length : Int) ≤ n
  · rw [if_pos hv]
    refine (cut_no h n hv).mono ?_
    rintro e w' ⟨rfl, rfl⟩
    exact ⟨⟨_, rfl⟩, v, h, hB⟩
  · rw [if_neg hv]
    obtain ⟨k, rfl⟩ : ∃ k : Nat, n = k := ⟨n.toNat, by omega⟩
    refine (cut_ok h hB.size k (by omega)).mono ?_
    rintro e w' hq
    obtain ⟨v', rfl, h1, h2, _⟩ := hq
    exact ⟨⟨_, rfl⟩, v', h1, h2.below hB (by rintro _ rfl; exact h.lo)⟩
theorem act_drop {W0 w0 : World} {p : Nat} {v : Value} {M : Mdl} {ms : List Mrk} (h : PM W0.heap.size w0 p v M ms) (hB : Below W0.heap.size W0 w0) :
    Calls Try.prog 37 #[.pointer (some ⟨p, 0, none⟩)] w0 fun e w' => SomeInt e ∧ ActEnd W0 p M (if ms.length = 1 then ms else dropL (ms.drop 1)) w' := by
  by_cases hv : ms.length = 1
  · rw [if_pos hv]
    refine (drop_no h hv).mono ?_
    rintro e w' ⟨rfl, rfl⟩
    exact ⟨⟨_, rfl⟩, v, h, hB⟩
  · rw [if_neg hv]
    have := h.pos
    refine (drop_ok h hB.size (ms.length - 2) (by omega)).mono ?_
    rintro e w' hq
    obtain ⟨v', rfl, h1, h2, _⟩ := hq
    exact ⟨⟨_, rfl⟩, v', h1, h2.below hB (by rintro _ rfl; exact h.lo)⟩
set_option maxHeartbeats 4000000 in
set_option maxRecDepth 100000 in
theorem act_is {W0 : World} {w0 : World} {p : Nat} {v : Value} {M : Mdl} {ms : List Mrk} {q : Ac} {cs : List Value} (h : PM W0.heap.size w0 p v M ms) (hB : Below W0.heap.size W0 w0) (hc : KO w0 cs q.m) (hok : MkOk q.m) :
    Calls Try.prog 44 #[.pointer (some ⟨p, 0, none⟩), .agg (.int .i64 q.kind :: .int .i64 q.n :: cs).toArray] w0 fun e w' => e = .returned (.tuple #[]) ∧ ActEnd W0 p M (actL M ms q) w' := by
  obtain ⟨k, n, m⟩ := q
  obtain ⟨aX, cX, aP, cP, aH, cH, aR, cR, rfl, h1, h2, h3, h4⟩ := hc.km
  have hmb : MB 0 w0 _ m.b := mark_mb h1 h2 hc.t hc.pass hc.fail
  have hmt : MT w0 _ m.t := trd_mt h3 h4 hc.s hc.nu
  clear h1 h2 h3 h4 hc
  have HP := Lib.hid h
  have HB := Lib.hid hB
  have HMB := Lib.hid hmb
  have HMT := Lib.hid hmt
  have HOK := Lib.hid hok
  clear h hB hmb hmt hok
  have HPU := Lib.hid (fun (w1 : World) (hK : Below w0.heap.size w0 w1) => act_push (HP.out.keep hK) (more HB.out hK) (HMB.out.keep hK) (HMT.out.keep hK) HOK.out)
  have HCU := Lib.hid (fun (w1 : World) (hK : Below w0.heap.size w0 w1) => act_cut (HP.out.keep hK) (more HB.out hK) n)
  have HDR := Lib.hid (fun (w1 : World) (hK : Below w0.heap.size w0 w1) => act_drop (HP.out.keep hK) (more HB.out hK))
  have HNO := Lib.hid (fun (w1 : World) (hK : Below w0.heap.size w0 w1) => (⟨v, HP.out.keep hK, more HB.out hK⟩ : ActEnd W0 p M ms w1))
  clear HP HB HMB HMT HOK
  go_enter Try.func44, Try.ntmps44
  go_wp2_with (first | ((with_reducible refine at_dst (N := 3) rfl ?_); refine ev_new rfl (cs := #[Value.int .i64 k, Value.int .i64 n, Value.int .i64 m.b.t, Value.slice aX m.b.X.length cX, Value.slice aP m.b.P.length cP, Value.bool m.b.flag, Value.int .i64 m.b.pass, Value.int .i64 m.b.fail, Value.bool m.t.is, Value.slice aH m.t.H.length cH, Value.slice aR m.t.R.length cR, Value.int .i64 m.t.s, Value.int .i64 m.t.nu]) (t := 68) (by go_simp) ?_; intro w1 b1 hB1 hz1; have x0 := b1.cell 0; have x1 := b1.cell 1; have x2 := b1.cell 2; have x3 := b1.cell 3; have x4 := b1.cell 4; have x5 := b1.cell 5; have x6 := b1.cell 6; have x7 := b1.cell 7; have x8 := b1.cell 8; have x9 := b1.cell 9; have x10 := b1.cell 10; have x11 := b1.cell 11; have x12 := b1.cell 12; simp at x0 x1 x2 x3 x4 x5 x6 x7 x8 x9 x10 x11 x12))
  all_goals clear x0 x1 x2 x3 x4 x5 x6 x7 x8 x9 x10 x11 x12 b1 hz1
  all_goals first
    | (refine (HPU.out w1 hB1).mono ?_
       rintro e w' ⟨⟨r, rfl⟩, hq⟩
       rw [← show actL M ms ⟨k, n, m⟩ = if pushV M ms m = 0 then ms ++ [m] else ms from if_pos (by show k = 0 ∨ k = 1 ∨ k = 2; simp only [beq_iff_eq, beq_eq_false_iff_ne, ne_eq] at *; omega)] at hq
       have HQ := Lib.hid hq
       clear hq HPU HCU HDR HNO
       go_wp2_with fail
       first | go_returns | go_ret
       exact ⟨rfl, HQ.out⟩)
    | (refine (HCU.out w1 hB1).mono ?_
       rintro e w' ⟨⟨r, rfl⟩, hq⟩
       rw [← show actL M ms ⟨k, n, m⟩ = if n < 0 ∨ (ms.length : Int) ≤ n then ms else ms.take (n.toNat + 1) from (if_neg (by show ¬ (k = 0 ∨ k = 1 ∨ k = 2); simp only [beq_iff_eq, beq_eq_false_iff_ne, ne_eq] at *; omega)).trans (if_pos (by show k = 3; simp only [beq_iff_eq, beq_eq_false_iff_ne, ne_eq] at *; omega))] at hq
       have HQ := Lib.hid hq
       clear hq HPU HCU HDR HNO
       go_wp2_with fail
       first | go_returns | go_ret
       exact ⟨rfl, HQ.out⟩)
    | (refine (HDR.out w1 hB1).mono ?_
       rintro e w' ⟨⟨r, rfl⟩, hq⟩
       rw [← show actL M ms ⟨k, n, m⟩ = if ms.length = 1 then ms else dropL (ms.drop 1) from (if_neg (by show ¬ (k = 0 ∨ k = 1 ∨ k = 2); simp only [beq_iff_eq, beq_eq_false_iff_ne, ne_eq] at *; omega)).trans ((if_neg (by show ¬ k = 3; simp only [beq_iff_eq, beq_eq_false_iff_ne, ne_eq] at *; omega)).trans (if_pos (by show k = 4; simp only [beq_iff_eq, beq_eq_false_iff_ne, ne_eq] at *; omega)))] at hq
       have HQ := Lib.hid hq
       clear hq HPU HCU HDR HNO
       go_wp2_with fail
       first | go_returns | go_ret
       exact ⟨rfl, HQ.out⟩)
    | (have hq := HNO.out w1 hB1
       rw [← show actL M ms ⟨k, n, m⟩ = ms from (if_neg (by show ¬ (k = 0 ∨ k = 1 ∨ k = 2); simp only [beq_iff_eq, beq_eq_false_iff_ne, ne_eq] at *; omega)).trans ((if_neg (by show ¬ k = 3; simp only [beq_iff_eq, beq_eq_false_iff_ne, ne_eq] at *; omega)).trans (if_neg (by show ¬ k = 4; simp only [beq_iff_eq, beq_eq_false_iff_ne, ne_eq] at *; omega)))] at hq
       have HQ := Lib.hid hq
       clear hq HPU HCU HDR HNO
       first | go_returns | go_ret
       exact ⟨rfl, HQ.out⟩)

end Go.Proofs.Ytagakcnhhhlolaa.Base
