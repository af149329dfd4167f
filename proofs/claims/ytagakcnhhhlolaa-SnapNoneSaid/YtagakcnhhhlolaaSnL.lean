/- snap: the chapter's memory. No conditions. -/
import Derived.Test.YtagakcnhhhlolaaSnK
namespace Go.Proofs.Ytagakcnhhhlolaa.Base
open Go.RowKit
set_option linter.unusedVariables false
set_option linter.unusedSimpArgs false

theorem PM.mono {B B' : Nat} {W : World} {p : Nat} {v : Value} {M : Mdl} {ms : List Mrk} (h : PM B W p v M ms) (hB : B' ≤ B) : PM B' W p v M ms := by
  obtain ⟨aA, cA, aQ, cQ, aR, cR, h1, h2⟩ := h.ex
  exact ⟨⟨aA, cA, aQ, cQ, aR, cR, h1, h2.mono hB⟩, h.rows.mono hB, Nat.le_trans hB h.lo, h.ne, h.len, h.ok, h.mr⟩
def belB (t : Int) : Blf := ⟨t, [t], [1], false, 0, 0⟩
def oneM : Mdl := ⟨1, [0], [0], 4294967296, 4294967296, 1, []⟩
theorem ok_one : okM oneM := by
  refine ⟨by decide, ⟨?_, by decide⟩, ⟨by decide, ?_⟩, by decide, ⟨?_, by decide⟩⟩
  · rintro j ⟨hj, h1, h2⟩
    have : j = 0 := by simp [oneM] at hj; omega
    subst this
    exact h1 rfl
  · rintro ⟨z, hz, ho⟩
    simp [oneM] at hz
    unfold offP at ho
    subst hz
    omega
  · rintro j ⟨hj, h⟩
    simp [oneM] at hj
theorem fits_one {t : Int} (h : 0 ≤ t ∧ t ≤ 1099511627776) : fitsV oneM (belB t) = 0 := fitsV_0 ok_one ⟨rfl, rfl⟩ ⟨h, (by show (0 : Int) ≤ 0 ∧ (0 : Int) ≤ 1099511627776; decide), (by show (0 : Int) ≤ 0 ∧ (0 : Int) ≤ 1099511627776; decide)⟩ (fun i hi => by
  have hi : i < 1 := hi
  obtain rfl : i = 0 := by omega
  refine ⟨by show t ≠ lowest; unfold lowest; omega, (by show (0 : Int) ≤ 1; decide), fun k hk => ?_⟩
  have hk : k < 1 := hk
  obtain rfl : k = 0 := by omega
  exact ⟨(by show (1 : Int) ≠ lowest; decide), rfl⟩)
theorem mk_bel {t : Int} (h : 0 ≤ t ∧ t ≤ 1099511627776) (r : Trc) (hs : I64 r.s) (hn : I64 r.nu) (hh : r.H.length ≤ 1000) (hr : r.R.length ≤ 1000) : MkOk ⟨belB t, r⟩ :=
  ⟨by show I64 t; unfold I64; omega, i64_lit rfl, i64_lit rfl, hs, hn, by simp [belB], by simp [belB], hh, hr⟩

set_option maxHeartbeats 4000000 in
set_option maxRecDepth 100000 in
theorem bel_is (w : World) (t : Int) (hp : I64 t) : Calls Try.prog 36 #[.int .i64 t] w fun e w' => ∃ v, e = .returned v ∧ LB w.heap.size w' v (belB t) ∧ Below w.heap.size w w' := by
  have HP := Lib.hid hp
  clear hp
  go_enter Try.func36, Try.ntmps36
  go_wp2_with fail
  obtain ⟨W, hW⟩ : ∃ W, [Obj.cells #[Value.int .i64 t, .slice (some ⟨w.heap.size + 1, 0, none⟩) 1 1, .slice (some ⟨w.heap.size + 1 + 1, 0, none⟩) 1 1, .bool false, .int .i64 0, .int .i64 0] 27,
    Obj.cells #[Value.int .i64 t] 3, Obj.cells #[Value.int .i64 1] 3].foldl World.alloc w = W := ⟨_, rfl⟩
  have hb := (below_allocs w _).1.trans (by rw [hW]; exact Below.refl _ _)
  have b1 := blk_at w _ 1 _ _ rfl |> fun h => (hW ▸ h : Blk W _ _ _)
  have b2 := blk_at w _ 2 _ _ rfl |> fun h => (hW ▸ h : Blk W _ _ _)
  have hT : LB w.heap.size W (.agg #[.int .i64 t, .slice (some ⟨w.heap.size + 1, 0, none⟩) 1 1, .slice (some ⟨w.heap.size + 2, 0, none⟩) 1 1, .bool false, .int .i64 0, .int .i64 0]) (belB t) :=
    ⟨⟨_, _, _, _, rfl, LI.of_blk (zs := [t]) b1 (by omega) (by intro z hz; rw [List.mem_singleton.1 hz]; exact HP.out) (by simp), LI.of_blk (zs := [1]) b2 (by omega) (all_i64 (by decide)) (by simp)⟩, HP.out, i64_lit rfl, i64_lit rfl⟩
  subst hW
  clear b1 b2
  refine bodyPost_ret (v := .agg #[.int .i64 t, .slice (some ⟨w.heap.size + 1, 0, none⟩) 1 1, .slice (some ⟨w.heap.size + 2, 0, none⟩) 1 1, .bool false, .int .i64 0, .int .i64 0]) (by simp [results, Try.results36, go_sem]) rfl ?_
  exact ⟨_, rfl, hT, hb⟩
set_option maxHeartbeats 4000000 in
set_option maxRecDepth 100000 in
theorem one_is (w : World) : Calls Try.prog 45 #[] w fun e w' => ∃ v, e = .returned v ∧ MM 0 w' v oneM ∧ Below w.heap.size w w' := by
  go_enter Try.func45, Try.ntmps45
  go_wp2_with fail
  obtain ⟨W, hW⟩ : ∃ W, [Obj.cells #[Value.int .i64 1, .slice (some ⟨w.heap.size + 1, 0, none⟩) 1 1, .slice (some ⟨w.heap.size + 1 + 1, 0, none⟩) 1 1, .int .i64 4294967296, .int .i64 4294967296, .int .i64 1, .slice none 0 0] 25,
    Obj.cells #[Value.int .i64 0] 3, Obj.cells #[Value.int .i64 0] 3].foldl World.alloc w = W := ⟨_, rfl⟩
  have hb := (below_allocs w _).1.trans (by rw [hW]; exact Below.refl _ _)
  have b1 := blk_at w _ 1 _ _ rfl |> fun h => (hW ▸ h : Blk W _ _ _)
  have b2 := blk_at w _ 2 _ _ rfl |> fun h => (hW ▸ h : Blk W _ _ _)
  have hT : MM 0 W (.agg #[.int .i64 1, .slice (some ⟨w.heap.size + 1, 0, none⟩) 1 1, .slice (some ⟨w.heap.size + 2, 0, none⟩) 1 1, .int .i64 4294967296, .int .i64 4294967296, .int .i64 1, .slice none 0 0]) oneM :=
    ⟨⟨_, _, _, _, none, 0, rfl, (LI.of_blk (B := 0) (zs := [0]) b1 (by omega) (all_i64 (by decide)) (by simp)).mi, (LI.of_blk (B := 0) (zs := [0]) b2 (by omega) (all_i64 (by decide)) (by simp)).mi, ⟨fun k hk => absurd hk (by simp [oneM]), by simp [oneM, maxLen], fun _ _ _ => Nat.zero_le _, fun _ => rfl, Nat.le_refl _⟩⟩, i64_lit rfl, i64_lit rfl, i64_lit rfl, i64_lit rfl⟩
  subst hW
  clear b1 b2
  refine bodyPost_ret (v := .agg #[.int .i64 1, .slice (some ⟨w.heap.size + 1, 0, none⟩) 1 1, .slice (some ⟨w.heap.size + 2, 0, none⟩) 1 1, .int .i64 4294967296, .int .i64 4294967296, .int .i64 1, .slice none 0 0]) (by simp [results, Try.results45, go_sem]) rfl ?_
  exact ⟨_, rfl, hT, hb⟩
theorem push_yes {B : Nat} {w0 : World} {p : Nat} {v vb vt : Value} {M : Mdl} {ms : List Mrk} {m : Mrk} (h : PM B w0 p v M ms) (hB : B ≤ w0.heap.size) (hb : MB 0 w0 vb m.b) (ht : MT w0 vt m.t) (hok : MkOk m) (hv : pushV M ms m = 0) :
    Calls Try.prog 35 #[.pointer (some ⟨p, 0, none⟩), vb, vt] w0 (PushOk B w0 p v M ms m) := (push_is h hB hb ht hok).mono fun _ _ hq => hq.2 hv
theorem push_refused {B : Nat} {w0 : World} {p : Nat} {v vb vt : Value} {M : Mdl} {ms : List Mrk} {m : Mrk} {r : Int} (h : PM B w0 p v M ms) (hB : B ≤ w0.heap.size) (hb : MB 0 w0 vb m.b) (ht : MT w0 vt m.t) (hok : MkOk m) (hv : pushV M ms m = r) (hr : r ≠ 0) :
    Calls Try.prog 35 #[.pointer (some ⟨p, 0, none⟩), vb, vt] w0 (PushNo w0 r) := (push_is h hB hb ht hok).mono fun _ _ hq => by rw [hv] at hq; exact hq.1 hr
theorem push0 {ms : List Mrk} {t : Int} {r : Trc} (ht : 0 ≤ t ∧ t ≤ 1099511627776) (hl : lastT ms ≤ t) (hn : ms.length ≤ 200) : pushV oneM ms ⟨belB t, r⟩ = 0 := by
  have h2 : ¬ (belB t).t < lastT ms := by show ¬ t < _; omega
  unfold pushV
  rw [if_neg (by simpa using fits_one ht), if_neg h2, if_neg (by omega)]
def mk (t : Int) (r : Trc) : Mrk := ⟨belB t, r⟩
def trc7 : Trc := ⟨true, [], [], 7, 0⟩
def madeL : List Mrk := [mk 3 trc0, mk 5 trc0, mk 5 trc7, mk 9 trc0]
theorem mt_0 (W : World) : MT W (.agg #[.bool false, .slice none 0 0, .slice none 0 0, .int .i64 0, .int .i64 0]) trc0 := ⟨⟨none, 0, none, 0, rfl, MI.nil _ _, MI.nil _ _⟩, i64_lit rfl, i64_lit rfl⟩
theorem mt_7 (W : World) : MT W (.agg #[.bool true, .slice none 0 0, .slice none 0 0, .int .i64 7, .int .i64 0]) trc7 := ⟨⟨none, 0, none, 0, rfl, MI.nil _ _, MI.nil _ _⟩, i64_lit rfl, i64_lit rfl⟩
theorem MB.zero {B : Nat} {W : World} {v : Value} {b : Blf} (h : MB B W v b) : MB 0 W v b := h.mono (Nat.zero_le _)
theorem PushOk.below {w0 w w' : World} {p : Nat} {v : Value} {M : Mdl} {ms : List Mrk} {m : Mrk} {e : Ending} (hB : Below w0.heap.size w0 w) (hp : PM w0.heap.size w p v M ms) (h : PushOk w0.heap.size w p v M ms m e w') : ∃ v', e = .returned (.int .i64 0) ∧ PM w0.heap.size w' p v' M (ms ++ [m]) ∧ Below w0.heap.size w0 w' := by
  obtain ⟨v', he, h1, h2, _⟩ := h
  exact ⟨v', he, h1, h2.below hB (by rintro k (rfl | hk); exact hp.lo; exact (hp.rows.ty k hk).2)⟩
set_option maxHeartbeats 4000000 in
set_option maxRecDepth 100000 in
theorem made_is (w : World) : Calls Try.prog 32 #[] w fun e w' => ∃ p v, e = .returned (.pointer (some ⟨p, 0, none⟩)) ∧ PM w.heap.size w' p v oneM madeL ∧ Below w.heap.size w w' := by
  go_enter Try.func32, Try.ntmps32
  go_wp2_with fail
  refine (one_is _).mono ?_
  rintro e w1 ⟨v1, rfl, hM, hB1⟩
  go_wp2_with fail
  refine (bel_is _ 3 (i64_lit rfl)).mono ?_
  rintro e w2 ⟨v2, rfl, hb, hB2⟩
  replace hB1 := more hB1 hB2
  go_wp2_with fail
  refine ((new_is (hM.keep hB2) hb.mb.zero (by decide) (by decide) (by decide) (by simp [oneM]) (mk_bel (by decide) _ (i64_lit rfl) (i64_lit rfl) (by decide) (by decide))).mono fun _ _ hq => hq.2 (fits_one (by decide))).mono ?_
  rintro e w3 ⟨p, v, rfl, hp, hB3⟩
  have hs := hB1.size
  replace hp := hp.mono hs
  replace hB1 := more hB1 hB3
  clear hb hM hB2 hB3 hs
  go_wp2_with fail
  refine (bel_is _ 5 (i64_lit rfl)).mono ?_
  rintro e wa ⟨v2, rfl, hb, hB2⟩
  replace hp := hp.keep hB2
  replace hB1 := more hB1 hB2
  clear hB2
  go_wp2_with fail
  refine (push_yes (m := mk 5 trc0) hp hB1.size hb.mb.zero (mt_0 _) (mk_bel (by decide) _ (i64_lit rfl) (i64_lit rfl) (by decide) (by decide)) (push0 (by decide) (by decide) (by decide))).mono ?_
  rintro e wb hq
  obtain ⟨v', rfl, hp', hB'⟩ := PushOk.below hB1 hp hq
  clear hq hB1 hp hb
  have hp := hp'
  have hB1 := hB'
  clear hp' hB'
  go_wp2_with fail
  refine (bel_is _ 5 (i64_lit rfl)).mono ?_
  rintro e wa ⟨v2, rfl, hb, hB2⟩
  replace hp := hp.keep hB2
  replace hB1 := more hB1 hB2
  clear hB2
  go_wp2_with fail
  refine (push_yes (m := mk 5 trc7) hp hB1.size hb.mb.zero (mt_7 _) (mk_bel (by decide) _ (i64_lit rfl) (i64_lit rfl) (by decide) (by decide)) (push0 (by decide) (by decide) (by decide))).mono ?_
  rintro e wb hq
  obtain ⟨v', rfl, hp', hB'⟩ := PushOk.below hB1 hp hq
  clear hq hB1 hp hb
  have hp := hp'
  have hB1 := hB'
  clear hp' hB'
  go_wp2_with fail
  refine (bel_is _ 9 (i64_lit rfl)).mono ?_
  rintro e wa ⟨v2, rfl, hb, hB2⟩
  replace hp := hp.keep hB2
  replace hB1 := more hB1 hB2
  clear hB2
  go_wp2_with fail
  refine (push_yes (m := mk 9 trc0) hp hB1.size hb.mb.zero (mt_0 _) (mk_bel (by decide) _ (i64_lit rfl) (i64_lit rfl) (by decide) (by decide)) (push0 (by decide) (by decide) (by decide))).mono ?_
  rintro e wb hq
  obtain ⟨v', rfl, hp', hB'⟩ := PushOk.below hB1 hp hq
  clear hq hB1 hp hb
  have hp := hp'
  have hB1 := hB'
  clear hp' hB'
  go_wp2_with fail
  refine (mlen_is hp).mono ?_
  rintro e w' ⟨rfl, rfl⟩
  go_wp2_with fail
  go_ret
  exact ⟨_, _, rfl, hp, hB1⟩

end Go.Proofs.Ytagakcnhhhlolaa.Base
