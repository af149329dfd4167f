/- SyncTrue: the walk; no conditions. -/
import Derived.Test.YtfjdooloikofoaaSyncT
namespace Go.Proofs.Ytfjdooloikofoaa.SyncA
open Go.RowKit Go.Shelf Go.Proofs.Ytfjdooloikofoaa.StampA Go.Proofs.Ytfjdooloikofoaa.Base
set_option linter.unusedVariables false
set_option linter.unusedSimpArgs false

theorem pick_q (x : Int) (h : -9223372036854775808 ≤ x ∧ x ≤ 9223372036854775807) : ∃ p : Int, 0 ≤ p ∧ p ≤ 1000000000 ∧ Hid (∀ w : World, Calls Try.prog 25 #[.int .i64 x, .int .i64 1000000001] w fun e w' => e = .returned (.int .i64 p) ∧ ∃ m, w' = w.drewN m) :=
  ⟨x % 1000000001, by omega, by omega, fun w => (pick_any x 1000000001 w (by omega) (by omega) h.1 h.2).mono fun _ _ ⟨he, hw⟩ => ⟨he, 0, hw.symm⟩⟩
theorem CK.drewN {w : World} {b : Nat} {win : Int} {l : List TSw} (h : CK w b win l) (n : Nat) : CK (w.drewN n) b win l := h.below ⟨rfl, rfl, rfl, Nat.le_refl _, fun _ _ => rfl⟩
theorem IQ.drewN {w0 W : World} {b q off c : Nat} {zs : List Int} (h : IQ w0 b q off c zs W) (n : Nat) : IQ w0 b q off c zs (W.drewN n) := h.keep ⟨rfl, rfl, rfl, Nat.le_refl _, fun _ _ => rfl⟩
theorem old_drewN {w0 w : World} (h : Old w0 w) (n : Nat) : Old w0 (w.drewN n) := ⟨h.below.trans ⟨rfl, rfl, rfl, Nat.le_refl _, fun _ _ => rfl⟩⟩
theorem pushL_mem {win : Int} {l : List TSw} {x y : TSw} (h : y ∈ pushL win l x) : y ∈ l ∨ y = x := by
  unfold pushL at h
  split at h
  · simp at h; rcases h with h | h
    · exact .inl (List.mem_of_mem_tail h)
    · exact .inr h
  · simpa using h
theorem pushL_map_part {win : Int} {l : List TSw} {x : TSw} (h : (l.length : Int) ≠ win) : (pushL win l x).map (fun x => rnd x.1) = l.map (fun x => rnd x.1) ++ [rnd x.1] := by
  unfold pushL; rw [if_neg h]; simp
theorem pushL_map_full {win : Int} {l : List TSw} {x : TSw} (h : (l.length : Int) = win) (hl : 0 < l.length) : (pushL win l x).map (fun x => rnd x.1) = (l.map (fun x => rnd x.1) ++ [rnd x.1]).tail := by
  unfold pushL; rw [if_pos h]
  cases l with
  | nil => simp at hl
  | cons a t => simp
/-- The exchange that a trip makes. -/
theorem trip_ok {th p1 p2 p3 p4 : Int} (h1 : -1000000001 ≤ th) (h2 : th ≤ 1000000000) (a1 : 0 ≤ p1) (b1 : p1 ≤ 1000000000) (a2 : 0 ≤ p2) (b2 : p2 ≤ 1000000000) (a3 : 0 ≤ p3) (b3 : p3 ≤ 1000000000) (a4 : 0 ≤ p4) (b4 : p4 ≤ 1000000000) :
    okS ⟨2000000002 + p1, 2000000002 + p1 + th + p2, 2000000002 + p1 + th + p2 + p3, 2000000002 + p1 + p2 + p3 + p4⟩ :=
  ⟨⟨by constructor <;> dsimp only <;> omega, by constructor <;> dsimp only <;> omega, by constructor <;> dsimp only <;> omega, by constructor <;> dsimp only <;> omega⟩, by dsimp only; omega, by dsimp only; omega, by unfold rnd; dsimp only; omega⟩
/-- The queue at a round's begin. -/
def QV (w0 : World) (b : Nat) (zs : List Int) (v : Value) (W : World) : Prop :=
  (zs = [] ∧ v = .slice none 0 0) ∨ ∃ q off c, v = .slice (some ⟨q, off, none⟩) zs.length c ∧ IQ w0 b q off c zs W

theorem QV.keep {w0 W W' : World} {b : Nat} {zs : List Int} {v : Value} (h : QV w0 b zs v W) (hK : Below W.heap.size W W') : QV w0 b zs v W' := by
  rcases h with h | ⟨q, off, c, hv, hq⟩
  · exact .inl h
  · exact .inr ⟨q, off, c, hv, hq.keep hK⟩

theorem Low.next2 {y : Int} {zs : List Int} {k : Nat} (h : Low y zs k) : Low (if zs.getD k 0 < y then zs.getD k 0 else y) zs (k + 1) := by
  have := h.next
  by_cases hc : zs.getD k 0 < y
  · rw [if_pos hc]; rwa [Int.min_eq_right (by omega)] at this
  · rw [if_neg hc]; rwa [Int.min_eq_left (by omega)] at this
theorem QV.but {w0 W W' : World} {b : Nat} {zs : List Int} {v : Value} (h : QV w0 b zs v W) (hK : But b W W') : QV w0 b zs v W' := by
  rcases h with h | ⟨q, off, c, hv, hq⟩
  · exact .inl h
  · exact .inr ⟨q, off, c, hv, hq.but hK⟩

set_option maxHeartbeats 16000000 in
set_option maxRecDepth 100000 in
theorem true_core (th0 win0 : Int) (a : Option Addr) (len cap : Nat) (g : Nat → Four) (w : World) (hw0 : -9223372036854775808 ≤ win0) (hw1 : win0 ≤ 9223372036854775807) (ht0 : -9223372036854775808 ≤ th0) (ht1 : th0 ≤ 9223372036854775807) (hF : Fours w a len g) :
    Calls Try.prog 12 #[.int .i64 th0, .int .i64 win0, .slice a len cap] w fun e w' => e = .returned (.bool true) ∧ Below w.heap.size w w' := by
  have hml := hF.len
  unfold maxLen at hml
  have hO : Old w w := ⟨Below.refl _ _⟩
  go_enter Try.func12, Try.ntmps12
  go_wp2_with fail
  refine (known16 _).mono ?_
  rintro e w1 ⟨rfl, hK⟩
  replace hO := hO.keep hK
  clear hK
  go_wp2_with fail
  refine (pick_some _ _ _ (by omega) (by omega) (by omega) (by omega)).mono ?_
  rintro e w' ⟨p, rfl, hp, hp2, rfl⟩
  go_wp2_with fail
  refine (pick_some _ _ _ (by omega) (by omega) (by omega) (by omega)).mono ?_
  rintro e w' ⟨t, rfl, ht, ht2, rfl⟩
  go_wp2_with fail
  refine (new_ck (1 + p) _ (by omega) (by omega)).mono ?_
  rintro e w2 ⟨b, rfl, hbo, hC, hK⟩
  have hbw : w.heap.size ≤ b := Nat.le_trans hO.below.size hbo
  replace hO := hO.keep hK
  clear hK hbo
  obtain ⟨win, hwin⟩ : ∃ win, 1 + p = win := ⟨_, rfl⟩
  obtain ⟨th, hth⟩ : ∃ th, t - 1000000001 = th := ⟨_, rfl⟩
  have hwa : 1 ≤ win := by omega
  have hwb : win ≤ 32 := by omega
  have hta : -1000000001 ≤ th := by omega
  have htb : th ≤ 1000000000 := by omega
  by_cases h60 : 60 < len
  · have h60' : (60 : Int) < (len : Int) := by omega
    go_wp2_with fail
    go_ret
    exact ⟨rfl, hO.below⟩
  have h60' : (len : Int) ≤ 60 := by omega
  simp only [hwin, hth] at hC ⊢
  clear hwin hth hp hp2 ht ht2 h60 hw0 hw1 ht0 ht1
  go_wp2_with fail
  go_loopw [10, 11] (fun v i wr => ∃ (k : Nat) (l : List TSw), k ≤ len ∧ i = .int .i64 k ∧ CK wr b win l ∧ QV w b (l.map fun x => rnd x.1) v wr ∧ (∀ x ∈ l, Trip th x) ∧ Old w wr) (fun _ i _ => len - (intOf i).toNat)
  case atStart => exact ⟨0, [], Nat.zero_le _, rfl, hC, .inl ⟨rfl, rfl⟩, by simp, hO⟩
  case round =>
    clear hC hO
    obtain ⟨k, l, hk, rfl, hC, hQ, hT, hO⟩ := hrel
    by_cases hkl : k < len
    · have hkl' : (k : Int) < (len : Int) := by omega
      have hk0 : (0 : Int) ≤ (k : Int) := by omega
      obtain ⟨ad, rfl, c0, c1, c2, c3, hI⟩ := (hF.old hO.below).at_ k hkl
      have i0 := hI.a
      have i1 := hI.b
      have i2 := hI.c
      have i3 := hI.d
      clear hI
      generalize (g k).a = x1 at *
      generalize (g k).b = x2 at *
      generalize (g k).c = x3 at *
      generalize (g k).d = x4 at *
      obtain ⟨p1, pa1, pb1, P1⟩ := pick_q x1 i0
      obtain ⟨p2, pa2, pb2, P2⟩ := pick_q x2 i1
      obtain ⟨p3, pa3, pb3, P3⟩ := pick_q x3 i2
      obtain ⟨p4, pa4, pb4, P4⟩ := pick_q x4 i3
      clear i0 i1 i2 i3
      go_wp2_with fail
      go_quiet (first
        | (go_at_call_of 25 (Value.int IntKind.i64 x1); exact Calls.quiet_of (P1.out _))
        | (go_at_call_of 25 (Value.int IntKind.i64 x2); exact Calls.quiet_of (P2.out _))
        | (go_at_call_of 25 (Value.int IntKind.i64 x3); exact Calls.quiet_of (P3.out _))
        | (go_at_call_of 25 (Value.int IntKind.i64 x4); exact Calls.quiet_of (P4.out _)))
      replace hC := hC.drewN nq
      replace hQ := hQ.keep (W' := wr.drewN nq) ⟨rfl, rfl, rfl, Nat.le_refl _, fun _ _ => rfl⟩
      replace hO := old_drewN hO nq
      clear c0 c1 c2 c3 P1 P2 P3 P4
      go_wp2_with fail
      generalize wr.drewN nq = W at *
      refine (swap_any _ _ _ _ _).mono ?_
      rintro e w3 ⟨rfl, hK⟩
      replace hC := hC.below hK
      replace hQ := hQ.keep hK
      replace hO := hO.keep hK
      clear hK
      have hx := trip_ok hta htb pa1 pb1 pa2 pb2 pa3 pb3 pa4 pb4
      have hTx : Trip th ⟨_, hx.1⟩ := ⟨p2, p4, pa2, pb2, pa4, pb4, rfl, by dsimp only; omega⟩
      have hrx : rnd ⟨2000000002 + p1, 2000000002 + p1 + th + p2, 2000000002 + p1 + th + p2 + p3, 2000000002 + p1 + p2 + p3 + p4⟩ = p2 + p4 := by unfold rnd; dsimp only; omega
      obtain ⟨l', hl'⟩ : ∃ l', pushL win l ⟨_, hx.1⟩ = l' := ⟨_, rfl⟩
      have hT' : ∀ x ∈ l', Trip th x := fun y hy => by
        rw [← hl'] at hy
        rcases pushL_mem hy with h | h
        · exact hT y h
        · rw [h]; exact hTx
      have hn32 : (l.length : Int) ≤ win := hC.len
      generalize 2000000002 + p1 = t1 at *
      generalize t1 + th + p2 = t2 at *
      generalize t2 + p3 = t3 at *
      generalize t1 + p2 + p3 + p4 = t4 at *
      go_wp2_with fail
      have hK4 : Below w3.heap.size w3 (w3.alloc (.cells #[.int .i64 t1, .int .i64 t2, .int .i64 t3, .int .i64 t4] 48)) := (Below.refl _ _).alloc (Nat.le_refl _) _
      replace hC := hC.below hK4
      replace hQ := hQ.keep hK4
      replace hO := hO.keep hK4
      refine (add_ok hC ⟨t1, t2, t3, t4⟩ hx).mono ?_
      rintro e w5 ⟨rfl, hC5, hK⟩
      rw [hl'] at hC5
      replace hO := hO.but hK hbw
      replace hQ := hQ.but hK
      clear hK hK4 hC hT hTx
      have hC := hC5
      clear hC5
      have hbl := hC.lt
      have hos := hO.below.size
      have hC5 : CK (w5.alloc (.cells #[.int .i64 (p2 + p4)] 3)) b win l' := hC.below ((Below.refl _ _).alloc (Nat.le_refl _) _)
      have hO5 : Old w (w5.alloc (.cells #[.int .i64 (p2 + p4)] 3)) := hO.keep ((Below.refl _ _).alloc (Nat.le_refl _) _)
      rcases hQ with ⟨hz, rfl⟩ | ⟨q, off, c, rfl, hq⟩
      · have hl0 : l = [] := List.map_eq_nil_iff.1 hz
        have hmap : l'.map (fun x => rnd x.1) = [p2 + p4] := by rw [← hl', pushL_map_part (by rw [hl0]; simp; omega), hl0, hrx]; rfl
        clear hz hl' hrx
        go_wp2_with (at_builtin; refine iq_law0 (w0 := w) (b := b) rfl (.tmp 100) (.tmp 104) rfl rfl w5.heap.size (p2 + p4) rfl ((Blk.new w5 _ _).cell 0) (by simp; omega) (by simp; omega) ?_)
        intro q off c w6 hq hB
        clear hC hO
        have hC := hC5.but hq.ne.symm hB
        have hO := hO5.but hB hq.ge
        clear hB hC5 hO5
        have hgt : ¬ win < ((1 : Nat) : Int) := by omega
        have hq1 := hq
        have hl1 : ([p2 + p4]).length = 1 := by simp
        have hl2 : l'.length = 1 := by rw [← hl1, ← hmap, List.length_map]
        obtain ⟨zt, hzt⟩ : ∃ zt, [p2 + p4] = zt := ⟨_, rfl⟩
        simp only [hzt] at hq1 hl1 hmap ⊢
        have q0 := hq1.cell 0 (by omega)
        obtain ⟨z0, hz0⟩ : ∃ z, zt.getD 0 0 = z := ⟨_, rfl⟩
        rw [hz0] at q0
        have hcl := hq.len
        simp only [List.length_append, List.length_singleton, List.length_cons, List.length_nil, Nat.add_zero] at q0 hcl
        have hn32 := hC.len
        rw [hl2] at hn32
        go_wp2_with fail
        have hlow0 : Low z0 zt 1 := hz0 ▸ ⟨⟨0, by omega, rfl⟩, fun j hj => by rw [show j = 0 by omega]; exact Int.le_refl _⟩
        clear q0 hq hzt hz0
        go_loopw [17, 18] (fun m i wr => ∃ (k2 : Nat) (y : Int), 1 ≤ k2 ∧ k2 ≤ 1 ∧ i = .int .i64 k2 ∧ m = .int .i64 y ∧ Hid (Low y zt k2) ∧ wr = w6) (fun _ i _ => 1 - (intOf i).toNat)
        case atStart => exact ⟨1, _, by omega, by omega, rfl, rfl, hlow0, rfl⟩
        case round =>
          clear hlow0
          obtain ⟨k2, y, hk1, hk2, rfl, rfl, hlow, rfl⟩ := hrel
          by_cases hk3 : k2 < 1
          · have hk3' : (k2 : Int) < ((1 : Nat) : Int) := by omega
            have hk20 : (0 : Int) ≤ (k2 : Int) := by omega
            omega
          · have hge2 : ¬ (k2 : Int) < ((1 : Nat) : Int) := by omega
            obtain ⟨o, hbt, m0, m1, d1, d2⟩ := round_right (l := l') (by omega) hT' (by rw [hmap, hl2]; have := hlow.out; rwa [show k2 = 1 by omega] at this)
            have HBT := Lib.hid (Best_ck hC)
            rw [hbt] at HBT
            clear hbt
            go_wp2_with fail
            refine HBT.out.mono ?_
            rintro e w7 ⟨rfl, hK⟩
            clear HBT
            dsimp only
            have hC7 := hC.below hK
            have hq7 := hq1.keep hK
            have hO7 := hO.keep hK
            clear hK
            have HL := Lib.hid (len_ck hC7)
            rw [hl2] at HL
            go_wp2_with (go_at_call 36; refine HL.out.mono ?_; rintro e w8 ⟨rfl, rfl⟩)
            all_goals try go_roundw
            case rel => exact ⟨k + 1, l', by omega, by go_num, hC7, .inr ⟨_, _, _, by rw [hmap, hl1], by rw [hmap]; exact hq7⟩, hT', hO7⟩
            case measure => simp [intOf]; omega
      · have hq5 := hq.keep (W' := w5.alloc (.cells #[.int .i64 (p2 + p4)] 3)) ((Below.refl _ _).alloc (Nat.le_refl _) _)
        obtain ⟨zs, hzs⟩ : ∃ zs, l.map (fun x => rnd x.1) = zs := ⟨_, rfl⟩
        obtain ⟨n, hn⟩ : ∃ n, zs.length = n := ⟨_, rfl⟩
        have hnl : l.length = n := by rw [← hn, ← hzs, List.length_map]
        have hn0 : 0 < n := by rw [← hn, ← hzs]; exact hq.pos
        simp only [hzs, hn] at hq5 ⊢
        have hqlt : q < w5.heap.size := by obtain ⟨_, hb, _⟩ := hq.cur; exact hb.lt
        clear hq
        have hle32 : n ≤ 32 := by omega
        go_wp2_with (at_builtin; refine iq_law hq5 rfl (.tmp 100) (.tmp 104) rfl hn rfl w5.heap.size (p2 + p4) rfl ((Blk.new w5 _ _).cell 0) (by omega) (by simp; omega) (by simp; omega) ?_)
        clear hq5 hqlt
        intro q off c w6 hq hB
        clear hC hO
        have hC := hC5.but hq.ne.symm hB
        have hO := hO5.but hB hq.ge
        clear hB hC5 hO5
        by_cases hfull : (l.length : Int) = win
        · have hmap : l'.map (fun x => rnd x.1) = (zs ++ [p2 + p4]).tail := by rw [← hl', pushL_map_full hfull (by omega), hzs, hrx]
          have hgt : win < ((n + 1 : Nat) : Int) := by omega
          clear hl' hrx hzs
          have hq1 := hq.tail (by simp; omega)
          have hl1 : ((zs ++ [p2 + p4]).tail).length = n := by simp; omega
          have hl2 : l'.length = n := by rw [← hl1, ← hmap, List.length_map]
          obtain ⟨zt, hzt⟩ : ∃ zt, (zs ++ [p2 + p4]).tail = zt := ⟨_, rfl⟩
          simp only [hzt] at hq1 hl1 hmap ⊢
          have q0 := hq1.cell 0 (by omega)
          obtain ⟨z0, hz0⟩ : ∃ z, zt.getD 0 0 = z := ⟨_, rfl⟩
          rw [hz0] at q0
          have hcl := hq.len
          simp only [List.length_append, List.length_singleton, List.length_cons, List.length_nil, Nat.add_zero] at q0 hcl
          have hn32 := hC.len
          rw [hl2] at hn32
          go_wp2_with fail
          have hlow0 : Low z0 zt 1 := hz0 ▸ ⟨⟨0, by omega, rfl⟩, fun j hj => by rw [show j = 0 by omega]; exact Int.le_refl _⟩
          clear q0 hq hzt hz0
          go_loopw [17, 18] (fun m i wr => ∃ (k2 : Nat) (y : Int), 1 ≤ k2 ∧ k2 ≤ n ∧ i = .int .i64 k2 ∧ m = .int .i64 y ∧ Hid (Low y zt k2) ∧ wr = w6) (fun _ i _ => n - (intOf i).toNat)
          case atStart => exact ⟨1, _, by omega, by omega, rfl, rfl, hlow0, rfl⟩
          case round =>
            clear hlow0
            obtain ⟨k2, y, hk1, hk2, rfl, rfl, hlow, rfl⟩ := hrel
            by_cases hk3 : k2 < n
            · have hk3' : (k2 : Int) < ((n : Nat) : Int) := by omega
              have hk20 : (0 : Int) ≤ (k2 : Int) := by omega
              have qk := hq1.cell k2 (by omega)
              have hlw := hlow.out.next2
              generalize zt.getD k2 0 = zk at *
              go_wp2_with fail
              all_goals go_roundw
              case rel => exact ⟨k2 + 1, _, by omega, by omega, by go_num, rfl, hlw, trivial⟩
              case measure => simp [intOf]; omega
            · have hge2 : ¬ (k2 : Int) < ((n : Nat) : Int) := by omega
              obtain ⟨o, hbt, m0, m1, d1, d2⟩ := round_right (l := l') (by omega) hT' (by rw [hmap, hl2]; have := hlow.out; rwa [show k2 = n by omega] at this)
              have HBT := Lib.hid (Best_ck hC)
              rw [hbt] at HBT
              clear hbt
              go_wp2_with fail
              refine HBT.out.mono ?_
              rintro e w7 ⟨rfl, hK⟩
              clear HBT
              dsimp only
              have hC7 := hC.below hK
              have hq7 := hq1.keep hK
              have hO7 := hO.keep hK
              clear hK
              have HL := Lib.hid (len_ck hC7)
              rw [hl2] at HL
              go_wp2_with (go_at_call 36; refine HL.out.mono ?_; rintro e w8 ⟨rfl, rfl⟩)
              all_goals try go_roundw
              case rel => exact ⟨k + 1, l', by omega, by go_num, hC7, .inr ⟨_, _, _, by rw [hmap, hl1], by rw [hmap]; exact hq7⟩, hT', hO7⟩
              case measure => simp [intOf]; omega
        · have hmap : l'.map (fun x => rnd x.1) = zs ++ [p2 + p4] := by rw [← hl', pushL_map_part hfull, hzs, hrx]
          have hgt : ¬ win < ((n + 1 : Nat) : Int) := by omega
          clear hl' hrx hzs
          have hq1 := hq
          have hl1 : ((zs ++ [p2 + p4])).length = (n + 1) := by simp; omega
          have hl2 : l'.length = (n + 1) := by rw [← hl1, ← hmap, List.length_map]
          obtain ⟨zt, hzt⟩ : ∃ zt, (zs ++ [p2 + p4]) = zt := ⟨_, rfl⟩
          simp only [hzt] at hq1 hl1 hmap ⊢
          have q0 := hq1.cell 0 (by omega)
          obtain ⟨z0, hz0⟩ : ∃ z, zt.getD 0 0 = z := ⟨_, rfl⟩
          rw [hz0] at q0
          have hcl := hq.len
          simp only [List.length_append, List.length_singleton, List.length_cons, List.length_nil, Nat.add_zero] at q0 hcl
          have hn32 := hC.len
          rw [hl2] at hn32
          go_wp2_with fail
          have hlow0 : Low z0 zt 1 := hz0 ▸ ⟨⟨0, by omega, rfl⟩, fun j hj => by rw [show j = 0 by omega]; exact Int.le_refl _⟩
          clear q0 hq hzt hz0
          go_loopw [17, 18] (fun m i wr => ∃ (k2 : Nat) (y : Int), 1 ≤ k2 ∧ k2 ≤ (n + 1) ∧ i = .int .i64 k2 ∧ m = .int .i64 y ∧ Hid (Low y zt k2) ∧ wr = w6) (fun _ i _ => (n + 1) - (intOf i).toNat)
          case atStart => exact ⟨1, _, by omega, by omega, rfl, rfl, hlow0, rfl⟩
          case round =>
            clear hlow0
            obtain ⟨k2, y, hk1, hk2, rfl, rfl, hlow, rfl⟩ := hrel
            by_cases hk3 : k2 < (n + 1)
            · have hk3' : (k2 : Int) < (((n + 1) : Nat) : Int) := by omega
              have hk20 : (0 : Int) ≤ (k2 : Int) := by omega
              have qk := hq1.cell k2 (by omega)
              have hlw := hlow.out.next2
              generalize zt.getD k2 0 = zk at *
              go_wp2_with fail
              all_goals go_roundw
              case rel => exact ⟨k2 + 1, _, by omega, by omega, by go_num, rfl, hlw, trivial⟩
              case measure => simp [intOf]; omega
            · have hge2 : ¬ (k2 : Int) < (((n + 1) : Nat) : Int) := by omega
              obtain ⟨o, hbt, m0, m1, d1, d2⟩ := round_right (l := l') (by omega) hT' (by rw [hmap, hl2]; have := hlow.out; rwa [show k2 = (n + 1) by omega] at this)
              have HBT := Lib.hid (Best_ck hC)
              rw [hbt] at HBT
              clear hbt
              go_wp2_with fail
              refine HBT.out.mono ?_
              rintro e w7 ⟨rfl, hK⟩
              clear HBT
              dsimp only
              have hC7 := hC.below hK
              have hq7 := hq1.keep hK
              have hO7 := hO.keep hK
              clear hK
              have HL := Lib.hid (len_ck hC7)
              rw [hl2] at HL
              go_wp2_with (go_at_call 36; refine HL.out.mono ?_; rintro e w8 ⟨rfl, rfl⟩)
              all_goals try go_roundw
              case rel => exact ⟨k + 1, l', by omega, by go_num, hC7, .inr ⟨_, _, _, by rw [hmap, hl1], by rw [hmap]; exact hq7⟩, hT', hO7⟩
              case measure => simp [intOf]; omega
    · have hge : ¬ (k : Int) < (len : Int) := by omega
      go_wp2_with fail
      go_ret
      exact ⟨rfl, hO.below⟩

theorem true_walk (th0 win0 : Int) (a : Option Addr) (len cap : Nat) (g : Nat → Four) (w : World) (ht : (Lit.int .i64 th0).wf = true) (hw : (Lit.int .i64 win0).wf = true) (hF : Fours w a len g) :
    Calls Try.prog 12 #[.int .i64 th0, .int .i64 win0, .slice a len cap] w fun e w' => e = .returned (.bool true) ∧ Below w.heap.size w w' :=
  true_core th0 win0 a len cap g w (bounds_i64 hw).1 (bounds_i64 hw).2 (bounds_i64 ht).1 (bounds_i64 ht).2 hF

end Go.Proofs.Ytfjdooloikofoaa.SyncA
