/- ModelFits: the walk. -/
import Derived.Test.YtagakcnhhhlolaaL10H
import Derived.BigQuiet
namespace Go.Proofs.Ytagakcnhhhlolaa.Base
open Go.RowKit
set_option linter.unusedVariables false
set_option linter.unusedSimpArgs false

theorem OI.atD {B : Nat} {W : World} {g c : Nat} {zs : List Int} (h : OI B W g c zs) (k : Nat) (hk : k < zs.length) :
    W.cell? ⟨g, k, none⟩ = some (.int .i64 (zs.getD k 0)) ∧ W.frozen? ⟨g, k, none⟩ = false ∧ I64 (zs.getD k 0) := by
  obtain ⟨cur, hb, hs, hc⟩ := h.ex
  have hr := h.rng _ (List.getElem_mem hk)
  have h1 := hc k hk
  rw [getD_at hk] at h1 hr
  exact ⟨by rw [hb.cell]; exact h1, hb.frozen k, hr⟩
theorem OI.tailIf {B : Nat} {W : World} {g c : Nat} {zs : List Int} (h : OI B W g c zs) (h1 : 1 ≤ zs.length) : MI B W (if c = 1 then some ⟨g, 0, none⟩ else some ⟨g, 1, none⟩) (c - 1) (zs.drop 1) := by
  by_cases e : c = 1
  · rw [if_pos e]
    have hf := h.fit
    have hz : zs.drop 1 = [] := List.drop_eq_nil_of_le (by omega)
    rw [hz]
    exact ⟨fun k hk => absurd hk (by simp), by simp, by simp [maxLen], fun x _ hn => absurd hn (by simp), fun h => (by cases h), by simp⟩
  · rw [if_neg e]
    exact h.mi.tail h1
theorem mb_of {B : Nat} {W : World} {a a' : Option Addr} {c d l1 l2 : Nat} {b : Blf} (hX : MI B W a c b.X) (hP : MI B W a' d b.P) (e1 : b.X.length = l1) (e2 : b.P.length = l2) (ht : I64 b.t) (hp : I64 b.pass) (hf : I64 b.fail) :
    MB B W (.agg #[.int .i64 b.t, .slice a l1 c, .slice a' l2 d, .bool b.flag, .int .i64 b.pass, .int .i64 b.fail]) b := by
  subst e1 e2
  exact ⟨⟨a, c, a', d, rfl, hX, hP⟩, ht, hp, hf⟩

/-- After the region. -/
def Cut3 (w0 : World) (x y : Nat) (cs ds : Array Value) (n0 : Nat) (b : Blf) (s8 s9 s10 : Value) (W : World) : Prop := Bx w0 x y cs ds W ∧ Three n0 b s8 s9 s10 W

set_option maxHeartbeats 8000000 in
set_option maxRecDepth 100000 in
theorem fitsl_walk (v0 : Value) (M : Mdl) (v1 : Value) (b : Blf) (sn : Int) (w : World) (hM : MM 0 w v0 M) (hb : MB 0 w v1 b) (hs : (Lit.int .i64 sn).wf = true) :
    Calls Try.prog 7 #[v0, v1, .int .i64 sn] w fun e w' => e = .returned (.bool true) ∧ Below w.heap.size w w' := by
  obtain ⟨aA, cA, aQ, cQ, aR, cR, rfl, hA, hQ, hR⟩ := hM.ex
  obtain ⟨aX, cX, aP, cP, rfl, hX, hP⟩ := hb.ex
  have hS := SFt.start w 0 M b aA cA aQ cQ aR cR aX cX aP cP hX hP
  have hMd : Mod M ∨ ¬ Mod M := Classical.em _
  go_enter Try.func7, Try.ntmps7
  go_wp2_with fail
  generalize (w.alloc (.cells #[Value.int .i64 M.n, .slice aA M.A.length cA, .slice aQ M.Q.length cQ, .int .i64 M.tick, .int .i64 M.gate, .int .i64 M.rmin, .slice aR M.rows.length cR] 25)).alloc (.cells #[Value.int .i64 b.t, .slice aX b.X.length cX, .slice aP b.P.length cP, .bool b.flag, .int .i64 b.pass, .int .i64 b.fail] 27) = W1 at *
  refine (awake_is _).mono ?_
  rintro e w2 ⟨rfl, hK⟩
  replace hS := hS.keep hK
  clear hK
  have x0 := hS.x.cell 0
  have x1 := hS.x.cell 1
  have x2 := hS.x.cell 2
  have x3 := hS.x.cell 3
  have x4 := hS.x.cell 4
  have x5 := hS.x.cell 5
  have x6 := hS.x.cell 6
  simp at x0 x1 x2 x3 x4 x5 x6
  go_wp2_with fail
  refine (longModel_is (hM.keep hS.bel)).mono ?_
  rintro e w3 ⟨hq, hK⟩
  replace hS := hS.keep hK
  clear hK hMd x0 x1 x2 x3 x4 x5 x6
  rcases hq with ⟨hno, rfl⟩ | ⟨hmod, rfl⟩
  · clear hno
    go_wp2_with fail
    go_ret
    exact ⟨rfl, hS.bel⟩
  have hmod' : Mod M := Classical.not_not.1 hmod
  clear hmod
  have y0 := hS.y.cell 0
  have y1 := hS.y.cell 1
  have y2 := hS.y.cell 2
  have y3 := hS.y.cell 3
  have y4 := hS.y.cell 4
  have y5 := hS.y.cell 5
  simp at y0 y1 y2 y3 y4 y5
  go_wp2_with fail
  refine (longBelief_is (hb.keep hS.bel)).mono ?_
  rintro e w4 ⟨rfl, hK⟩
  replace hS := hS.keep hK
  clear hK y0 y1 y2 y3 y4 y5
  by_cases hl : 12 < b.X.length ∨ 40 < b.P.length
  · have hl' : (decide (12 < b.X.length) || decide (40 < b.P.length)) = true := by simpa using hl
    rw [hl']
    clear hl'
    go_wp2_with fail
    go_ret
    exact ⟨rfl, hS.bel⟩
  have hl' : (decide (12 < b.X.length) || decide (40 < b.P.length)) = false := by simp; omega
  rw [hl']
  clear hl'
  have x0 := hS.x.cell 0
  have x1 := hS.x.cell 1
  have x2 := hS.x.cell 2
  have x3 := hS.x.cell 3
  have x4 := hS.x.cell 4
  have x5 := hS.x.cell 5
  have x6 := hS.x.cell 6
  simp at x0 x1 x2 x3 x4 x5 x6
  have y0 := hS.y.cell 0
  have y1 := hS.y.cell 1
  have y2 := hS.y.cell 2
  have y3 := hS.y.cell 3
  have y4 := hS.y.cell 4
  have y5 := hS.y.cell 5
  simp at y0 y1 y2 y3 y4 y5
  go_wp2_with fail
  refine (fits_is (hM.keep hS.bel) (hb.keep hS.bel) (by have := hmod'.r; omega)).mono ?_
  rintro e w5 ⟨rfl, hK⟩
  replace hS := hS.keep hK
  clear hK x0 x1 x2 x3 x4 x5 x6 y0 y1 y2 y3 y4 y5
  by_cases hf : fitsV M b = 0
  case neg =>
    have hbf : (fitsV M b != 0) = true := by simpa using hf
    generalize fitsV M b = fv at *
    go_wp2_with fail
    go_ret
    exact ⟨rfl, hS.bel⟩
  rw [hf]
  obtain ⟨ok1, ok2, ok3, ok4⟩ := fitsV_iff.1 hf
  obtain ⟨n, hn⟩ : ∃ n : Nat, M.n = n := ⟨M.n.toNat, by have := ok1.n; omega⟩
  have hn1 : 1 ≤ n := by have := ok1.n; omega
  have hn2 : n ≤ 6 := by have := ok1.n; omega
  have hPl : b.P.length = n * n := by have := ok2.p; rw [hn] at this; exact_mod_cast this
  have hXl : b.X.length = n := by have := ok2.x; rw [hn] at this; exact_mod_cast this
  have HF := Lib.hid hf
  have HOK := Lib.hid ok1
  clear ok1 ok2 ok3 ok4 hf
  obtain ⟨lA, hlA⟩ : ∃ n, M.A.length = n := ⟨_, rfl⟩
  obtain ⟨lQ, hlQ⟩ : ∃ n, M.Q.length = n := ⟨_, rfl⟩
  obtain ⟨lR, hlR⟩ : ∃ n, M.rows.length = n := ⟨_, rfl⟩
  obtain ⟨lP, hlP⟩ : ∃ n, b.P.length = n := ⟨_, rfl⟩
  have hnn : (n : Int) * (n : Int) = (lP : Int) := by rw [← hlP, hPl]; simp
  have hlP1 : 1 ≤ lP ∧ lP ≤ 36 := by
    rw [← hlP, hPl]
    have h1 := Nat.mul_le_mul hn1 hn1
    have h2 := Nat.mul_le_mul hn2 hn2
    omega
  have hX2 : Bx w w.heap.size (w.heap.size + 1) #[Value.int .i64 M.n, .slice aA M.A.length cA, .slice aQ M.Q.length cQ, .int .i64 M.tick, .int .i64 M.gate, .int .i64 M.rmin, .slice aR M.rows.length cR] #[Value.int .i64 b.t, .slice aX b.X.length cX, .slice aP b.P.length cP, .bool b.flag, .int .i64 b.pass, .int .i64 b.fail] w5 := ⟨hS.x, hS.y, hS.bel⟩
  have HCB := Lib.hid (fun (W : World) (hW : Below w.heap.size w W) => copyBelief_is (hb.keep hW) (by omega) (by omega))
  have HLM := Lib.hid (show M.rows.length ≤ 1000 by have := hmod'.r; omega)
  clear hS hl hA hQ hR hX hP hPl
  rw [hn, hlA, hlQ, hlR, hXl, hlP] at hX2
  rw [hn, hlA, hlQ, hlR] at hM
  rw [hXl, hlP] at HCB hb
  simp only [hn, hlA, hlQ, hlR, hXl, hlP]
  have HN := Lib.hid hn
  have HLP := Lib.hid hlP
  have HLX := Lib.hid hXl
  clear hlA hlQ hlR hlP hXl hn
  have x0 := hX2.x.cell 0
  have y2 := hX2.y.cell 2
  simp at x0 y2
  have hw1 : IntKind.i64.wrap (lP : Int) = (lP : Int) := IntWalk.i64_in _ (by omega)
  go_upto_region 6 with fail
  clear x0 y2
  go_cut [8, 9, 10] (fun s8 s9 s10 wx => Cut3 w w.heap.size (w.heap.size + 1) #[Value.int .i64 (n : Int), .slice aA lA cA, .slice aQ lQ cQ, .int .i64 M.tick, .int .i64 M.gate, .int .i64 M.rmin, .slice aR lR cR] #[Value.int .i64 b.t, .slice aX n cX, .slice aP lP cP, .bool b.flag, .int .i64 b.pass, .int .i64 b.fail] (w.heap.size + 2) b s8 s9 s10 wx)
  case first =>
    have hX3 := hX2.drew
    refine region_growp 9 (fun i => [44, 45, 46, 47, 48, 49, 8, 9, 10].getD i 0) (F9 (w.heap.size + 2) #[Value.int .i64 b.t, .slice aX n cX, .slice aP lP cP, .bool b.flag, .int .i64 b.pass, .int .i64 b.fail] b) G9
      (Bx w w.heap.size (w.heap.size + 1) #[Value.int .i64 (n : Int), .slice aA lA cA, .slice aQ lQ cQ, .int .i64 M.tick, .int .i64 M.gate, .int .i64 M.rmin, .slice aR lR cR] #[Value.int .i64 b.t, .slice aX n cX, .slice aP lP cP, .bool b.flag, .int .i64 b.pass, .int .i64 b.fail])
      (by kernel_rfl) (by kernel_rfl) (by kernel_rfl) (by kernel_rfl) (by kernel_rfl) (by kernel_rfl) (fun i f W W' h hb => h.keep hb) (fun i f f' W e _ h => h.eq e) (fun W W' h hb => h.keep hb) hX3 ?_ ?_
    · intro i hi b' W hSW he hF D hD K hK
      have hW2 := hSW.y.lt
      have : i = 0 ∨ i = 1 ∨ i = 2 ∨ i = 3 ∨ i = 4 ∨ i = 5 ∨ i = 6 ∨ i = 7 ∨ i = 8 := by omega
      rcases this with rfl | rfl | rfl | rfl | rfl | rfl | rfl | rfl | rfl
      · refine wpOp_go rfl rfl ?_
        have h4 : b'.tmps[4]?.getD undef = .pointer (some ⟨w.heap.size + 1, 0, none⟩) := he 4 (by kernel_rfl)
        obtain ⟨_, hc1, hc2⟩ := hSW.cells
        have HK := Lib.hid hK
        clear hK he hF
        go_simp
        exact HK.out _ _ (fun f e _ => ⟨fun _ => e, fun h => by omega, fun h => by omega⟩) (Below.refl _ _) (fun j _ _ _ => g9_load (by unfold Ow; omega) _ _ j)
      · refine wpOp_go rfl rfl ?_
        have h44 : b'.tmps[44]?.getD undef = .agg #[Value.int .i64 b.t, .slice aX n cX, .slice aP lP cP, .bool b.flag, .int .i64 b.pass, .int .i64 b.fail] := (hF 0 (by kernel_rfl)).1 (by omega)
        have HK := Lib.hid hK
        have HD := Lib.hid hD
        clear hK he hF hD
        go_simp
        refine (HCB.out _ hSW.bel).mono ?_
        rintro e w6 ⟨v5, rfl, hm5, hK5⟩
        exact HK.out _ _ (fun f e _ => ⟨fun h => by omega, fun _ => by rw [e]; exact OB.mono hm5 (by omega), fun h => by omega⟩) hK5 (fun j hj _ hDj => g9_new (fun x hx => (hm5.bks_in x hx).1) (HD.out j hj hDj))
      · refine wpOp_go rfl rfl ?_
        have h4 : b'.tmps[4]?.getD undef = .pointer (some ⟨w.heap.size + 1, 0, none⟩) := he 4 (by kernel_rfl)
        obtain ⟨_, hc1, hc2⟩ := hSW.cells
        have HK := Lib.hid hK
        clear hK he hF
        go_simp
        exact HK.out _ _ (fun f e _ => ⟨fun _ => e, fun h => by omega, fun h => by omega⟩) (Below.refl _ _) (fun j _ _ _ => g9_load (by unfold Ow; omega) _ _ j)
      · refine wpOp_go rfl rfl ?_
        have h44 : b'.tmps[46]?.getD undef = .agg #[Value.int .i64 b.t, .slice aX n cX, .slice aP lP cP, .bool b.flag, .int .i64 b.pass, .int .i64 b.fail] := (hF 2 (by kernel_rfl)).1 (by omega)
        have HK := Lib.hid hK
        have HD := Lib.hid hD
        clear hK he hF hD
        go_simp
        refine (HCB.out _ hSW.bel).mono ?_
        rintro e w6 ⟨v5, rfl, hm5, hK5⟩
        exact HK.out _ _ (fun f e _ => ⟨fun h => by omega, fun _ => by rw [e]; exact OB.mono hm5 (by omega), fun h => by omega⟩) hK5 (fun j hj _ hDj => g9_new (fun x hx => (hm5.bks_in x hx).1) (HD.out j hj hDj))
      · refine wpOp_go rfl rfl ?_
        have h4 : b'.tmps[4]?.getD undef = .pointer (some ⟨w.heap.size + 1, 0, none⟩) := he 4 (by kernel_rfl)
        obtain ⟨_, hc1, hc2⟩ := hSW.cells
        have HK := Lib.hid hK
        clear hK he hF
        go_simp
        exact HK.out _ _ (fun f e _ => ⟨fun _ => e, fun h => by omega, fun h => by omega⟩) (Below.refl _ _) (fun j _ _ _ => g9_load (by unfold Ow; omega) _ _ j)
      · refine wpOp_go rfl rfl ?_
        have h44 : b'.tmps[48]?.getD undef = .agg #[Value.int .i64 b.t, .slice aX n cX, .slice aP lP cP, .bool b.flag, .int .i64 b.pass, .int .i64 b.fail] := (hF 4 (by kernel_rfl)).1 (by omega)
        have HK := Lib.hid hK
        have HD := Lib.hid hD
        clear hK he hF hD
        go_simp
        refine (HCB.out _ hSW.bel).mono ?_
        rintro e w6 ⟨v5, rfl, hm5, hK5⟩
        exact HK.out _ _ (fun f e _ => ⟨fun h => by omega, fun _ => by rw [e]; exact OB.mono hm5 (by omega), fun h => by omega⟩) hK5 (fun j hj _ hDj => g9_new (fun x hx => (hm5.bks_in x hx).1) (HD.out j hj hDj))
      · refine wpOp_go rfl rfl ?_
        have HK := Lib.hid hK
        have HD := Lib.hid hD
        clear hK he hF hD
        go_simp
        exact HK.out _ _ (fun f e _ => ⟨fun h => by omega, fun h => by omega, fun _ => ⟨_, e, by omega, Blk.new W _ _⟩⟩) ((Below.refl _ _).alloc (Nat.le_refl _) _) (fun j hj _ hDj => g9_new (fun x hx => by simp [bks] at hx; omega) (HD.out j hj hDj))
      · refine wpOp_go rfl rfl ?_
        have HK := Lib.hid hK
        have HD := Lib.hid hD
        clear hK he hF hD
        go_simp
        exact HK.out _ _ (fun f e _ => ⟨fun h => by omega, fun h => by omega, fun _ => ⟨_, e, by omega, Blk.new W _ _⟩⟩) ((Below.refl _ _).alloc (Nat.le_refl _) _) (fun j hj _ hDj => g9_new (fun x hx => by simp [bks] at hx; omega) (HD.out j hj hDj))
      · refine wpOp_go rfl rfl ?_
        have HK := Lib.hid hK
        have HD := Lib.hid hD
        clear hK he hF hD
        go_simp
        exact HK.out _ _ (fun f e _ => ⟨fun h => by omega, fun h => by omega, fun _ => ⟨_, e, by omega, Blk.new W _ _⟩⟩) ((Below.refl _ _).alloc (Nat.le_refl _) _) (fun j hj _ hDj => g9_new (fun x hx => by simp [bks] at hx; omega) (HD.out j hj hDj))
    · intro v W hv hG hSW
      obtain ⟨p, q, r, g1, c1, h1, d1, g2, c2, h2, d2, g3, c3, h3, d3, ⟨e6, e7, e8⟩, ⟨e1, e2, e3⟩, hO⟩ := f9_own hv hG
      clear hv hG
      have hC : OwnX w w.heap.size (w.heap.size + 1) #[Value.int .i64 (n : Int), .slice aA lA cA, .slice aQ lQ cQ, .int .i64 M.tick, .int .i64 M.gate, .int .i64 M.rmin, .slice aR lR cR] #[Value.int .i64 b.t, .slice aX n cX, .slice aP lP cP, .bool b.flag, .int .i64 b.pass, .int .i64 b.fail] (w.heap.size + 2) _ _ W := ⟨hSW, hO, by omega⟩
      clear hO hSW
      simp only [putsL, Act.put, e6, e7, e8, e1, e2, e3]
      generalize v 0 = u0 at *
      generalize v 2 = u2 at *
      generalize v 4 = u4 at *
      clear e6 e7 e8 e1 e2 e3
      simp only [HLX.out, HLP.out] at hC ⊢
      simp [List.getD]
      have bb := (hC.own.bk 0 _ rfl).1
      have f1 := bb.frozen
      have r0 := bb.cell 0
      have r1 := bb.cell 1
      have r2 := bb.cell 2
      have r3 := bb.cell 3
      have r4 := bb.cell 4
      have r5 := bb.cell 5
      simp [zeroB] at r0 r1 r2 r3 r4 r5
      replace hC := ((((((hC.setB 0 rfl 0 (.int .i64 b.t)).setB 0 rfl 1 (.slice (some ⟨g1, 0, none⟩) n c1)).setB 0 rfl 2 (.slice (some ⟨h1, 0, none⟩) lP d1)).setB 0 rfl 3 (.bool b.flag)).setB 0 rfl 4 (.int .i64 b.pass)).setB 0 rfl 5 (.int .i64 b.fail))
      clear bb
      refine wpAny_one (i := 9) (by kernel_rfl) rfl rfl ?_
      intro K hK
      have HK := Lib.hid hK
      clear hK
      go_simp
      refine HK.out _ _ ?_
      clear HK K f1 r0 r1 r2 r3 r4 r5
      generalize ((((((W.setCell ⟨p, 0, none⟩ (.int .i64 b.t)).setCell ⟨p, 1, none⟩ (.slice (some ⟨g1, 0, none⟩) n c1)).setCell ⟨p, 2, none⟩ (.slice (some ⟨h1, 0, none⟩) lP d1)).setCell ⟨p, 3, none⟩ (.bool b.flag)).setCell ⟨p, 4, none⟩ (.int .i64 b.pass)).setCell ⟨p, 5, none⟩ (.int .i64 b.fail)) = W1 at *
      have bb := (hC.own.bk 1 _ rfl).1
      have f1 := bb.frozen
      have r0 := bb.cell 0
      have r1 := bb.cell 1
      have r2 := bb.cell 2
      have r3 := bb.cell 3
      have r4 := bb.cell 4
      have r5 := bb.cell 5
      simp [zeroB] at r0 r1 r2 r3 r4 r5
      replace hC := ((((((hC.setB 1 rfl 0 (.int .i64 b.t)).setB 1 rfl 1 (.slice (some ⟨g2, 0, none⟩) n c2)).setB 1 rfl 2 (.slice (some ⟨h2, 0, none⟩) lP d2)).setB 1 rfl 3 (.bool b.flag)).setB 1 rfl 4 (.int .i64 b.pass)).setB 1 rfl 5 (.int .i64 b.fail))
      clear bb
      refine wpAny_one (i := 10) (by kernel_rfl) rfl rfl ?_
      intro K hK
      have HK := Lib.hid hK
      clear hK
      go_simp
      refine HK.out _ _ ?_
      clear HK K f1 r0 r1 r2 r3 r4 r5
      generalize ((((((W1.setCell ⟨q, 0, none⟩ (.int .i64 b.t)).setCell ⟨q, 1, none⟩ (.slice (some ⟨g2, 0, none⟩) n c2)).setCell ⟨q, 2, none⟩ (.slice (some ⟨h2, 0, none⟩) lP d2)).setCell ⟨q, 3, none⟩ (.bool b.flag)).setCell ⟨q, 4, none⟩ (.int .i64 b.pass)).setCell ⟨q, 5, none⟩ (.int .i64 b.fail)) = W2 at *
      have bb := (hC.own.bk 2 _ rfl).1
      have f1 := bb.frozen
      have r0 := bb.cell 0
      have r1 := bb.cell 1
      have r2 := bb.cell 2
      have r3 := bb.cell 3
      have r4 := bb.cell 4
      have r5 := bb.cell 5
      simp [zeroB] at r0 r1 r2 r3 r4 r5
      replace hC := ((((((hC.setB 2 rfl 0 (.int .i64 b.t)).setB 2 rfl 1 (.slice (some ⟨g3, 0, none⟩) n c3)).setB 2 rfl 2 (.slice (some ⟨h3, 0, none⟩) lP d3)).setB 2 rfl 3 (.bool b.flag)).setB 2 rfl 4 (.int .i64 b.pass)).setB 2 rfl 5 (.int .i64 b.fail))
      clear bb
      refine wpAny_one (i := 11) (by kernel_rfl) rfl rfl ?_
      intro K hK
      have HK := Lib.hid hK
      clear hK
      go_simp
      refine HK.out _ _ ?_
      clear HK K f1 r0 r1 r2 r3 r4 r5
      generalize ((((((W2.setCell ⟨r, 0, none⟩ (.int .i64 b.t)).setCell ⟨r, 1, none⟩ (.slice (some ⟨g3, 0, none⟩) n c3)).setCell ⟨r, 2, none⟩ (.slice (some ⟨h3, 0, none⟩) lP d3)).setCell ⟨r, 3, none⟩ (.bool b.flag)).setCell ⟨r, 4, none⟩ (.int .i64 b.pass)).setCell ⟨r, 5, none⟩ (.int .i64 b.fail)) = W3 at *
      refine wpAny_none (by kernel_rfl) ?_
      go_wp2_with fail
      go_meet
      refine ⟨hC.bx, ?_⟩
      unfold Three
      simp only [HLX.out, HLP.out]
      exact ⟨p, q, r, g1, c1, h1, d1, g2, c2, h2, d2, g3, c3, h3, d3, rfl, rfl, rfl, hC.own⟩
  case rest =>
    obtain ⟨hX3, p, q, r, g1, c1, h1, d1, g2, c2, h2, d2, g3, c3, h3, d3, rfl, rfl, rfl, hO⟩ := hcut
    have hC : OwnX w w.heap.size (w.heap.size + 1) #[Value.int .i64 (n : Int), .slice aA lA cA, .slice aQ lQ cQ, .int .i64 M.tick, .int .i64 M.gate, .int .i64 M.rmin, .slice aR lR cR] #[Value.int .i64 b.t, .slice aX n cX, .slice aP lP cP, .bool b.flag, .int .i64 b.pass, .int .i64 b.fail] (w.heap.size + 2) _ _ wc := ⟨hX3, hO, by omega⟩
    clear hO hX3 hX2 HCB
    simp only [HLX.out, HLP.out] at hC
    have HFX := Lib.hid (fun (W : World) (u : Value) (b' : Blf) (r : Int) (n' : Nat) (hW : Below w.heap.size w W) (h2 : MB n' W u b') (hr : fitsV M b' = r) => fits_val (hM.keep hW) h2 HLM.out hr)
    have bb := (hC.own.bk 0 _ rfl).1
    have hp0 := (hC.own.bk 0 _ rfl).2.1
    have hsz := bb.lt
    dsimp only at hp0 hsz
    have be := Blk.new wc #[.int .i64 0] 3
    replace hC := hC.keep ((Below.refl _ _).alloc (Nat.le_refl _) (.cells #[.int .i64 0] 3))
    have r1 := (hC.own.bk 0 _ rfl).1.cell 1
    simp at r1
    have r1' := bb.cell 1
    simp at r1'
    clear bb
    have hli : OI (w.heap.size + 2) (wc.alloc (.cells #[.int .i64 0] 3)) g1 c1 b.X := hC.own.li 0 _ rfl
    have hBz : w.heap.size + 2 ≤ (wc.alloc (.cells #[.int .i64 0] 3)).heap.size := by simp; omega
    have hz0 : I64 0 := i64_lit (by decide)
    have hlen : n ≤ 100000 := by omega
    go_wp2_with (at_builtin; refine app_int (B := w.heap.size + 2) (zs := b.X) rfl _ _ rfl hli n HLX.out rfl hBz rfl be hz0 hlen ?_)
    intro g1' c1' w6 hOI hgr hat
    replace hC := hC.app 0 rfl hgr hOI (by simpa using hat)
    clear hOI hgr hat be r1 r1' hp0 hsz hli hBz hz0 hlen
    have bb := (hC.own.bk 0 _ rfl).1
    have f1 := bb.frozen 1
    have r1 := bb.cell 1
    simp at r1
    clear bb
    go_upto_region 8 with fail
    replace hC := hC.setB 0 rfl 1 (.slice (some ⟨g1', 0, none⟩) (n + 1) c1')
    clear r1 f1
    generalize w6.setCell ⟨p, 1, none⟩ (.slice (some ⟨g1', 0, none⟩) (n + 1) c1') = w7 at *
    have bb := (hC.own.bk 1 _ rfl).1
    have f2 := bb.frozen 2
    have r2 := bb.cell 2
    simp at r2
    clear bb
    have hfit := (hC.own.li 3 _ rfl).fit
    simp only [HLP.out] at hfit
    have hs1 : (1 : Int) ≤ (lP : Int) := by omega
    have hs2 : (lP : Int) ≤ (d2 : Int) := by omega
    go_upto_region 9 with fail
    replace hC := hC.setB 1 rfl 2 (.slice (if d2 = 1 then some { block := h2, off := 0 } else some { block := h2, off := 1 }) (lP - 1) (d2 - 1))
    clear r2 f2
    generalize w7.setCell { block := q, off := 2 } (Value.slice (if d2 = 1 then some { block := h2, off := 0 } else some { block := h2, off := 1 }) (lP - 1) (d2 - 1)) = w8 at *
    obtain ⟨aS, haS⟩ : ∃ z : Option Addr, (if d2 = 1 then some (⟨h2, 0, none⟩ : Addr) else some ⟨h2, 1, none⟩) = z := ⟨_, rfl⟩
    rw [haS] at hC ⊢
    have y2 := hC.bx.y.cell 2
    simp at y2
    go_wp2_with fail
    refine (pick_is _ sn lP (by omega) (by omega)).mono ?_
    rintro e w9 ⟨rfl, rfl⟩
    have hpk := pickV_in (x := sn) (n := (lP : Int)) (by omega)
    obtain ⟨k, hk⟩ : ∃ k : Nat, pickV sn lP = k := ⟨(pickV sn lP).toNat, by omega⟩
    rw [hk] at hpk ⊢
    have hkl : k < lP := by omega
    clear hpk hk
    obtain ⟨i, j, hi, hj, hkij⟩ : ∃ i j, i < n ∧ j < n ∧ i * n + j = k :=
      ⟨k / n, k % n, Nat.div_lt_of_lt_mul (by have : n * n = lP := by exact_mod_cast hnn
                                              omega), Nat.mod_lt _ (by omega), by rw [Nat.mul_comm]; exact Nat.div_add_mod k n⟩
    obtain ⟨e1, e2, e3, e4⟩ := idx_of hn1 hn2 hi hj
    rw [hkij] at e1 e2
    have hqd : (k : Int).tdiv (n : Int) = (i : Int) := by rw [Int.tdiv_eq_ediv_of_nonneg (by omega)]; exact e2
    have hrm : (k : Int).tmod (n : Int) = (j : Int) := by rw [Int.tmod_eq_emod_of_nonneg (by omega)]; exact e1
    have wi : IntKind.i64.wrap (i : Int) = (i : Int) := IntWalk.i64_in _ (by omega)
    have wj : IntKind.i64.wrap (j : Int) = (j : Int) := IntWalk.i64_in _ (by omega)
    have hn0 : ¬ (n : Int) = 0 := by omega
    have x0 := hC.bx.x.cell 0
    simp at x0
    go_upto_region 10 with fail
    go_quiet (fail)
    replace hC := hC.keep (below_drewN _ nq)
    generalize w9.drewN nq = wa at *
    clear x0 y2 hqd hrm wi wj hn0 e1 e2
    obtain ⟨_, _, e5, e6⟩ := idx_of hn1 hn2 hj hi
    obtain ⟨p', hp'⟩ : ∃ p, j * n = p := ⟨_, rfl⟩
    have hpm : (j : Int) * (n : Int) = (p' : Int) := by rw [← hp']; simp
    obtain ⟨s, hs⟩ : ∃ s, p' + i = s := ⟨_, rfl⟩
    have hps : (p' : Int) + (i : Int) = (s : Int) := by omega
    have hsl : s < lP := by rw [← hs, ← hp']; have : n * n = lP := by exact_mod_cast hnn
                            omega
    have hsij : i = j → s = k := fun e => by rw [← hs, ← hp', ← hkij, e]
    have hsij' : i ≠ j → s ≠ k := fun e h => by
      rw [← hs, ← hp', ← hkij] at h
      exact e (ij_eq hi hj h).1.symm
    have hsym : b.P.getD s 0 = b.P.getD k 0 := by
      have h4 := (fitsV_iff.1 HF.out).2.2.2
      rw [show M.n.toNat = n by have := HN.out; omega] at h4
      have := ((h4 i hi).2.2 j hj).2
      rw [← hs, ← hp', ← hkij]
      exact this.symm
    have HSY := Lib.hid hsym
    have HI1 := Lib.hid hsij
    have HI2 := Lib.hid hsij'
    have HKIJ := Lib.hid hkij
    clear hsym hsij hsij' hkij hp' hs e3 e4 e5 e6
    have bb := (hC.own.bk 2 _ rfl).1
    have r2 := bb.cell 2
    simp at r2
    clear bb
    obtain ⟨hyk, hyf, hyr⟩ := OI.atD (hC.own.li 5 _ rfl) k (by dsimp only; rw [HLP.out]; exact hkl)
    dsimp only at hyk hyf hyr
    obtain ⟨z, hz⟩ : ∃ z, b.P.getD k 0 = z := ⟨_, rfl⟩
    rw [hz] at hyk hyr
    have HZ := Lib.hid hz
    clear hz
    have hk1 : (k : Int) < (lP : Int) := by omega
    have hk0 : (0 : Int) ≤ (k : Int) := by omega
    unfold I64 at hyr
    obtain ⟨zo, hzo⟩ : ∃ zo, oddV z = zo := ⟨_, rfl⟩
    have hzor : I64 zo := by rw [← hzo]; unfold oddV I64; split <;> omega
    have hzne : zo ≠ z := by rw [← hzo]; unfold oddV; split <;> omega
    replace hC := hC.setL 5 rfl k zo hzor (by rw [HLP.out]; exact hkl)
    have hwp : IntKind.i64.wrap (p' : Int) = (p' : Int) := IntWalk.i64_in _ (by omega)
    have hws : IntKind.i64.wrap (s : Int) = (s : Int) := IntWalk.i64_in _ (by omega)
    have HWP := Lib.hid hwp
    have HWS := Lib.hid hws
    clear hwp hws
    have hcase : (z < 1 ∧ (7 : Int) = zo) ∨ (¬ z < 1 ∧ z - 1 = zo) := by
      unfold oddV at hzo; split at hzo
      · exact .inl ⟨by assumption, hzo⟩
      · exact .inr ⟨by assumption, hzo⟩
    have HZO := Lib.hid hzo
    clear hzo
    rcases hcase with ⟨hz1, hz2⟩ | ⟨hz1, hz2⟩
    all_goals
      have HZ2 := Lib.hid hz2
      clear hz2
      go_upto_region 14 with fail
      rw [HZ2.out]
      clear HZ2 hz1
      generalize wa.setCell ⟨h3, k, none⟩ (.int .i64 zo) = wb at *
      clear hyk hyf r2
      have r2 := (hC.own.bk 2 _ rfl).1.cell 2
      have x0 := hC.bx.x.cell 0
      simp at r2 x0
      have gk := (OI.atD (hC.own.li 5 _ rfl) k (by simp; rw [HLP.out]; exact hkl)).1
      have gs := (OI.atD (hC.own.li 5 _ rfl) s (by simp; rw [HLP.out]; exact hsl)).1
      dsimp only at gk gs
      rw [getD_set _ _ (by rw [HLP.out]; exact hkl), if_pos rfl] at gk
      rw [getD_set _ _ (by rw [HLP.out]; exact hkl)] at gs
      have hwp := HWP.out
      have hws := HWS.out
      have hs1 : (s : Int) < (lP : Int) := by omega
      have hs0 : (0 : Int) ≤ (s : Int) := by omega
      have hi0 : (0 : Int) ≤ (i : Int) := by omega
      have hj0 : (0 : Int) ≤ (j : Int) := by omega
      have hp0 : (0 : Int) ≤ (p' : Int) := by omega
      have hfo : fitsV M { b with P := b.P.set k zo } = if i = j then 0 else 5 := by
        have := fits_odd HF.out HN.out hi hj
        rw [HKIJ.out, HZ.out, HZO.out] at this
        exact this
      have HFO := Lib.hid hfo
      clear hfo
      have hlq : b.P.length = lP := HLP.out
      by_cases hij : i = j
      · have hsk := HI1.out hij
        subst hij
        obtain rfl : k = s := hsk.symm
        clear gs
        clear hlq
        go_quiet (fail)
        replace hC := hC.keep (below_drewN _ nq)
        generalize wb.drewN nq = wd at *
        clear r2 x0 gk hwp hws
        have hX := hC.bx.x
        have hP := (hC.own.bk 0 _ rfl).1
        have x0 := hX.cell 0; have x1 := hX.cell 1; have x2 := hX.cell 2; have x3 := hX.cell 3; have x4 := hX.cell 4; have x5 := hX.cell 5; have x6 := hX.cell 6; have p0 := hP.cell 0; have p1 := hP.cell 1; have p2 := hP.cell 2; have p3 := hP.cell 3; have p4 := hP.cell 4; have p5 := hP.cell 5
        simp at x0 x1 x2 x3 x4 x5 x6 p0 p1 p2 p3 p4 p5
        clear hX hP
        go_wp2_with fail
        refine (HFX.out _ _ { b with X := b.X ++ [0] } 3 _ hC.bx.bel (mb_of (hC.own.li 0 _ rfl).mi (hC.own.li 1 _ rfl).mi (by simp [HLX.out]) (by simp [HLP.out]) hb.t hb.pass hb.fail) (fits_long HF.out)).mono ?_
        rintro e w10 ⟨rfl, hK⟩
        replace hC := hC.keep hK
        clear hK x0 x1 x2 x3 x4 x5 x6 p0 p1 p2 p3 p4 p5
        have hX := hC.bx.x
        have hP := (hC.own.bk 1 _ rfl).1
        have x0 := hX.cell 0; have x1 := hX.cell 1; have x2 := hX.cell 2; have x3 := hX.cell 3; have x4 := hX.cell 4; have x5 := hX.cell 5; have x6 := hX.cell 6; have p0 := hP.cell 0; have p1 := hP.cell 1; have p2 := hP.cell 2; have p3 := hP.cell 3; have p4 := hP.cell 4; have p5 := hP.cell 5
        simp at x0 x1 x2 x3 x4 x5 x6 p0 p1 p2 p3 p4 p5
        clear hX hP
        go_wp2_with fail
        refine (HFX.out _ _ { b with P := b.P.drop 1 } 3 _ hC.bx.bel (mb_of (hC.own.li 2 _ rfl).mi (by rw [← haS]; exact (hC.own.li 3 _ rfl).tailIf (by rw [HLP.out]; omega)) (by simp [HLX.out]) (by simp [HLP.out]) hb.t hb.pass hb.fail) (fits_short HF.out (by rw [HLP.out]; omega))).mono ?_
        rintro e w11 ⟨rfl, hK⟩
        replace hC := hC.keep hK
        clear hK x0 x1 x2 x3 x4 x5 x6 p0 p1 p2 p3 p4 p5
        have hX := hC.bx.x
        have hP := (hC.own.bk 2 _ rfl).1
        have x0 := hX.cell 0; have x1 := hX.cell 1; have x2 := hX.cell 2; have x3 := hX.cell 3; have x4 := hX.cell 4; have x5 := hX.cell 5; have x6 := hX.cell 6; have p0 := hP.cell 0; have p1 := hP.cell 1; have p2 := hP.cell 2; have p3 := hP.cell 3; have p4 := hP.cell 4; have p5 := hP.cell 5
        simp at x0 x1 x2 x3 x4 x5 x6 p0 p1 p2 p3 p4 p5
        clear hX hP
        go_wp2_with fail
        refine (HFX.out _ _ { b with P := b.P.set k zo } 0 _ hC.bx.bel (mb_of (hC.own.li 4 _ rfl).mi (hC.own.li 5 _ rfl).mi (by simp [HLX.out]) (by simp [HLP.out]) hb.t hb.pass hb.fail) (by rw [HFO.out]; simp)).mono ?_
        rintro e w12 ⟨rfl, hK⟩
        replace hC := hC.keep hK
        clear hK x0 x1 x2 x3 x4 x5 x6 p0 p1 p2 p3 p4 p5
        go_wp2_with fail
        go_ret
        exact ⟨rfl, hC.bx.bel⟩
      · have hsk := HI2.out hij
        rw [if_neg (fun e => hsk e.symm), HSY.out, HZ.out] at gs
        have hij' : ¬ (i : Int) = (j : Int) := by omega
        clear hlq
        go_quiet (fail)
        replace hC := hC.keep (below_drewN _ nq)
        generalize wb.drewN nq = wd at *
        clear r2 x0 gk gs hwp hws
        have hX := hC.bx.x
        have hP := (hC.own.bk 0 _ rfl).1
        have x0 := hX.cell 0; have x1 := hX.cell 1; have x2 := hX.cell 2; have x3 := hX.cell 3; have x4 := hX.cell 4; have x5 := hX.cell 5; have x6 := hX.cell 6; have p0 := hP.cell 0; have p1 := hP.cell 1; have p2 := hP.cell 2; have p3 := hP.cell 3; have p4 := hP.cell 4; have p5 := hP.cell 5
        simp at x0 x1 x2 x3 x4 x5 x6 p0 p1 p2 p3 p4 p5
        clear hX hP
        go_wp2_with fail
        refine (HFX.out _ _ { b with X := b.X ++ [0] } 3 _ hC.bx.bel (mb_of (hC.own.li 0 _ rfl).mi (hC.own.li 1 _ rfl).mi (by simp [HLX.out]) (by simp [HLP.out]) hb.t hb.pass hb.fail) (fits_long HF.out)).mono ?_
        rintro e w10 ⟨rfl, hK⟩
        replace hC := hC.keep hK
        clear hK x0 x1 x2 x3 x4 x5 x6 p0 p1 p2 p3 p4 p5
        have hX := hC.bx.x
        have hP := (hC.own.bk 1 _ rfl).1
        have x0 := hX.cell 0; have x1 := hX.cell 1; have x2 := hX.cell 2; have x3 := hX.cell 3; have x4 := hX.cell 4; have x5 := hX.cell 5; have x6 := hX.cell 6; have p0 := hP.cell 0; have p1 := hP.cell 1; have p2 := hP.cell 2; have p3 := hP.cell 3; have p4 := hP.cell 4; have p5 := hP.cell 5
        simp at x0 x1 x2 x3 x4 x5 x6 p0 p1 p2 p3 p4 p5
        clear hX hP
        go_wp2_with fail
        refine (HFX.out _ _ { b with P := b.P.drop 1 } 3 _ hC.bx.bel (mb_of (hC.own.li 2 _ rfl).mi (by rw [← haS]; exact (hC.own.li 3 _ rfl).tailIf (by rw [HLP.out]; omega)) (by simp [HLX.out]) (by simp [HLP.out]) hb.t hb.pass hb.fail) (fits_short HF.out (by rw [HLP.out]; omega))).mono ?_
        rintro e w11 ⟨rfl, hK⟩
        replace hC := hC.keep hK
        clear hK x0 x1 x2 x3 x4 x5 x6 p0 p1 p2 p3 p4 p5
        have hX := hC.bx.x
        have hP := (hC.own.bk 2 _ rfl).1
        have x0 := hX.cell 0; have x1 := hX.cell 1; have x2 := hX.cell 2; have x3 := hX.cell 3; have x4 := hX.cell 4; have x5 := hX.cell 5; have x6 := hX.cell 6; have p0 := hP.cell 0; have p1 := hP.cell 1; have p2 := hP.cell 2; have p3 := hP.cell 3; have p4 := hP.cell 4; have p5 := hP.cell 5
        simp at x0 x1 x2 x3 x4 x5 x6 p0 p1 p2 p3 p4 p5
        clear hX hP
        go_wp2_with fail
        refine (HFX.out _ _ { b with P := b.P.set k zo } 5 _ hC.bx.bel (mb_of (hC.own.li 4 _ rfl).mi (hC.own.li 5 _ rfl).mi (by simp [HLX.out]) (by simp [HLP.out]) hb.t hb.pass hb.fail) (by rw [HFO.out]; rw [if_neg hij])).mono ?_
        rintro e w12 ⟨rfl, hK⟩
        replace hC := hC.keep hK
        clear hK x0 x1 x2 x3 x4 x5 x6 p0 p1 p2 p3 p4 p5
        go_wp2_with fail
        go_ret
        exact ⟨rfl, hC.bx.bel⟩

end Go.Proofs.Ytagakcnhhhlolaa.Base
