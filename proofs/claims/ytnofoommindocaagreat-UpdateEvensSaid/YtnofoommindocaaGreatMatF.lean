/- mat: refuses, each, Sum, Scale. -/
import Derived.Test.YtnofoommindocaaGreatMatE
namespace Go.Proofs.YtnofoommindocaaGreat.Base
open Go.RowKit
set_option linter.unusedVariables false
set_option linter.unusedSimpArgs false

/-- At x there are these matrices. -/
structure MsC (W : World) (x : Addr) (ms : List Mt) : Prop where
  at_ : ∀ j, (h : j < ms.length) → ∃ a k, W.cell? (x.add (j * 3)) = some (.int .i64 ms[j].r) ∧ W.cell? ⟨(x.add (j * 3)).block, (x.add (j * 3)).off + 1, none⟩ = some (.int .i64 ms[j].c) ∧
    W.cell? ⟨(x.add (j * 3)).block, (x.add (j * 3)).off + 2, none⟩ = some (.slice a ms[j].v.length k)
theorem MsC.keep {W W' : World} {x : Addr} {ms : List Mt} (h : MsC W x ms) (hb : Below W.heap.size W W') : MsC W' x ms := by
  have k : ∀ (y : Addr) v, W.cell? y = some v → W'.cell? y = some v := fun y v hv => (hb.cell (World.block_lt_of_cell? W _ hv)).trans hv
  refine ⟨fun j hj => ?_⟩
  obtain ⟨a, c, h1, h2, h3⟩ := h.at_ j hj
  exact ⟨a, c, k _ _ h1, k _ _ h2, k _ _ h3⟩
theorem chk_ne {m : Mt} (h : ¬ okMt m) : chkMt m = 3 := if_neg h
def refM (ms : List Mt) (fits : Bool) : Int := if (∀ m ∈ ms, okMt m) ∧ fits = true then 0 else 3

set_option maxHeartbeats 2000000 in
set_option maxRecDepth 100000 in
theorem refuses_is {W : World} {b : Nat} {c : Bool} (hU : UP W b c) {x : Addr} {ms : List Mt} (hm : MsC W x ms) (hl : ms.length ≤ 100) (k : Nat) (fits : Bool) :
    Calls Tryz.prog 96 #[.pointer (some ⟨b, 0, none⟩), .bool fits, .slice (some x) ms.length k] W fun e w' => e = .returned (.int .i64 (refM ms fits)) ∧ Below W.heap.size W w' := by
  obtain ⟨ans, hans⟩ : ∃ ans, refM ms fits = ans := ⟨_, rfl⟩
  rw [hans]
  have HA := Lib.hid hans
  clear hans
  obtain ⟨n, hn⟩ : ∃ n, ms.length = n := ⟨_, rfl⟩
  rw [hn] at hl ⊢
  go_enter Tryz.func96, Tryz.ntmps96
  go_wp2_with fail
  refine (mnone_ok hU).mono ?_
  rintro e w1 ⟨rfl, rfl⟩
  go_wp2_with fail
  go_loopw [13] (fun i wr => ∃ j : Nat, j ≤ n ∧ i = .int .i64 j ∧ Hid (∀ i, (h : i < ms.length) → i < j → okMt ms[i]) ∧ Below W.heap.size W wr) (fun i _ => n - (intOf i).toNat)
  case atStart => exact ⟨0, Nat.zero_le _, rfl, fun i _ h => absurd h (Nat.not_lt_zero _), upR _⟩
  case round =>
    obtain ⟨j, hj, rfl, hS, hB⟩ := hrel
    by_cases hlt : j < n
    · have hlt' : (j : Int) < (n : Int) := by omega
      have hj0 : (0 : Int) ≤ (j : Int) := by omega
      have hjm : j < ms.length := by omega
      obtain ⟨a, kk, h1, h2, h3⟩ := (hm.keep hB).at_ j hjm
      have HS := Lib.hid (fun h : ¬ okMt ms[j] => (show refM ms fits = 3 from if_neg (fun hh => h (hh.1 _ (List.getElem_mem hjm)))))
      have HM := Lib.hid (show ∀ h : okMt ms[j], ∀ i, (h : i < ms.length) → i < j + 1 → okMt ms[i] from fun hok i hi hij => by
        by_cases e : i = j
        · subst e; exact hok
        · exact hS.out i hi (by omega))
      have hck := mcheck_is ms[j] a kk
      generalize ms[j] = m at *
      clear hjm hS
      go_wp2_with fail
      have hB1 := upA hB (Obj.cells #[.int .i64 m.r, .int .i64 m.c, .slice a m.v.length kk] 78)
      refine (hck _).mono ?_
      rintro e w2 ⟨rfl, hK⟩
      have hB2 := more hB1 hK
      clear hK hB1 h1 h2 h3 hck
      by_cases hok : okMt m
      · rw [show chkMt m = 0 from if_pos hok]
        have HM2 := Lib.hid (HM.out hok)
        clear HM HS hok
        go_wp2_with fail
        go_roundw
        case rel => exact ⟨j + 1, by omega, by go_num, HM2.out, hB2⟩
        case measure => simp [intOf]; omega
      · rw [chk_ne hok]
        have HA2 := Lib.hid (HA.out.symm.trans (HS.out hok))
        clear HM HS hok
        go_wp2_with fail
        go_ret
        exact ⟨by rw [HA2.out]; rfl, hB2⟩
    · have hge : ¬ (j : Int) < (n : Int) := by omega
      have hall : ∀ m ∈ ms, okMt m := fun m hm => by
        obtain ⟨i, hi, rfl⟩ := List.mem_iff_getElem.1 hm
        exact hS.out i hi (by omega)
      have HALL := Lib.hid hall
      clear hall hS
      cases fits with
      | true =>
        have HA2 := Lib.hid (HA.out.symm.trans (show refM ms true = 0 from if_pos ⟨HALL.out, rfl⟩))
        go_wp2_with fail
        go_ret
        exact ⟨by rw [HA2.out]; rfl, hB⟩
      | false =>
        have HA2 := Lib.hid (HA.out.symm.trans (show refM ms false = 3 from if_neg (fun h => by cases h.2)))
        go_wp2_with fail
        go_ret
        exact ⟨by rw [HA2.out]; rfl, hB⟩

end Go.Proofs.YtnofoommindocaaGreat.Base
