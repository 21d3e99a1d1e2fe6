import Derived.Test.YtlbiocfpkpcdhaaDrawC
import Derived.StillTailTactics
namespace Go.Proofs.Ytlbiocfpkpcdhaa
open Go.RowKit
set_option linter.unusedSimpArgs false
set_option linter.unusedVariables false
set_option maxRecDepth 100000 in
set_option maxHeartbeats 2000000 in
theorem source_any (bs : List UInt8) (A : Option Addr) (cap : Nat) (w : World) (hr : RowAt w A 1 byteC bs) (hl : bs.length ≤ 1048576) (hc : bs.length ≤ cap) (hA : ∀ x, A = some x → x.block < w.heap.size) :
    Calls Try.prog 57 #[.slice A bs.length cap] w fun e w' => ∃ g, e = .returned (.pointer (some ⟨g, 0, none⟩)) ∧ w.heap.size ≤ g ∧ SrcAt w' g ∧ w.grownBy w' none := by
  have HR := Lib.hid hr
  have HA := Lib.hid hA
  clear hr hA
  go_enter Try.func57, Try.ntmps57
  go_wp2
  have hS0 : SrcIn (w.alloc (.cells #[.slice A bs.length cap, .int .i64 0, .int .u64 88172645463325252, .int .i64 0] 147)) w.heap.size A cap bs 0 88172645463325252 0 :=
    ⟨heap_alloc_new _ _, fun i x hx => by
      obtain ⟨b, o, hA, hc⟩ := HR.out i x hx
      refine ⟨b, o, hA, fun j u hu => ?_⟩
      have h1 := hc j u hu
      rw [World.cell?_of_block (a := ⟨b, o + i * 1 + j, none⟩) (Below.heap_alloc w _ b (World.block_lt_of_cell? w _ h1))]
      exact h1, hl, hc, Int.le_refl _, by omega, HA.out⟩
  have HS0 := Lib.hid hS0
  clear hS0
  obtain ⟨g, hg⟩ : ∃ g, g = w.heap.size := ⟨_, rfl⟩
  rw [← hg] at HS0 ⊢
  have hgw : w.heap.size ≤ g := by omega
  clear hg
  go_loopw [4] (fun i wr => ∃ (k : Nat) (m : Int), i = .int .i64 k ∧ k ≤ 64 ∧ SrcIn wr g A cap bs 0 m 0 ∧ w.grownBy wr none) (fun i _ => 64 - (intOf i).toNat)
  case atStart => exact ⟨0, _, rfl, by omega, HS0.out, World.grownBy_alloc _ _ _⟩
  case round =>
    obtain ⟨k, m, rfl, hk, hs, hgr⟩ := hrel
    obtain ⟨hgl, hfr, g0, g1, g2, g3⟩ := hs.facts
    have HS := Lib.hid hs
    have HG := Lib.hid hgr
    clear hs hgr HS0
    by_cases h1 : k < bs.length
    · by_cases h2 : k < 64
      · obtain ⟨b, o, rfl, hc⟩ := HS.out.row k bs[k] (List.getElem?_eq_getElem h1)
        have c0 := hc 0 _ rfl
        simp only [Nat.mul_one, Nat.add_zero] at c0
        clear hc
        go_wp2
        go_region
        go_wp2_with fail
        go_roundw
        case rel => exact ⟨k + 1, _, by go_num, by omega, HS.out.drew.setCell (by omega) (by omega) rfl, grown_new (grown_drew HG.out) (grown_set (grown_refl _ _)) hgw⟩
        case measure => simp [intOf]; omega
      · have S1 := Lib.hid (HS.out.setCell (j := 3) (a' := 0) (m' := m) (z' := (bs.length : Int) / 20) (v := .int .i64 ((bs.length : Int) / 20)) (by omega) (by omega) rfl)
        have S2 := Lib.hid (S1.out.setCell (j := 3) (a' := 0) (m' := m) (z' := 12) (v := .int .i64 12) (by omega) (by omega) rfl)
        have G1 := Lib.hid (grown_new HG.out (grown_set (j := 3) (v := .int .i64 ((bs.length : Int) / 20)) (grown_refl wr (some g))) hgw)
        have G2 := Lib.hid (grown_new G1.out (grown_set (j := 3) (v := .int .i64 12) (grown_refl _ (some g))) hgw)
        go_wp2_with fail
        all_goals go_ret
        all_goals refine ⟨g, rfl, hgw, ?_⟩
        all_goals first
          | exact ⟨⟨_, _, _, _, _, _, S2.out⟩, G2.out⟩
          | exact ⟨⟨_, _, _, _, _, _, S1.out⟩, G1.out⟩
    · have S1 := Lib.hid (HS.out.setCell (j := 3) (a' := 0) (m' := m) (z' := (bs.length : Int) / 20) (v := .int .i64 ((bs.length : Int) / 20)) (by omega) (by omega) rfl)
      have S2 := Lib.hid (S1.out.setCell (j := 3) (a' := 0) (m' := m) (z' := 12) (v := .int .i64 12) (by omega) (by omega) rfl)
      have G1 := Lib.hid (grown_new HG.out (grown_set (j := 3) (v := .int .i64 ((bs.length : Int) / 20)) (grown_refl wr (some g))) hgw)
      have G2 := Lib.hid (grown_new G1.out (grown_set (j := 3) (v := .int .i64 12) (grown_refl _ (some g))) hgw)
      go_wp2_with fail
      all_goals go_ret
      all_goals refine ⟨g, rfl, hgw, ?_⟩
      all_goals first
        | exact ⟨⟨_, _, _, _, _, _, S2.out⟩, G2.out⟩
        | exact ⟨⟨_, _, _, _, _, _, S1.out⟩, G1.out⟩
end Go.Proofs.Ytlbiocfpkpcdhaa
