import Derived.Test.YtlbiocfpkpcdhaaSagaC
namespace Go.Proofs.Ytlbiocfpkpcdhaa
open Go.RowKit
set_option linter.unusedSimpArgs false
set_option linter.unusedVariables false
/-- what a right saga that is awaited, or sent again, is like -/
theorem sagaRt_way {d : DefD} {s : SagaD} (h : sagaRt d s = true) (hp : s.ph = 1 ∨ s.ph = 2) : d.ok = true ∧ 0 ≤ s.at_ ∧ s.at_ < d.st.length ∧ 0 ≤ s.dn ∧ s.dn < d.st.length ∧ 1 ≤ s.tr ∧ s.tr ≤ (stAt d s.at_).tr ∧ 0 ≤ s.du ∧ s.du ≤ 2000000000 ∧ (s.sn = false → s.tr < (stAt d s.at_).tr) := by
  unfold sagaRt at h
  simp only [Bool.and_eq_true] at h
  obtain ⟨hd, hs⟩ := h
  refine ⟨hd, ?_⟩
  unfold sagaOk at hs
  have how : owing d s = true → 1 ≤ s.tr ∧ s.tr ≤ (stAt d s.at_).tr ∧ 0 ≤ s.du ∧ s.du ≤ 2000000000 ∧ (s.sn = false → s.tr < (stAt d s.at_).tr) := by
    intro ho
    unfold owing at ho
    simp only [Bool.and_eq_true, inB_true] at ho
    cases hsn : s.sn <;> simp only [hsn] at ho <;> simp at ho ⊢ <;> omega
  rcases hp with hp | hp
  · rw [if_pos hp] at hs
    simp only [Bool.and_eq_true, decide_eq_true_eq, inB_true] at hs
    obtain ⟨⟨h1, h2⟩, h3⟩ := hs
    have := how h3
    refine ⟨by omega, by omega, by omega, by omega, this⟩
  · rw [if_neg (by omega), if_pos hp] at hs
    simp only [Bool.and_eq_true] at hs
    obtain ⟨h1, h3⟩ := hs
    have := how h3
    have hr := backOk_range h1
    unfold backOk turned at h1
    simp only [Bool.and_eq_true, inB_true] at h1
    exact ⟨by omega, by omega, by omega, by omega, this⟩
set_option maxRecDepth 100000 in
set_option maxHeartbeats 1000000 in
theorem failed_any (d : DefD) (A : Option Addr) (cap : Nat) (s : SagaD) (now : Int) (w : World) (h : DefAt w d A cap) (hr : sagaRt d s = true) (hp : s.ph = 1 ∨ s.ph = 2) (ht : inB now 0 1000000000 = true) :
    Calls Try.prog 68 #[defV d A cap, sagaV s, .int .i64 now] w fun e w' => e = .returned (outV (failS d s now)) ∧ Below w.heap.size w w' := by
  have H := Lib.hid h
  have ht' := inB_true.1 ht
  obtain ⟨hd, ha0, ha1, hd0, hd1, htr1, htr2, -, -, -⟩ := sagaRt_way hr hp
  obtain ⟨hq1, hq2, -, -, -, -⟩ := DefD.ok_nums hd s.at_ ha0 ha1
  have hnum := stAt_nums hd s.at_ ha0 ha1
  obtain ⟨b, o, rfl, ⟨hb0, hb1, hb2, hb3⟩, c0, c1, c2, c3, c4, c5⟩ := h.step' s.at_ ha0 ha1
  have HD := Lib.hid hd
  have HT := Lib.hid ht
  have HNUM := Lib.hid hnum
  have HPH := Lib.hid hp
  clear h hr hd hp ht hnum
  unfold defV sagaV
  by_cases hlt : s.tr < (stAt d s.at_).tr
  · have HX := Lib.hid (show failS d s now = ⟨{ s with sn := false, du := now + waitS (stAt d s.at_) s.tr }, noCmd, false, 0⟩ from by unfold failS; rw [if_pos hlt, waitS_ok HNUM.out htr1 (by omega)])
    have hwb := waitS_bound (p := stAt d s.at_) (n := s.tr)
    obtain ⟨hwb1, hwb2⟩ := hwb
    obtain ⟨x, hx⟩ : ∃ x, waitS (stAt d s.at_) s.tr = x := ⟨_, rfl⟩
    rw [hx] at hwb1 hwb2
    have HXX := Lib.hid hx
    clear hx
    go_enter Try.func68, Try.ntmps68
    go_wp2_with fail
    refine (wait_any (stAt d s.at_) s.tr _).mono ?_
    rintro e w1 ⟨rfl, hw1⟩
    rw [HXX.out]
    have hz1 : w.heap.size + 3 < w1.heap.size := by have := hw1.size; simp at this; omega
    obtain ⟨hc1, hf1⟩ := bcell hw1
    go_wp2_with fail
    have hz : w1.heap[w.heap.size + 1 + 1]? = some zOut := blk_below (blk_old (blk3 _ _ _) _) hw1
    have hbw : Below w.heap.size w w1 := belt (w1 := ((((w.alloc _).alloc _).alloc _).alloc _)) (by repeat (first | exact Below.refl _ _ | refine Below.alloc ?_ (by simp <;> omega) _)) hw1
    refine endOut Try.results68 ⟨{ s with sn := false, du := now + x }, noCmd, false, 0⟩ rfl rfl (by rw [Below.heap_setCell _ _ _ _ (by simp)]; exact hz) (fun wy hy => ⟨?_, hy _ _ (by omega) (hbw.setCell (by simp) _)⟩)
    rw [HX.out, HXX.out]
  · obtain ⟨ph, dn, at_, tr, sn, du⟩ := s
    dsimp only at *
    have hz1 : ((((w.alloc (.cells #[.string d.nm, .slice (some ⟨b, o, none⟩) d.st.length cap, .int .i64 d.pv] 29)).alloc (.cells #[.int .i64 ph, .int .i64 dn, .int .i64 at_, .int .i64 tr, .bool sn, .int .i64 du] 37)).alloc zOut).alloc (.cells #[.string (stAt d at_).nm, .string (stAt d at_).dd, .string (stAt d at_).ud, .int .i64 (stAt d at_).tr, .int .i64 (stAt d at_).bo, .int .i64 (stAt d at_).ti] 55)).heap[w.heap.size + 1 + 1]? = some zOut := blk_old (blk3 _ _ _) _
    have HZ := Lib.hid hz1
    clear hz1
    by_cases hst : ph = 2 ∨ (0 ≤ d.pv ∧ d.pv < at_)
    · have HX := Lib.hid (show failS d ⟨ph, dn, at_, tr, sn, du⟩ now = endS ⟨ph, dn, at_, tr, sn, du⟩ 5 from by unfold failS; rw [if_neg hlt, if_pos hst])
      rcases HPH.out with rfl | rfl
      · obtain ⟨h2, h3⟩ : 0 ≤ d.pv ∧ d.pv < at_ := by omega
        clear hst
        go_enter Try.func68, Try.ntmps68
        go_wp2_with fail
        refine (ends_any ⟨1, dn, at_, tr, sn, du⟩ 5 _).mono ?_
        rintro e w1 ⟨rfl, hw1⟩
        obtain ⟨hc1, hf1⟩ := bcell hw1
        go_wp2_with fail
        exact endOut Try.results68 (endS ⟨1, dn, at_, tr, sn, du⟩ 5) rfl rfl (blk_below HZ.out hw1) (fun wy hy => ⟨by rw [HX.out], hy _ _ (by omega) (belt (by repeat (first | exact Below.refl _ _ | refine Below.alloc ?_ (by simp <;> omega) _)) hw1)⟩)
      · clear hst
        go_enter Try.func68, Try.ntmps68
        go_wp2_with fail
        refine (ends_any ⟨2, dn, at_, tr, sn, du⟩ 5 _).mono ?_
        rintro e w1 ⟨rfl, hw1⟩
        obtain ⟨hc1, hf1⟩ := bcell hw1
        go_wp2_with fail
        exact endOut Try.results68 (endS ⟨2, dn, at_, tr, sn, du⟩ 5) rfl rfl (blk_below HZ.out hw1) (fun wy hy => ⟨by rw [HX.out], hy _ _ (by omega) (belt (by repeat (first | exact Below.refl _ _ | refine Below.alloc ?_ (by simp <;> omega) _)) hw1)⟩)
    · have HX := Lib.hid (show failS d ⟨ph, dn, at_, tr, sn, du⟩ now = backS d ⟨ph, dn, at_, tr, sn, du⟩ dn now from by unfold failS; rw [if_neg hlt, if_neg hst])
      obtain rfl : ph = 1 := by have := HPH.out; omega
      by_cases hpv : 0 ≤ d.pv
      · have h3 : at_ ≤ d.pv := by omega
        clear hst
        go_enter Try.func68, Try.ntmps68
        go_wp2_with fail
        refine (back_any d _ cap ⟨1, dn, at_, tr, sn, du⟩ dn now _ ((((H.out.alloc _).alloc _).alloc _).alloc _) HD.out hd0 (by omega) HT.out).mono ?_
        rintro e w1 ⟨rfl, hw1⟩
        obtain ⟨hc1, hf1⟩ := bcell hw1
        go_wp2_with fail
        exact endOut Try.results68 (backS d ⟨1, dn, at_, tr, sn, du⟩ dn now) rfl rfl (blk_below HZ.out hw1) (fun wy hy => ⟨by rw [HX.out], hy _ _ (by omega) (belt (by repeat (first | exact Below.refl _ _ | refine Below.alloc ?_ (by simp <;> omega) _)) hw1)⟩)
      · clear hst
        go_enter Try.func68, Try.ntmps68
        go_wp2_with fail
        refine (back_any d _ cap ⟨1, dn, at_, tr, sn, du⟩ dn now _ ((((H.out.alloc _).alloc _).alloc _).alloc _) HD.out hd0 (by omega) HT.out).mono ?_
        rintro e w1 ⟨rfl, hw1⟩
        obtain ⟨hc1, hf1⟩ := bcell hw1
        go_wp2_with fail
        exact endOut Try.results68 (backS d ⟨1, dn, at_, tr, sn, du⟩ dn now) rfl rfl (blk_below HZ.out hw1) (fun wy hy => ⟨by rw [HX.out], hy _ _ (by omega) (belt (by repeat (first | exact Below.refl _ _ | refine Below.alloc ?_ (by simp <;> omega) _)) hw1)⟩)
end Go.Proofs.Ytlbiocfpkpcdhaa
