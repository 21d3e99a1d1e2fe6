import Derived.Test.YtlbiocfpkpcdhaaSagaI
import Derived.Test.YtlbiocfpkpcdhaaEnds
import Derived.Test.YtlbiocfpkpcdhaaDrawB
namespace Go.Proofs.Ytlbiocfpkpcdhaa
open Go.RowKit
set_option linter.unusedSimpArgs false
set_option linter.unusedVariables false
theorem l12Wait_any (p : StepD) (n : Int) (w : World) (hp : p.nums = true) (h1 : 1 ≤ n) (h2 : n ≤ 10) :
    Calls Try.prog 85 #[stepV p, .int .i64 n] w fun e w' => e = .returned (.int .i64 (waitS p n)) ∧ Below w.heap.size w w' := by
  have HW := Lib.hid (show waitS p n = p.bo * 2 ^ (n - 1).toNat from waitS_ok hp h1 h2)
  have hpp := hp
  unfold StepD.nums at hpp
  simp only [Bool.and_eq_true, inB_true] at hpp
  obtain ⟨⟨-, hbo1, hbo2⟩, -⟩ := hpp
  clear hp
  unfold stepV
  go_enter Try.func85, Try.ntmps85
  go_wp2_with fail
  go_ret
  exact ⟨ret_int (by rw [HW.out]; exact shl_small hbo1 hbo2 h1 h2), bel1 _⟩
set_option maxRecDepth 100000 in
set_option maxHeartbeats 2000000 in
theorem l13Failed_any (d : DefD) (A : Option Addr) (cap : Nat) (s : SagaD) (now : Int) (w : World) (h : DefAt w d A cap) (hr : sagaRt d s = true) (hp : s.ph = 1 ∨ s.ph = 2) (ht : inB now 0 1000000000 = true) :
    Calls Try.prog 135 #[defV d A cap, sagaV s, .int .i64 now] w fun e w' => e = .returned (outV (failS d s now)) ∧ Below w.heap.size w w' := by
  have ht' := inB_true.1 ht
  obtain ⟨hd, ha0, ha1, hd0, hd1, htr1, htr2, -, -, -⟩ := sagaRt_way hr hp
  obtain ⟨hq1, hq2, -, -, -, -⟩ := DefD.ok_nums hd s.at_ ha0 ha1
  have HNUM := Lib.hid (stAt_nums hd s.at_ ha0 ha1)
  have HD := Lib.hid hd
  have HTM := Lib.hid ht
  have HPH := Lib.hid hp
  have HT := Lib.hid (Three.start (s := s) h)
  clear h hr hd hp ht
  obtain ⟨ph, dn, at_, tr, sn, du⟩ := s
  dsimp only at *
  obtain ⟨u, hu⟩ : ∃ u, failS d ⟨ph, dn, at_, tr, sn, du⟩ now = u := ⟨_, rfl⟩
  rw [hu]
  have HX0 := Lib.hid hu
  clear hu
  unfold defV sagaV
  go_enter Try.func135, Try.ntmps135
  go_upto_region 1 with fail
  refine wpNamed (fun W => Three w d A cap ⟨ph, dn, at_, tr, sn, du⟩ (w.heap.size + 1 + 1) W) HT.out ?_
  intro W hW
  have HW := Lib.hid hW
  clear hW HT
  obtain ⟨b, o, rfl, ⟨hb0, hb1, hb2, hb3⟩, c0, c1, c2, c3, c4, c5⟩ := HW.out.df.step' at_ ha0 ha1
  obtain ⟨⟨z0, z1, z2⟩, ⟨x0, x1, x2⟩, xf, y0, y1, y2, y3, y4, y5⟩ := HW.out.facts
  dsimp only at y0 y1 y2 y3 y4 y5
  go_upto_region 2 with fail
  obtain ⟨B, hB⟩ : ∃ B, B = W.heap.size := ⟨_, rfl⟩
  rw [← hB] at z0 z1 z2 ⊢
  refine wpNamed (fun W' => Three w d (some ⟨b, o, none⟩) cap ⟨ph, dn, at_, tr, sn, du⟩ (w.heap.size + 1 + 1) W' ∧ W'.heap[B]? = some (.cells #[.string (stAt d at_).nm, .string (stAt d at_).dd, .string (stAt d at_).ud, .int .i64 (stAt d at_).tr, .int .i64 (stAt d at_).bo, .int .i64 (stAt d at_).ti] 55)) ⟨HW.out.below (bel1 _), by rw [hB]; exact heap_alloc_new _ _⟩ ?_
  clear HW hB c0 c1 c2 c3 c4 c5 x0 x1 x2 xf y0 y1 y2 y3 y4 y5 hb0 hb1 hb2 hb3
  clear W
  rintro W ⟨hW', hS⟩
  have HW := Lib.hid hW'
  have HS := Lib.hid hS
  have hBB := blk_lt hS
  clear hW' hS
  obtain ⟨-, ⟨x0, x1, x2⟩, xf, y0, y1, y2, y3, y4, y5⟩ := HW.out.facts
  obtain ⟨of, o0, o1, o2, o3, o4, o5, o6, o7, o8, o9, o10⟩ := zOut_facts HW.out.b2
  obtain ⟨-, st0, st1, st2, st3, st4, st5⟩ := step_facts HS.out
  dsimp only at y0 y1 y2 y3 y4 y5
  by_cases hlt : tr < (stAt d at_).tr
  · have hwb := waitS_bound (p := stAt d at_) (n := tr)
    obtain ⟨hwb1, hwb2⟩ := hwb
    have HX := Lib.hid (show u = ⟨⟨ph, dn, at_, tr, false, now + waitS (stAt d at_) tr⟩, noCmd, false, 0⟩ from by rw [← HX0.out]; unfold failS; rw [if_pos hlt, waitS_ok HNUM.out htr1 (by omega)])
    obtain ⟨x, hx⟩ : ∃ x, waitS (stAt d at_) tr = x := ⟨_, rfl⟩
    rw [hx] at hwb1 hwb2 HX
    have HXX := Lib.hid hx
    clear hx
    go_wp2_with fail
    refine (l12Wait_any (stAt d at_) tr _ HNUM.out htr1 (by omega)).mono ?_
    rintro e w1 ⟨rfl, hb⟩
    rw [HXX.out]
    have HW1 := Lib.hid ((HW.out.set ⟨ph, dn, at_, tr, false, du⟩ 4 (.bool false) rfl).below hb)
    clear hb of o0 o1 o2 o3 o4 o5 o6 o7 o8 o9 o10 x0 x1 x2 xf y0 y1 y2 y3 y4 y5
    obtain ⟨-, ⟨x0, x1, x2⟩, xf, y0, y1, y2, y3, y4, y5⟩ := HW1.out.facts
    obtain ⟨of, o0, o1, o2, o3, o4, o5, o6, o7, o8, o9, o10⟩ := zOut_facts HW1.out.b2
    dsimp only at y0 y1 y2 y3 y4 y5
    go_wp2_with fail
    exact endThree (o := ⟨⟨ph, dn, at_, tr, false, now + x⟩, noCmd, false, 0⟩) Try.results135 HX.out rfl rfl (HW1.out.set ⟨ph, dn, at_, tr, false, now + x⟩ 5 (.int .i64 (now + x)) rfl)
  · by_cases hst : ph = 2 ∨ (0 ≤ d.pv ∧ d.pv < at_)
    · have HX := Lib.hid (show u = endS ⟨ph, dn, at_, tr, sn, du⟩ 5 from by rw [← HX0.out]; unfold failS; rw [if_neg hlt, if_pos hst])
      rcases HPH.out with rfl | rfl
      · obtain ⟨h2, h3⟩ : 0 ≤ d.pv ∧ d.pv < at_ := by omega
        clear hst
        go_wp2_with fail
        exact endThree (o := endS ⟨1, dn, at_, tr, sn, du⟩ 5) Try.results135 HX.out rfl rfl HW.out
      · clear hst
        go_wp2_with fail
        exact endThree (o := endS ⟨2, dn, at_, tr, sn, du⟩ 5) Try.results135 HX.out rfl rfl HW.out
    · have HX := Lib.hid (show u = backS d ⟨ph, dn, at_, tr, sn, du⟩ dn now from by rw [← HX0.out]; unfold failS; rw [if_neg hlt, if_neg hst])
      obtain rfl : ph = 1 := by have := HPH.out; omega
      by_cases hpv : 0 ≤ d.pv
      · have h3 : at_ ≤ d.pv := by omega
        clear hst
        go_wp2_with fail
        refine (l13Below_any d _ cap ⟨1, dn, at_, tr, sn, du⟩ dn now _ HW.out.df HD.out hd0 (by omega) HTM.out).mono ?_
        rintro e w1 ⟨rfl, hb⟩
        have HW2 := Lib.hid (HW.out.below hb)
        clear hb of o0 o1 o2 o3 o4 o5 o6 o7 o8 o9 o10
        obtain ⟨of, o0, o1, o2, o3, o4, o5, o6, o7, o8, o9, o10⟩ := zOut_facts HW2.out.b2
        have hz2 := blk_lt HW2.out.b2
        go_wp2_with fail
        exact endThree (o := backS d ⟨1, dn, at_, tr, sn, du⟩ dn now) Try.results135 HX.out rfl rfl HW2.out
      · clear hst
        go_wp2_with fail
        refine (l13Below_any d _ cap ⟨1, dn, at_, tr, sn, du⟩ dn now _ HW.out.df HD.out hd0 (by omega) HTM.out).mono ?_
        rintro e w1 ⟨rfl, hb⟩
        have HW2 := Lib.hid (HW.out.below hb)
        clear hb of o0 o1 o2 o3 o4 o5 o6 o7 o8 o9 o10
        obtain ⟨of, o0, o1, o2, o3, o4, o5, o6, o7, o8, o9, o10⟩ := zOut_facts HW2.out.b2
        have hz2 := blk_lt HW2.out.b2
        go_wp2_with fail
        exact endThree (o := backS d ⟨1, dn, at_, tr, sn, du⟩ dn now) Try.results135 HX.out rfl rfl HW2.out
end Go.Proofs.Ytlbiocfpkpcdhaa
