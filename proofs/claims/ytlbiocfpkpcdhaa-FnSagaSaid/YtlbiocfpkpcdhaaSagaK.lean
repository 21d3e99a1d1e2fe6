import Derived.Test.YtlbiocfpkpcdhaaSagaJ
namespace Go.Proofs.Ytlbiocfpkpcdhaa
open Go.RowKit
set_option linter.unusedSimpArgs false
set_option linter.unusedVariables false
theorem overSpec_any (s : SagaD) (w : World) :
    Calls Try.prog 96 #[sagaV s] w fun e w' => e = .returned (.bool (inB s.ph 3 5)) ∧ Below w.heap.size w w' := by
  unfold sagaV
  by_cases h3 : s.ph = 3
  · go_enter Try.func96, Try.ntmps96
    go_wp2
    go_ret
    exact ⟨ret_bool (by rw [inB_true.2 ⟨by omega, by omega⟩]), bel1 _⟩
  · by_cases h4 : s.ph = 4
    · go_enter Try.func96, Try.ntmps96
      go_wp2
      go_ret
      exact ⟨ret_bool (by rw [inB_true.2 ⟨by omega, by omega⟩]), bel1 _⟩
    · by_cases h5 : s.ph = 5
      · go_enter Try.func96, Try.ntmps96
        go_wp2
        go_ret
        exact ⟨ret_bool (by rw [inB_true.2 ⟨by omega, by omega⟩]), bel1 _⟩
      · have hi : inB s.ph 3 5 = false := by
          cases hb : inB s.ph 3 5 with
          | false => rfl
          | true => have := inB_true.1 hb; omega
        have HI := Lib.hid hi
        clear hi
        go_enter Try.func96, Try.ntmps96
        go_wp2
        go_ret
        exact ⟨ret_bool (by rw [HI.out]; simp [h3, h4, h5]), bel1 _⟩
set_option maxRecDepth 100000 in
set_option maxHeartbeats 1000000 in
theorem l13Tick_any (d : DefD) (A : Option Addr) (cap : Nat) (s : SagaD) (now : Int) (w : World) (h : DefAt w d A cap) (hr : sagaRt d s = true) (ht : inB now 0 1000000000 = true) :
    Calls Try.prog 94 #[defV d A cap, sagaV s, .int .i64 now] w fun e w' => e = .returned (outV (tickS d s now)) ∧ Below w.heap.size w w' := by
  have ht' := inB_true.1 ht
  have HK := Lib.hid (show askedS d s now = true from by unfold askedS; rw [hr, ht]; rfl)
  have HRT := Lib.hid hr
  have HTM := Lib.hid ht
  have HT := Lib.hid (Three.start (s := s) h)
  clear h hr ht
  obtain ⟨ph, dn, at_, tr, sn, du⟩ := s
  dsimp only at *
  obtain ⟨u, hu⟩ : ∃ u, tickS d ⟨ph, dn, at_, tr, sn, du⟩ now = u := ⟨_, rfl⟩
  rw [hu]
  have HX0 := Lib.hid hu
  clear hu
  unfold defV sagaV
  go_enter Try.func94, Try.ntmps94
  go_upto_region 1 with fail
  refine wpNamed (fun W => Three w d A cap ⟨ph, dn, at_, tr, sn, du⟩ (w.heap.size + 1 + 1) W) HT.out ?_
  intro W hW
  have HW := Lib.hid hW
  clear hW HT
  obtain ⟨⟨z0, z1, z2⟩, ⟨x0, x1, x2⟩, xf, y0, y1, y2, y3, y4, y5⟩ := HW.out.facts
  dsimp only at y0 y1 y2 y3 y4 y5
  go_wp2_with fail
  refine (overSpec_any ⟨ph, dn, at_, tr, sn, du⟩ _).mono ?_
  rintro e w1 ⟨rfl, hb⟩
  have HW1 := Lib.hid (HW.out.below hb)
  clear hb z0 z1 z2 x0 x1 x2 xf y0 y1 y2 y3 y4 y5 HW
  obtain ⟨⟨z0, z1, z2⟩, ⟨x0, x1, x2⟩, xf, y0, y1, y2, y3, y4, y5⟩ := HW1.out.facts
  obtain ⟨of, o0, o1, o2, o3, o4, o5, o6, o7, o8, o9, o10⟩ := zOut_facts HW1.out.b2
  dsimp only at y0 y1 y2 y3 y4 y5
  dsimp only
  cases ho : inB ph 3 5
  · have HO := Lib.hid ho
    have hph := sagaRt_tick HRT.out ho
    clear ho
    by_cases hdu : now < du
    · have HX := Lib.hid (show u = codeS 12 from by rw [← HX0.out]; unfold tickS; rw [HK.out]; simp [HO.out, hdu])
      go_wp2_with fail
      exact endThree (o := codeS 12) Try.results94 HX.out rfl rfl HW1.out
    · obtain ⟨hd, ha0, ha1, hd0, hd1, htr1, htr2, -, -, -⟩ := sagaRt_way HRT.out hph
      obtain ⟨hq1, hq2, -, -, q5, q6⟩ := DefD.ok_nums hd at_ ha0 ha1
      dsimp only at ha0 ha1 hd0 hd1 htr1 htr2
      have HD := Lib.hid hd
      clear hd
      cases sn
      · have HX := Lib.hid (show u = sendS d ⟨ph, dn, at_, tr + 1, false, du⟩ now from by rw [← HX0.out]; unfold tickS; rw [HK.out]; simp [HO.out, hdu])
        go_wp2_with fail
        refine (l13Send_any d A cap ⟨ph, dn, at_, tr + 1, false, du⟩ now _ (HW1.out.set ⟨ph, dn, at_, tr + 1, false, du⟩ 3 (.int .i64 (tr + 1)) rfl).df ha0 ha1 (by show _ ≤ now + (stAt d at_).ti; omega) (by show now + (stAt d at_).ti ≤ _; omega)).mono ?_
        rintro e w2 ⟨rfl, hb⟩
        have HW2 := Lib.hid ((HW1.out.set ⟨ph, dn, at_, tr + 1, false, du⟩ 3 (.int .i64 (tr + 1)) rfl).below hb)
        clear hb of o0 o1 o2 o3 o4 o5 o6 o7 o8 o9 o10
        obtain ⟨of, o0, o1, o2, o3, o4, o5, o6, o7, o8, o9, o10⟩ := zOut_facts HW2.out.b2
        have hz2 := blk_lt HW2.out.b2
        go_wp2_with fail
        exact endThree (o := sendS d ⟨ph, dn, at_, tr + 1, false, du⟩ now) Try.results94 HX.out rfl rfl HW2.out
      · have HX := Lib.hid (show u = failS d ⟨ph, dn, at_, tr, true, du⟩ now from by rw [← HX0.out]; unfold tickS; rw [HK.out]; simp [HO.out, hdu])
        go_wp2_with fail
        refine (l13Failed_any d A cap ⟨ph, dn, at_, tr, true, du⟩ now _ HW1.out.df HRT.out hph HTM.out).mono ?_
        rintro e w2 ⟨rfl, hb⟩
        have HW2 := Lib.hid (HW1.out.below hb)
        clear hb of o0 o1 o2 o3 o4 o5 o6 o7 o8 o9 o10
        obtain ⟨of, o0, o1, o2, o3, o4, o5, o6, o7, o8, o9, o10⟩ := zOut_facts HW2.out.b2
        have hz2 := blk_lt HW2.out.b2
        go_wp2_with fail
        exact endThree (o := failS d ⟨ph, dn, at_, tr, true, du⟩ now) Try.results94 HX.out rfl rfl HW2.out
  · have HX := Lib.hid (show u = codeS 12 from by rw [← HX0.out]; unfold tickS; rw [HK.out]; simp [ho])
    clear ho
    go_wp2_with fail
    exact endThree (o := codeS 12) Try.results94 HX.out rfl rfl HW1.out
end Go.Proofs.Ytlbiocfpkpcdhaa
