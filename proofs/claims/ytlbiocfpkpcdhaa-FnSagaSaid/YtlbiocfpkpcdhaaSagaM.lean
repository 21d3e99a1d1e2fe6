import Derived.Test.YtlbiocfpkpcdhaaSagaL
namespace Go.Proofs.Ytlbiocfpkpcdhaa
open Go.RowKit
set_option linter.unusedSimpArgs false
set_option linter.unusedVariables false
set_option maxRecDepth 100000 in
set_option maxHeartbeats 2000000 in
theorem replySpec_any (d : DefD) (A : Option Addr) (cap : Nat) (s : SagaD) (c : CmdD) (good : Bool) (now : Int) (w : World) (h : DefAt w d A cap) :
    Calls Try.prog 32 #[defV d A cap, sagaV s, cmdV c, .bool good, .int .i64 now] w fun e w' => e = .returned (outV (replyS d s c good now)) ∧ Below w.heap.size w w' := by
  have HT := Lib.hid (Three.start4 (s := s) h (.cells #[.int .i64 c.st, .bool c.un, .int .i64 c.ty] 39))
  clear h
  obtain ⟨u, hu⟩ : ∃ u, replyS d s c good now = u := ⟨_, rfl⟩
  rw [hu]
  have HX0 := Lib.hid hu
  clear hu
  unfold defV sagaV cmdV
  go_enter Try.func32, Try.ntmps32
  go_upto_region 1 with fail
  refine wpNamed (fun W => Three w d A cap s (w.heap.size + 1 + 1 + 1) W ∧ W.heap[w.heap.size + 1 + 1]? = some (.cells #[.int .i64 c.st, .bool c.un, .int .i64 c.ty] 39)) HT.out ?_
  rintro W ⟨hW, hC⟩
  have HW := Lib.hid hW
  have HC := Lib.hid hC
  clear hW HT hC
  obtain ⟨⟨z0, z1, z2⟩, ⟨x0, x1, x2⟩, xf, y0, y1, y2, y3, y4, y5⟩ := HW.out.facts
  obtain ⟨of, o0, o1, o2, o3, o4, o5, o6, o7, o8, o9, o10⟩ := zOut_facts HW.out.b2
  obtain ⟨r0, r1, r2, r3⟩ := cmd_facts HC.out
  go_wp2_with fail
  refine (SagaRightSpec_any d A cap s _ HW.out.df).mono ?_
  rintro e w1 ⟨rfl, hb⟩
  have HW1 := Lib.hid (HW.out.below hb)
  have HC1 := Lib.hid (blk_below HC.out hb)
  clear hb z0 z1 z2 x0 x1 x2 xf y0 y1 y2 y3 y4 y5 of o0 o1 o2 o3 o4 o5 o6 o7 o8 o9 o10 HW HC r0 r1 r2 r3
  obtain ⟨⟨z0, z1, z2⟩, ⟨x0, x1, x2⟩, xf, y0, y1, y2, y3, y4, y5⟩ := HW1.out.facts
  obtain ⟨of, o0, o1, o2, o3, o4, o5, o6, o7, o8, o9, o10⟩ := zOut_facts HW1.out.b2
  obtain ⟨r0, r1, r2, r3⟩ := cmd_facts HC1.out
  cases hr : sagaRt d s
  · have HX := Lib.hid (show u = codeS 1 from by rw [← HX0.out]; unfold replyS askedS; rw [hr]; rfl)
    clear hr
    go_wp2_with fail
    exact endThree (o := codeS 1) Try.results32 HX.out rfl rfl HW1.out
  · have HR := Lib.hid hr
    clear hr
    go_wp2_with fail
    refine (l13Time_any _ _).mono ?_
    rintro e w' ⟨rfl, rfl⟩
    cases ht : inB now 0 1000000000
    · have HX := Lib.hid (show u = codeS 1 from by rw [← HX0.out]; unfold replyS askedS; rw [HR.out, ht]; rfl)
      clear ht
      go_wp2_with fail
      exact endThree (o := codeS 1) Try.results32 HX.out rfl rfl HW1.out
    · have HTM := Lib.hid ht
      clear ht
      go_wp2_with fail
      refine (l13Reply_any d A cap s c good now _ HW1.out.df HR.out HTM.out).mono ?_
      rintro e w2 ⟨rfl, hb⟩
      rw [HX0.out]
      have HW2 := Lib.hid (HW1.out.below hb)
      clear hb of o0 o1 o2 o3 o4 o5 o6 o7 o8 o9 o10
      obtain ⟨of, o0, o1, o2, o3, o4, o5, o6, o7, o8, o9, o10⟩ := zOut_facts HW2.out.b2
      have hz2 := blk_lt HW2.out.b2
      go_wp2_with fail
      exact endThree (o := u) Try.results32 rfl rfl rfl HW2.out
set_option maxRecDepth 100000 in
set_option maxHeartbeats 2000000 in
theorem tickSpec_any (d : DefD) (A : Option Addr) (cap : Nat) (s : SagaD) (now : Int) (w : World) (h : DefAt w d A cap) :
    Calls Try.prog 33 #[defV d A cap, sagaV s, .int .i64 now] w fun e w' => e = .returned (outV (tickS d s now)) ∧ Below w.heap.size w w' := by
  have HT := Lib.hid (Three.start (s := s) h)
  clear h
  obtain ⟨u, hu⟩ : ∃ u, tickS d s now = u := ⟨_, rfl⟩
  rw [hu]
  have HX0 := Lib.hid hu
  clear hu
  unfold defV sagaV
  go_enter Try.func33, Try.ntmps33
  go_upto_region 1 with fail
  refine wpNamed (fun W => Three w d A cap s (w.heap.size + 1 + 1) W) HT.out ?_
  rintro W hW
  have HW := Lib.hid hW
  clear hW HT
  obtain ⟨⟨z0, z1, z2⟩, ⟨x0, x1, x2⟩, xf, y0, y1, y2, y3, y4, y5⟩ := HW.out.facts
  obtain ⟨of, o0, o1, o2, o3, o4, o5, o6, o7, o8, o9, o10⟩ := zOut_facts HW.out.b2
  go_wp2_with fail
  refine (SagaRightSpec_any d A cap s _ HW.out.df).mono ?_
  rintro e w1 ⟨rfl, hb⟩
  have HW1 := Lib.hid (HW.out.below hb)
  clear hb z0 z1 z2 x0 x1 x2 xf y0 y1 y2 y3 y4 y5 of o0 o1 o2 o3 o4 o5 o6 o7 o8 o9 o10 HW
  obtain ⟨⟨z0, z1, z2⟩, ⟨x0, x1, x2⟩, xf, y0, y1, y2, y3, y4, y5⟩ := HW1.out.facts
  obtain ⟨of, o0, o1, o2, o3, o4, o5, o6, o7, o8, o9, o10⟩ := zOut_facts HW1.out.b2
  cases hr : sagaRt d s
  · have HX := Lib.hid (show u = codeS 1 from by rw [← HX0.out]; unfold tickS askedS; rw [hr]; rfl)
    clear hr
    go_wp2_with fail
    exact endThree (o := codeS 1) Try.results33 HX.out rfl rfl HW1.out
  · have HR := Lib.hid hr
    clear hr
    go_wp2_with fail
    refine (l13Time_any _ _).mono ?_
    rintro e w' ⟨rfl, rfl⟩
    cases ht : inB now 0 1000000000
    · have HX := Lib.hid (show u = codeS 1 from by rw [← HX0.out]; unfold tickS askedS; rw [HR.out, ht]; rfl)
      clear ht
      go_wp2_with fail
      exact endThree (o := codeS 1) Try.results33 HX.out rfl rfl HW1.out
    · have HTM := Lib.hid ht
      clear ht
      go_wp2_with fail
      refine (l13Tick_any d A cap s now _ HW1.out.df HR.out HTM.out).mono ?_
      rintro e w2 ⟨rfl, hb⟩
      rw [HX0.out]
      have HW2 := Lib.hid (HW1.out.below hb)
      clear hb of o0 o1 o2 o3 o4 o5 o6 o7 o8 o9 o10
      obtain ⟨of, o0, o1, o2, o3, o4, o5, o6, o7, o8, o9, o10⟩ := zOut_facts HW2.out.b2
      have hz2 := blk_lt HW2.out.b2
      go_wp2_with fail
      exact endThree (o := u) Try.results33 rfl rfl rfl HW2.out
set_option maxRecDepth 100000 in
set_option maxHeartbeats 2000000 in
theorem cancelSpec_any (d : DefD) (A : Option Addr) (cap : Nat) (s : SagaD) (now : Int) (w : World) (h : DefAt w d A cap) :
    Calls Try.prog 34 #[defV d A cap, sagaV s, .int .i64 now] w fun e w' => e = .returned (outV (cancelS d s now)) ∧ Below w.heap.size w w' := by
  have HT := Lib.hid (Three.start (s := s) h)
  clear h
  obtain ⟨u, hu⟩ : ∃ u, cancelS d s now = u := ⟨_, rfl⟩
  rw [hu]
  have HX0 := Lib.hid hu
  clear hu
  unfold defV sagaV
  go_enter Try.func34, Try.ntmps34
  go_upto_region 1 with fail
  refine wpNamed (fun W => Three w d A cap s (w.heap.size + 1 + 1) W) HT.out ?_
  rintro W hW
  have HW := Lib.hid hW
  clear hW HT
  obtain ⟨⟨z0, z1, z2⟩, ⟨x0, x1, x2⟩, xf, y0, y1, y2, y3, y4, y5⟩ := HW.out.facts
  obtain ⟨of, o0, o1, o2, o3, o4, o5, o6, o7, o8, o9, o10⟩ := zOut_facts HW.out.b2
  go_wp2_with fail
  refine (SagaRightSpec_any d A cap s _ HW.out.df).mono ?_
  rintro e w1 ⟨rfl, hb⟩
  have HW1 := Lib.hid (HW.out.below hb)
  clear hb z0 z1 z2 x0 x1 x2 xf y0 y1 y2 y3 y4 y5 of o0 o1 o2 o3 o4 o5 o6 o7 o8 o9 o10 HW
  obtain ⟨⟨z0, z1, z2⟩, ⟨x0, x1, x2⟩, xf, y0, y1, y2, y3, y4, y5⟩ := HW1.out.facts
  obtain ⟨of, o0, o1, o2, o3, o4, o5, o6, o7, o8, o9, o10⟩ := zOut_facts HW1.out.b2
  cases hr : sagaRt d s
  · have HX := Lib.hid (show u = codeS 1 from by rw [← HX0.out]; unfold cancelS askedS; rw [hr]; rfl)
    clear hr
    go_wp2_with fail
    exact endThree (o := codeS 1) Try.results34 HX.out rfl rfl HW1.out
  · have HR := Lib.hid hr
    clear hr
    go_wp2_with fail
    refine (l13Time_any _ _).mono ?_
    rintro e w' ⟨rfl, rfl⟩
    cases ht : inB now 0 1000000000
    · have HX := Lib.hid (show u = codeS 1 from by rw [← HX0.out]; unfold cancelS askedS; rw [HR.out, ht]; rfl)
      clear ht
      go_wp2_with fail
      exact endThree (o := codeS 1) Try.results34 HX.out rfl rfl HW1.out
    · have HTM := Lib.hid ht
      clear ht
      go_wp2_with fail
      refine (l13Cancel_any d A cap s now _ HW1.out.df HR.out HTM.out).mono ?_
      rintro e w2 ⟨rfl, hb⟩
      rw [HX0.out]
      have HW2 := Lib.hid (HW1.out.below hb)
      clear hb of o0 o1 o2 o3 o4 o5 o6 o7 o8 o9 o10
      obtain ⟨of, o0, o1, o2, o3, o4, o5, o6, o7, o8, o9, o10⟩ := zOut_facts HW2.out.b2
      have hz2 := blk_lt HW2.out.b2
      go_wp2_with fail
      exact endThree (o := u) Try.results34 rfl rfl rfl HW2.out
set_option maxRecDepth 100000 in
set_option maxHeartbeats 2000000 in
theorem cancelImpl_any (d : DefD) (A : Option Addr) (cap : Nat) (s : SagaD) (now : Int) (w : World) (h : DefAt w d A cap) :
    Calls Try.prog 31 #[defV d A cap, sagaV s, .int .i64 now] w fun e w' => e = .returned (outV (cancelS d s now)) ∧ Below w.heap.size w w' := by
  have HT := Lib.hid (Three.start (s := s) h)
  clear h
  obtain ⟨ph, dn, at_, tr, sn, du⟩ := s
  dsimp only at *
  obtain ⟨u, hu⟩ : ∃ u, cancelS d ⟨ph, dn, at_, tr, sn, du⟩ now = u := ⟨_, rfl⟩
  rw [hu]
  have HX0 := Lib.hid hu
  clear hu
  unfold defV sagaV
  go_enter Try.func31, Try.ntmps31
  go_upto_region 1 with fail
  refine wpNamed (fun W => Three w d A cap ⟨ph, dn, at_, tr, sn, du⟩ (w.heap.size + 1 + 1) W) HT.out ?_
  intro W hW
  have HW1 := Lib.hid hW
  clear hW HT
  obtain ⟨⟨z0, z1, z2⟩, ⟨x0, x1, x2⟩, xf, y0, y1, y2, y3, y4, y5⟩ := HW1.out.facts
  obtain ⟨of, o0, o1, o2, o3, o4, o5, o6, o7, o8, o9, o10⟩ := zOut_facts HW1.out.b2
  dsimp only at y0 y1 y2 y3 y4 y5
  go_wp2_with fail
  refine (isAsked_any d A cap ⟨ph, dn, at_, tr, sn, du⟩ now _ HW1.out.df).mono ?_
  rintro e w1 ⟨rfl, hb⟩
  have HW := HW1
  clear HW1
  have HW1 := Lib.hid (HW.out.below hb)
  clear hb z0 z1 z2 x0 x1 x2 xf y0 y1 y2 y3 y4 y5 of o0 o1 o2 o3 o4 o5 o6 o7 o8 o9 o10 HW
  obtain ⟨⟨z0, z1, z2⟩, ⟨x0, x1, x2⟩, xf, y0, y1, y2, y3, y4, y5⟩ := HW1.out.facts
  obtain ⟨of, o0, o1, o2, o3, o4, o5, o6, o7, o8, o9, o10⟩ := zOut_facts HW1.out.b2
  dsimp only at y0 y1 y2 y3 y4 y5
  rw [show (sagaRt d ⟨ph, dn, at_, tr, sn, du⟩ && inB now 0 1000000000) = askedS d ⟨ph, dn, at_, tr, sn, du⟩ now from rfl]
  cases hk : askedS d ⟨ph, dn, at_, tr, sn, du⟩ now
  · have HX := Lib.hid (show u = codeS 1 from by rw [← HX0.out]; unfold cancelS; rw [hk]; rfl)
    clear hk
    go_wp2_with fail
    exact endThree (o := codeS 1) Try.results31 HX.out rfl rfl HW1.out
  have hk2 : sagaRt d ⟨ph, dn, at_, tr, sn, du⟩ = true ∧ inB now 0 1000000000 = true := by unfold askedS at hk; simpa using hk
  have HK := Lib.hid hk
  have HRT := Lib.hid hk2.1
  have HTM := Lib.hid hk2.2
  have ht' := inB_true.1 hk2.2
  clear hk hk2
  by_cases hph : ph = 1
  · subst hph
    obtain ⟨hd, ha0, ha1, hd0, hd1, htr1, htr2, -, -, -⟩ := sagaRt_way HRT.out (.inl rfl)
    have HD := Lib.hid hd
    clear hd
    dsimp only at ha0 ha1 hd0 hd1 htr1 htr2
    by_cases hno : 0 ≤ d.pv ∧ (d.pv < at_ ∨ (at_ = d.pv ∧ sn = true))
    · have HX := Lib.hid (show u = codeS 12 from by rw [← HX0.out]; unfold cancelS; rw [HK.out, if_neg (by simp), if_pos (.inr hno)])
      obtain ⟨hp0, hp1⟩ := hno
      rcases hp1 with hp1 | ⟨rfl, rfl⟩
      · go_wp2_with fail
        exact endThree (o := codeS 12) Try.results31 HX.out rfl rfl HW1.out
      · have hpp : ¬ d.pv < d.pv := by omega
        go_wp2_with fail
        all_goals exact endThree (o := codeS 12) Try.results31 HX.out rfl rfl HW1.out
    · have HX := Lib.hid (show u = backS d ⟨1, dn, at_, tr, sn, du⟩ dn now from by rw [← HX0.out]; unfold cancelS; rw [HK.out, if_neg (by simp), if_neg (by simp only [ne_eq, not_true_eq_false, false_or]; exact hno)])
      have hg : decide (0 ≤ d.pv) = true ∧ decide (d.pv < at_) = false ∧ ((at_ == d.pv) = false ∨ (at_ = d.pv ∧ sn = false)) ∨ decide (0 ≤ d.pv) = false := by
        by_cases h0 : 0 ≤ d.pv
        · refine .inl ⟨by simpa using h0, by simp; omega, ?_⟩
          by_cases h1 : at_ = d.pv
          · exact .inr ⟨h1, by cases sn <;> simp_all⟩
          · exact .inl (by simpa using h1)
        · exact .inr (by simpa using h0)
      clear hno
      rcases hg with ⟨h0, h1, h2 | ⟨rfl, rfl⟩⟩ | h0
      · go_wp2_with fail
        all_goals
          refine (back_any d A cap ⟨1, dn, at_, tr, sn, du⟩ dn now _ HW1.out.df HD.out hd0 (by omega) HTM.out).mono ?_
          rintro e w2 ⟨rfl, hb⟩
          have HW2 := Lib.hid (HW1.out.below hb)
          clear hb of o0 o1 o2 o3 o4 o5 o6 o7 o8 o9 o10
          obtain ⟨of, o0, o1, o2, o3, o4, o5, o6, o7, o8, o9, o10⟩ := zOut_facts HW2.out.b2
          have hz2 := blk_lt HW2.out.b2
          go_wp2_with fail
          exact endThree (o := backS d ⟨1, dn, at_, tr, sn, du⟩ dn now) Try.results31 HX.out rfl rfl HW2.out
      · go_wp2_with fail
        all_goals
          refine (back_any d A cap ⟨1, dn, d.pv, tr, false, du⟩ dn now _ HW1.out.df HD.out hd0 (by omega) HTM.out).mono ?_
          rintro e w2 ⟨rfl, hb⟩
          have HW2 := Lib.hid (HW1.out.below hb)
          clear hb of o0 o1 o2 o3 o4 o5 o6 o7 o8 o9 o10
          obtain ⟨of, o0, o1, o2, o3, o4, o5, o6, o7, o8, o9, o10⟩ := zOut_facts HW2.out.b2
          have hz2 := blk_lt HW2.out.b2
          go_wp2_with fail
          exact endThree (o := backS d ⟨1, dn, d.pv, tr, false, du⟩ dn now) Try.results31 HX.out rfl rfl HW2.out
      · go_wp2_with fail
        all_goals
          refine (back_any d A cap ⟨1, dn, at_, tr, sn, du⟩ dn now _ HW1.out.df HD.out hd0 (by omega) HTM.out).mono ?_
          rintro e w2 ⟨rfl, hb⟩
          have HW2 := Lib.hid (HW1.out.below hb)
          clear hb of o0 o1 o2 o3 o4 o5 o6 o7 o8 o9 o10
          obtain ⟨of, o0, o1, o2, o3, o4, o5, o6, o7, o8, o9, o10⟩ := zOut_facts HW2.out.b2
          have hz2 := blk_lt HW2.out.b2
          go_wp2_with fail
          exact endThree (o := backS d ⟨1, dn, at_, tr, sn, du⟩ dn now) Try.results31 HX.out rfl rfl HW2.out
  · have HX := Lib.hid (show u = codeS 12 from by rw [← HX0.out]; unfold cancelS; rw [HK.out, if_neg (by simp), if_pos (.inl hph)])
    have hph2 : (ph != 1) = true := by simpa using hph
    go_wp2_with fail
    exact endThree (o := codeS 12) Try.results31 HX.out rfl rfl HW1.out
end Go.Proofs.Ytlbiocfpkpcdhaa
