import Derived.Test.YtlbiocfpkpcdhaaSagaK
import Derived.Deep.RegionHeld3
namespace Go.Proofs.Ytlbiocfpkpcdhaa
open Go.RowKit
set_option linter.unusedSimpArgs false
set_option linter.unusedVariables false
theorem Three.drewN {w0 W : World} {d : DefD} {A : Option Addr} {cap g : Nat} {s : SagaD} (h : Three w0 d A cap s g W) (n : Nat) : Three w0 d A cap s g (W.drewN n) := h.below (below_drewN (Below.refl _ _) n)
theorem Three.drew {w0 W : World} {d : DefD} {A : Option Addr} {cap g : Nat} {s : SagaD} (h : Three w0 d A cap s g W) : Three w0 d A cap s g W.drew := h.below ⟨rfl, rfl, rfl, Nat.le_refl _, fun _ _ => rfl⟩
theorem cmd_facts {w : World} {g : Nat} {x0 x1 x2 : Value} (h : w.heap[g]? = some (.cells #[x0, x1, x2] 39)) : g < w.heap.size ∧ w.cell? ⟨g, 0, none⟩ = some x0 ∧ w.cell? ⟨g, 1, none⟩ = some x1 ∧ w.cell? ⟨g, 2, none⟩ = some x2 := by
  have hc : ∀ j, w.cell? ⟨g, j, none⟩ = (#[x0, x1, x2] : Array Value)[j]? := fun j => by
    unfold World.cell?
    simp only [h]
    rfl
  exact ⟨blk_lt h, hc 0, hc 1, hc 2⟩
theorem l13Command_opaque (s : SagaD) (u : Bool) (hu : decide (s.ph = 2) = u) (w : World) :
    Calls Try.prog 92 #[sagaV s] w fun e w' => e = .returned (.agg #[.int .i64 s.at_, .bool u, .int .i64 s.tr]) ∧ Below w.heap.size w w' := by
  refine (l13Command_any s w).mono ?_
  rintro e w' ⟨rfl, hb⟩
  exact ⟨by unfold cmdV cmdOf; rw [hu], hb⟩
set_option maxRecDepth 100000 in
theorem neq_cmd (a1 : Int) (a2 : Bool) (a3 b1 : Int) (b2 : Bool) (b3 : Int) (W : World) : (binOp .neq 39 (.agg #[.int .i64 a1, .bool a2, .int .i64 a3]) (.agg #[.int .i64 b1, .bool b2, .int .i64 b3])).run Try.prog W = .ok (.bool (!(decide (a1 = b1) && (a2 == b2) && decide (a3 = b3)))) W := by
  by_cases e1 : a1 = b1
  · by_cases e2 : a2 = b2
    · by_cases e3 : a3 = b3
      · subst e1; subst e2; subst e3; go_simp
      · subst e1; subst e2; go_simp
    · subst e1; go_simp
  · go_simp
set_option maxRecDepth 100000 in
set_option maxHeartbeats 2000000 in
theorem l13Reply_any (d : DefD) (A : Option Addr) (cap : Nat) (s : SagaD) (c : CmdD) (good : Bool) (now : Int) (w : World) (h : DefAt w d A cap) (hr : sagaRt d s = true) (ht : inB now 0 1000000000 = true) :
    Calls Try.prog 93 #[defV d A cap, sagaV s, cmdV c, .bool good, .int .i64 now] w fun e w' => e = .returned (outV (replyS d s c good now)) ∧ Below w.heap.size w w' := by
  have ht' := inB_true.1 ht
  have HK := Lib.hid (show askedS d s now = true from by unfold askedS; rw [hr, ht]; rfl)
  have HRT := Lib.hid hr
  have HTM := Lib.hid ht
  have HT := Lib.hid (Three.start4 (s := s) h (.cells #[.int .i64 c.st, .bool c.un, .int .i64 c.ty] 39))
  have hl := h.fit.1
  clear h hr ht
  obtain ⟨ph, dn, at_, tr, sn, du⟩ := s
  obtain ⟨cst, cun, cty⟩ := c
  dsimp only at *
  obtain ⟨u, hu⟩ : ∃ u, replyS d ⟨ph, dn, at_, tr, sn, du⟩ ⟨cst, cun, cty⟩ good now = u := ⟨_, rfl⟩
  rw [hu]
  have HX0 := Lib.hid hu
  clear hu
  unfold defV sagaV cmdV
  go_enter Try.func93, Try.ntmps93
  go_upto_region 1 with fail
  refine wpNamed (fun W => Three w d A cap ⟨ph, dn, at_, tr, sn, du⟩ (w.heap.size + 1 + 1 + 1) W ∧ W.heap[w.heap.size + 1 + 1]? = some (.cells #[.int .i64 cst, .bool cun, .int .i64 cty] 39)) HT.out ?_
  rintro W ⟨hW, hC⟩
  have HW := Lib.hid hW
  have HC := Lib.hid hC
  clear hW HT hC
  obtain ⟨⟨z0, z1, z2⟩, ⟨x0, x1, x2⟩, xf, y0, y1, y2, y3, y4, y5⟩ := HW.out.facts
  obtain ⟨r0, r1, r2, r3⟩ := cmd_facts HC.out
  dsimp only at y0 y1 y2 y3 y4 y5
  cases sn
  · have HX := Lib.hid (show u = codeS 12 from by rw [← HX0.out]; unfold replyS; rw [HK.out]; simp)
    obtain ⟨of, o0, o1, o2, o3, o4, o5, o6, o7, o8, o9, o10⟩ := zOut_facts HW.out.b2
    go_quiet (fail)
    go_wp2_with fail
    exact endThree (o := codeS 12) Try.results93 HX.out rfl rfl (HW.out.drewN _)
  · obtain ⟨b, hb⟩ : ∃ b, decide (ph = 2) = b := ⟨_, rfl⟩
    have HPH := Lib.hid (sagaRt_sent HRT.out rfl)
    have HU := Lib.hid hb
    clear hb
    have HNE := Lib.hid (show (decide (cst = at_) && (cun == b) && decide (cty = tr)) = cmdEq ⟨cst, cun, cty⟩ (cmdOf ⟨ph, dn, at_, tr, true, du⟩) from by unfold cmdEq cmdOf; rw [HU.out])
    go_cut [19] (fun s19 wx => s19 = .bool (!cmdEq ⟨cst, cun, cty⟩ (cmdOf ⟨ph, dn, at_, tr, true, du⟩)) ∧ Three w d A cap ⟨ph, dn, at_, tr, true, du⟩ (w.heap.size + 1 + 1 + 1) wx)
    case first =>
      have hneq := fun (W : World) => neq_cmd cst cun cty at_ b tr W
      rw [HNE.out] at hneq
      go_region_held3 (fun w' => (w'.cell? ⟨w.heap.size + 1, 0, none⟩ = some (.int .i64 ph) ∧ w'.cell? ⟨w.heap.size + 1, 1, none⟩ = some (.int .i64 dn) ∧ w'.cell? ⟨w.heap.size + 1, 2, none⟩ = some (.int .i64 at_) ∧ w'.cell? ⟨w.heap.size + 1, 3, none⟩ = some (.int .i64 tr) ∧ w'.cell? ⟨w.heap.size + 1, 4, none⟩ = some (.bool true) ∧ w'.cell? ⟨w.heap.size + 1, 5, none⟩ = some (.int .i64 du)) ∧ w'.cell? ⟨w.heap.size + 1 + 1, 0, none⟩ = some (.int .i64 cst) ∧ w'.cell? ⟨w.heap.size + 1 + 1, 1, none⟩ = some (.bool cun) ∧ w'.cell? ⟨w.heap.size + 1 + 1, 2, none⟩ = some (.int .i64 cty))
        (first | exact ⟨⟨y0, y1, y2, y3, y4, y5⟩, r1, r2, r3⟩ | exact ⟨⟨cell_later hw2 y0, cell_later hw2 y1, cell_later hw2 y2, cell_later hw2 y3, cell_later hw2 y4, cell_later hw2 y5⟩, cell_later hw2 r1, cell_later hw2 r2, cell_later hw2 r3⟩)
        (first | (go_at_call 92; refine (l13Command_opaque ⟨ph, dn, at_, tr, true, du⟩ b HU.out _).mono ?_; rintro e w2 ⟨rfl, hw2'⟩; have hw2 : Below W.heap.size W w2 := below_undrew hw2'; clear hw2'))
      rename_i hh
      clear hh
      go_wp2_with fail
      go_meet
      exact ⟨rfl, HW.out.below hw2⟩
    case rest =>
    obtain ⟨rfl, hcut⟩ := hcut
    have HW1 := Lib.hid hcut
    clear hcut HW z0 z1 z2 x0 x1 x2 xf y0 y1 y2 y3 y4 y5 r0 r1 r2 r3 HC
    obtain ⟨⟨z0, z1, z2⟩, ⟨x0, x1, x2⟩, xf, y0, y1, y2, y3, y4, y5⟩ := HW1.out.facts
    obtain ⟨of, o0, o1, o2, o3, o4, o5, o6, o7, o8, o9, o10⟩ := zOut_facts HW1.out.b2
    dsimp only at y0 y1 y2 y3 y4 y5
    cases hce : cmdEq ⟨cst, cun, cty⟩ (cmdOf ⟨ph, dn, at_, tr, true, du⟩)
    · have HX := Lib.hid (show u = codeS 12 from by rw [← HX0.out]; unfold replyS; rw [HK.out, hce]; simp)
      clear hce
      go_wp2_with fail
      exact endThree (o := codeS 12) Try.results93 HX.out rfl rfl HW1.out
    · have HCE := Lib.hid hce
      clear hce
      obtain ⟨hd, ha0, ha1, hd0, hd1, htr1, htr2, -, -, -⟩ := sagaRt_way HRT.out HPH.out
      have HNUM := Lib.hid (DefD.ok_nums hd)
      have HD := Lib.hid hd
      clear hd
      dsimp only at ha0 ha1 hd0 hd1 htr1 htr2
      cases good
      · have HX := Lib.hid (show u = failS d ⟨ph, dn, at_, tr, true, du⟩ now from by rw [← HX0.out]; unfold replyS; rw [HK.out, HCE.out]; simp)
        go_wp2_with fail
        refine (l13Failed_any d A cap ⟨ph, dn, at_, tr, true, du⟩ now _ HW1.out.df HRT.out HPH.out HTM.out).mono ?_
        rintro e w2 ⟨rfl, hb⟩
        have HW2 := Lib.hid (HW1.out.below hb)
        clear hb of o0 o1 o2 o3 o4 o5 o6 o7 o8 o9 o10
        obtain ⟨of, o0, o1, o2, o3, o4, o5, o6, o7, o8, o9, o10⟩ := zOut_facts HW2.out.b2
        have hz2 := blk_lt HW2.out.b2
        go_wp2_with fail
        exact endThree (o := failS d ⟨ph, dn, at_, tr, true, du⟩ now) Try.results93 HX.out rfl rfl HW2.out
      · rcases HPH.out with h1 | h2
        · subst h1
          by_cases hl2 : dn + 1 = d.st.length
          · have HX := Lib.hid (show u = ⟨⟨3, dn + 1, 0, 0, false, 0⟩, noCmd, false, 0⟩ from by rw [← HX0.out]; unfold replyS; rw [HK.out, HCE.out]; simp [hl2])
            have hl3 : (dn + 1 == (d.st.length : Int)) = true := by simpa using hl2
            clear hl2
            go_wp2_with fail
            exact endThree (o := ⟨⟨3, dn + 1, 0, 0, false, 0⟩, noCmd, false, 0⟩) Try.results93 HX.out rfl rfl HW1.out
          · have hl3 : (dn + 1 == (d.st.length : Int)) = false := by simpa using hl2
            obtain ⟨-, -, -, -, q5, q6⟩ := HNUM.out (dn + 1) (by omega) (by omega)
            have HX := Lib.hid (show u = sendS d ⟨1, dn + 1, dn + 1, 1, false, 0⟩ now from by rw [← HX0.out]; unfold replyS; rw [HK.out, HCE.out]; simp [hl2])
            go_wp2_with fail
            refine (l13Send_any d A cap ⟨1, dn + 1, dn + 1, 1, false, 0⟩ now _ HW1.out.df (by show 0 ≤ dn + 1; omega) (by show dn + 1 < _; omega) (by show _ ≤ now + (stAt d (dn + 1)).ti; omega) (by show now + (stAt d (dn + 1)).ti ≤ _; omega)).mono ?_
            rintro e w2 ⟨rfl, hb⟩
            have HW2 := Lib.hid (HW1.out.below hb)
            clear hb of o0 o1 o2 o3 o4 o5 o6 o7 o8 o9 o10
            obtain ⟨of, o0, o1, o2, o3, o4, o5, o6, o7, o8, o9, o10⟩ := zOut_facts HW2.out.b2
            have hz2 := blk_lt HW2.out.b2
            go_wp2_with fail
            exact endThree (o := sendS d ⟨1, dn + 1, dn + 1, 1, false, 0⟩ now) Try.results93 HX.out rfl rfl HW2.out
        · subst h2
          have HX := Lib.hid (show u = backS d ⟨2, dn, at_, tr, true, du⟩ at_ now from by rw [← HX0.out]; unfold replyS; rw [HK.out, HCE.out]; simp)
          go_wp2_with fail
          refine (l13Below_any d A cap ⟨2, dn, at_, tr, true, du⟩ at_ now _ HW1.out.df HD.out ha0 (by omega) HTM.out).mono ?_
          rintro e w2 ⟨rfl, hb⟩
          have HW2 := Lib.hid (HW1.out.below hb)
          clear hb of o0 o1 o2 o3 o4 o5 o6 o7 o8 o9 o10
          obtain ⟨of, o0, o1, o2, o3, o4, o5, o6, o7, o8, o9, o10⟩ := zOut_facts HW2.out.b2
          have hz2 := blk_lt HW2.out.b2
          go_wp2_with fail
          exact endThree (o := backS d ⟨2, dn, at_, tr, true, du⟩ at_ now) Try.results93 HX.out rfl rfl HW2.out
set_option maxRecDepth 100000 in
set_option maxHeartbeats 2000000 in
theorem l13Cancel_any (d : DefD) (A : Option Addr) (cap : Nat) (s : SagaD) (now : Int) (w : World) (h : DefAt w d A cap) (hr : sagaRt d s = true) (ht : inB now 0 1000000000 = true) :
    Calls Try.prog 95 #[defV d A cap, sagaV s, .int .i64 now] w fun e w' => e = .returned (outV (cancelS d s now)) ∧ Below w.heap.size w w' := by
  have ht' := inB_true.1 ht
  have HK := Lib.hid (show askedS d s now = true from by unfold askedS; rw [hr, ht]; rfl)
  have HRT := Lib.hid hr
  have HTM := Lib.hid ht
  have HT := Lib.hid (Three.start (s := s) h)
  clear h hr ht
  obtain ⟨ph, dn, at_, tr, sn, du⟩ := s
  dsimp only at *
  obtain ⟨u, hu⟩ : ∃ u, cancelS d ⟨ph, dn, at_, tr, sn, du⟩ now = u := ⟨_, rfl⟩
  rw [hu]
  have HX0 := Lib.hid hu
  clear hu
  unfold defV sagaV
  go_enter Try.func95, Try.ntmps95
  go_upto_region 1 with fail
  refine wpNamed (fun W => Three w d A cap ⟨ph, dn, at_, tr, sn, du⟩ (w.heap.size + 1 + 1) W) HT.out ?_
  intro W hW
  have HW1 := Lib.hid hW
  clear hW HT
  obtain ⟨⟨z0, z1, z2⟩, ⟨x0, x1, x2⟩, xf, y0, y1, y2, y3, y4, y5⟩ := HW1.out.facts
  obtain ⟨of, o0, o1, o2, o3, o4, o5, o6, o7, o8, o9, o10⟩ := zOut_facts HW1.out.b2
  dsimp only at y0 y1 y2 y3 y4 y5
  by_cases hph : ph = 1
  · subst hph
    obtain ⟨hd, ha0, ha1, hd0, hd1, htr1, htr2, -, -, -⟩ := sagaRt_way HRT.out (.inl rfl)
    have HD := Lib.hid hd
    clear hd
    dsimp only at ha0 ha1 hd0 hd1 htr1 htr2
    by_cases hno : 0 ≤ d.pv ∧ (d.pv < at_ ∨ (at_ = d.pv ∧ sn = true))
    · have HX := Lib.hid (show u = codeS 12 from by rw [← HX0.out]; unfold cancelS; rw [HK.out, if_neg (by simp), if_pos (.inr hno)])
      obtain ⟨hp0, hp1⟩ := hno
      rcases hp1 with hp1 | ⟨rfl, rfl⟩
      · go_wp2_with fail
        exact endThree (o := codeS 12) Try.results95 HX.out rfl rfl HW1.out
      · have hpp : ¬ d.pv < d.pv := by omega
        go_wp2_with fail
        all_goals exact endThree (o := codeS 12) Try.results95 HX.out rfl rfl HW1.out
    · have HX := Lib.hid (show u = backS d ⟨1, dn, at_, tr, sn, du⟩ dn now from by rw [← HX0.out]; unfold cancelS; rw [HK.out, if_neg (by simp), if_neg (by simp only [ne_eq, not_true_eq_false, false_or]; exact hno)])
      have hg : decide (0 ≤ d.pv) = true ∧ decide (d.pv < at_) = false ∧ ((at_ == d.pv) = false ∨ (at_ = d.pv ∧ sn = false)) ∨ decide (0 ≤ d.pv) = false := by
        by_cases h0 : 0 ≤ d.pv
        · refine .inl ⟨by simpa using h0, by simp; omega, ?_⟩
          by_cases h1 : at_ = d.pv
          · exact .inr ⟨h1, by cases sn <;> simp_all⟩
          · exact .inl (by simpa using h1)
        · exact .inr (by simpa using h0)
      clear hno
      rcases hg with ⟨h0, h1, h2 | ⟨rfl, rfl⟩⟩ | h0
      · go_wp2_with fail
        all_goals
          refine (l13Below_any d A cap ⟨1, dn, at_, tr, sn, du⟩ dn now _ HW1.out.df HD.out hd0 (by omega) HTM.out).mono ?_
          rintro e w2 ⟨rfl, hb⟩
          have HW2 := Lib.hid (HW1.out.below hb)
          clear hb of o0 o1 o2 o3 o4 o5 o6 o7 o8 o9 o10
          obtain ⟨of, o0, o1, o2, o3, o4, o5, o6, o7, o8, o9, o10⟩ := zOut_facts HW2.out.b2
          have hz2 := blk_lt HW2.out.b2
          go_wp2_with fail
          exact endThree (o := backS d ⟨1, dn, at_, tr, sn, du⟩ dn now) Try.results95 HX.out rfl rfl HW2.out
      · go_wp2_with fail
        all_goals
          refine (l13Below_any d A cap ⟨1, dn, d.pv, tr, false, du⟩ dn now _ HW1.out.df HD.out hd0 (by omega) HTM.out).mono ?_
          rintro e w2 ⟨rfl, hb⟩
          have HW2 := Lib.hid (HW1.out.below hb)
          clear hb of o0 o1 o2 o3 o4 o5 o6 o7 o8 o9 o10
          obtain ⟨of, o0, o1, o2, o3, o4, o5, o6, o7, o8, o9, o10⟩ := zOut_facts HW2.out.b2
          have hz2 := blk_lt HW2.out.b2
          go_wp2_with fail
          exact endThree (o := backS d ⟨1, dn, d.pv, tr, false, du⟩ dn now) Try.results95 HX.out rfl rfl HW2.out
      · go_wp2_with fail
        all_goals
          refine (l13Below_any d A cap ⟨1, dn, at_, tr, sn, du⟩ dn now _ HW1.out.df HD.out hd0 (by omega) HTM.out).mono ?_
          rintro e w2 ⟨rfl, hb⟩
          have HW2 := Lib.hid (HW1.out.below hb)
          clear hb of o0 o1 o2 o3 o4 o5 o6 o7 o8 o9 o10
          obtain ⟨of, o0, o1, o2, o3, o4, o5, o6, o7, o8, o9, o10⟩ := zOut_facts HW2.out.b2
          have hz2 := blk_lt HW2.out.b2
          go_wp2_with fail
          exact endThree (o := backS d ⟨1, dn, at_, tr, sn, du⟩ dn now) Try.results95 HX.out rfl rfl HW2.out
  · have HX := Lib.hid (show u = codeS 12 from by rw [← HX0.out]; unfold cancelS; rw [HK.out, if_neg (by simp), if_pos (.inl hph)])
    have hph2 : (ph != 1) = true := by simpa using hph
    go_wp2_with fail
    exact endThree (o := codeS 12) Try.results95 HX.out rfl rfl HW1.out
end Go.Proofs.Ytlbiocfpkpcdhaa
