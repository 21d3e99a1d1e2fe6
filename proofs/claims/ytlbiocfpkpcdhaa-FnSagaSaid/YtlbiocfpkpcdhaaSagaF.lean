import Derived.Test.YtlbiocfpkpcdhaaSagaE
namespace Go.Proofs.Ytlbiocfpkpcdhaa
open Go.RowKit
set_option linter.unusedSimpArgs false
set_option linter.unusedVariables false
theorem command_cells (s : SagaD) (u : Bool) (hu : decide (s.ph = 2) = u) (w : World) :
    Calls Try.prog 69 #[sagaV s] w fun e w' => e = .returned (.agg #[.int .i64 s.at_, .bool u, .int .i64 s.tr]) ∧ w' = (w.alloc (.cells #[.int .i64 s.ph, .int .i64 s.dn, .int .i64 s.at_, .int .i64 s.tr, .bool s.sn, .int .i64 s.du] 37)).alloc (.cells #[.int .i64 s.at_, .bool u, .int .i64 s.tr] 39) := by
  refine (command_exact s w).mono ?_
  rintro e w' ⟨rfl, rfl⟩
  rw [int_beq, hu]
  exact ⟨by unfold cmdV cmdOf; rw [hu], rfl⟩
theorem zOut_facts {w : World} {g : Nat} (h : w.heap[g]? = some zOut) : (∀ j, w.frozen? ⟨g, j, none⟩ = false) ∧ w.cell? ⟨g, 0, none⟩ = some (.int .i64 0) ∧ w.cell? ⟨g, 1, none⟩ = some (.int .i64 0) ∧ w.cell? ⟨g, 2, none⟩ = some (.int .i64 0) ∧ w.cell? ⟨g, 3, none⟩ = some (.int .i64 0) ∧ w.cell? ⟨g, 4, none⟩ = some (.bool false) ∧ w.cell? ⟨g, 5, none⟩ = some (.int .i64 0) ∧ w.cell? ⟨g, 6, none⟩ = some (.int .i64 0) ∧ w.cell? ⟨g, 7, none⟩ = some (.bool false) ∧ w.cell? ⟨g, 8, none⟩ = some (.int .i64 0) ∧ w.cell? ⟨g, 9, none⟩ = some (.bool false) ∧ w.cell? ⟨g, 10, none⟩ = some (.int .i64 0) := by
  have hc : ∀ j, w.cell? ⟨g, j, none⟩ = (#[.int .i64 0, .int .i64 0, .int .i64 0, .int .i64 0, .bool false, .int .i64 0, .int .i64 0, .bool false, .int .i64 0, .bool false, .int .i64 0] : Array Value)[j]? := fun j => by
    unfold World.cell?
    simp only [h, zOut]
    rfl
  refine ⟨fun j => ?_, hc 0, hc 1, hc 2, hc 3, hc 4, hc 5, hc 6, hc 7, hc 8, hc 9, hc 10⟩
  unfold World.frozen?
  simp only [h, zOut]
  simp
theorem command_opaque (s : SagaD) (u : Bool) (hu : decide (s.ph = 2) = u) (w : World) :
    Calls Try.prog 69 #[sagaV s] w fun e w' => e = .returned (.agg #[.int .i64 s.at_, .bool u, .int .i64 s.tr]) ∧ Below w.heap.size w w' := by
  refine (command_any s w).mono ?_
  rintro e w' ⟨rfl, hb⟩
  exact ⟨by unfold cmdV cmdOf; rw [hu], hb⟩
set_option maxRecDepth 100000 in
set_option maxHeartbeats 2000000 in
theorem replyImpl_any (d : DefD) (A : Option Addr) (cap : Nat) (s : SagaD) (c : CmdD) (good : Bool) (now : Int) (w : World) (h : DefAt w d A cap) :
    Calls Try.prog 19 #[defV d A cap, sagaV s, cmdV c, .bool good, .int .i64 now] w fun e w' => e = .returned (outV (replyS d s c good now)) ∧ Below w.heap.size w w' := by
  have H := Lib.hid h
  clear h
  have hz1 : ((((w.alloc (.cells #[.string d.nm, .slice A d.st.length cap, .int .i64 d.pv] 29)).alloc (.cells #[.int .i64 s.ph, .int .i64 s.dn, .int .i64 s.at_, .int .i64 s.tr, .bool s.sn, .int .i64 s.du] 37)).alloc (.cells #[.int .i64 c.st, .bool c.un, .int .i64 c.ty] 39)).alloc zOut).heap[w.heap.size + 1 + 1 + 1]? = some zOut := blk4 _ _ _ _
  have HZ := Lib.hid hz1
  clear hz1
  unfold defV sagaV cmdV
  cases hk : askedS d s now
  · have HX := Lib.hid (show replyS d s c good now = codeS 1 from by unfold replyS; rw [if_pos hk])
    have HK := Lib.hid hk
    clear hk
    go_enter Try.func19, Try.ntmps19
    go_wp2_with fail
    refine (isAsked_any d A cap s now _ (H.out.below (bel4 _ _ _ _))).mono ?_
    rintro e w1 ⟨rfl, hw1⟩
    rw [show (sagaRt d s && inB now 0 1000000000) = false from HK.out]
    obtain ⟨hc1, hf1⟩ := bcell hw1
    go_wp2_with fail
    exact endOut Try.results19 (codeS 1) rfl rfl (blk_below HZ.out hw1) (fun wy hy => ⟨by rw [HX.out], hy _ _ (by omega) (belt (bel4 _ _ _ _) hw1)⟩)
  · have hk2 : sagaRt d s = true ∧ inB now 0 1000000000 = true := by unfold askedS at hk; simpa using hk
    have HK := Lib.hid hk
    have HRT := Lib.hid hk2.1
    have HT := Lib.hid hk2.2
    clear hk hk2
    obtain ⟨ph, dn, at_, tr, sn, du⟩ := s
    dsimp only at *
    cases sn
    · have HX := Lib.hid (show replyS d ⟨ph, dn, at_, tr, false, du⟩ c good now = codeS 12 from by unfold replyS; rw [HK.out]; simp)
      go_enter Try.func19, Try.ntmps19
      go_wp2_with fail
      refine (isAsked_any d A cap ⟨ph, dn, at_, tr, false, du⟩ now _ (H.out.below (bel4 _ _ _ _))).mono ?_
      rintro e w1 ⟨rfl, hw1⟩
      rw [show (sagaRt d _ && inB now 0 1000000000) = true from HK.out]
      obtain ⟨hc1, hf1⟩ := bcell hw1
      obtain ⟨z0, z1, z2, z3⟩ := sz4 hw1
      go_wp2_with fail
      go_quiet (fail)
      go_wp2_with fail
      exact endOut Try.results19 (codeS 12) rfl rfl (show w1.heap[w.heap.size + 1 + 1 + 1]? = some zOut from blk_below HZ.out hw1) (fun wy hy => ⟨by rw [HX.out], hy _ _ (by omega) (below_drewN (belt (bel4 _ _ _ _) hw1) _)⟩)
    · obtain ⟨cst, cun, cty⟩ := c
      obtain ⟨u, hu⟩ : ∃ u, decide (ph = 2) = u := ⟨_, rfl⟩
      have HPH := Lib.hid (sagaRt_sent HRT.out rfl)
      have HU := Lib.hid hu
      clear hu
      have hne : (decide (cst = at_) && (cun == u) && decide (cty = tr)) = cmdEq ⟨cst, cun, cty⟩ (cmdOf ⟨ph, dn, at_, tr, true, du⟩) := by unfold cmdEq cmdOf; rw [HU.out]
      have HNE := Lib.hid hne
      clear hne
      dsimp only at *
      go_enter Try.func19, Try.ntmps19
      go_wp2_with fail
      refine (isAsked_any d A cap ⟨ph, dn, at_, tr, true, du⟩ now _ (H.out.below (bel4 _ _ _ _))).mono ?_
      rintro e w1 ⟨rfl, hw1⟩
      rw [show (sagaRt d _ && inB now 0 1000000000) = true from HK.out]
      have hbw := belt (bel4 _ _ _ _) hw1
      have HBW := Lib.hid hbw
      have HZ1 := Lib.hid (blk_below HZ.out hw1)
      obtain ⟨hc1, hf1⟩ := bcell hw1
      obtain ⟨z0, z1, z2, z3⟩ := sz4 hw1
      have d0 : w1.cell? ⟨w.heap.size, 0, none⟩ = some (.string d.nm) := by rw [hc1 _ _ (by simp <;> omega)]; go_simp
      have d1 : w1.cell? ⟨w.heap.size, 1, none⟩ = some (.slice A d.st.length cap) := by rw [hc1 _ _ (by simp <;> omega)]; go_simp
      have d2 : w1.cell? ⟨w.heap.size, 2, none⟩ = some (.int .i64 d.pv) := by rw [hc1 _ _ (by simp <;> omega)]; go_simp
      have s0 : w1.cell? ⟨w.heap.size + 1, 0, none⟩ = some (.int .i64 ph) := by rw [hc1 _ _ (by simp <;> omega)]; go_simp
      have s1 : w1.cell? ⟨w.heap.size + 1, 1, none⟩ = some (.int .i64 dn) := by rw [hc1 _ _ (by simp <;> omega)]; go_simp
      have s2 : w1.cell? ⟨w.heap.size + 1, 2, none⟩ = some (.int .i64 at_) := by rw [hc1 _ _ (by simp <;> omega)]; go_simp
      have s3 : w1.cell? ⟨w.heap.size + 1, 3, none⟩ = some (.int .i64 tr) := by rw [hc1 _ _ (by simp <;> omega)]; go_simp
      have s4 : w1.cell? ⟨w.heap.size + 1, 4, none⟩ = some (.bool true) := by rw [hc1 _ _ (by simp <;> omega)]; go_simp
      have s5 : w1.cell? ⟨w.heap.size + 1, 5, none⟩ = some (.int .i64 du) := by rw [hc1 _ _ (by simp <;> omega)]; go_simp
      have c0 : w1.cell? ⟨w.heap.size + 1 + 1, 0, none⟩ = some (.int .i64 cst) := by rw [hc1 _ _ (by simp <;> omega)]; go_simp
      have c1 : w1.cell? ⟨w.heap.size + 1 + 1, 1, none⟩ = some (.bool cun) := by rw [hc1 _ _ (by simp <;> omega)]; go_simp
      have c2 : w1.cell? ⟨w.heap.size + 1 + 1, 2, none⟩ = some (.int .i64 cty) := by rw [hc1 _ _ (by simp <;> omega)]; go_simp
      clear hc1 hf1 hw1 hbw
      obtain ⟨fz, p0, p1, p2, p3, p4, p5, p6, p7, p8, p9, p10⟩ := zOut_facts HZ1.out
      by_cases e1 : cst = at_
      · subst e1
        by_cases e2 : cun = u
        · subst e2
          by_cases e3 : cty = tr
          · subst e3
            obtain ⟨hd, ha0, ha1, hd0, hd1, htr1, htr2, -, -, -⟩ := sagaRt_way HRT.out HPH.out
            obtain ⟨t1, t2⟩ := inB_true.1 HT.out
            have HNUM := Lib.hid (DefD.ok_nums hd)
            have HD := Lib.hid hd
            have hl := H.out.fit.1
            clear hd
            dsimp only at ha0 ha1 hd0 hd1 htr1 htr2
            cases good
            · have HX := Lib.hid (show replyS d ⟨ph, dn, cst, cty, true, du⟩ ⟨cst, cun, cty⟩ false now = failS d ⟨ph, dn, cst, cty, true, du⟩ now from by unfold replyS; rw [HK.out, ← HNE.out]; simp [*])
              go_wp2_with fail
              go_region_held3 (fun w' => (w'.cell? ⟨w.heap.size + 1, 0, none⟩ = some (.int .i64 ph) ∧ w'.cell? ⟨w.heap.size + 1, 1, none⟩ = some (.int .i64 dn) ∧ w'.cell? ⟨w.heap.size + 1, 2, none⟩ = some (.int .i64 cst) ∧ w'.cell? ⟨w.heap.size + 1, 3, none⟩ = some (.int .i64 cty) ∧ w'.cell? ⟨w.heap.size + 1, 4, none⟩ = some (.bool true) ∧ w'.cell? ⟨w.heap.size + 1, 5, none⟩ = some (.int .i64 du)) ∧ w'.cell? ⟨w.heap.size + 1 + 1, 0, none⟩ = some (.int .i64 cst) ∧ w'.cell? ⟨w.heap.size + 1 + 1, 1, none⟩ = some (.bool cun) ∧ w'.cell? ⟨w.heap.size + 1 + 1, 2, none⟩ = some (.int .i64 cty))
                (first | exact ⟨⟨s0, s1, s2, s3, s4, s5⟩, c0, c1, c2⟩ | exact ⟨⟨cell_later hw2 s0, cell_later hw2 s1, cell_later hw2 s2, cell_later hw2 s3, cell_later hw2 s4, cell_later hw2 s5⟩, cell_later hw2 c0, cell_later hw2 c1, cell_later hw2 c2⟩)
                (first | (go_at_call 69; refine (command_opaque ⟨ph, dn, cst, cty, true, du⟩ cun HU.out _).mono ?_; rintro e w2 ⟨rfl, hw2'⟩; have hw2 : Below w1.heap.size w1 w2 := below_undrew hw2'; clear hw2'))
              rename_i hh
              clear hh
              obtain ⟨hc2, hf2⟩ := bcell hw2
              have HB2 := Lib.hid (belt HBW.out hw2)
              have HZ2 := Lib.hid (blk_below HZ1.out hw2)
              go_wp2_with fail
              refine (failed_any d A cap ⟨ph, dn, cst, cty, true, du⟩ now _ (H.out.below HB2.out) HRT.out HPH.out HT.out).mono ?_
              rintro e w3 ⟨rfl, hw3⟩
              obtain ⟨hc3, hf3⟩ := bcell hw3
              have z4 := Nat.lt_of_lt_of_le z3 hw2.size
              go_wp2_with fail
              exact endOut Try.results19 (failS d ⟨ph, dn, cst, cty, true, du⟩ now) rfl rfl (blk_below HZ2.out hw3) (fun wy hy => ⟨by rw [HX.out], hy _ _ (by omega) (belt HB2.out hw3)⟩)
            · rcases HPH.out with h1 | h2
              · subst h1
                by_cases hl2 : dn + 1 = d.st.length
                · have HX := Lib.hid (show replyS d ⟨1, dn, cst, cty, true, du⟩ ⟨cst, cun, cty⟩ true now = ⟨⟨3, d.st.length, 0, 0, false, 0⟩, noCmd, false, 0⟩ from by unfold replyS; rw [HK.out, ← HNE.out]; simp [*])
                  go_wp2_with fail
                  go_region_held3 (fun w' => (w'.cell? ⟨w.heap.size + 1, 0, none⟩ = some (.int .i64 1) ∧ w'.cell? ⟨w.heap.size + 1, 1, none⟩ = some (.int .i64 dn) ∧ w'.cell? ⟨w.heap.size + 1, 2, none⟩ = some (.int .i64 cst) ∧ w'.cell? ⟨w.heap.size + 1, 3, none⟩ = some (.int .i64 cty) ∧ w'.cell? ⟨w.heap.size + 1, 4, none⟩ = some (.bool true) ∧ w'.cell? ⟨w.heap.size + 1, 5, none⟩ = some (.int .i64 du)) ∧ w'.cell? ⟨w.heap.size + 1 + 1, 0, none⟩ = some (.int .i64 cst) ∧ w'.cell? ⟨w.heap.size + 1 + 1, 1, none⟩ = some (.bool cun) ∧ w'.cell? ⟨w.heap.size + 1 + 1, 2, none⟩ = some (.int .i64 cty))
                    (first | exact ⟨⟨s0, s1, s2, s3, s4, s5⟩, c0, c1, c2⟩ | exact ⟨⟨cell_later hw2 s0, cell_later hw2 s1, cell_later hw2 s2, cell_later hw2 s3, cell_later hw2 s4, cell_later hw2 s5⟩, cell_later hw2 c0, cell_later hw2 c1, cell_later hw2 c2⟩)
                    (first | (go_at_call 69; refine (command_opaque ⟨1, dn, cst, cty, true, du⟩ cun HU.out _).mono ?_; rintro e w2 ⟨rfl, hw2'⟩; have hw2 : Below w1.heap.size w1 w2 := below_undrew hw2'; clear hw2'))
                  rename_i hh
                  clear hh
                  obtain ⟨hc2, hf2⟩ := bcell hw2
                  have HB2 := Lib.hid (belt HBW.out hw2)
                  have HZ2 := Lib.hid (blk_below HZ1.out hw2)
                  go_wp2_with fail
                  exact endOut Try.results19 ⟨⟨3, d.st.length, 0, 0, false, 0⟩, noCmd, false, 0⟩ rfl rfl HZ2.out (fun wy hy => ⟨by rw [HX.out], hy _ _ (by omega) HB2.out⟩)
                · have hl3 : (dn + 1 == (d.st.length : Int)) = false := by simpa using hl2
                  obtain ⟨-, -, -, -, q5, q6⟩ := HNUM.out (dn + 1) (by omega) (by omega)
                  have HX := Lib.hid (show replyS d ⟨1, dn, cst, cty, true, du⟩ ⟨cst, cun, cty⟩ true now = sendS d ⟨1, dn + 1, dn + 1, 1, false, 0⟩ now from by unfold replyS; rw [HK.out, ← HNE.out]; simp [*])
                  go_wp2_with fail
                  go_region_held3 (fun w' => (w'.cell? ⟨w.heap.size + 1, 0, none⟩ = some (.int .i64 1) ∧ w'.cell? ⟨w.heap.size + 1, 1, none⟩ = some (.int .i64 dn) ∧ w'.cell? ⟨w.heap.size + 1, 2, none⟩ = some (.int .i64 cst) ∧ w'.cell? ⟨w.heap.size + 1, 3, none⟩ = some (.int .i64 cty) ∧ w'.cell? ⟨w.heap.size + 1, 4, none⟩ = some (.bool true) ∧ w'.cell? ⟨w.heap.size + 1, 5, none⟩ = some (.int .i64 du)) ∧ w'.cell? ⟨w.heap.size + 1 + 1, 0, none⟩ = some (.int .i64 cst) ∧ w'.cell? ⟨w.heap.size + 1 + 1, 1, none⟩ = some (.bool cun) ∧ w'.cell? ⟨w.heap.size + 1 + 1, 2, none⟩ = some (.int .i64 cty))
                    (first | exact ⟨⟨s0, s1, s2, s3, s4, s5⟩, c0, c1, c2⟩ | exact ⟨⟨cell_later hw2 s0, cell_later hw2 s1, cell_later hw2 s2, cell_later hw2 s3, cell_later hw2 s4, cell_later hw2 s5⟩, cell_later hw2 c0, cell_later hw2 c1, cell_later hw2 c2⟩)
                    (first | (go_at_call 69; refine (command_opaque ⟨1, dn, cst, cty, true, du⟩ cun HU.out _).mono ?_; rintro e w2 ⟨rfl, hw2'⟩; have hw2 : Below w1.heap.size w1 w2 := below_undrew hw2'; clear hw2'))
                  rename_i hh
                  clear hh
                  obtain ⟨hc2, hf2⟩ := bcell hw2
                  have HB2 := Lib.hid (belt HBW.out hw2)
                  have HZ2 := Lib.hid (blk_below HZ1.out hw2)
                  go_wp2_with fail
                  refine (send_any d A cap ⟨1, dn + 1, dn + 1, 1, false, 0⟩ now _ (H.out.below HB2.out) (by show 0 ≤ dn + 1; omega) (by show dn + 1 < _; omega) (by show _ ≤ now + (stAt d (dn + 1)).ti; omega) (by show now + (stAt d (dn + 1)).ti ≤ _; omega)).mono ?_
                  rintro e w3 ⟨rfl, hw3⟩
                  obtain ⟨hc3, hf3⟩ := bcell hw3
                  have z4 := Nat.lt_of_lt_of_le z3 hw2.size
                  go_wp2_with fail
                  exact endOut Try.results19 (sendS d ⟨1, dn + 1, dn + 1, 1, false, 0⟩ now) rfl rfl (blk_below HZ2.out hw3) (fun wy hy => ⟨by rw [HX.out], hy _ _ (by omega) (belt HB2.out hw3)⟩)
              · subst h2
                have HX := Lib.hid (show replyS d ⟨2, dn, cst, cty, true, du⟩ ⟨cst, cun, cty⟩ true now = backS d ⟨2, dn, cst, cty, true, du⟩ cst now from by unfold replyS; rw [HK.out, ← HNE.out]; simp [*])
                go_wp2_with fail
                go_region_held3 (fun w' => (w'.cell? ⟨w.heap.size + 1, 0, none⟩ = some (.int .i64 2) ∧ w'.cell? ⟨w.heap.size + 1, 1, none⟩ = some (.int .i64 dn) ∧ w'.cell? ⟨w.heap.size + 1, 2, none⟩ = some (.int .i64 cst) ∧ w'.cell? ⟨w.heap.size + 1, 3, none⟩ = some (.int .i64 cty) ∧ w'.cell? ⟨w.heap.size + 1, 4, none⟩ = some (.bool true) ∧ w'.cell? ⟨w.heap.size + 1, 5, none⟩ = some (.int .i64 du)) ∧ w'.cell? ⟨w.heap.size + 1 + 1, 0, none⟩ = some (.int .i64 cst) ∧ w'.cell? ⟨w.heap.size + 1 + 1, 1, none⟩ = some (.bool cun) ∧ w'.cell? ⟨w.heap.size + 1 + 1, 2, none⟩ = some (.int .i64 cty))
                  (first | exact ⟨⟨s0, s1, s2, s3, s4, s5⟩, c0, c1, c2⟩ | exact ⟨⟨cell_later hw2 s0, cell_later hw2 s1, cell_later hw2 s2, cell_later hw2 s3, cell_later hw2 s4, cell_later hw2 s5⟩, cell_later hw2 c0, cell_later hw2 c1, cell_later hw2 c2⟩)
                  (first | (go_at_call 69; refine (command_opaque ⟨2, dn, cst, cty, true, du⟩ cun HU.out _).mono ?_; rintro e w2 ⟨rfl, hw2'⟩; have hw2 : Below w1.heap.size w1 w2 := below_undrew hw2'; clear hw2'))
                rename_i hh
                clear hh
                obtain ⟨hc2, hf2⟩ := bcell hw2
                have HB2 := Lib.hid (belt HBW.out hw2)
                have HZ2 := Lib.hid (blk_below HZ1.out hw2)
                go_wp2_with fail
                refine (back_any d A cap ⟨2, dn, cst, cty, true, du⟩ cst now _ (H.out.below HB2.out) HD.out ha0 (by omega) HT.out).mono ?_
                rintro e w3 ⟨rfl, hw3⟩
                obtain ⟨hc3, hf3⟩ := bcell hw3
                have z4 := Nat.lt_of_lt_of_le z3 hw2.size
                go_wp2_with fail
                exact endOut Try.results19 (backS d ⟨2, dn, cst, cty, true, du⟩ cst now) rfl rfl (blk_below HZ2.out hw3) (fun wy hy => ⟨by rw [HX.out], hy _ _ (by omega) (belt HB2.out hw3)⟩)
          · have e3' : (cty == tr) = false := by simpa using e3
            have HX := Lib.hid (show replyS d ⟨ph, dn, cst, tr, true, du⟩ ⟨cst, cun, cty⟩ good now = codeS 12 from by unfold replyS; rw [HK.out, ← HNE.out]; simp [*])
            go_wp2_with fail
            go_region_held3 (fun w' => (w'.cell? ⟨w.heap.size + 1, 0, none⟩ = some (.int .i64 ph) ∧ w'.cell? ⟨w.heap.size + 1, 1, none⟩ = some (.int .i64 dn) ∧ w'.cell? ⟨w.heap.size + 1, 2, none⟩ = some (.int .i64 cst) ∧ w'.cell? ⟨w.heap.size + 1, 3, none⟩ = some (.int .i64 tr) ∧ w'.cell? ⟨w.heap.size + 1, 4, none⟩ = some (.bool true) ∧ w'.cell? ⟨w.heap.size + 1, 5, none⟩ = some (.int .i64 du)) ∧ w'.cell? ⟨w.heap.size + 1 + 1, 0, none⟩ = some (.int .i64 cst) ∧ w'.cell? ⟨w.heap.size + 1 + 1, 1, none⟩ = some (.bool cun) ∧ w'.cell? ⟨w.heap.size + 1 + 1, 2, none⟩ = some (.int .i64 cty))
              (first | exact ⟨⟨s0, s1, s2, s3, s4, s5⟩, c0, c1, c2⟩ | exact ⟨⟨cell_later hw2 s0, cell_later hw2 s1, cell_later hw2 s2, cell_later hw2 s3, cell_later hw2 s4, cell_later hw2 s5⟩, cell_later hw2 c0, cell_later hw2 c1, cell_later hw2 c2⟩)
              (first | (go_at_call 69; refine (command_opaque ⟨ph, dn, cst, tr, true, du⟩ cun HU.out _).mono ?_; rintro e w2 ⟨rfl, hw2'⟩; have hw2 : Below w1.heap.size w1 w2 := below_undrew hw2'; clear hw2'))
            rename_i hh
            clear hh
            obtain ⟨hc2, hf2⟩ := bcell hw2
            go_wp2_with fail
            exact endOut Try.results19 (codeS 12) rfl rfl (blk_below HZ1.out hw2) (fun wy hy => ⟨by rw [HX.out], hy _ _ (by omega) (belt HBW.out hw2)⟩)
        · have e2' : (cun == u) = false := by simpa using e2
          have HX := Lib.hid (show replyS d ⟨ph, dn, cst, tr, true, du⟩ ⟨cst, cun, cty⟩ good now = codeS 12 from by unfold replyS; rw [HK.out, ← HNE.out]; simp [*])
          go_wp2_with fail
          go_region_held3 (fun w' => (w'.cell? ⟨w.heap.size + 1, 0, none⟩ = some (.int .i64 ph) ∧ w'.cell? ⟨w.heap.size + 1, 1, none⟩ = some (.int .i64 dn) ∧ w'.cell? ⟨w.heap.size + 1, 2, none⟩ = some (.int .i64 cst) ∧ w'.cell? ⟨w.heap.size + 1, 3, none⟩ = some (.int .i64 tr) ∧ w'.cell? ⟨w.heap.size + 1, 4, none⟩ = some (.bool true) ∧ w'.cell? ⟨w.heap.size + 1, 5, none⟩ = some (.int .i64 du)) ∧ w'.cell? ⟨w.heap.size + 1 + 1, 0, none⟩ = some (.int .i64 cst) ∧ w'.cell? ⟨w.heap.size + 1 + 1, 1, none⟩ = some (.bool cun) ∧ w'.cell? ⟨w.heap.size + 1 + 1, 2, none⟩ = some (.int .i64 cty))
            (first | exact ⟨⟨s0, s1, s2, s3, s4, s5⟩, c0, c1, c2⟩ | exact ⟨⟨cell_later hw2 s0, cell_later hw2 s1, cell_later hw2 s2, cell_later hw2 s3, cell_later hw2 s4, cell_later hw2 s5⟩, cell_later hw2 c0, cell_later hw2 c1, cell_later hw2 c2⟩)
            (first | (go_at_call 69; refine (command_opaque ⟨ph, dn, cst, tr, true, du⟩ u HU.out _).mono ?_; rintro e w2 ⟨rfl, hw2'⟩; have hw2 : Below w1.heap.size w1 w2 := below_undrew hw2'; clear hw2'))
          rename_i hh
          clear hh
          obtain ⟨hc2, hf2⟩ := bcell hw2
          go_wp2_with fail
          exact endOut Try.results19 (codeS 12) rfl rfl (blk_below HZ1.out hw2) (fun wy hy => ⟨by rw [HX.out], hy _ _ (by omega) (belt HBW.out hw2)⟩)
      · have e1' : (cst == at_) = false := by simpa using e1
        have HX := Lib.hid (show replyS d ⟨ph, dn, at_, tr, true, du⟩ ⟨cst, cun, cty⟩ good now = codeS 12 from by unfold replyS; rw [HK.out, ← HNE.out]; simp [*])
        go_wp2_with fail
        go_region_held3 (fun w' => (w'.cell? ⟨w.heap.size + 1, 0, none⟩ = some (.int .i64 ph) ∧ w'.cell? ⟨w.heap.size + 1, 1, none⟩ = some (.int .i64 dn) ∧ w'.cell? ⟨w.heap.size + 1, 2, none⟩ = some (.int .i64 at_) ∧ w'.cell? ⟨w.heap.size + 1, 3, none⟩ = some (.int .i64 tr) ∧ w'.cell? ⟨w.heap.size + 1, 4, none⟩ = some (.bool true) ∧ w'.cell? ⟨w.heap.size + 1, 5, none⟩ = some (.int .i64 du)) ∧ w'.cell? ⟨w.heap.size + 1 + 1, 0, none⟩ = some (.int .i64 cst) ∧ w'.cell? ⟨w.heap.size + 1 + 1, 1, none⟩ = some (.bool cun) ∧ w'.cell? ⟨w.heap.size + 1 + 1, 2, none⟩ = some (.int .i64 cty))
          (first | exact ⟨⟨s0, s1, s2, s3, s4, s5⟩, c0, c1, c2⟩ | exact ⟨⟨cell_later hw2 s0, cell_later hw2 s1, cell_later hw2 s2, cell_later hw2 s3, cell_later hw2 s4, cell_later hw2 s5⟩, cell_later hw2 c0, cell_later hw2 c1, cell_later hw2 c2⟩)
          (first | (go_at_call 69; refine (command_opaque ⟨ph, dn, at_, tr, true, du⟩ u HU.out _).mono ?_; rintro e w2 ⟨rfl, hw2'⟩; have hw2 : Below w1.heap.size w1 w2 := below_undrew hw2'; clear hw2'))
        rename_i hh
        clear hh
        obtain ⟨hc2, hf2⟩ := bcell hw2
        go_wp2_with fail
        exact endOut Try.results19 (codeS 12) rfl rfl (blk_below HZ1.out hw2) (fun wy hy => ⟨by rw [HX.out], hy _ _ (by omega) (belt HBW.out hw2)⟩)
end Go.Proofs.Ytlbiocfpkpcdhaa
