import Derived.Test.YtlbiocfpkpcdhaaSagaD
namespace Go.Proofs.Ytlbiocfpkpcdhaa
open Go.RowKit
set_option linter.unusedSimpArgs false
set_option linter.unusedVariables false
set_option maxRecDepth 100000 in
set_option maxHeartbeats 1000000 in
theorem startImpl_any (d : DefD) (A : Option Addr) (cap : Nat) (now : Int) (w : World) (h : DefAt w d A cap) :
    Calls Try.prog 14 #[defV d A cap, .int .i64 now] w fun e w' => e = .returned (outV (startS d now)) ∧ Below w.heap.size w w' := by
  have H := Lib.hid h
  clear h
  have hz1 : ((w.alloc (.cells #[.string d.nm, .slice A d.st.length cap, .int .i64 d.pv] 29)).alloc zOut).heap[w.heap.size + 1]? = some zOut := blk2 _ _
  have HZ := Lib.hid hz1
  clear hz1
  unfold defV
  cases hd : d.ok
  · have HX := Lib.hid (show startS d now = codeS 1 from by unfold startS; rw [hd]; rfl)
    have HD := Lib.hid hd
    clear hd
    go_enter Try.func14, Try.ntmps14
    go_wp2_with fail
    refine (implDefRight_any d A cap _ H.out.nm H.out.fit ((H.out.alloc _).alloc _).row H.out.cap).mono ?_
    rintro e w1 ⟨rfl, hw1⟩
    rw [HD.out]
    obtain ⟨hc1, hf1⟩ := bcell hw1
    go_wp2_with fail
    exact endOut Try.results14 (codeS 1) rfl rfl (blk_below HZ.out hw1) (fun wy hy => ⟨by rw [HX.out], hy _ _ (by omega) (belt (bel2 _ _) hw1)⟩)
  · have HD := Lib.hid hd
    clear hd
    cases ht : inB now 0 1000000000
    · have HX := Lib.hid (show startS d now = codeS 1 from by unfold startS; rw [HD.out, ht]; rfl)
      have HT := Lib.hid ht
      clear ht
      go_enter Try.func14, Try.ntmps14
      go_wp2_with fail
      refine (implDefRight_any d A cap _ H.out.nm H.out.fit ((H.out.alloc _).alloc _).row H.out.cap).mono ?_
      rintro e w1 ⟨rfl, hw1⟩
      rw [HD.out]
      obtain ⟨hc1, hf1⟩ := bcell hw1
      go_wp2_with (go_at_call 62; refine (isTime_any _ _).mono ?_; rintro e w' ⟨rfl, rfl⟩; rw [HT.out])
      exact endOut Try.results14 (codeS 1) rfl rfl (blk_below HZ.out hw1) (fun wy hy => ⟨by rw [HX.out], hy _ _ (by omega) (belt (bel2 _ _) hw1)⟩)
    · have HX := Lib.hid (show startS d now = sendS d ⟨1, 0, 0, 1, false, 0⟩ now from by unfold startS; rw [HD.out, ht]; rfl)
      obtain ⟨ht1, ht2⟩ := inB_true.1 ht
      have HT := Lib.hid ht
      clear ht
      obtain ⟨-, ⟨hn1, hn2⟩, -, -⟩ := DefD.ok_steps HD.out
      obtain ⟨-, -, -, -, hti1, hti2⟩ := DefD.ok_nums HD.out 0 (by omega) (by omega)
      go_enter Try.func14, Try.ntmps14
      go_wp2_with fail
      refine (implDefRight_any d A cap _ H.out.nm H.out.fit ((H.out.alloc _).alloc _).row H.out.cap).mono ?_
      rintro e w1 ⟨rfl, hw1⟩
      rw [HD.out]
      obtain ⟨hc1, hf1⟩ := bcell hw1
      have hzz : w.heap.size + 1 < w1.heap.size := by have := hw1.size; simp at this; omega
      go_wp2_with (go_at_call 62; refine (isTime_any _ _).mono ?_; rintro e w' ⟨rfl, rfl⟩; rw [HT.out])
      refine (send_any d A cap ⟨1, 0, 0, 1, false, 0⟩ now _ (((H.out.alloc _).alloc _).below hw1) (by show (0 : Int) ≤ 0; omega) (by show (0 : Int) < _; omega) (by show _ ≤ now + (stAt d 0).ti; omega) (by show now + (stAt d 0).ti ≤ _; omega)).mono ?_
      rintro e w2 ⟨rfl, hw2⟩
      obtain ⟨hc2, hf2⟩ := bcell hw2
      go_wp2_with fail
      exact endOut Try.results14 (sendS d ⟨1, 0, 0, 1, false, 0⟩ now) rfl rfl (blk_below (blk_below HZ.out hw1) hw2) (fun wy hy => ⟨by rw [HX.out], hy _ _ (by omega) (belt (belt (bel2 _ _) hw1) hw2)⟩)

theorem sagaRt_tick {d : DefD} {s : SagaD} (h : sagaRt d s = true) (hp : inB s.ph 3 5 = false) : s.ph = 1 ∨ s.ph = 2 := by
  unfold sagaRt at h
  simp only [Bool.and_eq_true] at h
  have hs := h.2
  unfold sagaOk at hs
  have := inB_false.1 hp
  by_cases h1 : s.ph = 1
  · exact .inl h1
  by_cases h2 : s.ph = 2
  · exact .inr h2
  rw [if_neg h1, if_neg h2, if_neg (by omega), if_neg (by omega), if_neg (by omega)] at hs
  cases hs
theorem sagaRt_sent {d : DefD} {s : SagaD} (h : sagaRt d s = true) (hp : s.sn = true) : s.ph = 1 ∨ s.ph = 2 := by
  unfold sagaRt at h
  simp only [Bool.and_eq_true] at h
  have hs := h.2
  unfold sagaOk stillS at hs
  rw [hp] at hs
  by_cases h1 : s.ph = 1
  · exact .inl h1
  by_cases h2 : s.ph = 2
  · exact .inr h2
  rw [if_neg h1, if_neg h2] at hs
  simp at hs
set_option maxRecDepth 100000 in
set_option maxHeartbeats 2000000 in
theorem tickImpl_any (d : DefD) (A : Option Addr) (cap : Nat) (s : SagaD) (now : Int) (w : World) (h : DefAt w d A cap) :
    Calls Try.prog 17 #[defV d A cap, sagaV s, .int .i64 now] w fun e w' => e = .returned (outV (tickS d s now)) ∧ Below w.heap.size w w' := by
  have H := Lib.hid h
  clear h
  have hz1 : (((w.alloc (.cells #[.string d.nm, .slice A d.st.length cap, .int .i64 d.pv] 29)).alloc (.cells #[.int .i64 s.ph, .int .i64 s.dn, .int .i64 s.at_, .int .i64 s.tr, .bool s.sn, .int .i64 s.du] 37)).alloc zOut).heap[w.heap.size + 1 + 1]? = some zOut := blk3 _ _ _
  have HZ := Lib.hid hz1
  clear hz1
  unfold defV sagaV
  cases hk : askedS d s now
  · have HX := Lib.hid (show tickS d s now = codeS 1 from by unfold tickS; rw [if_pos hk])
    have HK := Lib.hid hk
    clear hk
    go_enter Try.func17, Try.ntmps17
    go_wp2_with fail
    refine (isAsked_any d A cap s now _ (((H.out.alloc _).alloc _).alloc _)).mono ?_
    rintro e w1 ⟨rfl, hw1⟩
    rw [show (sagaRt d s && inB now 0 1000000000) = false from HK.out]
    obtain ⟨hc1, hf1⟩ := bcell hw1
    go_wp2_with fail
    exact endOut Try.results17 (codeS 1) rfl rfl (blk_below HZ.out hw1) (fun wy hy => ⟨by rw [HX.out], hy _ _ (by omega) (belt (bel3 _ _ _) hw1)⟩)
  · have hk2 : sagaRt d s = true ∧ inB now 0 1000000000 = true := by unfold askedS at hk; simpa using hk
    have HK := Lib.hid hk
    have HRT := Lib.hid hk2.1
    have HT := Lib.hid hk2.2
    clear hk hk2
    cases ho : inB s.ph 3 5
    · have hph := sagaRt_tick HRT.out ho
      have HO := Lib.hid ho
      clear ho
      by_cases hdu : now < s.du
      · have HX := Lib.hid (show tickS d s now = codeS 12 from by unfold tickS; rw [HK.out, HO.out]; simp [hdu])
        go_enter Try.func17, Try.ntmps17
        go_wp2_with fail
        refine (isAsked_any d A cap s now _ (((H.out.alloc _).alloc _).alloc _)).mono ?_
        rintro e w1 ⟨rfl, hw1⟩
        rw [show (sagaRt d s && inB now 0 1000000000) = true from HK.out]
        obtain ⟨hc1, hf1⟩ := bcell hw1
        obtain ⟨z0, z1, z2⟩ := sz3 hw1
        go_wp2_with fail
        refine (overImpl_any s _).mono ?_
        rintro e w2 ⟨rfl, hw2⟩
        rw [HO.out]
        obtain ⟨hc2, hf2⟩ := bcell hw2
        go_wp2_with fail
        exact endOut Try.results17 (codeS 12) rfl rfl (blk_below (blk_below HZ.out hw1) hw2) (fun wy hy => ⟨by rw [HX.out], hy _ _ (by omega) (belt (belt (bel3 _ _ _) hw1) hw2)⟩)
      · cases hsn : s.sn
        · have HX := Lib.hid (show tickS d s now = sendS d { s with tr := s.tr + 1 } now from by unfold tickS; rw [HK.out, HO.out, hsn]; simp [hdu])
          obtain ⟨hd, ha0, ha1, hd0, hd1, htr1, htr2, -, -, -⟩ := sagaRt_way HRT.out hph
          obtain ⟨hq1, hq2, -, -, q5, q6⟩ := DefD.ok_nums hd s.at_ ha0 ha1
          obtain ⟨t1, t2⟩ := inB_true.1 HT.out
          have HD := Lib.hid hd
          obtain ⟨ph, dn, at_, tr, sn, du⟩ := s
          dsimp only at *
          subst hsn
          clear hd hph
          go_enter Try.func17, Try.ntmps17
          go_wp2_with fail
          refine (isAsked_any d A cap ⟨ph, dn, at_, tr, false, du⟩ now _ (((H.out.alloc _).alloc _).alloc _)).mono ?_
          rintro e w1 ⟨rfl, hw1⟩
          rw [show (sagaRt d _ && inB now 0 1000000000) = true from HK.out]
          obtain ⟨hc1, hf1⟩ := bcell hw1
          obtain ⟨z0, z1, z2⟩ := sz3 hw1
          go_wp2_with fail
          refine (overImpl_any ⟨ph, dn, at_, tr, false, du⟩ _).mono ?_
          rintro e w2 ⟨rfl, hw2⟩
          rw [show inB (SagaD.ph _) 3 5 = false from HO.out]
          obtain ⟨hc2, hf2⟩ := bcell hw2
          have z3 := Nat.lt_of_lt_of_le z0 hw2.size
          have z4 := Nat.lt_of_lt_of_le z1 hw2.size
          have z5 := Nat.lt_of_lt_of_le z2 hw2.size
          go_wp2_with fail
          have hb2 : Below w.heap.size w (w2.setCell ⟨w.heap.size + 1, 3, none⟩ (.int .i64 (tr + 1))) := (belt (belt (bel3 _ _ _) hw1) hw2).setCell (by simp) _
          have hz2 : (w2.setCell ⟨w.heap.size + 1, 3, none⟩ (.int .i64 (tr + 1))).heap[w.heap.size + 1 + 1]? = some zOut := by rw [Below.heap_setCell _ _ _ _ (by simp)]; exact blk_below (blk_below HZ.out hw1) hw2
          have HZ2 := Lib.hid hz2
          have HB2 := Lib.hid hb2
          clear hz2 hb2
          refine (send_any d A cap ⟨ph, dn, at_, tr + 1, false, du⟩ now _ (H.out.below HB2.out) ha0 ha1 (by show _ ≤ now + (stAt d at_).ti; omega) (by show now + (stAt d at_).ti ≤ _; omega)).mono ?_
          rintro e w3 ⟨rfl, hw3⟩
          obtain ⟨hc3, hf3⟩ := bcell hw3
          go_wp2_with fail
          exact endOut Try.results17 (sendS d ⟨ph, dn, at_, tr + 1, false, du⟩ now) rfl rfl (blk_below HZ2.out hw3) (fun wy hy => ⟨by rw [HX.out], hy _ _ (by omega) (belt HB2.out hw3)⟩)
        · have HX := Lib.hid (show tickS d s now = failS d s now from by unfold tickS; rw [HK.out, HO.out, hsn]; simp [hdu])
          obtain ⟨ph, dn, at_, tr, sn, du⟩ := s
          dsimp only at *
          subst hsn
          have HPH := Lib.hid hph
          clear hph
          go_enter Try.func17, Try.ntmps17
          go_wp2_with fail
          refine (isAsked_any d A cap ⟨ph, dn, at_, tr, true, du⟩ now _ (((H.out.alloc _).alloc _).alloc _)).mono ?_
          rintro e w1 ⟨rfl, hw1⟩
          rw [show (sagaRt d _ && inB now 0 1000000000) = true from HK.out]
          obtain ⟨hc1, hf1⟩ := bcell hw1
          obtain ⟨z0, z1, z2⟩ := sz3 hw1
          go_wp2_with fail
          refine (overImpl_any ⟨ph, dn, at_, tr, true, du⟩ _).mono ?_
          rintro e w2 ⟨rfl, hw2⟩
          rw [show inB (SagaD.ph _) 3 5 = false from HO.out]
          obtain ⟨hc2, hf2⟩ := bcell hw2
          have z3 := Nat.lt_of_lt_of_le z0 hw2.size
          have z4 := Nat.lt_of_lt_of_le z1 hw2.size
          have z5 := Nat.lt_of_lt_of_le z2 hw2.size
          go_wp2_with fail
          refine (failed_any d A cap ⟨ph, dn, at_, tr, true, du⟩ now _ (H.out.below (belt (belt (bel3 _ _ _) hw1) hw2)) HRT.out HPH.out HT.out).mono ?_
          rintro e w3 ⟨rfl, hw3⟩
          obtain ⟨hc3, hf3⟩ := bcell hw3
          go_wp2_with fail
          exact endOut Try.results17 (failS d ⟨ph, dn, at_, tr, true, du⟩ now) rfl rfl (blk_below (blk_below (blk_below HZ.out hw1) hw2) hw3) (fun wy hy => ⟨by rw [HX.out], hy _ _ (by omega) (belt (belt (belt (bel3 _ _ _) hw1) hw2) hw3)⟩)
    · have HX := Lib.hid (show tickS d s now = codeS 12 from by unfold tickS; rw [HK.out, ho]; simp)
      have HO := Lib.hid ho
      clear ho
      go_enter Try.func17, Try.ntmps17
      go_wp2_with fail
      refine (isAsked_any d A cap s now _ (((H.out.alloc _).alloc _).alloc _)).mono ?_
      rintro e w1 ⟨rfl, hw1⟩
      rw [show (sagaRt d s && inB now 0 1000000000) = true from HK.out]
      obtain ⟨hc1, hf1⟩ := bcell hw1
      obtain ⟨z0, z1, z2⟩ := sz3 hw1
      go_wp2_with fail
      refine (overImpl_any s _).mono ?_
      rintro e w2 ⟨rfl, hw2⟩
      rw [HO.out]
      obtain ⟨hc2, hf2⟩ := bcell hw2
      go_wp2_with fail
      exact endOut Try.results17 (codeS 12) rfl rfl (blk_below (blk_below HZ.out hw1) hw2) (fun wy hy => ⟨by rw [HX.out], hy _ _ (by omega) (belt (belt (bel3 _ _ _) hw1) hw2)⟩)
end Go.Proofs.Ytlbiocfpkpcdhaa
