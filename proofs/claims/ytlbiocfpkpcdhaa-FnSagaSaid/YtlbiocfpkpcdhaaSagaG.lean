import Derived.Test.YtlbiocfpkpcdhaaSagaD
namespace Go.Proofs.Ytlbiocfpkpcdhaa
open Go.RowKit
set_option linter.unusedSimpArgs false
set_option linter.unusedVariables false
set_option maxHeartbeats 1000000 in
theorem l13Back_any (d : DefD) (A : Option Addr) (cap : Nat) (s : SagaD) (w : World) (h : DefAt w d A cap) :
    Calls Try.prog 129 #[defV d A cap, sagaV s] w fun e w' => e = .returned (.bool (backOk d s)) ∧ Below w.heap.size w w' := by
  have hl := h.fit.1
  by_cases hr : 0 ≤ s.at_ ∧ s.at_ < s.dn ∧ s.dn < d.st.length
  · obtain ⟨h1, h2, h3⟩ := hr
    obtain ⟨b, o, rfl, ⟨hb0, hb1, hb2, hb3⟩, -, -, c2, -⟩ := h.step' s.at_ h1 (by omega)
    have HB := Lib.hid (show backOk d s = ((decide (d.pv < 0) || decide (s.dn ≤ d.pv)) && (stAt d s.at_).hasUndo) from by unfold backOk turned; rw [inB_true.2 ⟨by omega, by omega⟩, inB_true.2 ⟨by omega, by omega⟩]; simp)
    clear h
    unfold sagaV defV
    go_enter Try.func129, Try.ntmps129
    go_wp2
    all_goals go_ret
    all_goals refine ⟨ret_bool ?_, bel2 _ _⟩
    all_goals rw [HB.out]
    all_goals unfold StepD.hasUndo
    all_goals simp_all [isEmpty_dec]
    all_goals grind
  · have HB := Lib.hid (show backOk d s = false from by
      cases hb : backOk d s
      · rfl
      · have h1 := hb
        unfold backOk turned at h1
        simp only [Bool.and_eq_true, inB_true] at h1
        omega)
    have HR := Lib.hid hr
    clear hr h
    unfold sagaV defV
    by_cases h1 : 0 ≤ s.at_
    · by_cases h2 : s.at_ < s.dn
      · have h3 : ¬ s.dn < d.st.length := fun h3 => HR.out ⟨h1, h2, h3⟩
        go_enter Try.func129, Try.ntmps129
        go_wp2
        go_ret
        exact ⟨ret_bool HB.out.symm, bel2 _ _⟩
      · go_enter Try.func129, Try.ntmps129
        go_wp2
        go_ret
        exact ⟨ret_bool HB.out.symm, bel2 _ _⟩
    · go_enter Try.func129, Try.ntmps129
      go_wp2
      go_ret
      exact ⟨ret_bool HB.out.symm, bel2 _ _⟩
set_option maxHeartbeats 1000000 in
theorem l13Tries_any (d : DefD) (A : Option Addr) (cap : Nat) (s : SagaD) (w : World) (h : DefAt w d A cap) (ha : 0 ≤ s.at_) (ha2 : s.at_ < d.st.length) :
    Calls Try.prog 128 #[defV d A cap, sagaV s] w fun e w' => e = .returned (.bool (owing d s)) ∧ Below w.heap.size w w' := by
  have hl := h.fit.1
  obtain ⟨b, o, rfl, ⟨hb0, hb1, hb2, hb3⟩, -, -, -, c3, -⟩ := h.step' s.at_ ha ha2
  have HO := Lib.hid (show owing d s = (inB s.du 0 2000000000 && inB s.tr 1 (stAt d s.at_).tr && (s.sn || decide (s.tr < (stAt d s.at_).tr))) from by
    unfold owing inB
    cases s.sn <;> simp <;> grind)
  clear h
  unfold sagaV defV
  go_enter Try.func128, Try.ntmps128
  go_wp2_with (go_at_call 84; refine (l12In_any _ _ _ _).mono ?_; rintro e w' ⟨rfl, rfl⟩)
  all_goals go_ret
  all_goals refine ⟨ret_bool ?_, bel2 _ _⟩
  all_goals rw [HO.out]
  all_goals simp [*]
set_option maxRecDepth 100000 in
set_option maxHeartbeats 1000000 in
theorem l13Saga_1 (d : DefD) (A : Option Addr) (cap : Nat) (s : SagaD) (w : World) (h : DefAt w d A cap) (hd : d.ok = true) (hp : s.ph = 1) :
    Calls Try.prog 71 #[defV d A cap, sagaV s] w fun e w' => e = .returned (.bool (sagaOk d s)) ∧ Below w.heap.size w w' := by
  have hl := h.fit.1
  have H := Lib.hid h
  obtain ⟨-, ⟨hn1, hn2⟩, ⟨hp1, hp2⟩, -⟩ := DefD.ok_steps hd
  clear h hd
  have HP := Lib.hid hp
  unfold sagaV defV
  rw [hp]
  clear hp
  go_enter Try.func71, Try.ntmps71
  go_wp2_with (first
      | (go_at_call 128; refine (l13Tries_any d A cap ⟨_, _, _, _, _, _⟩ _ ((H.out.alloc _).alloc _) (by assumption) (by assumption)).mono ?_; rintro e w2 ⟨rfl, hb2⟩))
  all_goals go_ret
  all_goals refine ⟨ret_bool ?_, by first | exact bel2 _ _ | exact bel2t (belt hb1 hb2) | exact bel2t ‹Below _ _ _›⟩
  all_goals have hp := HP.out
  all_goals obtain ⟨ph, dn, at_, tr, sn, du⟩ := s
  all_goals simp only at hp
  all_goals subst hp
  all_goals simp_all [sagaOk, stillS, backOk, turned, owing, int_beq, inB]
  all_goals grind
set_option maxRecDepth 100000 in
set_option maxHeartbeats 1000000 in
theorem l13Saga_2 (d : DefD) (A : Option Addr) (cap : Nat) (s : SagaD) (w : World) (h : DefAt w d A cap) (hd : d.ok = true) (hp : s.ph = 2) :
    Calls Try.prog 71 #[defV d A cap, sagaV s] w fun e w' => e = .returned (.bool (sagaOk d s)) ∧ Below w.heap.size w w' := by
  have hl := h.fit.1
  have H := Lib.hid h
  obtain ⟨-, ⟨hn1, hn2⟩, ⟨hp1, hp2⟩, -⟩ := DefD.ok_steps hd
  clear h hd
  have HP := Lib.hid hp
  unfold sagaV defV
  rw [hp]
  clear hp
  go_enter Try.func71, Try.ntmps71
  go_wp2_with (first
      | (go_at_call 129; refine (l13Back_any d A cap ⟨_, _, _, _, _, _⟩ _ ((H.out.alloc _).alloc _)).mono ?_; rintro e w1 ⟨rfl, hb1⟩; obtain ⟨hc1, hf1⟩ := bcell hb1)
      | (go_at_call 128; refine (l13Tries_any d A cap ⟨_, _, _, _, _, _⟩ _ (((H.out.alloc _).alloc _).below hb1) (backOk_range ‹backOk _ _ = true›).1 (backOk_range ‹backOk _ _ = true›).2).mono ?_; rintro e w2 ⟨rfl, hb2⟩))
  all_goals go_ret
  all_goals refine ⟨ret_bool ?_, by first | exact bel2 _ _ | exact bel2t (belt hb1 hb2) | exact bel2t ‹Below _ _ _›⟩
  all_goals have hp := HP.out
  all_goals obtain ⟨ph, dn, at_, tr, sn, du⟩ := s
  all_goals simp only at hp
  all_goals subst hp
  all_goals simp_all [sagaOk, stillS, backOk, turned, owing, int_beq, inB]
  all_goals grind
set_option maxRecDepth 100000 in
set_option maxHeartbeats 1000000 in
theorem l13Saga_3 (d : DefD) (A : Option Addr) (cap : Nat) (s : SagaD) (w : World) (h : DefAt w d A cap) (hd : d.ok = true) (hp : s.ph = 3) :
    Calls Try.prog 71 #[defV d A cap, sagaV s] w fun e w' => e = .returned (.bool (sagaOk d s)) ∧ Below w.heap.size w w' := by
  have hl := h.fit.1
  have H := Lib.hid h
  obtain ⟨-, ⟨hn1, hn2⟩, ⟨hp1, hp2⟩, -⟩ := DefD.ok_steps hd
  clear h hd
  have HP := Lib.hid hp
  unfold sagaV defV
  rw [hp]
  clear hp
  go_enter Try.func71, Try.ntmps71
  go_wp2_with (first
      | fail)
  all_goals go_ret
  all_goals refine ⟨ret_bool ?_, by first | exact bel2 _ _ | exact bel2t (belt hb1 hb2) | exact bel2t ‹Below _ _ _›⟩
  all_goals have hp := HP.out
  all_goals obtain ⟨ph, dn, at_, tr, sn, du⟩ := s
  all_goals simp only at hp
  all_goals subst hp
  all_goals simp_all [sagaOk, stillS, backOk, turned, owing, int_beq, inB]
  all_goals grind
set_option maxRecDepth 100000 in
set_option maxHeartbeats 1000000 in
theorem l13Saga_4 (d : DefD) (A : Option Addr) (cap : Nat) (s : SagaD) (w : World) (h : DefAt w d A cap) (hd : d.ok = true) (hp : s.ph = 4) :
    Calls Try.prog 71 #[defV d A cap, sagaV s] w fun e w' => e = .returned (.bool (sagaOk d s)) ∧ Below w.heap.size w w' := by
  have hl := h.fit.1
  have H := Lib.hid h
  obtain ⟨-, ⟨hn1, hn2⟩, ⟨hp1, hp2⟩, -⟩ := DefD.ok_steps hd
  clear h hd
  have HP := Lib.hid hp
  unfold sagaV defV
  rw [hp]
  clear hp
  go_enter Try.func71, Try.ntmps71
  go_wp2_with (first
      | fail)
  all_goals go_ret
  all_goals refine ⟨ret_bool ?_, by first | exact bel2 _ _ | exact bel2t (belt hb1 hb2) | exact bel2t ‹Below _ _ _›⟩
  all_goals have hp := HP.out
  all_goals obtain ⟨ph, dn, at_, tr, sn, du⟩ := s
  all_goals simp only at hp
  all_goals subst hp
  all_goals simp_all [sagaOk, stillS, backOk, turned, owing, int_beq, inB]
  all_goals grind
set_option maxRecDepth 100000 in
set_option maxHeartbeats 1000000 in
theorem l13Saga_5 (d : DefD) (A : Option Addr) (cap : Nat) (s : SagaD) (w : World) (h : DefAt w d A cap) (hd : d.ok = true) (hp : s.ph = 5) :
    Calls Try.prog 71 #[defV d A cap, sagaV s] w fun e w' => e = .returned (.bool (sagaOk d s)) ∧ Below w.heap.size w w' := by
  have hl := h.fit.1
  have H := Lib.hid h
  obtain ⟨-, ⟨hn1, hn2⟩, ⟨hp1, hp2⟩, -⟩ := DefD.ok_steps hd
  clear h hd
  have HP := Lib.hid hp
  unfold sagaV defV
  rw [hp]
  clear hp
  go_enter Try.func71, Try.ntmps71
  go_wp2_with (first
      | (go_at_call 129; refine (l13Back_any d A cap ⟨_, _, _, _, _, _⟩ _ ((H.out.alloc _).alloc _)).mono ?_; rintro e w1 ⟨rfl, hb1⟩; obtain ⟨hc1, hf1⟩ := bcell hb1))
  all_goals go_ret
  all_goals refine ⟨ret_bool ?_, by first | exact bel2 _ _ | exact bel2t (belt hb1 hb2) | exact bel2t ‹Below _ _ _›⟩
  all_goals have hp := HP.out
  all_goals obtain ⟨ph, dn, at_, tr, sn, du⟩ := s
  all_goals simp only at hp
  all_goals subst hp
  all_goals simp_all [sagaOk, stillS, backOk, turned, owing, int_beq, inB]
  all_goals grind
set_option maxHeartbeats 1000000 in
theorem l13Saga_0 (d : DefD) (A : Option Addr) (cap : Nat) (s : SagaD) (w : World) (h : DefAt w d A cap) (e1 : (s.ph == 1) = false) (e2 : (s.ph == 2) = false) (e3 : (s.ph == 3) = false) (e4 : (s.ph == 4) = false) (e5 : (s.ph == 5) = false) :
    Calls Try.prog 71 #[defV d A cap, sagaV s] w fun e w' => e = .returned (.bool (sagaOk d s)) ∧ Below w.heap.size w w' := by
  have hl := h.fit.1
  clear h
  have HE := Lib.hid (show sagaOk d s = false from by unfold sagaOk; simp_all)
  unfold sagaV defV
  go_enter Try.func71, Try.ntmps71
  go_wp2
  all_goals go_ret
  all_goals exact ⟨ret_bool HE.out.symm, bel2 _ _⟩
theorem l13Saga_any (d : DefD) (A : Option Addr) (cap : Nat) (s : SagaD) (w : World) (h : DefAt w d A cap) (hd : d.ok = true) :
    Calls Try.prog 71 #[defV d A cap, sagaV s] w fun e w' => e = .returned (.bool (sagaOk d s)) ∧ Below w.heap.size w w' := by
  by_cases h1 : s.ph = 1
  · exact l13Saga_1 d A cap s w h hd h1
  by_cases h2 : s.ph = 2
  · exact l13Saga_2 d A cap s w h hd h2
  by_cases h3 : s.ph = 3
  · exact l13Saga_3 d A cap s w h hd h3
  by_cases h4 : s.ph = 4
  · exact l13Saga_4 d A cap s w h hd h4
  by_cases h5 : s.ph = 5
  · exact l13Saga_5 d A cap s w h hd h5
  exact l13Saga_0 d A cap s w h (by simp [h1]) (by simp [h2]) (by simp [h3]) (by simp [h4]) (by simp [h5])
theorem SagaRightSpec_any (d : DefD) (A : Option Addr) (cap : Nat) (s : SagaD) (w : World) (h : DefAt w d A cap) :
    Calls Try.prog 20 #[defV d A cap, sagaV s] w fun e w' => e = .returned (.bool (sagaRt d s)) ∧ Below w.heap.size w w' := by
  have H := Lib.hid h
  clear h
  cases hd : d.ok
  · have HD := Lib.hid hd
    clear hd
    unfold sagaV defV
    go_enter Try.func20, Try.ntmps20
    go_wp2_with (first
      | (go_at_call 48; refine (specDefRight_any d A cap _ H.out.nm H.out.fit ((H.out.alloc _).alloc _).row).mono ?_; rintro e w1 ⟨rfl, hb1⟩; rw [HD.out]))
    go_ret
    exact ⟨ret_bool (by unfold sagaRt; rw [HD.out]; rfl), bel2t hb1⟩
  · have HD := Lib.hid hd
    clear hd
    unfold sagaV defV
    go_enter Try.func20, Try.ntmps20
    go_wp2_with (first
      | (go_at_call 48; refine (specDefRight_any d A cap _ H.out.nm H.out.fit ((H.out.alloc _).alloc _).row).mono ?_; rintro e w1 ⟨rfl, hb1⟩; rw [HD.out]; obtain ⟨hc1, hf1⟩ := bcell hb1)
      | (go_at_call 71; refine (l13Saga_any d A cap s _ (((H.out.alloc _).alloc _).below hb1) HD.out).mono ?_; rintro e w2 ⟨rfl, hb2⟩))
    go_ret
    exact ⟨ret_bool (by unfold sagaRt; rw [HD.out]; rfl), bel2t (belt hb1 hb2)⟩
end Go.Proofs.Ytlbiocfpkpcdhaa
