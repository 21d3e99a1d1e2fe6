import Derived.Test.YtlbiocfpkpcdhaaSagaE
import Derived.Test.YtlbiocfpkpcdhaaSagaG
namespace Go.Proofs.Ytlbiocfpkpcdhaa
open Go.RowKit
set_option linter.unusedSimpArgs false
set_option linter.unusedVariables false
set_option maxRecDepth 100000 in
set_option maxHeartbeats 1000000 in
theorem startSpec_any (d : DefD) (A : Option Addr) (cap : Nat) (now : Int) (w : World) (h : DefAt w d A cap) :
    Calls Try.prog 15 #[defV d A cap, .int .i64 now] w fun e w' => e = .returned (outV (startS d now)) ∧ Below w.heap.size w w' := by
  have H := Lib.hid h
  clear h
  have hz1 : ((w.alloc (.cells #[.string d.nm, .slice A d.st.length cap, .int .i64 d.pv] 29)).alloc zOut).heap[w.heap.size + 1]? = some zOut := blk2 _ _
  have HZ := Lib.hid hz1
  clear hz1
  unfold defV
  cases hd : d.ok
  · have HX := Lib.hid (show startS d now = codeS 1 from by unfold startS; rw [hd]; rfl)
    have HD := Lib.hid hd
    clear hd
    go_enter Try.func15, Try.ntmps15
    go_wp2_with fail
    refine (specDefRight_any d A cap _ H.out.nm H.out.fit ((H.out.alloc _).alloc _).row).mono ?_
    rintro e w1 ⟨rfl, hw1⟩
    rw [HD.out]
    obtain ⟨hc1, hf1⟩ := bcell hw1
    go_wp2_with fail
    exact endOut Try.results15 (codeS 1) rfl rfl (blk_below HZ.out hw1) (fun wy hy => ⟨by rw [HX.out], hy _ _ (by omega) (belt (bel2 _ _) hw1)⟩)
  · have HD := Lib.hid hd
    clear hd
    cases ht : inB now 0 1000000000
    · have HX := Lib.hid (show startS d now = codeS 1 from by unfold startS; rw [HD.out, ht]; rfl)
      have HT := Lib.hid ht
      clear ht
      go_enter Try.func15, Try.ntmps15
      go_wp2_with fail
      refine (specDefRight_any d A cap _ H.out.nm H.out.fit ((H.out.alloc _).alloc _).row).mono ?_
      rintro e w1 ⟨rfl, hw1⟩
      rw [HD.out]
      obtain ⟨hc1, hf1⟩ := bcell hw1
      go_wp2_with (go_at_call 64; refine (l13Time_any _ _).mono ?_; rintro e w' ⟨rfl, rfl⟩; rw [HT.out])
      exact endOut Try.results15 (codeS 1) rfl rfl (blk_below HZ.out hw1) (fun wy hy => ⟨by rw [HX.out], hy _ _ (by omega) (belt (bel2 _ _) hw1)⟩)
    · have HX := Lib.hid (show startS d now = sendS d ⟨1, 0, 0, 1, false, 0⟩ now from by unfold startS; rw [HD.out, ht]; rfl)
      obtain ⟨ht1, ht2⟩ := inB_true.1 ht
      have HT := Lib.hid ht
      clear ht
      obtain ⟨-, ⟨hn1, hn2⟩, -, -⟩ := DefD.ok_steps HD.out
      obtain ⟨-, -, -, -, hti1, hti2⟩ := DefD.ok_nums HD.out 0 (by omega) (by omega)
      go_enter Try.func15, Try.ntmps15
      go_wp2_with fail
      refine (specDefRight_any d A cap _ H.out.nm H.out.fit ((H.out.alloc _).alloc _).row).mono ?_
      rintro e w1 ⟨rfl, hw1⟩
      rw [HD.out]
      obtain ⟨hc1, hf1⟩ := bcell hw1
      have hzz : w.heap.size + 1 < w1.heap.size := by have := hw1.size; simp at this; omega
      go_wp2_with (go_at_call 64; refine (l13Time_any _ _).mono ?_; rintro e w' ⟨rfl, rfl⟩; rw [HT.out])
      refine (l13Send_any d A cap ⟨1, 0, 0, 1, false, 0⟩ now _ (((H.out.alloc _).alloc _).below hw1) (by show (0 : Int) ≤ 0; omega) (by show (0 : Int) < _; omega) (by show _ ≤ now + (stAt d 0).ti; omega) (by show now + (stAt d 0).ti ≤ _; omega)).mono ?_
      rintro e w2 ⟨rfl, hw2⟩
      obtain ⟨hc2, hf2⟩ := bcell hw2
      go_wp2_with fail
      exact endOut Try.results15 (sendS d ⟨1, 0, 0, 1, false, 0⟩ now) rfl rfl (blk_below (blk_below HZ.out hw1) hw2) (fun wy hy => ⟨by rw [HX.out], hy _ _ (by omega) (belt (belt (bel2 _ _) hw1) hw2)⟩)

end Go.Proofs.Ytlbiocfpkpcdhaa
