import Derived.Test.YtlbiocfpkpcdhaaSagaN
import Derived.RegionTactic
import Derived.Outline
import Derived.IntWalk
namespace Go.Proofs.Ytlbiocfpkpcdhaa
open Go.RowKit
set_option linter.unusedSimpArgs false
set_option linter.unusedVariables false
/-- b may follow a -/
structure OnOk (d : DefD) (a b : SagaD) : Prop where
  ra : sagaRt d a = true
  rb : sagaRt d b = true
  way : a.ph = 1 ∨ a.ph = 2
  le : a.dn ≤ b.dn
  le1 : b.dn ≤ a.dn + 1
  back : a.ph = 2 → b.ph ≠ 1 ∧ b.ph ≠ 3 ∧ b.dn = a.dn
  pv : 0 ≤ d.pv → d.pv < a.dn → b.ph ≠ 2 ∧ b.ph ≠ 4
  more : ∃ rest, undidS d b = undidS d a ++ rest ∧ rest.length ≤ 1
  fall : ∀ i (h : i + 1 < (undidS d b).length), (undidS d b)[i + 1] < (undidS d b)[i]
theorem undidL_len {d : DefD} {low : Int} : ∀ n, (undidL d low n).length ≤ n
  | 0 => Nat.le_refl _
  | n + 1 => by
    have := undidL_len (d := d) (low := low) n
    unfold undidL
    split
    · split
      · simp only [List.length_cons]; omega
      · omega
    · simp
theorem undidS_len {d : DefD} {s : SagaD} : (undidS d s).length ≤ 8 := by
  unfold undidS
  split
  · simp
  · rename_i h
    have hr : sagaRt d s = true := by
      cases hh : sagaRt d s with
      | true => rfl
      | false => exact absurd (.inl hh) h
    have h1 : s.ph ≠ 1 := fun e => h (.inr (.inl e))
    obtain ⟨h2, h3, -⟩ := sagaRt_dn hr h1
    unfold sagaRt at hr
    simp only [Bool.and_eq_true] at hr
    have := (DefD.ok_steps hr.1).2.1.2
    have := undidL_len (d := d) (low := if s.ph = 4 then -1 else s.at_) s.dn.toNat
    omega
structure OnAt (w0 : World) (A1 A2 : Option Addr) (x y : List Int) (W : World) : Prop where
  r1 : RowAt W A1 1 intC x
  r2 : RowAt W A2 1 intC y
  bel : Below w0.heap.size w0 W
theorem OnAt.drew {w0 W : World} {A1 A2 : Option Addr} {x y : List Int} (h : OnAt w0 A1 A2 x y W) : OnAt w0 A1 A2 x y W.drew :=
  have hb : Below W.heap.size W W.drew := ⟨rfl, rfl, rfl, Nat.le_refl _, fun _ _ => rfl⟩
  ⟨h.r1.below hb, h.r2.below hb, belt h.bel hb⟩
theorem intRow {W : World} {A : Option Addr} {l : List Int} (h : RowAt W A 1 intC l) {k : Nat} (hk : k < l.length) : ∃ b o, A = some ⟨b, o, none⟩ ∧ W.cell? ⟨b, o + k, none⟩ = some (.int .i64 l[k]) := by
  obtain ⟨b, o, hA, hc⟩ := h k l[k] (List.getElem?_eq_getElem hk)
  have c0 := hc 0 _ rfl
  simp only [Nat.mul_one, Nat.add_zero] at c0
  exact ⟨b, o, hA, c0⟩
set_option maxRecDepth 100000 in
set_option maxHeartbeats 4000000 in
theorem lwOn_any (d : DefD) (A : Option Addr) (cap : Nat) (a b : SagaD) (w : World) (h : DefAt w d A cap) (ho : OnOk d a b) :
    Calls Try.prog 35 #[defV d A cap, sagaV a, sagaV b] w fun e w' => e = .returned (.bool true) ∧ Below w.heap.size w w' := by
  have HD := Lib.hid h
  have HO := Lib.hid ho
  have hway := ho.way
  have hle := ho.le
  have hle1 := ho.le1
  obtain ⟨rest, hm, hrl⟩ := ho.more
  have hxl := undidS_len (d := d) (s := a)
  have hyl := undidS_len (d := d) (s := b)
  have hdn : 0 ≤ a.dn ∧ a.dn ≤ 8 := by
    obtain ⟨hd, -, -, q1, q2, -⟩ := sagaRt_way ho.ra ho.way
    have := (DefD.ok_steps hd).2.1.2
    omega
  obtain ⟨hdn0, hdn8⟩ := hdn
  have hov : inB a.ph 3 5 = false := by rw [inB_false]; omega
  have HOV := Lib.hid hov
  obtain ⟨x, hx⟩ : ∃ x, undidS d a = x := ⟨_, rfl⟩
  obtain ⟨y, hy⟩ : ∃ y, undidS d b = y := ⟨_, rfl⟩
  have hfall := ho.fall
  rw [hx] at hm hxl
  rw [hy] at hm hyl
  have HY : Hid (∀ i (h : i + 1 < y.length), y[i + 1] < y[i]) := by subst hy; exact Lib.hid hfall
  have HXX := Lib.hid hx
  have HYY := Lib.hid hy
  have HM := Lib.hid hm
  have hl1 : x.length ≤ y.length := by rw [hm]; simp
  have hl2 : y.length ≤ x.length + 1 := by rw [hm]; simp; omega
  have hback := ho.back
  have hpv := ho.pv
  clear h ho hov hx hy hm hrl hfall
  obtain ⟨ph, dn, at_, tr, sn, du⟩ := a
  obtain ⟨ph2, dn2, at2, tr2, sn2, du2⟩ := b
  unfold defV sagaV
  dsimp only at *
  go_enter Try.func35, Try.ntmps35
  go_upto_region 1 with fail
  refine wpNamed (fun W => Fr none w [(w.heap.size + 1 + 1, .cells #[.int .i64 ph2, .int .i64 dn2, .int .i64 at2, .int .i64 tr2, .bool sn2, .int .i64 du2] 37), (w.heap.size + 1, .cells #[.int .i64 ph, .int .i64 dn, .int .i64 at_, .int .i64 tr, .bool sn, .int .i64 du] 37), (w.heap.size, .cells #[.string d.nm, .slice A d.st.length cap, .int .i64 d.pv] 29)] W)
    ((((Fr.start none w).alloc _ rfl).alloc _ (by simp)).alloc _ (by simp)) ?_
  intro W hW
  have HF := Lib.hid hW
  clear hW
  obtain ⟨d0, df, d1, d2, d3⟩ := cells3 (HF.out.at 2 rfl)
  obtain ⟨s0, sf, s1, s2, s3, s4, s5, s6⟩ := cells6 (HF.out.at 1 rfl)
  obtain ⟨t0, tf, t1, t2, t3, t4, t5, t6⟩ := cells6 (HF.out.at 0 rfl)
  clear d0 df d1 d2 d3 s0 sf s1 s2 s3 s4 s5 s6 t0 tf t1 t2 t3 t4 t5 t6
  go_cut [55] (fun s55 wx => s55 = .bool false ∧ Fr none w [(w.heap.size + 1 + 1, .cells #[.int .i64 ph2, .int .i64 dn2, .int .i64 at2, .int .i64 tr2, .bool sn2, .int .i64 du2] 37), (w.heap.size + 1, .cells #[.int .i64 ph, .int .i64 dn, .int .i64 at_, .int .i64 tr, .bool sn, .int .i64 du] 37), (w.heap.size, .cells #[.string d.nm, .slice A d.st.length cap, .int .i64 d.pv] 29)] wx)
  case first =>
    obtain ⟨d0, df, d1, d2, d3⟩ := cells3 (HF.out.at 2 rfl)
    obtain ⟨t0, tf, t1, t2, t3, t4, t5, t6⟩ := cells6 (HF.out.at 0 rfl)
    go_wp2_with fail
    refine (SagaRightSpec_any d A cap ⟨ph2, dn2, at2, tr2, sn2, du2⟩ _ (HD.out.below HF.out.bel)).mono ?_
    rintro e w1 ⟨rfl, hb⟩
    have HF1 := Lib.hid (HF.out.below hb)
    clear hb HF d0 df d1 d2 d3 t0 tf t1 t2 t3 t4 t5 t6
    rw [HO.out.rb]
    obtain ⟨s0, sf, s1, s2, s3, s4, s5, s6⟩ := cells6 (HF1.out.at 1 rfl)
    go_wp2_with fail
    refine (overSpec_any ⟨ph, dn, at_, tr, sn, du⟩ _).mono ?_
    rintro e w2 ⟨rfl, hb⟩
    rw [HOV.out]
    have HF2 := Lib.hid (HF1.out.below hb)
    clear hb HF1 s0 sf s1 s2 s3 s4 s5 s6
    obtain ⟨s0, sf, s1, s2, s3, s4, s5, s6⟩ := cells6 (HF2.out.at 1 rfl)
    obtain ⟨t0, tf, t1, t2, t3, t4, t5, t6⟩ := cells6 (HF2.out.at 0 rfl)
    have hw1 : IntKind.i64.wrap (dn + 1) = dn + 1 := IntWalk.i64_in _ (by omega)
    have hlt1 : ¬ dn2 < dn := by omega
    have hlt2 : ¬ dn + 1 < dn2 := by omega
    rcases hway with rfl | rfl
    · go_wp2_with fail
      go_meet
      exact ⟨by first | rfl | (simp <;> omega), HF2.out⟩
    · obtain ⟨q1, q2, rfl⟩ := hback rfl
      have e1 : (ph2 == 1) = false := by simpa using q1
      have e2 : (ph2 == 3) = false := by simpa using q2
      clear q1 q2
      go_wp2_with fail
      go_meet
      exact ⟨by first | rfl | (simp <;> omega), HF2.out⟩
  case rest =>
  obtain ⟨rfl, hcut⟩ := hcut
  have HF1 := Lib.hid hcut
  clear hcut HF
  obtain ⟨W1, rfl⟩ : ∃ W1, W1 = wc := ⟨_, rfl⟩
  go_upto_region 3 with fail
  go_cut [75] (fun s75 wx => s75 = .bool false ∧ wx = W1)
  case first =>
    obtain ⟨d0, df, d1, d2, d3⟩ := cells3 (HF1.out.at 2 rfl)
    obtain ⟨s0, sf, s1, s2, s3, s4, s5, s6⟩ := cells6 (HF1.out.at 1 rfl)
    obtain ⟨t0, tf, t1, t2, t3, t4, t5, t6⟩ := cells6 (HF1.out.at 0 rfl)
    by_cases q1 : 0 ≤ d.pv
    · by_cases q2 : d.pv < dn
      · obtain ⟨q3, q4⟩ := hpv q1 q2
        have e1 : (ph2 == 2) = false := by simpa using q3
        have e2 : (ph2 == 4) = false := by simpa using q4
        clear q3 q4
        go_wp2_with fail
        go_meet
        exact ⟨rfl, rfl⟩
      · go_wp2_with fail
        go_meet
        exact ⟨rfl, rfl⟩
    · go_wp2_with fail
      go_meet
      exact ⟨rfl, rfl⟩
  case rest =>
  obtain ⟨rfl, rfl⟩ := hcut
  obtain ⟨d0, df, d1, d2, d3⟩ := cells3 (HF1.out.at 2 rfl)
  obtain ⟨s0, sf, s1, s2, s3, s4, s5, s6⟩ := cells6 (HF1.out.at 1 rfl)
  go_wp2_with fail
  refine (undidSpec_any d A cap ⟨ph, dn, at_, tr, sn, du⟩ _ (HD.out.below HF1.out.bel)).mono ?_
  rintro e w2 ⟨A1, c1, rfl, hr1, hb⟩
  rw [HXX.out] at hr1 ⊢
  have HF2 := Lib.hid (HF1.out.below hb)
  have HR1 := Lib.hid hr1
  clear hb hr1 HF1 d0 df d1 d2 d3 s0 sf s1 s2 s3 s4 s5 s6
  obtain ⟨d0, df, d1, d2, d3⟩ := cells3 (HF2.out.at 2 rfl)
  obtain ⟨t0, tf, t1, t2, t3, t4, t5, t6⟩ := cells6 (HF2.out.at 0 rfl)
  go_wp2_with fail
  refine (undidSpec_any d A cap ⟨ph2, dn2, at2, tr2, sn2, du2⟩ _ (HD.out.below HF2.out.bel)).mono ?_
  rintro e w3 ⟨A2, c2, rfl, hr2, hb⟩
  rw [HYY.out] at hr2 ⊢
  have HAT := Lib.hid (show OnAt w A1 A2 x y w3 from ⟨HR1.out.below hb, hr2, belt HF2.out.bel hb⟩)
  clear hb hr2 HR1 HF2 d0 df d1 d2 d3 t0 tf t1 t2 t3 t4 t5 t6
  have hy1 : ¬ y.length < x.length := by omega
  have hy2 : ¬ x.length + 1 < y.length := by omega
  go_wp2_with fail
  go_loopw [9] (fun i wr => ∃ k : Nat, i = .int .i64 k ∧ k ≤ x.length ∧ OnAt w A1 A2 x y wr) (fun i wr => x.length - (intOf i).toNat)
  case atStart => exact ⟨0, rfl, Nat.zero_le _, HAT.out⟩
  case round =>
    obtain ⟨k, rfl, hk, hat⟩ := hrel
    have HT := Lib.hid hat
    clear hat HAT
    by_cases hlt : k < x.length
    · have hlt2 : k < y.length := by omega
      obtain ⟨b1, o1, rfl, x1⟩ := intRow HT.out.r1 hlt
      obtain ⟨b2, o2, rfl, x2⟩ := intRow HT.out.r2 hlt2
      have hxy : y[k] = x[k] := by
        have := HM.out
        subst this
        exact List.getElem_append_left hlt
      rw [hxy] at x2
      clear hxy
      go_wp2_with fail
      go_region
      go_wp2_with fail
      go_roundw
      case rel => exact ⟨k + 1, by go_num, by omega, HT.out.drew⟩
      case measure => simp [intOf]; omega
    · obtain rfl : k = x.length := by omega
      go_wp2_with fail
      obtain ⟨wo, rfl⟩ : ∃ wo : World, wo = wr := ⟨_, rfl⟩
      go_loopw [10] (fun i wr => ∃ k : Nat, i = .int .i64 k ∧ 1 ≤ k ∧ k ≤ y.length + 1 ∧ OnAt w A1 A2 x y wr) (fun i wr => y.length - (intOf i).toNat)
      case atStart => exact ⟨1, rfl, by omega, by omega, HT.out⟩
      case round =>
        obtain ⟨k, rfl, hk1, hk, hat⟩ := hrel
        have HT2 := Lib.hid hat
        clear hat
        by_cases hlt2 : k < y.length
        · obtain ⟨j, rfl⟩ : ∃ j, k = j + 1 := ⟨k - 1, by omega⟩
          obtain ⟨b1, o1, rfl, x1⟩ := intRow HT2.out.r2 hlt2
          obtain ⟨b2, o2, hA, x2⟩ := intRow HT2.out.r2 (show j < y.length by omega)
          cases hA
          have hf := HY.out j hlt2
          obtain ⟨p, hp⟩ : ∃ p, y[j + 1] = p := ⟨_, rfl⟩
          obtain ⟨q, hq⟩ : ∃ q, y[j] = q := ⟨_, rfl⟩
          rw [hp] at x1 hf
          rw [hq] at x2 hf
          clear hp hq
          have hj1 : IntKind.i64.wrap (((j + 1 : Nat) : Int) - 1) = (j : Int) := by rw [IntWalk.i64_in _ (by omega)]; omega
          go_wp2_with fail
          go_region
          go_wp2_with fail
          go_roundw
          case rel => exact ⟨j + 2, by go_num, by omega, by omega, HT2.out.drew⟩
          case measure => simp [intOf]; omega
        · go_wp2_with fail
          go_ret
          exact ⟨rfl, HT2.out.bel⟩
end Go.Proofs.Ytlbiocfpkpcdhaa
