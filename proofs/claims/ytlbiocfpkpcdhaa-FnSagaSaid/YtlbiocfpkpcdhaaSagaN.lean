import Derived.Test.YtlbiocfpkpcdhaaSagaM
import Derived.Maps.AppendAt
namespace Go.Proofs.Ytlbiocfpkpcdhaa
open Go.RowKit
set_option linter.unusedSimpArgs false
set_option linter.unusedVariables false
/-- the steps from n on downwards that lie above low and have an Undo -/
def undidL (d : DefD) (low : Int) : Nat → List Int
  | 0 => []
  | n + 1 => if low < (n : Int) then (if (stAt d n).hasUndo = true then (n : Int) :: undidL d low n else undidL d low n) else []
def undidS (d : DefD) (s : SagaD) : List Int := if sagaRt d s = false ∨ s.ph = 1 ∨ s.ph = 3 then [] else undidL d (if s.ph = 4 then -1 else s.at_) s.dn.toNat
def intC (x : Int) : List Value := [.int .i64 x]
def RetInts (l : List Int) (w : World) (e : Ending) (w' : World) : Prop := ∃ A cap, e = .returned (.slice A l.length cap) ∧ RowAt w' A 1 intC l ∧ Below w.heap.size w w'
theorem info_int64 : (Try.prog.info? 2).map (fun i => (i.zero, i.size, i.bytes)) = some (some (.int .i64 0), 1, 8) := by kernel_rfl
theorem rowAt_nil {α : Type} (w : World) (A : Option Addr) (sz : Nat) (f : α → List Value) : RowAt w A sz f [] := fun i x hx => by simp at hx
theorem rowAt_ownInts {W : World} {base : Nat} {e : TypeId} {v : Value} {l : List Int} (h : W.ownsRow base e 1 v l.length (l.map (Value.int .i64))) : ∃ A cap, v = .slice A l.length cap ∧ RowAt W A 1 intC l := by
  have h0 := h
  rcases h.2 with ⟨hv, hl⟩ | ⟨b, cap, cur, hv, hb, hh, hc, _⟩
  · have : l = [] := List.eq_nil_of_length_eq_zero hl
    subst this
    exact ⟨none, 0, by rw [hv]; rfl, rowAt_nil _ _ _ _⟩
  · refine ⟨some ⟨b, 0, none⟩, cap, hv, fun i x hx => ⟨b, 0, rfl, fun j u hu => ?_⟩⟩
    match j, hu with
    | 0, hu =>
      simp only [intC, List.getElem?_cons_zero, Option.some.injEq] at hu
      subst hu
      have := h0.cells (g := b) (by rw [hv]; rfl) i (.int .i64 x) (by rw [List.getElem?_map, hx]; rfl)
      rw [show (⟨b, 0, none⟩ : Addr).add i = ⟨b, 0 + i * 1 + 0, none⟩ from by unfold Addr.add; split <;> simp_all] at this
      exact this
    | j + 1, hu => simp [intC] at hu
theorem undidS_go {d : DefD} {s : SagaD} (hr : sagaRt d s = true) (h1 : s.ph ≠ 1) (h3 : s.ph ≠ 3) : undidS d s = undidL d (if s.ph = 4 then -1 else s.at_) s.dn.toNat := by
  unfold undidS
  rw [if_neg]
  intro h
  rcases h with h | h | h
  · rw [hr] at h; cases h
  · exact h1 h
  · exact h3 h
theorem undidL_stop {d : DefD} {low : Int} {k : Nat} (h : ¬ low < (k : Int) - 1) : undidL d low k = [] := by
  cases k with
  | zero => rfl
  | succ k => unfold undidL; rw [if_neg (by omega)]
theorem sagaRt_dn {d : DefD} {s : SagaD} (h : sagaRt d s = true) (h1 : s.ph ≠ 1) : 0 ≤ s.dn ∧ s.dn ≤ d.st.length ∧ 0 ≤ s.at_ := by
  unfold sagaRt at h
  simp only [Bool.and_eq_true] at h
  obtain ⟨-, h⟩ := h
  unfold sagaOk at h
  rw [if_neg h1] at h
  by_cases h2 : s.ph = 2
  · rw [if_pos h2] at h
    simp only [Bool.and_eq_true] at h
    have := backOk_turned h.1
    omega
  · rw [if_neg h2] at h
    by_cases h3 : s.ph = 3
    · rw [if_pos h3] at h
      simp only [Bool.and_eq_true, decide_eq_true_eq] at h
      omega
    · rw [if_neg h3] at h
      by_cases h4 : s.ph = 4
      · rw [if_pos h4] at h
        unfold turned at h
        simp only [Bool.and_eq_true, decide_eq_true_eq, inB_true] at h
        omega
      · rw [if_neg h4] at h
        by_cases h5 : s.ph = 5
        · rw [if_pos h5] at h
          simp only [Bool.and_eq_true, Bool.or_eq_true, decide_eq_true_eq, inB_true] at h
          rcases h.2 with h6 | h6
          · omega
          · have := backOk_turned h6
            omega
        · rw [if_neg h5] at h
          cases h
set_option maxRecDepth 100000 in
set_option maxHeartbeats 2000000 in
theorem undidSpec_any (d : DefD) (A : Option Addr) (cap : Nat) (s : SagaD) (w : World) (h : DefAt w d A cap) :
    Calls Try.prog 97 #[defV d A cap, sagaV s] w (RetInts (undidS d s) w) := by
  have HD := Lib.hid h
  have hl := h.fit.1
  clear h
  obtain ⟨i0, hi, hz0, hz1, hz2⟩ := info_parts info_int64
  obtain ⟨l, hu⟩ : ∃ l, undidS d s = l := ⟨_, rfl⟩
  rw [hu]
  have HU := Lib.hid hu
  clear hu
  obtain ⟨ph, dn, at_, tr, sn, du⟩ := s
  unfold defV sagaV
  dsimp only
  go_enter Try.func97, Try.ntmps97
  go_upto_region 2 with fail
  refine wpNamed (fun W => Fr none w [(w.heap.size + 1, .cells #[.int .i64 ph, .int .i64 dn, .int .i64 at_, .int .i64 tr, .bool sn, .int .i64 du] 37), (w.heap.size, .cells #[.string d.nm, .slice A d.st.length cap, .int .i64 d.pv] 29)] W ∧ W.ownsRow (w.heap.size + 1 + 1) 2 1 (.slice (some ⟨w.heap.size + 1 + 1, 0, none⟩) 0 0) 0 []) ⟨?_, ?_⟩ ?_
  · exact ((((Fr.start none w).alloc _ rfl).alloc _ (by simp)).alloc _ rfl).drop _ (List.sublist_cons_self _ _)
  · have := World.ownsRow_made (base := w.heap.size + 1 + 1) (e := 2) (size := 1) ((w.alloc (.cells #[.string d.nm, .slice A d.st.length cap, .int .i64 d.pv] 29)).alloc (.cells #[.int .i64 ph, .int .i64 dn, .int .i64 at_, .int .i64 tr, .bool sn, .int .i64 du] 37)) #[] 0 (by simp) (by simp [maxLen]) rfl
    simpa using this
  rintro W ⟨hW, hO⟩
  have HF := Lib.hid hW
  have HO := Lib.hid hO
  clear hW hO
  obtain ⟨d0, df, d1, d2, d3⟩ := cells3 (HF.out.at 1 rfl)
  obtain ⟨s0, sf, s1, s2, s3, s4, s5, s6⟩ := cells6 (HF.out.at 0 rfl)
  go_wp2_with fail
  refine (SagaRightSpec_any d A cap ⟨ph, dn, at_, tr, sn, du⟩ _ (HD.out.below HF.out.bel)).mono ?_
  rintro e w1 ⟨rfl, hb⟩
  have HF1 := Lib.hid (HF.out.below hb)
  have HO1 := Lib.hid (HO.out.kept (below_grown hb) (.inr (by simp [Value.ownBlock])))
  clear hb HF HO d0 df d1 d2 d3 s0 sf s1 s2 s3 s4 s5 s6
  obtain ⟨d0, df, d1, d2, d3⟩ := cells3 (HF1.out.at 1 rfl)
  obtain ⟨s0, sf, s1, s2, s3, s4, s5, s6⟩ := cells6 (HF1.out.at 0 rfl)
  have HNIL := Lib.hid (show (l = [] → ∃ A cap, (Ending.returned (.slice (some ⟨w.heap.size + 1 + 1, 0, none⟩) 0 0) = .returned (.slice A l.length cap)) ∧ RowAt w1 A 1 intC l ∧ Below w.heap.size w w1) from fun h => by subst h; exact ⟨_, 0, rfl, rowAt_nil _ _ _ _, HF1.out.bel⟩)
  cases hr : sagaRt d ⟨ph, dn, at_, tr, sn, du⟩
  · have HX := Lib.hid (show l = [] from by rw [← HU.out]; unfold undidS; rw [if_pos (.inl hr)])
    clear hr
    go_wp2_with fail
    go_ret
    exact HNIL.out HX.out
  by_cases h1 : ph = 1
  · have HX := Lib.hid (show l = [] from by rw [← HU.out]; unfold undidS; rw [if_pos (.inr (.inl h1))])
    clear hr
    go_wp2_with fail
    go_ret
    exact HNIL.out HX.out
  by_cases h3 : ph = 3
  · have HX := Lib.hid (show l = [] from by rw [← HU.out]; unfold undidS; rw [if_pos (.inr (.inr h3))])
    clear hr
    go_wp2_with fail
    go_ret
    exact HNIL.out HX.out
  obtain ⟨low, hlow⟩ : ∃ low, (if ph = 4 then (-1 : Int) else at_) = low := ⟨_, rfl⟩
  have HX := Lib.hid (show undidL d low dn.toNat = l from by rw [← HU.out, ← hlow, undidS_go hr h1 h3])
  obtain ⟨hn1, hn2, hn3⟩ := sagaRt_dn hr h1
  dsimp only at hn1 hn2 hn3
  have hlow1 : -1 ≤ low := by rw [← hlow]; split <;> omega
  have hnz : d.st.length ≤ 8 := by
    unfold sagaRt at hr
    simp only [Bool.and_eq_true] at hr
    exact (DefD.ok_steps hr.1).2.1.2
  clear HU HNIL
  have hee1 : (ph == 1) = false := by simpa using h1
  have hee3 : (ph == 3) = false := by simpa using h3
  have HLOW := Lib.hid hlow
  clear h1 h3 hlow
  go_upto_if 28 with fail
  go_cut [6] (fun s6 wx => s6 = .int .i64 low ∧ wx = w1)
  case first =>
    by_cases h4 : ph = 4
    · have hl4 := HLOW.out
      rw [if_pos h4] at hl4
      subst hl4
      go_wp2_with fail
      go_meet
      exact ⟨rfl, rfl⟩
    · have hl4 := HLOW.out
      rw [if_neg h4] at hl4
      subst hl4
      go_wp2_with fail
      go_meet
      exact ⟨rfl, rfl⟩
  case rest =>
  obtain ⟨rfl, rfl⟩ := hcut
  clear hr
  go_wp2_with fail
  obtain ⟨m, rfl⟩ := Int.eq_ofNat_of_zero_le hn1
  rw [Int.toNat_natCast] at HX
  go_loopw [5, 7] (fun v i wr => ∃ (k : Nat) (acc : List Int), i = .int .i64 ((k : Int) - 1) ∧ k ≤ m ∧ acc.length + k ≤ m ∧ acc ++ undidL d low k = l ∧ wr.ownsRow (w.heap.size + 1 + 1) 2 1 v acc.length (acc.map (Value.int .i64)) ∧ Fr none w [(w.heap.size + 1, .cells #[.int .i64 ph, .int .i64 m, .int .i64 at_, .int .i64 tr, .bool sn, .int .i64 du] 37), (w.heap.size, .cells #[.string d.nm, .slice A d.st.length cap, .int .i64 d.pv] 29)] wr) (fun v i wr => (intOf i + 1).toNat)
  case atStart => exact ⟨m, [], rfl, Nat.le_refl _, by simp, HX.out, HO1.out, HF1.out⟩
  case round =>
    obtain ⟨k, acc, rfl, hk, hak, hacc, hown, hfr⟩ := hrel
    have HA := Lib.hid hacc
    have HO := Lib.hid hown
    have HF := Lib.hid hfr
    clear hacc hown hfr d0 df d1 d2 d3 s0 sf s1 s2 s3 s4 s5 s6 HX HF1 HO1
    obtain ⟨d0, df, d1, d2, d3⟩ := cells3 (HF.out.at 1 rfl)
    by_cases hlo : low < (k : Int) - 1
    · obtain ⟨k, rfl⟩ : ∃ j, k = j + 1 := ⟨k - 1, by omega⟩
      obtain ⟨b, o, rfl, ⟨hb0, hb1, hb2, hb3⟩, -, -, c2, -⟩ := (HD.out.below HF.out.bel).step' (k : Int) (by omega) (by omega)
      rw [show ((k + 1 : Nat) : Int) - 1 = (k : Int) from by omega] at hlo ⊢
      rw [Int.toNat_natCast] at c2
      have hun : undidL d low (k + 1) = if (stAt d k).hasUndo = true then (k : Int) :: undidL d low k else undidL d low k := by
        rw [undidL, if_pos hlo]
      cases hz : (stAt d k).hasUndo
      · have he : (stAt d k).ud.toList = [] := by unfold StepD.hasUndo at hz; simpa using hz
        have HA2 := Lib.hid (show acc ++ undidL d low k = l from by rw [← HA.out, hun, hz]; rfl)
        clear hz hun
        go_wp2_with fail
        go_roundw
        case rel => exact ⟨k, acc, rfl, by omega, by omega, HA2.out, HO.out, HF.out⟩
        case measure => simp [intOf]
      · have he : ¬ (stAt d k).ud.toList = [] := by unfold StepD.hasUndo at hz; simpa using hz
        have he2 : (stAt d k).ud.toList.isEmpty = false := by rw [isEmpty_dec]; simpa using he
        have HA2 := Lib.hid (show (acc ++ [(k : Int)]) ++ undidL d low k = l from by rw [← HA.out, hun, if_pos hz]; simp)
        clear hz hun
        have hgs := (cells6 (HF.out.at 0 rfl)).1
        go_wp2_with ((at_builtin; refine wpList_append_own _ rfl _ _ 67 rfl (w.heap.size + 1 + 1) 2 i0 (.int .i64 0) 1 8 Try.underlying67 hi hz0 hz1 hz2 rfl (by decide) _ _ _ rfl (HO.out.alloc _) ⟨wr.heap.size, 0, none⟩ 1 1 [.int .i64 k] rfl rfl ?c1 ?c2 ?c3 ?c4 ?c5 ?_))
        case c1 =>
          intro j u hj
          match j, hj with
          | 0, hj =>
            simp only [List.getElem?_cons_zero, Option.some.injEq] at hj
            subst hj
            go_simp
          | j + 1, hj => simp at hj
        case c2 => intro u hu; simp only [List.mem_singleton] at hu; subst hu; rfl
        case c3 => simp only [maxLen]; omega
        case c4 => omega
        case c5 => simp; omega
        intro v' wn hown' hgrow _
        have HN := Lib.hid (show wn.ownsRow (w.heap.size + 1 + 1) 2 1 v' (acc ++ [(k : Int)]).length ((acc ++ [(k : Int)]).map (Value.int .i64)) from by simpa using hown')
        have HFN := Lib.hid (Fr.grown (((HF.out.alloc (.cells #[.int .i64 k] 2) rfl).drop _ (List.sublist_cons_self _ _))) hgrow (fun b hb => ⟨.inr (by have := (HO.out.lt b hb).1; omega), fun p hp => by
          have := (HO.out.lt b hb).1
          simp only [List.mem_cons, List.not_mem_nil, or_false] at hp
          rcases hp with rfl | rfl <;> (simp only; omega)⟩))
        clear hown' hgrow
        go_wp2_with fail
        go_roundw
        case rel => exact ⟨k, acc ++ [(k : Int)], rfl, by omega, by simp; omega, HA2.out, HN.out, HFN.out⟩
        case measure => simp [intOf]
    · have HA2 := Lib.hid (show acc = l from by rw [← HA.out, undidL_stop hlo, List.append_nil])
      go_wp2_with fail
      go_ret
      obtain ⟨A', cap', rfl, hrow⟩ := rowAt_ownInts HO.out
      rw [HA2.out] at hrow ⊢
      exact ⟨A', cap', rfl, hrow, HF.out.bel⟩
end Go.Proofs.Ytlbiocfpkpcdhaa
