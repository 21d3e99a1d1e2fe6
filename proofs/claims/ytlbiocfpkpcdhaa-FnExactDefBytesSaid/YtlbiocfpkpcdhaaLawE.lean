import Derived.Test.YtlbiocfpkpcdhaaLawD
import Derived.Test.YtlbiocfpkpcdhaaDefC
namespace Go.Proofs.Ytlbiocfpkpcdhaa
open Go.RowKit
set_option linter.unusedSimpArgs false
set_option linter.unusedVariables false
set_option maxRecDepth 100000 in
set_option maxHeartbeats 1000000 in
theorem szStepS_any (l : List StepD) (A : Option Addr) (cap : Nat) (left : Int) (w : World) (h : RowAt w A 6 StepD.cells l) (hf : ∀ s ∈ l, s.fits) (hl : l.length ≤ 140737488355328) (h0 : 0 ≤ left) (h1 : left ≤ 1048576) :
    Calls Try.prog 47 #[.slice A l.length cap, .int .i64 left] w fun e w' => (∃ r : Int, e = .returned (.int .i64 r) ∧ r ≤ 1048576 ∧ (0 ≤ r → l.length ≤ 1048576)) ∧ Below w.heap.size w w' := by
  have HR := Lib.hid h
  have HF := Lib.hid hf
  clear h hf
  by_cases hneg : left - l.length < 0
  · go_enter Try.func47, Try.ntmps47
    go_wp2
    go_ret
    exact ⟨⟨-1, rfl, by omega, by omega⟩, Below.refl _ _⟩
  · go_enter Try.func47, Try.ntmps47
    go_wp2
    go_loopw [1, 5] (fun v i wr => ∃ (k : Nat) (x : Int), k ≤ l.length ∧ v = .int .i64 x ∧ i = .int .i64 k ∧ 0 ≤ x ∧ x ≤ 1048576 ∧ Below w.heap.size w wr) (fun v i _ => l.length - (intOf i).toNat)
    case atStart => exact ⟨0, _, Nat.zero_le _, rfl, rfl, by omega, by omega, Below.refl _ _⟩
    case round =>
      obtain ⟨k, x, hk, rfl, rfl, hx0, hx1, hb⟩ := hrel
      have HB := Lib.hid hb
      clear hb
      by_cases hlt : k < l.length
      · obtain ⟨b, o, rfl, hc⟩ := (HR.out.below HB.out) k l[k] (List.getElem?_eq_getElem hlt)
        have c0 := hc 0 _ rfl
        simp only [Nat.add_zero] at c0
        have c1 := hc 1 _ rfl
        have c2 := hc 2 _ rfl
        have c3 := hc 3 _ rfl
        have c4 := hc 4 _ rfl
        have c5 := hc 5 _ rfl
        clear hc
        go_wp2_with fail
        refine (szStep_any l[k] x _ (HF.out _ (List.getElem_mem hlt)) hx0 hx1).mono ?_
        rintro e w1 ⟨⟨r, rfl, hr⟩, hb⟩
        have HB2 := Lib.hid (belt HB.out hb)
        clear hb
        by_cases hr0 : r < 0
        · go_wp2_with fail
          go_ret
          exact ⟨⟨-1, rfl, by omega, by omega⟩, HB2.out⟩
        · go_wp2_with fail
          go_roundw
          case rel => exact ⟨k + 1, r, by omega, rfl, by go_num, by omega, by omega, HB2.out⟩
          case measure => simp [intOf]; omega
      · go_wp2_with fail
        go_ret
        exact ⟨⟨x, rfl, by omega, by omega⟩, HB.out⟩
set_option maxRecDepth 100000 in
theorem szDef_any (d : DefD) (A : Option Addr) (cap : Nat) (left : Int) (w : World) (h : DefAt w d A cap) (h0 : 0 ≤ left) (h1 : left ≤ 1048576) :
    Calls Try.prog 8 #[defV d A cap, .int .i64 left] w fun e w' => (∃ r : Int, e = .returned (.int .i64 r) ∧ r ≤ 1048576 ∧ (0 ≤ r → d.st.length ≤ 1048576)) ∧ Below w.heap.size w w' := by
  have hl := h.fit.1
  have hnm := h.nm
  have HD := Lib.hid h
  clear h
  unfold defV
  by_cases hneg : left - d.nm.size < 0
  · go_enter Try.func8, Try.ntmps8
    go_wp2
    go_ret
    exact ⟨⟨-1, rfl, by omega, by omega⟩, bel1 _⟩
  · go_enter Try.func8, Try.ntmps8
    go_wp2_with fail
    refine (szStepS_any d.st A cap _ _ (HD.out.alloc _).row HD.out.fit.2 hl (by omega) (by omega)).mono ?_
    rintro e w1 ⟨⟨r, rfl, hr, hr2⟩, hb⟩
    have HB := Lib.hid (bel1t hb)
    have HR2 := Lib.hid hr2
    clear hb hr2
    by_cases hr0 : r < 0
    · go_wp2_with fail
      go_ret
      exact ⟨⟨-1, rfl, by omega, by omega⟩, HB.out⟩
    · go_wp2_with fail
      go_ret
      exact ⟨⟨r, rfl, hr, HR2.out⟩, HB.out⟩
theorem Fr.set {r : Option Nat} {w W : World} {bs : List (Nat × Obj)} (h : Fr r w bs W) (i j : Nat) {b : Nat} {cs : Array Value} {t : TypeId} {v : Value} (hi : bs[i]? = some (b, .cells cs t)) : Fr r w (bs.set i (b, .cells (cs.setIfInBounds j v) t)) (W.setCell ⟨b, j, none⟩ v) := by
  rw [setCell_known (h.at i hi)]
  exact h.put i _ hi
def zDefO : Obj := .cells #[.string ⟨#[]⟩, .slice none 0 0, .int .i64 0] 29
set_option maxRecDepth 100000 in
set_option maxHeartbeats 1000000 in
theorem toDef_any (d : DefD) (A : Option Addr) (cap : Nat) (w : World) (h : DefAt w d A cap) (hl : d.st.length ≤ 1048576) :
    Calls Try.prog 10 #[defV d A cap] w fun e w' => (∃ g, e = .returned (defV d (some ⟨g, 0, none⟩) d.st.length) ∧ w.heap.size ≤ g ∧ DefAt w' d (some ⟨g, 0, none⟩) d.st.length) ∧ Below w.heap.size w w' := by
  have HD := Lib.hid h
  clear h
  unfold defV
  go_enter Try.func10, Try.ntmps10
  go_upto_region 3 with fail
  refine wpNamed (Fr none w [(w.heap.size + 1 + 1, .cells #[.string d.nm, .slice none 0 0, .int .i64 0] 29), (w.heap.size + 1, zDefO), (w.heap.size, .cells #[.string d.nm, .slice A d.st.length cap, .int .i64 d.pv] 24)])
    ((((Fr.start none w).alloc _ rfl).alloc _ (by simp)).alloc _ (by simp)) ?_
  intro W hW
  have HF := Lib.hid hW
  clear hW
  obtain ⟨a0, af, a1, a2, a3⟩ := cells3 (HF.out.at 2 rfl)
  go_wp2_with fail
  refine (toStepS_any d.st A cap _ (HD.out.row.below HF.out.bel) hl).mono ?_
  rintro e w1 ⟨⟨g, rfl, hg, hgb⟩, hb⟩
  have HF1 := Lib.hid (HF.out.below hb)
  have hgw : w.heap.size + 1 + 1 < g := by have := (cells3 (HF.out.at 0 rfl)).1; omega
  have HG := Lib.hid hgb
  clear hb hgb hg HF a0 af a1 a2 a3
  obtain ⟨a0, af, a1, a2, a3⟩ := cells3 (HF1.out.at 2 rfl)
  obtain ⟨b0, bf, b1, b2, b3⟩ := cells3 (HF1.out.at 1 rfl)
  obtain ⟨c0, cf, c1, c2, c3⟩ := cells3 (HF1.out.at 0 rfl)
  go_upto_region 5 with fail
  refine wpNamed (fun W' => Fr none w [(w.heap.size + 1 + 1, .cells #[.string d.nm, .slice (some ⟨g, 0, none⟩) d.st.length d.st.length, .int .i64 d.pv] 29), (w.heap.size + 1, zDefO)] W' ∧ W'.heap[g]? = some (.cells ⟨d.st.flatMap StepD.cells⟩ 55)) ⟨((HF1.out.set 0 1 rfl).set 0 2 rfl).drop _ (by simp), ?_⟩ ?_
  · rw [Below.heap_setCell _ _ _ _ (by simp; omega), Below.heap_setCell _ _ _ _ (by simp; omega)]
    exact HG.out
  clear HF1 HG a0 af a1 a2 a3 b0 bf b1 b2 b3 c0 cf c1 c2 c3
  rintro W2 ⟨hF, hG⟩
  have HF := Lib.hid hF
  have HG := Lib.hid hG
  clear hF hG
  obtain ⟨b0, bf, b1, b2, b3⟩ := cells3 (HF.out.at 1 rfl)
  obtain ⟨c0, cf, c1, c2, c3⟩ := cells3 (HF.out.at 0 rfl)
  go_wp2_with fail
  refine endCell Try.results10 [.string d.nm, .slice (some ⟨g, 0, none⟩) d.st.length d.st.length, .int .i64 d.pv] rfl rfl (HF.out.at 1 rfl) rfl Try.underlying29 rfl size_Def ⟨⟨g, rfl, by omega, ⟨HD.out.nm, HD.out.fit, rowAt_block StepD.cells_len (show _ = some (Obj.cells ⟨d.st.flatMap StepD.cells⟩ 55) from ?_), Nat.le_refl _⟩⟩, ?_⟩
  · exact (withBlock_other (by omega)).trans HG.out
  · exact (HF.out.put 1 (.cells #[.string d.nm, .slice (some ⟨g, 0, none⟩) d.st.length d.st.length, .int .i64 d.pv] 29) rfl).bel
theorem below_drew' (W : World) : Below W.heap.size W W.drew := ⟨rfl, rfl, rfl, Nat.le_refl _, fun _ _ => rfl⟩
def StepsAt (W : World) (b o k : Nat) (s : StepD) : Prop := W.cell? ⟨b, o + k * 6, none⟩ = some (.string s.nm) ∧ W.cell? ⟨b, o + k * 6 + 1, none⟩ = some (.string s.dd) ∧ W.cell? ⟨b, o + k * 6 + 2, none⟩ = some (.string s.ud) ∧ W.cell? ⟨b, o + k * 6 + 3, none⟩ = some (.int .i64 s.tr) ∧ W.cell? ⟨b, o + k * 6 + 4, none⟩ = some (.int .i64 s.bo) ∧ W.cell? ⟨b, o + k * 6 + 5, none⟩ = some (.int .i64 s.ti)
theorem stepRow {W : World} {A : Option Addr} {l : List StepD} (h : RowAt W A 6 StepD.cells l) {k : Nat} (hk : k < l.length) : ∃ b o, A = some ⟨b, o, none⟩ ∧ StepsAt W b o k l[k] := by
  obtain ⟨b, o, hA, hc⟩ := h k l[k] (List.getElem?_eq_getElem hk)
  exact ⟨b, o, hA, hc 0 _ rfl, hc 1 _ rfl, hc 2 _ rfl, hc 3 _ rfl, hc 4 _ rfl, hc 5 _ rfl⟩
theorem StepsAt.below {W W' : World} {b o k : Nat} {s : StepD} (h : StepsAt W b o k s) (hb : Below W.heap.size W W') : StepsAt W' b o k s :=
  ⟨cell_later hb h.1, cell_later hb h.2.1, cell_later hb h.2.2.1, cell_later hb h.2.2.2.1, cell_later hb h.2.2.2.2.1, cell_later hb h.2.2.2.2.2⟩
set_option maxRecDepth 100000 in
set_option maxHeartbeats 2000000 in
theorem eqStepS_same (l : List StepD) (A B : Option Addr) (ca cb : Nat) (w : World) (hA : RowAt w A 6 StepD.cells l) (hB : RowAt w B 6 StepD.cells l) (hl : l.length ≤ 140737488355328) :
    Calls Try.prog 56 #[.slice A l.length ca, .slice B l.length cb] w fun e w' => e = .returned (.bool true) ∧ Below w.heap.size w w' := by
  have HA := Lib.hid hA
  have HB := Lib.hid hB
  clear hA hB
  go_enter Try.func56, Try.ntmps56
  go_wp2
  go_loopw [5] (fun i wr => ∃ k : Nat, k ≤ l.length ∧ i = .int .i64 k ∧ Below w.heap.size w wr) (fun i _ => l.length - (intOf i).toNat)
  case atStart => exact ⟨0, Nat.zero_le _, rfl, Below.refl _ _⟩
  case round =>
    obtain ⟨k, hk, rfl, hb⟩ := hrel
    have HW := Lib.hid hb
    clear hb
    by_cases hlt : k < l.length
    · obtain ⟨b1, o1, rfl, h1⟩ := stepRow (HA.out.below HW.out) hlt
      obtain ⟨b2, o2, rfl, h2⟩ := stepRow (HB.out.below HW.out) hlt
      obtain ⟨s, hs⟩ : ∃ s, l[k] = s := ⟨_, rfl⟩
      rw [hs] at h1 h2
      have HS := Lib.hid (And.intro (h1.below (below_drew' wr)) (h2.below (below_drew' wr)))
      have hki : (0 : Int) ≤ (k : Int) := by omega
      have hkl : (k : Int) < (l.length : Int) := by omega
      clear h1 h2 hs
      have HD := Lib.hid (belt HW.out (below_drew' wr))
      unfold StepsAt at HS
      go_wp2_with fail
      go_region_held3 (fun W => (W.cell? ⟨b1, o1 + k * 6, none⟩ = some (.string s.nm) ∧ W.cell? ⟨b1, o1 + k * 6 + 1, none⟩ = some (.string s.dd) ∧ W.cell? ⟨b1, o1 + k * 6 + 2, none⟩ = some (.string s.ud) ∧ W.cell? ⟨b1, o1 + k * 6 + 3, none⟩ = some (.int .i64 s.tr) ∧ W.cell? ⟨b1, o1 + k * 6 + 4, none⟩ = some (.int .i64 s.bo) ∧ W.cell? ⟨b1, o1 + k * 6 + 5, none⟩ = some (.int .i64 s.ti)) ∧ (W.cell? ⟨b2, o2 + k * 6, none⟩ = some (.string s.nm) ∧ W.cell? ⟨b2, o2 + k * 6 + 1, none⟩ = some (.string s.dd) ∧ W.cell? ⟨b2, o2 + k * 6 + 2, none⟩ = some (.string s.ud) ∧ W.cell? ⟨b2, o2 + k * 6 + 3, none⟩ = some (.int .i64 s.tr) ∧ W.cell? ⟨b2, o2 + k * 6 + 4, none⟩ = some (.int .i64 s.bo) ∧ W.cell? ⟨b2, o2 + k * 6 + 5, none⟩ = some (.int .i64 s.ti)))
        (with_reducible exact HS.out)
        (first | (go_at_call 123; refine (eqStep_same s _).mono ?_; rintro e wn ⟨rfl, hb⟩; have HD := Lib.hid (belt HD.out hb); have h1 : StepsAt wn b1 o1 k s := StepsAt.below HS.out.1 hb; have h2 : StepsAt wn b2 o2 k s := StepsAt.below HS.out.2 hb; unfold StepsAt at h1 h2; have HS := Lib.hid (And.intro h1 h2); clear hb h1 h2))
      go_wp2_with fail
      go_roundw
      case rel => exact ⟨k + 1, by omega, by go_num, HD.out⟩
      case measure => simp [intOf]; omega
    · go_wp2_with fail
      go_ret
      exact ⟨rfl, HW.out⟩
theorem eqDef_same (d : DefD) (A B : Option Addr) (ca cb : Nat) (w : World) (hA : DefAt w d A ca) (hB : DefAt w d B cb) :
    Calls Try.prog 12 #[defV d A ca, defV d B cb] w fun e w' => e = .returned (.bool true) ∧ Below w.heap.size w w' := by
  have HA := Lib.hid hA
  have HB := Lib.hid hB
  have hl := hA.fit.1
  clear hA hB
  unfold defV
  go_enter Try.func12, Try.ntmps12
  go_upto_region 1 with fail
  refine wpNamed (Fr none w [(w.heap.size + 1, .cells #[.string d.nm, .slice B d.st.length cb, .int .i64 d.pv] 29), (w.heap.size, .cells #[.string d.nm, .slice A d.st.length ca, .int .i64 d.pv] 29)])
    (((Fr.start none w).alloc _ rfl).alloc _ (by simp)) ?_
  intro W hW
  have HF := Lib.hid hW
  clear hW
  obtain ⟨a0, af, a1, a2, a3⟩ := cells3 (HF.out.at 1 rfl)
  obtain ⟨b0, bf, b1, b2, b3⟩ := cells3 (HF.out.at 0 rfl)
  go_wp2_with fail
  refine (eqStepS_same d.st A B ca cb _ (HA.out.row.below HF.out.bel) (HB.out.row.below HF.out.bel) hl).mono ?_
  rintro e w1 ⟨rfl, hb⟩
  have HF1 := Lib.hid (HF.out.below hb)
  clear hb HF a0 af a1 a2 a3 b0 bf b1 b2 b3
  obtain ⟨a0, af, a1, a2, a3⟩ := cells3 (HF1.out.at 1 rfl)
  obtain ⟨b0, bf, b1, b2, b3⟩ := cells3 (HF1.out.at 0 rfl)
  go_wp2_with fail
  go_ret
  exact ⟨rfl, HF1.out.bel⟩
end Go.Proofs.Ytlbiocfpkpcdhaa
