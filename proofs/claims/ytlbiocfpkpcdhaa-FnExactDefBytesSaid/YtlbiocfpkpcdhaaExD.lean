import Derived.Test.YtlbiocfpkpcdhaaLawE
import Derived.Test.YtlbiocfpkpcdhaaDefC
namespace Go.Proofs.Ytlbiocfpkpcdhaa
open Go.RowKit
set_option linter.unusedSimpArgs false
set_option linter.unusedVariables false
/-! the law FnExactDefBytes walked -/
def lawO (d : DefD) (A : Option Addr) (cap : Nat) : Obj := .cells #[.string d.nm, .slice A d.st.length cap, .int .i64 d.pv] 24
theorem lawCells {r : Option Nat} {w W : World} {x b : Nat} {d : DefD} {A B : Option Addr} {ca cb : Nat} {bs : List (Nat × Obj)} (h : Fr r w ((x, defO' d B cb) :: (b, lawO d A ca) :: bs) W) :
    (W.cell? ⟨x, 0, none⟩ = some (.string d.nm) ∧ W.cell? ⟨x, 1, none⟩ = some (.slice B d.st.length cb) ∧ W.cell? ⟨x, 2, none⟩ = some (.int .i64 d.pv)) ∧
    (W.cell? ⟨b, 0, none⟩ = some (.string d.nm) ∧ W.cell? ⟨b, 1, none⟩ = some (.slice A d.st.length ca) ∧ W.cell? ⟨b, 2, none⟩ = some (.int .i64 d.pv)) := by
  obtain ⟨-, -, c0, c1, c2⟩ := cells3 (h.at 0 rfl)
  obtain ⟨-, -, e0, e1, e2⟩ := cells3 (h.at 1 rfl)
  exact ⟨⟨c0, c1, c2⟩, ⟨e0, e1, e2⟩⟩
set_option maxRecDepth 100000 in
set_option maxHeartbeats 2000000 in
theorem fnExactDefBytes_any (d : DefD) (A : Option Addr) (cap : Nat) (w : World) (h : DefAt w d A cap) :
    Calls Try.prog 3 #[defV d A cap] w fun e w' => e = .returned (.bool true) ∧ Below w.heap.size w w' := by
  have HD := Lib.hid h
  clear h
  unfold defV
  go_enter Try.func3, Try.ntmps3
  go_upto_region 2 with fail
  refine wpNamed (Fr none w [(w.heap.size, lawO d A cap)]) ((Fr.start none w).alloc _ rfl) ?_
  intro W hW
  have HF := Lib.hid hW
  clear hW
  obtain ⟨a0, af, a1, a2, a3⟩ := cells3 (HF.out.at 0 rfl)
  go_wp2_with fail
  refine (szDef_any d A cap _ _ (HD.out.below HF.out.bel) (by omega) (by omega)).mono ?_
  rintro e w1 ⟨⟨r, rfl, hr, hr2⟩, hb⟩
  have HF1 := Lib.hid (HF.out.below hb)
  have HR2 := Lib.hid hr2
  clear hb hr2 HF a0 af a1 a2 a3
  by_cases hr0 : r < 0
  · go_wp2_with fail
    go_ret
    exact ⟨rfl, HF1.out.bel⟩
  have HL := Lib.hid (HR2.out (by omega))
  obtain ⟨a0, af, a1, a2, a3⟩ := cells3 (HF1.out.at 0 rfl)
  go_wp2_with fail
  refine (toDef_any d A cap _ (HD.out.below HF1.out.bel) HL.out).mono ?_
  rintro e w2 ⟨⟨g1, rfl, hg1, hd1⟩, hb⟩
  have HF2 := Lib.hid (HF1.out.below hb)
  have HD2 := Lib.hid hd1
  clear hb hd1 hg1 HF1 a0 af a1 a2 a3
  unfold defV
  go_wp2_with fail
  refine (defBytesS_any d (some ⟨g1, 0, none⟩) d.st.length _ HD2.out).mono ?_
  rintro e w3 ⟨rfl, hb⟩
  have HF3 := Lib.hid (HF2.out.below hb)
  clear hb HF2 HD2
  obtain ⟨a0, af, a1, a2, a3⟩ := cells3 (HF3.out.at 0 rfl)
  generalize hu : defB d = u
  have HU := Lib.hid hu
  clear hu
  go_wp2_with fail
  refine (toDef_any d A cap _ (HD.out.below HF3.out.bel) HL.out).mono ?_
  rintro e w4 ⟨⟨g2, rfl, hg2, hd2⟩, hb⟩
  have HF4 := Lib.hid (HF3.out.below hb)
  have HD4 := Lib.hid hd2
  clear hb hd2 hg2 HF3 a0 af a1 a2 a3
  unfold defV
  go_upto_region 7 with fail
  refine wpNamed (fun W => Fr none w [(w4.heap.size, defO' d (some ⟨g2, 0, none⟩) d.st.length), (w.heap.size, lawO d A cap)] W ∧ DefAt W d (some ⟨g2, 0, none⟩) d.st.length) ⟨HF4.out.alloc _ rfl, HD4.out.alloc _⟩ ?_
  rintro W5 ⟨hF, hD⟩
  have HF5 := Lib.hid hF
  have HD5 := Lib.hid hD
  clear hF hD HF4 HD4
  obtain ⟨a0, af, a1, a2, a3⟩ := cells3 (HF5.out.at 0 rfl)
  go_wp2_with fail
  refine (defBytesI_any d (some ⟨g2, 0, none⟩) d.st.length _ HD5.out).mono ?_
  rintro e w6 ⟨rfl, hb⟩
  rw [HU.out]
  have HF6 := Lib.hid (HF5.out.below hb)
  have HD6 := Lib.hid (HD5.out.below hb)
  clear hb HF5 HD5 a0 af a1 a2 a3
  go_wp2_with fail
  have HF := Lib.hid HF6.out.drew
  have HDx := Lib.hid (HD6.out.below (below_drew' w6))
  have HS := Lib.hid (lawCells HF.out)
  clear HF6 HD6
  go_region_held3 (fun W => (W.cell? ⟨w4.heap.size, 0, none⟩ = some (.string d.nm) ∧ W.cell? ⟨w4.heap.size, 1, none⟩ = some (.slice (some ⟨g2, 0, none⟩) d.st.length d.st.length) ∧ W.cell? ⟨w4.heap.size, 2, none⟩ = some (.int .i64 d.pv)) ∧ (W.cell? ⟨w.heap.size, 0, none⟩ = some (.string d.nm) ∧ W.cell? ⟨w.heap.size, 1, none⟩ = some (.slice A d.st.length cap) ∧ W.cell? ⟨w.heap.size, 2, none⟩ = some (.int .i64 d.pv)))
    (with_reducible exact HS.out)
    (first
      | (go_at_call 10; refine (toDef_any d A cap _ (HD.out.below HF.out.bel) HL.out).mono ?_; rintro e wn ⟨⟨g3, rfl, hg3, hd3⟩, hb⟩; unfold defV; have HDx := Lib.hid (HDx.out.below hb); have HDy := Lib.hid hd3; have HF := Lib.hid (HF.out.below hb); have HS := Lib.hid (lawCells HF.out); clear hb hd3 hg3)
      | (go_at_call 12; refine (eqDef_same d _ _ _ _ _ HDx.out HDy.out).mono ?_; rintro e wn ⟨rfl, hb⟩; have HF := Lib.hid (HF.out.below hb); have HS := Lib.hid (lawCells HF.out); clear hb))
  go_wp2_with fail
  go_ret
  exact ⟨rfl, HF.out.bel⟩
end Go.Proofs.Ytlbiocfpkpcdhaa
