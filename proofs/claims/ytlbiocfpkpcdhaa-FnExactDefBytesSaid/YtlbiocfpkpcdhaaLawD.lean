import Derived.Test.YtlbiocfpkpcdhaaFill
import Derived.Test.YtlbiocfpkpcdhaaSaga
import Derived.RegionTactic
namespace Go.Proofs.Ytlbiocfpkpcdhaa
open Go.RowKit
set_option linter.unusedSimpArgs false
set_option linter.unusedVariables false
/-! the law's own words on steps and defs: sizes, copies, equality -/
theorem info_Step' : (Try.prog.info? 55).map (fun i => (i.zero, i.size, i.bytes)) = some (some (.agg #[.string ⟨#[]⟩, .string ⟨#[]⟩, .string ⟨#[]⟩, .int .i64 0, .int .i64 0, .int .i64 0]), 6, 72) := by kernel_rfl
theorem toStep_any (s : StepD) (w : World) :
    Calls Try.prog 121 #[stepV s] w fun e w' => e = .returned (stepV s) ∧ Below w.heap.size w w' := by
  unfold stepV
  go_enter Try.func121, Try.ntmps121
  go_wp2
  exact endHeld (cs := #[.string s.nm, .string s.dd, .string s.ud, .int .i64 s.tr, .int .i64 s.bo, .int .i64 s.ti]) Try.results121 rfl rfl (by first | exact blk_old (blk2 _ _) _ | exact blk3 _ _ _) Try.underlying55 rfl size_Step ⟨rfl, bel3 _ _ _⟩
set_option maxRecDepth 100000 in
set_option maxHeartbeats 1000000 in
theorem szStep_any (s : StepD) (left : Int) (w : World) (hs : s.fits) (h0 : 0 ≤ left) (h1 : left ≤ 1048576) :
    Calls Try.prog 118 #[stepV s, .int .i64 left] w fun e w' => (∃ r : Int, e = .returned (.int .i64 r) ∧ r ≤ 1048576) ∧ Below w.heap.size w w' := by
  obtain ⟨f1, f2, f3⟩ := hs
  unfold stepV
  go_enter Try.func118, Try.ntmps118
  go_wp2
  all_goals go_ret
  all_goals exact ⟨⟨_, rfl, by omega⟩, bel1 _⟩
theorem str_beq (a b : ByteArray) : (a.toList == b.toList) = decide (a = b) := by
  by_cases h : a = b
  · subst h; simp
  · have : a.toList ≠ b.toList := fun e => h (by rw [ByteArray.toList_eq, ByteArray.toList_eq] at e; exact ByteArray.ext (Array.ext' e))
    simp [h, this]
set_option maxRecDepth 100000 in
set_option maxHeartbeats 1000000 in
theorem eqStep_same (s : StepD) (w : World) :
    Calls Try.prog 123 #[stepV s, stepV s] w fun e w' => e = .returned (.bool true) ∧ Below w.heap.size w w' := by
  unfold stepV
  go_enter Try.func123, Try.ntmps123
  go_wp2
  all_goals go_ret
  all_goals first | exact ⟨rfl, bel2 _ _⟩ | (exfalso; simp_all; done)
theorem StepD.cells_len (s : StepD) : s.cells.length = 6 := rfl
set_option maxRecDepth 100000 in
set_option maxHeartbeats 2000000 in
theorem toStepS_any (l : List StepD) (A : Option Addr) (cap : Nat) (w : World) (h : RowAt w A 6 StepD.cells l) (hl : l.length ≤ 1048576) :
    Calls Try.prog 51 #[.slice A l.length cap] w fun e w' => (∃ g, e = .returned (.slice (some ⟨g, 0, none⟩) l.length l.length) ∧ w.heap.size ≤ g ∧ w'.heap[g]? = some (.cells ⟨l.flatMap StepD.cells⟩ 55)) ∧ Below w.heap.size w w' := by
  obtain ⟨i0, hi, hz0, hz1, hz2⟩ := info_parts info_Step'
  have HR := Lib.hid h
  clear h
  have hmk : ∀ W : World, (Instr.makeSlice 27 (.int .i64 (l.length : Int)) (.int .i64 (l.length : Int))).run Try.prog W = .ok (.slice (some ⟨W.heap.size, 0, none⟩) l.length l.length) (W.alloc (.cells (madeCells (Value.agg #[.string ⟨#[]⟩, .string ⟨#[]⟩, .string ⟨#[]⟩, .int .i64 0, .int .i64 0, .int .i64 0]).cells (l.length * 6)) 55)) := by
    intro W
    have := run_makeSlice (P := Try.prog) W 27 55 i0 _ Try.underlying27 hi hz0 .i64 .i64 (l.length : Int) (l.length : Int) (by omega) (Int.le_refl _) (by rw [hz1]; simp; omega) (by rw [hz2]; simp; omega) (by omega)
    rw [hz1] at this
    simpa using this
  go_enter Try.func51, Try.ntmps51
  go_wp2
  obtain ⟨Z, hZ⟩ : ∃ Z, (madeCells (Value.agg #[.string ⟨#[]⟩, .string ⟨#[]⟩, .string ⟨#[]⟩, .int .i64 0, .int .i64 0, .int .i64 0]).cells (l.length * 6)).toList = Z := ⟨_, rfl⟩
  have hZl : Z.length = l.length * 6 := by rw [← hZ]; exact made_len _ _ _
  have HF := Lib.hid (show Fr none w [(w.heap.size, .cells ⟨fillC StepD.cells l Z 6 0⟩ 55)] (w.alloc (.cells (madeCells (Value.agg #[.string ⟨#[]⟩, .string ⟨#[]⟩, .string ⟨#[]⟩, .int .i64 0, .int .i64 0, .int .i64 0]).cells (l.length * 6)) 55)) from by
    rw [fill_zero, ← hZ]
    exact (Fr.start none w).alloc _ rfl)
  clear hmk hZ
  go_loopw [4] (fun i wr => ∃ k : Nat, k ≤ l.length ∧ i = .int .i64 k ∧ Fr none w [(w.heap.size, .cells ⟨fillC StepD.cells l Z 6 k⟩ 55)] wr) (fun i _ => l.length - (intOf i).toNat)
  case atStart => exact ⟨0, Nat.zero_le _, rfl, HF.out⟩
  case round =>
    obtain ⟨k, hk, rfl, hfr⟩ := hrel
    have HF1 := Lib.hid hfr
    clear hfr HF
    by_cases hlt : k < l.length
    · obtain ⟨b, o, rfl, hc⟩ := (HR.out.below HF1.out.bel) k l[k] (List.getElem?_eq_getElem hlt)
      have c0 := hc 0 _ rfl
      simp only [Nat.add_zero] at c0
      have c1 := hc 1 _ rfl
      have c2 := hc 2 _ rfl
      have c3 := hc 3 _ rfl
      have c4 := hc 4 _ rfl
      have c5 := hc 5 _ rfl
      clear hc
      have HST := Lib.hid (fill_step (f := StepD.cells) (l := l) (Z := Z) (sz := 6) StepD.cells_len hZl hlt)
      have HSO := Lib.hid (fun j (hj : j < 6) => fill_some (f := StepD.cells) (l := l) (Z := Z) (sz := 6) StepD.cells_len hZl hlt hj)
      have HFL := Lib.hid (fill_len (f := StepD.cells) (l := l) (Z := Z) (sz := 6) StepD.cells_len hZl (k := k) (by omega))
      obtain ⟨s, hs⟩ : ∃ s, l[k] = s := ⟨_, rfl⟩
      rw [hs] at c0 c1 c2 c3 c4 c5 HST
      clear hs
      go_wp2_with fail
      refine (toStep_any s _).mono ?_
      rintro e w1 ⟨rfl, hb⟩
      have HF2 := Lib.hid (HF1.out.below hb)
      clear hb c0 c1 c2 c3 c4 c5 HF1
      have hblk := HF2.out.at 0 rfl
      have hfz := blk_free hblk
      have hlt2 := blk_lt hblk
      obtain ⟨v0, q0⟩ := HSO.out 0 (by omega)
      obtain ⟨v1, q1⟩ := HSO.out 1 (by omega)
      obtain ⟨v2, q2⟩ := HSO.out 2 (by omega)
      obtain ⟨v3, q3⟩ := HSO.out 3 (by omega)
      obtain ⟨v4, q4⟩ := HSO.out 4 (by omega)
      obtain ⟨v5, q5⟩ := HSO.out 5 (by omega)
      have g0 := (blk_cell hblk (k * 6 + 0)).trans (by simpa using q0)
      have g1 := (blk_cell hblk (k * 6 + 1)).trans (by simpa using q1)
      have g2 := (blk_cell hblk (k * 6 + 2)).trans (by simpa using q2)
      have g3 := (blk_cell hblk (k * 6 + 3)).trans (by simpa using q3)
      have g4 := (blk_cell hblk (k * 6 + 4)).trans (by simpa using q4)
      have g5 := (blk_cell hblk (k * 6 + 5)).trans (by simpa using q5)
      simp only [Nat.add_zero] at g0
      have HF3 := Lib.hid (show Fr none w [(w.heap.size, .cells ⟨fillC StepD.cells l Z 6 (k + 1)⟩ 55)] (stores w1 w.heap.size (k * 6) [.string s.nm, .string s.dd, .string s.ud, .int .i64 s.tr, .int .i64 s.bo, .int .i64 s.ti]) from by
        rw [stores_known _ w1 _ (k * 6) hblk (by rw [HFL.out]; have : (k + 1) * 6 ≤ l.length * 6 := Nat.mul_le_mul_right _ hlt; simp; omega)]
        have hst := HST.out
        unfold StepD.cells at hst
        rw [show (fun s : StepD => [Value.string s.nm, .string s.dd, .string s.ud, .int .i64 s.tr, .int .i64 s.bo, .int .i64 s.ti]) = StepD.cells from rfl] at hst
        rw [hst]
        exact HF2.out.put 0 _ rfl)
      clear hblk q0 q1 q2 q3 q4 q5
      go_wp2_with fail
      go_roundw
      case rel => exact ⟨k + 1, by omega, by go_num, HF3.out⟩
      case measure => simp [intOf]; omega
    · obtain rfl : k = l.length := by omega
      have hblk := HF1.out.at 0 rfl
      rw [fill_done hZl] at hblk
      have HB := Lib.hid hblk
      clear hblk
      go_wp2_with fail
      go_ret
      exact ⟨⟨w.heap.size, rfl, Nat.le_refl _, HB.out⟩, HF1.out.bel⟩
end Go.Proofs.Ytlbiocfpkpcdhaa
