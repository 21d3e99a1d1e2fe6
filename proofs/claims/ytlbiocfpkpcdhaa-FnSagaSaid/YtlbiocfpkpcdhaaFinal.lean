import Derived.Test.YtlbiocfpkpcdhaaRows
import Derived.Test.YtlbiocfpkpcdhaaDraw
import Derived.WalkKit
import Derived.ProofKit
import Derived.OpenShut
import Derived.ShutString
import Derived.ChangeOld
import Derived.Below
namespace Go.Proofs.Ytlbiocfpkpcdhaa
open Go.ChangeShapes Go.WideShapes Go.ChangeAt Go.RowKit
set_option linter.unusedVariables false
set_option maxRecDepth 100000
theorem own : ownKnob Try.prog.godebug = none := by kernel_rfl
theorem laidOut : laidOutB Try.prog = true := by kernel_rfl
/-- a slice that is handed in lies in a block that is there -/
theorem slice_place {W : World} {r : Reach} {base : Nat} {a : Addr} {len cap : Nat} (h : Value.okWide Try.prog W r base 33 (.slice (some a) len cap)) : a.block < W.heap.size ∧ a.spot = none := by
  simp only [Value.okWide, Try.underlying33, Cell.okWide, Cell.ok] at h
  obtain ⟨-, -, -, h2, row, cells, h3, -⟩ := h
  refine ⟨?_, h2⟩
  rcases Nat.lt_or_ge a.block W.heap.size with hl | hl
  · exact hl
  · unfold World.shape? at h3
    rw [Array.getElem?_eq_none hl] at h3
    cases h3
/-- the bytes of an argument -/
theorem bytes_in {H : Type} {enc : TypeId × Value → H} {W : World} {base : Nat} {spare : Nat → Bool} {held : Bool} {a : Option Addr} {len cap : Nat} {d : DataW H} {p : List MemPlace}
    (hv : Value.okWide Try.prog W .any base 33 (.slice a len cap)) (h : DataW.Trod enc Try.prog W 0 (fun _ => true) true 33 (.slice a len cap) d p) :
    ∃ bs : List UInt8, bs.length = len ∧ len ≤ cap ∧ len ≤ 9223372036854775807 ∧ RowAt W a 1 byteC bs ∧ ∀ x, a = some x → x.block < W.heap.size := by
  obtain ⟨fuel, hf⟩ := h
  rcases open_ints Try.underlying33 Try.underlying5 (by kernel_rfl) hf with ⟨hcs, _⟩ | ⟨x, l, c, zs, hcs, _, hl, hm, hz, _, hcell, hwz⟩
  · simp [Value.cells] at hcs
    obtain ⟨rfl, rfl, rfl⟩ := hcs
    exact ⟨[], rfl, Nat.le_refl _, by omega, fun i x hx => by simp at hx, fun x hx => by cases hx⟩
  · simp [Value.cells] at hcs
    obtain ⟨rfl, rfl, rfl⟩ := hcs
    obtain ⟨hb, hs⟩ := slice_place hv
    obtain ⟨b, o, s⟩ := x
    simp only at hb hs
    subst hs
    simp only [if_true] at hz
    refine ⟨(zs.take len).map fun n => UInt8.ofNat n.toNat, ?_, hl, by simp only [maxLen] at hm; omega, ?_, fun x hx => by cases hx; exact hb⟩
    · simp only [List.length_map, List.length_take]
      omega
    · intro i u hu
      rw [List.getElem?_map, List.getElem?_take] at hu
      split at hu
      · rename_i hi
        have hiz : i < zs.length := by omega
        rw [List.getElem?_eq_getElem hiz] at hu
        simp only [Option.map_some, Option.some.injEq] at hu
        subst hu
        refine ⟨b, o, rfl, fun j v hj => ?_⟩
        match j, hj with
        | 0, hj =>
          simp only [byteC, List.getElem?_cons_zero, Option.some.injEq] at hj
          subst hj
          have h1 := hcell i hiz
          have h2 := hwz _ (List.getElem_mem hiz)
          rw [show (⟨b, o, none⟩ : Addr).add i = ⟨b, o + i * 1 + 0, none⟩ from by unfold Addr.add; split <;> simp_all] at h1
          rw [h1]
          have h3 : zs.getD i 0 = zs[i] := by simp [hiz]
          have h4 : 0 ≤ zs[i] ∧ zs[i] ≤ 255 := by
            simp [Lit.wf, IntKind.min, IntKind.max, IntKind.signed, IntKind.bits] at h2
            omega
          rw [h3]
          have h5 : ((UInt8.ofNat zs[i].toNat).toNat : Int) = zs[i] := by
            rw [UInt8.toNat_ofNat']
            omega
          rw [h5]
        | j + 1, hj => simp [byteC] at hj
      · cases hu
end Go.Proofs.Ytlbiocfpkpcdhaa
