import Derived.Test.YtlbiocfpkpcdhaaBytes
namespace Go.Proofs.Ytlbiocfpkpcdhaa
open Go.RowKit
/-! a block of one's own, known whole, of which all cells are written -/
theorem size_Out : (Try.prog.info? 41).map (·.size) = some 11 := by kernel_rfl
theorem size_Def : (Try.prog.info? 29).map (·.size) = some 3 := by kernel_rfl
theorem size_Step : (Try.prog.info? 55).map (·.size) = some 6 := by kernel_rfl
theorem size_Saga : (Try.prog.info? 37).map (·.size) = some 6 := by kernel_rfl
end Go.Proofs.Ytlbiocfpkpcdhaa
