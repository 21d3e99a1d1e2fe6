import Derived.Test.YtlbiocfpkpcdhaaDraw
namespace Go.Proofs.Ytlbiocfpkpcdhaa
open Go.RowKit
set_option linter.unusedSimpArgs false
set_option linter.unusedVariables false
theorem lwAt_any (bs : List UInt8) (A : Option Addr) (cap k : Nat) (w : World) (hr : RowAt w A 1 byteC bs) (hl : bs.length ≤ 1048576) (hk : k ≤ 1000) :
    Calls Try.prog 18 #[.slice A bs.length cap, .int .i64 k, .int .i64 3] w fun e w' => ∃ r : Int, e = .returned (.int .i64 r) ∧ w' = w := by
  by_cases h0 : bs.length = 0
  · have hd : decide ((bs.length : Int) = 0) = true := by simp [h0]
    go_enter Try.func18, Try.ntmps18
    go_wp2
    all_goals go_ret
    all_goals exact ⟨_, rfl, rfl⟩
  · have hlt : k % bs.length < bs.length := Nat.mod_lt _ (by omega)
    obtain ⟨b, o, rfl, hc⟩ := hr (k % bs.length) bs[k % bs.length] (List.getElem?_eq_getElem hlt)
    have c0 := hc 0 _ rfl
    simp only [Nat.mul_one, Nat.add_zero] at c0
    clear hc hr
    go_enter Try.func18, Try.ntmps18
    go_wp2
    all_goals go_ret
    all_goals exact ⟨_, rfl, rfl⟩
end Go.Proofs.Ytlbiocfpkpcdhaa
