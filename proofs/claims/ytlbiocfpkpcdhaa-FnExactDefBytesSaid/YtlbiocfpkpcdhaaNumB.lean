import Derived.Test.YtlbiocfpkpcdhaaNum
namespace Go.Proofs.Ytlbiocfpkpcdhaa
open Go.RowKit
set_option linter.unusedSimpArgs false
set_option linter.unusedVariables false
theorem add_small {P : Program} (a b : ByteArray) (h : a.size + b.size ≤ 1000000000) (W : World) : (Op.stringOp .add a b).run P W = .ok (.string (a ++ b)) W := run_string_add_sum W a b (by omega)
def strC (s : ByteArray) : List Value := [.string s]
theorem strRow {W : World} {A : Option Addr} {l : List ByteArray} (h : RowAt W A 1 strC l) {k : Nat} (hk : k < l.length) : ∃ b o, A = some ⟨b, o, none⟩ ∧ W.cell? ⟨b, o + k, none⟩ = some (.string l[k]) := by
  obtain ⟨b, o, hA, hc⟩ := h k l[k] (List.getElem?_eq_getElem hk)
  have c0 := hc 0 _ rfl
  simp only [Nat.mul_one, Nat.add_zero] at c0
  exact ⟨b, o, hA, c0⟩
/-- is one of these texts too long? -/
def longB (l : List ByteArray) : Bool := l.any fun s => decide (20000 < s.size)
set_option maxRecDepth 100000 in
theorem isLong_any (l : List ByteArray) (A : Option Addr) (n cap : Nat) (hn : l.length = n) (w : World) (h : RowAt w A 1 strC l) (hl : l.length ≤ 1000) (hs : ∀ s ∈ l, s.size ≤ 140737488355328) :
    Calls Try.prog 76 #[.slice A n cap] w fun e w' => e = .returned (.bool (longB l)) ∧ w = w' := by
  subst hn
  have HR := Lib.hid h
  have HS := Lib.hid hs
  clear h hs
  go_enter Try.func76, Try.ntmps76
  go_wp2
  go_loop [7] (fun i => ∃ k : Nat, k ≤ l.length ∧ i = .int .i64 k ∧ (l.take k).any (fun s => decide (20000 < s.size)) = false) (fun i => l.length - (intOf i).toNat)
  case atStart => exact ⟨0, Nat.zero_le _, rfl, by simp⟩
  case round =>
    obtain ⟨k, hk, rfl, hf⟩ := hrel
    have HF := Lib.hid hf
    clear hf
    by_cases hlt : k < l.length
    · obtain ⟨b, o, rfl, c0⟩ := strRow HR.out hlt
      have hsz := HS.out l[k] (List.getElem_mem hlt)
      by_cases hlong : 20000 < l[k].size
      · have HX := Lib.hid (show longB l = true from by unfold longB; rw [List.any_eq_true]; exact ⟨l[k], List.getElem_mem hlt, by simpa using hlong⟩)
        go_wp2
        go_ret
        exact ⟨ret_bool HX.out.symm, rfl⟩
      · have HX := Lib.hid (show (l.take (k + 1)).any (fun s => decide (20000 < s.size)) = false from by rw [List.take_succ_eq_append_getElem hlt, List.any_append, HF.out]; simp; omega)
        go_wp2
        go_round
        case rel => exact ⟨k + 1, by omega, by go_num, HX.out⟩
        case measure => simp [intOf]; omega
    · have HX := Lib.hid (show longB l = false from by have := HF.out; rw [List.take_of_length_le (by omega)] at this; exact this)
      go_wp2
      go_ret
      exact ⟨ret_bool HX.out.symm, rfl⟩
set_option maxRecDepth 100000 in
theorem putTextS_any (t : ByteArray) (w : World) (ht : t.size ≤ 140737488355328) :
    Calls Try.prog 49 #[.string t] w fun e w' => e = .returned (.string (putText t)) ∧ Below w.heap.size w w' := by
  by_cases h : 20000 < t.size
  · have HX := Lib.hid (show putText t = ⟨#[]⟩ from by unfold putText; rw [if_pos h])
    go_enter Try.func49, Try.ntmps49
    go_wp2
    go_ret
    exact ⟨ret_val (by rw [HX.out]; rfl), Below.refl _ _⟩
  · have HX := Lib.hid (show putText t = putNum t.size ++ t from by unfold putText; rw [if_neg h])
    go_enter Try.func49, Try.ntmps49
    go_wp2_with fail
    refine (putNumS_any t.size _ (by omega) (by omega)).mono ?_
    rintro e w1 ⟨rfl, hb⟩
    have hsz := putNum_size (n := (t.size : Int)) (by omega) (by omega)
    go_wp2
    go_ret
    exact ⟨ret_val (by rw [HX.out]; rfl), hb⟩
set_option maxRecDepth 100000 in
theorem putTextI_any (t : ByteArray) (w : World) (ht : t.size ≤ 140737488355328) :
    Calls Try.prog 53 #[.string t] w fun e w' => e = .returned (.string (putText t)) ∧ Below w.heap.size w w' := by
  by_cases h : 20000 < t.size
  · have HX := Lib.hid (show putText t = ⟨#[]⟩ from by unfold putText; rw [if_pos h])
    have HL := Lib.hid (show longB [t] = true from by simp [longB, h])
    go_enter Try.func53, Try.ntmps53
    go_wp2_with fail
    refine (isLong_any [t] _ 1 _ rfl _ (rowAt_strs w [t] 9) (by simp) (by simpa using ht)).mono ?_
    rintro e w1 ⟨rfl, rfl⟩
    rw [HL.out]
    go_wp2
    go_ret
    exact ⟨ret_val (by rw [HX.out]; rfl), bel1 _⟩
  · have HX := Lib.hid (show putText t = putNum t.size ++ t from by unfold putText; rw [if_neg h])
    have HL := Lib.hid (show longB [t] = false from by simp [longB]; omega)
    go_enter Try.func53, Try.ntmps53
    go_wp2_with fail
    refine (isLong_any [t] _ 1 _ rfl _ (rowAt_strs w [t] 9) (by simp) (by simpa using ht)).mono ?_
    rintro e w1 ⟨rfl, rfl⟩
    rw [HL.out]
    go_wp2_with fail
    refine (putNumI_any t.size _ (by omega) (by omega)).mono ?_
    rintro e w1 ⟨rfl, hb⟩
    have hsz := putNum_size (n := (t.size : Int)) (by omega) (by omega)
    go_wp2
    go_ret
    exact ⟨ret_val (by rw [HX.out]; rfl), bel1t hb⟩
end Go.Proofs.Ytlbiocfpkpcdhaa
