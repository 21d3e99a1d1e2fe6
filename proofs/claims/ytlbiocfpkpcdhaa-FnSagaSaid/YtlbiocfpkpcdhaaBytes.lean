import Derived.Test.YtlbiocfpkpcdhaaGen
namespace Go.Proofs.Ytlbiocfpkpcdhaa
open Go.RowKit

/-! small words -/
theorem within_any (n lo hi : Int) (w : World) :
    Calls Try.prog 66 #[.int .i64 n, .int .i64 lo, .int .i64 hi] w fun e w' => e = .returned (.bool (inB n lo hi)) ∧ w = w' := by
  go_enter Try.func66, Try.ntmps66
  go_wp2
  all_goals go_ret
  all_goals exact ⟨ret_bool (by unfold inB; grind), rfl⟩

theorem l12In_any (n lo hi : Int) (w : World) :
    Calls Try.prog 84 #[.int .i64 n, .int .i64 lo, .int .i64 hi] w fun e w' => e = .returned (.bool (inB n lo hi)) ∧ w = w' := by
  go_enter Try.func84, Try.ntmps84
  go_wp2
  all_goals go_ret
  all_goals exact ⟨ret_bool (by unfold inB; grind), rfl⟩

theorem isTime_any (n : Int) (w : World) :
    Calls Try.prog 62 #[.int .i64 n] w fun e w' => e = .returned (.bool (inB n 0 1000000000)) ∧ w = w' := by
  go_enter Try.func62, Try.ntmps62
  go_wp2_with (go_at_call 66; refine (within_any _ _ _ _).mono ?_; rintro e w' ⟨rfl, rfl⟩)
  go_ret
  exact ⟨rfl, rfl⟩

theorem l13Time_any (n : Int) (w : World) :
    Calls Try.prog 64 #[.int .i64 n] w fun e w' => e = .returned (.bool (inB n 0 1000000000)) ∧ w = w' := by
  go_enter Try.func64, Try.ntmps64
  go_wp2
  all_goals go_ret
  all_goals exact ⟨ret_bool (by unfold inB; grind), rfl⟩

/-! names -/
def byteAt (s : ByteArray) (k : Nat) : UInt8 := s.data.toList.getD k 0
theorem byteAt_eq {s : ByteArray} {k : Nat} (h : k < s.size) : s[k] = byteAt s k := by
  unfold byteAt
  have h' : k < s.data.toList.length := by simpa using h
  rw [List.getD_eq_getElem?_getD, List.getElem?_eq_getElem h']
  rfl
def lowB (c : UInt8) : Bool := decide (97 ≤ (c.toNat : Int)) && decide ((c.toNat : Int) ≤ 122)
def nameB (c : UInt8) : Bool := (decide (48 ≤ (c.toNat : Int)) && decide ((c.toNat : Int) ≤ 57)) || decide ((c.toNat : Int) = 95)
/-- does byte k fit at its place? -/
def fitB (k : Nat) (c : UInt8) : Bool := lowB c || (decide (0 < k) && nameB c)
/-- is it a name? -/
def nameOk (s : ByteArray) : Bool := inB s.size 1 20 && (List.range s.size).all fun k => fitB k (byteAt s k)
theorem nameOk_of {s : ByteArray} (h : ∀ j, j < s.size → fitB j (byteAt s j) = true) : nameOk s = inB s.size 1 20 := by
  unfold nameOk
  have : ((List.range s.size).all fun k => fitB k (byteAt s k)) = true := by
    rw [List.all_eq_true]; intro x hx; exact h x (List.mem_range.1 hx)
  rw [this, Bool.and_true]
theorem nameOk_not {s : ByteArray} {k : Nat} (hk : k < s.size) (h : fitB k (byteAt s k) = false) : nameOk s = false := by
  unfold nameOk
  have : ((List.range s.size).all fun k => fitB k (byteAt s k)) = false := by
    rw [List.all_eq_false]; exact ⟨k, List.mem_range.2 hk, by simp [h]⟩
  rw [this, Bool.and_false]
theorem nameOk_size {s : ByteArray} (h : inB s.size 1 20 = false) : nameOk s = false := by unfold nameOk; rw [h, Bool.false_and]
theorem fit_succ {s : ByteArray} {k : Nat} (h : ∀ j, j < k → fitB j (byteAt s j) = true) (hk : fitB k (byteAt s k) = true) : ∀ j, j < k + 1 → fitB j (byteAt s j) = true := by
  intro j hj
  rcases Nat.lt_or_ge j k with h1 | h1
  · exact h j h1
  · obtain rfl : j = k := by omega
    exact hk
set_option maxHeartbeats 400000 in
theorem implNameRight_any (s : ByteArray) (w : World) (hs : s.size ≤ 140737488355328) :
    Calls Try.prog 72 #[.string s] w fun e w' => e = .returned (.bool (nameOk s)) ∧ w = w' := by
  go_enter Try.func72, Try.ntmps72
  go_wp2
  go_loop [7] (fun i => ∃ k : Nat, k ≤ s.size ∧ i = .int .i64 k ∧ ∀ j, j < k → fitB j (byteAt s j) = true) (fun i => s.size - (intOf i).toNat)
  case atStart => exact ⟨0, Nat.zero_le _, rfl, fun j h => absurd h (Nat.not_lt_zero _)⟩
  case round =>
    obtain ⟨k, hk, rfl, hf⟩ := hrel
    have HF := Lib.hid hf; clear hf
    by_cases hlt : k < s.size
    · have HB := Lib.hid (byteAt_eq hlt)
      go_wp2
      all_goals first
        | (go_ret; exact ⟨ret_bool (nameOk_not hlt (by rw [← HB.out]; unfold fitB lowB nameB; grind)).symm, rfl⟩)
        | (go_round
           case rel => exact ⟨k + 1, by omega, by go_num, fit_succ HF.out (by rw [← HB.out]; unfold fitB lowB nameB; grind)⟩
           case measure => simp [intOf]; omega)
    · go_wp2_with (go_at_call 66; refine (within_any _ _ _ _).mono ?_; rintro e w' ⟨rfl, rfl⟩)
      go_ret
      exact ⟨ret_bool (nameOk_of (fun j hj => HF.out j (by omega))).symm, rfl⟩
set_option maxHeartbeats 400000 in
theorem specNameRight_any (s : ByteArray) (w : World) (hs : s.size ≤ 140737488355328) :
    Calls Try.prog 119 #[.string s] w fun e w' => e = .returned (.bool (nameOk s)) ∧ w = w' := by
  by_cases hsz : 1 ≤ s.size ∧ s.size ≤ 20
  · obtain ⟨h1, h2⟩ := hsz
    go_enter Try.func119, Try.ntmps119
    go_wp2
    go_loop [3] (fun i => ∃ k : Nat, k ≤ s.size ∧ i = .int .i64 k ∧ ∀ j, j < k → fitB j (byteAt s j) = true) (fun i => s.size - (intOf i).toNat)
    case atStart => exact ⟨0, Nat.zero_le _, rfl, fun j h => absurd h (Nat.not_lt_zero _)⟩
    case round =>
      obtain ⟨k, hk, rfl, hf⟩ := hrel
      have HF := Lib.hid hf; clear hf
      by_cases hlt : k < s.size
      · have HB := Lib.hid (byteAt_eq hlt)
        go_wp2
        all_goals first
          | (go_ret; exact ⟨ret_bool (nameOk_not hlt (by rw [← HB.out]; unfold fitB lowB nameB; grind)).symm, rfl⟩)
          | (go_round
             case rel => exact ⟨k + 1, by omega, by go_num, fit_succ HF.out (by rw [← HB.out]; unfold fitB lowB nameB; grind)⟩
             case measure => simp [intOf]; omega)
      · go_wp2
        go_ret
        exact ⟨ret_bool (by rw [nameOk_of (fun j hj => HF.out j (by omega)), inB_true.2 (by omega)]), rfl⟩
  · have hn := Lib.hid (nameOk_size (s := s) (inB_false.2 (by omega)))
    go_enter Try.func119, Try.ntmps119
    go_wp2
    all_goals first
      | (go_ret; exact ⟨ret_bool hn.out.symm, rfl⟩)
      | (exfalso; omega)
end Go.Proofs.Ytlbiocfpkpcdhaa
