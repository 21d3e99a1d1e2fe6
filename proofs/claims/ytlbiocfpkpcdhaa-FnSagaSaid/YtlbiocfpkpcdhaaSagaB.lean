import Derived.Test.YtlbiocfpkpcdhaaSaga
namespace Go.Proofs.Ytlbiocfpkpcdhaa
open Go.RowKit
set_option linter.unusedSimpArgs false
set_option linter.unusedVariables false
theorem command_any (s : SagaD) (w : World) :
    Calls Try.prog 69 #[sagaV s] w fun e w' => e = .returned (cmdV (cmdOf s)) ∧ Below w.heap.size w w' := by
  unfold sagaV
  go_enter Try.func69, Try.ntmps69
  go_wp2
  exact bodyPost_ret (v := cmdV (cmdOf s)) (by simp [results, Try.results69, go_sem, cmdOf, int_beq]) rfl ⟨rfl, bel2 _ _⟩
theorem l13Command_any (s : SagaD) (w : World) :
    Calls Try.prog 92 #[sagaV s] w fun e w' => e = .returned (cmdV (cmdOf s)) ∧ Below w.heap.size w w' := by
  unfold sagaV
  go_enter Try.func92, Try.ntmps92
  go_wp2
  exact bodyPost_ret (v := cmdV (cmdOf s)) (by simp [results, Try.results92, go_sem, cmdOf, int_beq]) rfl ⟨rfl, bel2 _ _⟩
theorem ends_any (s : SagaD) (ph : Int) (w : World) :
    Calls Try.prog 126 #[sagaV s, .int .i64 ph] w fun e w' => e = .returned (outV (endS s ph)) ∧ Below w.heap.size w w' := by
  unfold sagaV
  by_cases hp : ph = 5
  · subst hp
    go_enter Try.func126, Try.ntmps126
    go_wp2
    exact bodyPost_ret (v := outV (endS s 5)) (by simp [results, Try.results126, go_sem, endS]) rfl ⟨rfl, bel3 _ _ _⟩
  · have e1 : (ph == 5) = false := by simp [hp]
    go_enter Try.func126, Try.ntmps126
    go_wp2
    exact bodyPost_ret (v := outV (endS s ph)) (by simp [results, Try.results126, go_sem, endS, hp]) rfl ⟨rfl, bel3 _ _ _⟩
theorem DefAt.step' {w : World} {d : DefD} {A : Option Addr} {cap : Nat} (h : DefAt w d A cap) (i : Int) (h0 : 0 ≤ i) (h1 : i < d.st.length) :
    ∃ b o, A = some ⟨b, o, none⟩ ∧ (b < w.heap.size ∧ b < w.heap.size + 1 ∧ b < w.heap.size + 1 + 1 ∧ b < w.heap.size + 1 + 1 + 1) ∧ w.cell? ⟨b, o + i.toNat * 6, none⟩ = some (.string (stAt d i).nm) ∧ w.cell? ⟨b, o + i.toNat * 6 + 1, none⟩ = some (.string (stAt d i).dd) ∧
      w.cell? ⟨b, o + i.toNat * 6 + 2, none⟩ = some (.string (stAt d i).ud) ∧ w.cell? ⟨b, o + i.toNat * 6 + 3, none⟩ = some (.int .i64 (stAt d i).tr) ∧
      w.cell? ⟨b, o + i.toNat * 6 + 4, none⟩ = some (.int .i64 (stAt d i).bo) ∧ w.cell? ⟨b, o + i.toNat * 6 + 5, none⟩ = some (.int .i64 (stAt d i).ti) := by
  obtain ⟨b, o, hA, hb, h⟩ := h.step i h0 h1
  exact ⟨b, o, hA, by omega, h⟩
theorem command_exact (s : SagaD) (w : World) :
    Calls Try.prog 69 #[sagaV s] w fun e w' => e = .returned (cmdV (cmdOf s)) ∧ w' = (w.alloc (.cells #[.int .i64 s.ph, .int .i64 s.dn, .int .i64 s.at_, .int .i64 s.tr, .bool s.sn, .int .i64 s.du] 37)).alloc (.cells #[.int .i64 s.at_, .bool (s.ph == 2), .int .i64 s.tr] 39) := by
  unfold sagaV
  go_enter Try.func69, Try.ntmps69
  go_wp2
  exact bodyPost_ret (v := cmdV (cmdOf s)) (by simp [results, Try.results69, go_sem, cmdOf, int_beq]) rfl ⟨rfl, rfl⟩
set_option maxRecDepth 100000 in
set_option maxHeartbeats 1000000 in
theorem send_any (d : DefD) (A : Option Addr) (cap : Nat) (s : SagaD) (now : Int) (w : World) (h : DefAt w d A cap) (h0 : 0 ≤ s.at_) (h1 : s.at_ < d.st.length) (hn : -9223372036854775808 ≤ now + (stAt d s.at_).ti) (hn2 : now + (stAt d s.at_).ti ≤ 9223372036854775807) :
    Calls Try.prog 63 #[defV d A cap, sagaV s, .int .i64 now] w fun e w' => e = .returned (outV (sendS d s now)) ∧ Below w.heap.size w w' := by
  have hl := h.fit.1
  obtain ⟨b, o, rfl, ⟨hb0, hb1, hb2, hb3⟩, -, -, -, -, -, c5⟩ := h.step' s.at_ h0 h1
  clear h
  unfold sagaV defV
  go_enter Try.func63, Try.ntmps63
  go_wp2
  clear c5 hb0 hb1 hb2 hb3 h0 h1 hn hn2
  go_region_held3 (fun w' => w'.cell? ⟨w.heap.size + 1, 0, none⟩ = some (.int .i64 s.ph) ∧ w'.cell? ⟨w.heap.size + 1, 1, none⟩ = some (.int .i64 s.dn) ∧ w'.cell? ⟨w.heap.size + 1, 2, none⟩ = some (.int .i64 s.at_) ∧ w'.cell? ⟨w.heap.size + 1, 3, none⟩ = some (.int .i64 s.tr) ∧ w'.cell? ⟨w.heap.size + 1, 4, none⟩ = some (.bool true) ∧ w'.cell? ⟨w.heap.size + 1, 5, none⟩ = some (.int .i64 (now + (stAt d s.at_).ti))) ((refine ⟨?_, ?_, ?_, ?_, ?_, ?_⟩ <;> go_simp))
    (first | (go_at_call 69; refine (command_exact ⟨s.ph, s.dn, s.at_, s.tr, true, now + (stAt d s.at_).ti⟩ _).mono ?_; rintro e w1 ⟨rfl, rfl⟩))
  rename_i hh
  clear hh
  go_wp2
  exact bodyPost_ret (v := outV (sendS d s now)) (by simp [results, Try.results63, go_sem, sendS, cmdOf]) rfl ⟨rfl, by repeat (first | exact Below.refl _ _ | refine Below.drew ?_ | refine Below.alloc ?_ (by simp <;> omega) _)⟩
theorem l13Command_exact (s : SagaD) (w : World) :
    Calls Try.prog 92 #[sagaV s] w fun e w' => e = .returned (cmdV (cmdOf s)) ∧ w' = (w.alloc (.cells #[.int .i64 s.ph, .int .i64 s.dn, .int .i64 s.at_, .int .i64 s.tr, .bool s.sn, .int .i64 s.du] 37)).alloc (.cells #[.int .i64 s.at_, .bool (s.ph == 2), .int .i64 s.tr] 39) := by
  unfold sagaV
  go_enter Try.func92, Try.ntmps92
  go_wp2
  exact bodyPost_ret (v := cmdV (cmdOf s)) (by simp [results, Try.results92, go_sem, cmdOf, int_beq]) rfl ⟨rfl, rfl⟩
set_option maxRecDepth 100000 in
set_option maxHeartbeats 1000000 in
theorem l13Send_any (d : DefD) (A : Option Addr) (cap : Nat) (s : SagaD) (now : Int) (w : World) (h : DefAt w d A cap) (h0 : 0 ≤ s.at_) (h1 : s.at_ < d.st.length) (hn : -9223372036854775808 ≤ now + (stAt d s.at_).ti) (hn2 : now + (stAt d s.at_).ti ≤ 9223372036854775807) :
    Calls Try.prog 65 #[defV d A cap, sagaV s, .int .i64 now] w fun e w' => e = .returned (outV (sendS d s now)) ∧ Below w.heap.size w w' := by
  have hl := h.fit.1
  obtain ⟨b, o, rfl, ⟨hb0, hb1, hb2, hb3⟩, -, -, -, -, -, c5⟩ := h.step' s.at_ h0 h1
  clear h
  unfold sagaV defV
  go_enter Try.func65, Try.ntmps65
  go_wp2
  clear c5 hb0 hb1 hb2 hb3 h0 h1 hn hn2
  go_region_held3 (fun w' => w'.cell? ⟨w.heap.size + 1, 0, none⟩ = some (.int .i64 s.ph) ∧ w'.cell? ⟨w.heap.size + 1, 1, none⟩ = some (.int .i64 s.dn) ∧ w'.cell? ⟨w.heap.size + 1, 2, none⟩ = some (.int .i64 s.at_) ∧ w'.cell? ⟨w.heap.size + 1, 3, none⟩ = some (.int .i64 s.tr) ∧ w'.cell? ⟨w.heap.size + 1, 4, none⟩ = some (.bool true) ∧ w'.cell? ⟨w.heap.size + 1, 5, none⟩ = some (.int .i64 (now + (stAt d s.at_).ti))) ((refine ⟨?_, ?_, ?_, ?_, ?_, ?_⟩ <;> go_simp))
    (first | (go_at_call 92; refine (l13Command_exact ⟨s.ph, s.dn, s.at_, s.tr, true, now + (stAt d s.at_).ti⟩ _).mono ?_; rintro e w1 ⟨rfl, rfl⟩))
  rename_i hh
  clear hh
  go_wp2
  exact bodyPost_ret (v := outV (sendS d s now)) (by simp [results, Try.results65, go_sem, sendS, cmdOf]) rfl ⟨rfl, by repeat (first | exact Below.refl _ _ | refine Below.drew ?_ | refine Below.alloc ?_ (by simp <;> omega) _)⟩

theorem undoB_lt {d : DefD} : ∀ n : Nat, undoB d n < n
  | 0 => by simp [undoB]
  | n + 1 => by
    unfold undoB
    split
    · omega
    · have := undoB_lt (d := d) n; omega
theorem undoB_ge {d : DefD} : ∀ n : Nat, -1 ≤ undoB d n
  | 0 => by simp [undoB]
  | n + 1 => by
    unfold undoB
    split
    · omega
    · exact undoB_ge n
set_option maxHeartbeats 1000000 in
theorem undoBelow_any (d : DefD) (A : Option Addr) (cap : Nat) (n : Int) (w : World) (h : DefAt w d A cap) (h0 : 0 ≤ n) (h1 : n ≤ d.st.length) :
    Calls Try.prog 127 #[defV d A cap, .int .i64 n] w fun e w' => e = .returned (.int .i64 (undoB d n.toNat)) ∧ Below w.heap.size w w' := by
  have hl := h.fit.1
  have H := Lib.hid h
  clear h
  obtain ⟨m, rfl⟩ := Int.eq_ofNat_of_zero_le h0
  rw [Int.toNat_natCast]
  unfold defV
  go_enter Try.func127, Try.ntmps127
  go_wp2
  go_loopw [1] (fun i wr => ∃ k : Nat, k ≤ m ∧ i = .int .i64 ((k : Int) - 1) ∧ undoB d m = undoB d k ∧ wr = w.alloc (.cells #[.string d.nm, .slice A d.st.length cap, .int .i64 d.pv] 29)) (fun i _ => (intOf i + 1).toNat)
  case atStart => exact ⟨m, Nat.le_refl _, rfl, rfl, rfl⟩
  case round =>
    obtain ⟨k, hk, rfl, hu, rfl⟩ := hrel
    have HU := Lib.hid hu
    clear hu
    cases k with
    | zero =>
      have hq : ¬ ((0 : Int) ≤ ((0 : Nat) : Int) - 1) := by omega
      go_wp2
      go_ret
      exact ⟨ret_int (by rw [HU.out]; rfl), bel1 _⟩
    | succ k =>
      obtain ⟨b, o, rfl, ⟨hb0, hb1, hb2, hb3⟩, -, -, c2, -⟩ := H.out.step' (k : Int) (by omega) (by omega)
      rw [show ((k + 1 : Nat) : Int) - 1 = (k : Int) from by omega]
      rw [Int.toNat_natCast] at c2
      cases hz : (stAt d k).hasUndo
      · have he : (stAt d k).ud.toList = [] := by unfold StepD.hasUndo at hz; simpa using hz
        have HZ := Lib.hid hz
        clear hz
        go_wp2
        go_roundw
        case rel => exact ⟨k, by omega, rfl, by rw [HU.out, undoB, HZ.out]; rfl, trivial⟩
        case measure => simp [intOf] <;> omega
      · have he : ¬ (stAt d k).ud.toList = [] := by unfold StepD.hasUndo at hz; simpa using hz
        have he2 : (stAt d k).ud.toList.isEmpty = false := by rw [isEmpty_dec]; simpa using he
        have HZ := Lib.hid hz
        clear hz
        go_wp2
        go_ret
        exact ⟨ret_int (by rw [HU.out]; unfold undoB; rw [HZ.out]; rfl), bel1 _⟩
end Go.Proofs.Ytlbiocfpkpcdhaa
