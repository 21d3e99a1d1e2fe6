import Derived.Test.YtlbiocfpkpcdhaaSagaO
namespace Go.Proofs.Ytlbiocfpkpcdhaa
open Go.RowKit
set_option linter.unusedSimpArgs false
set_option linter.unusedVariables false
/-! a saga goes on as it may: the plain law -/
theorem undidL_mem {d : DefD} {low : Int} : ∀ n, ∀ x ∈ undidL d low n, x < (n : Int)
  | 0 => fun x hx => by simp [undidL] at hx
  | n + 1 => fun x hx => by
    unfold undidL at hx
    split at hx
    · split at hx
      · rcases List.mem_cons.1 hx with rfl | hx
        · omega
        · have := undidL_mem n x hx; omega
      · have := undidL_mem n x hx; omega
    · simp at hx
theorem undidL_fall {d : DefD} {low : Int} : ∀ n, (undidL d low n).Pairwise (fun a b => b < a)
  | 0 => by simp [undidL]
  | n + 1 => by
    unfold undidL
    split
    · split
      · exact List.pairwise_cons.2 ⟨fun x hx => undidL_mem n x hx, undidL_fall n⟩
      · exact undidL_fall n
    · simp
theorem undidS_fall {d : DefD} {s : SagaD} (i : Nat) (h : i + 1 < (undidS d s).length) : (undidS d s)[i + 1] < (undidS d s)[i] := by
  have hp : (undidS d s).Pairwise (fun a b => b < a) := by
    unfold undidS
    split
    · simp
    · exact undidL_fall _
  exact List.pairwise_iff_getElem.1 hp i (i + 1) (by omega) h (by omega)
theorem undidL_top {d : DefD} : ∀ n, undidL d (undoB d n) n = []
  | 0 => rfl
  | n + 1 => by
    unfold undoB
    split
    · unfold undidL
      rw [if_neg (by omega)]
    · rename_i hn
      have := undoB_lt (d := d) n
      unfold undidL
      rw [if_pos (by omega), if_neg hn]
      exact undidL_top n
theorem undidL_succ {d : DefD} {low : Int} {n : Nat} : undidL d low (n + 1) = if low < (n : Int) then (if (stAt d n).hasUndo = true then (n : Int) :: undidL d low n else undidL d low n) else [] := rfl
theorem undidL_next {d : DefD} {a : Nat} (ha : (stAt d a).hasUndo = true) : ∀ n, a < n → undidL d (undoB d a) n = undidL d a n ++ [(a : Int)]
  | 0, h => by omega
  | n + 1, h => by
    have hlt := undoB_lt (d := d) a
    by_cases hc : a = n
    · subst hc
      unfold undidL
      rw [if_pos (by omega), if_pos ha, if_neg (by omega), undidL_top a]
      rfl
    · have ih := undidL_next ha n (by omega)
      rw [undidL_succ, undidL_succ, if_pos (show undoB d a < (n : Int) by omega), if_pos (show (a : Int) < (n : Int) by omega)]
      split
      · rw [ih]; rfl
      · exact ih
theorem undidL_neg {d : DefD} {low low' : Int} (h : low < 0) (h' : low' < 0) : ∀ n, undidL d low n = undidL d low' n
  | 0 => rfl
  | n + 1 => by
    rw [undidL_succ, undidL_succ, if_pos (show low < (n : Int) by omega), if_pos (show low' < (n : Int) by omega), undidL_neg h h' n]
theorem undidS_1 {d : DefD} {s : SagaD} (h : s.ph = 1 ∨ s.ph = 3) : undidS d s = [] := by
  unfold undidS
  rw [if_pos (.inr h)]
theorem undidS_at {d : DefD} {s : SagaD} (hr : sagaRt d s = true) (h : s.ph = 2 ∨ s.ph = 5) : undidS d s = undidL d s.at_ s.dn.toNat := by
  rw [undidS_go hr (by omega) (by omega), if_neg (by omega)]
theorem undidS_4 {d : DefD} {s : SagaD} (hr : sagaRt d s = true) (h : s.ph = 4) : undidS d s = undidL d (-1) s.dn.toNat := by
  rw [undidS_go hr (by omega) (by omega), if_pos h]
structure Goes (d : DefD) (s : SagaD) (o : OutD) : Prop where
  on : OnOk d s o.sg
  ow : o.ow = o.sg.sn
  cm : o.ow = true → o.cm = cmdOf o.sg
theorem goes_mk {d : DefD} {s : SagaD} {o : OutD} (ra : sagaRt d s = true) (way : s.ph = 1 ∨ s.ph = 2) (rb : sagaRt d o.sg = true) (ow : o.ow = o.sg.sn) (cm : o.sg.sn = true → o.cm = cmdOf o.sg)
    (hdn : o.sg.dn = s.dn ∨ (s.ph = 1 ∧ o.sg.dn = s.dn + 1)) (hback : s.ph = 2 → o.sg.ph ≠ 1 ∧ o.sg.ph ≠ 3) (hpv : s.ph = 1 → 0 ≤ d.pv → d.pv < s.dn → o.sg.ph ≠ 2 ∧ o.sg.ph ≠ 4)
    (more : ∃ rest, undidS d o.sg = undidS d s ++ rest ∧ rest.length ≤ 1) : Goes d s o := by
  refine ⟨⟨ra, rb, way, by omega, by omega, fun h => ?_, fun h0 h1 => ?_, more, fun i h => undidS_fall i h⟩, ow, fun h => cm (by rw [← ow]; exact h)⟩
  · obtain ⟨h1, h2⟩ := hback h
    exact ⟨h1, h2, by omega⟩
  · rcases way with h | h
    · exact hpv h h0 h1
    · have := (backOk_turned (sagaRt_2 ra h).1).1
      unfold turned at this
      simp only [Bool.and_eq_true, Bool.or_eq_true, decide_eq_true_eq, inB_true] at this
      omega
theorem goes_left {d : DefD} {s : SagaD} {o : OutD} {r : Int} (ra : sagaRt d s = true) (way : s.ph = 1 ∨ s.ph = 2) (hl : Left d r o)
    (hdn : o.sg.dn = s.dn ∨ (s.ph = 1 ∧ o.sg.dn = s.dn + 1)) (hback : s.ph = 2 → o.sg.ph ≠ 1 ∧ o.sg.ph ≠ 3) (hpv : s.ph = 1 → 0 ≤ d.pv → d.pv < s.dn → o.sg.ph ≠ 2 ∧ o.sg.ph ≠ 4)
    (more : ∃ rest, undidS d o.sg = undidS d s ++ rest ∧ rest.length ≤ 1) : Goes d s o := goes_mk ra way hl.rt hl.ow hl.cm hdn hback hpv more
theorem backS_form {d : DefD} {s : SagaD} {n now : Int} : (undoB d n.toNat < 0 ∧ backS d s n now = endS s 4) ∨ (0 ≤ undoB d n.toNat ∧ backS d s n now = sendS d ⟨2, s.dn, undoB d n.toNat, 1, false, 0⟩ now) := by
  unfold backS
  split
  · exact .inl ⟨by assumption, rfl⟩
  · exact .inr ⟨by omega, rfl⟩
/-- back at the first -/
theorem goes_turn {d : DefD} {s : SagaD} {now : Int} (ra : sagaRt d s = true) (hp : s.ph = 1) (ht : 0 ≤ now ∧ now ≤ 1000000000) (hpv : ¬ (0 ≤ d.pv ∧ d.pv < s.dn)) : Goes d s (backS d s s.dn now) := by
  obtain ⟨k1, k2, k3, -⟩ := sagaRt_1 ra hp
  obtain ⟨hd, -⟩ := sagaRt_way ra (.inl hp)
  have htn : turned d s = true := by
    unfold turned
    simp only [Bool.and_eq_true, inB_true, Bool.or_eq_true, decide_eq_true_eq]
    omega
  have hl : Left d 0 (backS d s s.dn now) := left_back hd ht (by omega) (Int.le_refl _) htn (by omega) (by omega)
  refine goes_left ra (.inl hp) hl ?_ (fun h => by omega) (fun _ h0 h1 => absurd ⟨h0, h1⟩ hpv) ?_
  · left
    rcases backS_form (d := d) (s := s) (n := s.dn) (now := now) with ⟨_, h⟩ | ⟨_, h⟩ <;> (rw [h]; rfl)
  · refine ⟨[], ?_, by simp⟩
    rw [undidS_1 (.inl hp), List.append_nil]
    have hrt := hl.rt
    rcases backS_form (d := d) (s := s) (n := s.dn) (now := now) with ⟨hu, h⟩ | ⟨hu, h⟩
    · rw [h] at hrt ⊢
      rw [undidS_4 hrt rfl]
      show undidL d (-1) s.dn.toNat = []
      rw [undidL_neg (low' := undoB d s.dn.toNat) (by omega) hu]
      exact undidL_top _
    · rw [h] at hrt ⊢
      rw [undidS_at hrt (.inl rfl)]
      exact undidL_top _
/-- one more is made undone -/
theorem goes_back {d : DefD} {s : SagaD} {now : Int} (ra : sagaRt d s = true) (hp : s.ph = 2) (ht : 0 ≤ now ∧ now ≤ 1000000000) : Goes d s (backS d s s.at_ now) := by
  obtain ⟨k1, -⟩ := sagaRt_2 ra hp
  obtain ⟨htn, k2, k3, k4⟩ := backOk_turned k1
  obtain ⟨hd, -⟩ := sagaRt_way ra (.inr hp)
  have hun : (stAt d s.at_).hasUndo = true := by unfold backOk at k1; simp only [Bool.and_eq_true] at k1; exact k1.2
  have hl : Left d 0 (backS d s s.at_ now) := left_back hd ht (by omega) (by omega) htn (by omega) (by omega)
  have hun2 : (stAt d (s.at_.toNat : Int)).hasUndo = true := by rw [Int.toNat_of_nonneg k2]; exact hun
  have hnx := undidL_next hun2 s.dn.toNat (by omega)
  refine goes_left ra (.inr hp) hl ?_ ?_ (fun h => by omega) ⟨[s.at_], ?_, by simp⟩
  · left
    rcases backS_form (d := d) (s := s) (n := s.at_) (now := now) with ⟨_, h⟩ | ⟨_, h⟩ <;> (rw [h]; rfl)
  · intro _
    rcases backS_form (d := d) (s := s) (n := s.at_) (now := now) with ⟨_, h⟩ | ⟨_, h⟩
    · rw [h]; exact ⟨by show (4 : Int) ≠ 1; decide, by show (4 : Int) ≠ 3; decide⟩
    · rw [h]; exact ⟨by show (2 : Int) ≠ 1; decide, by show (2 : Int) ≠ 3; decide⟩
  · have hrt := hl.rt
    rw [undidS_at ra (.inl hp)]
    rw [Int.toNat_of_nonneg k2] at hnx
    rcases backS_form (d := d) (s := s) (n := s.at_) (now := now) with ⟨hu, h⟩ | ⟨hu, h⟩
    · rw [h] at hrt ⊢
      rw [undidS_4 hrt rfl, ← hnx]
      exact undidL_neg (by omega) hu _
    · rw [h] at hrt ⊢
      rw [undidS_at hrt (.inl rfl), ← hnx]
      rfl
theorem goes_fail {d : DefD} {s : SagaD} {now : Int} (ra : sagaRt d s = true) (hsn : s.sn = true) (way : s.ph = 1 ∨ s.ph = 2) (ht : 0 ≤ now ∧ now ≤ 1000000000) : Goes d s (failS d s now) := by
  have hl := left_fail ra hsn way ht (Int.le_refl (rank s))
  unfold failS at *
  split
  · rename_i hlt
    rw [if_pos hlt] at hl
    refine goes_left ra way hl (.inl rfl) (fun h => by show s.ph ≠ 1 ∧ s.ph ≠ 3; omega) (fun h _ _ => by show s.ph ≠ 2 ∧ s.ph ≠ 4; omega) ⟨[], ?_, by simp⟩
    rw [List.append_nil]
    rcases way with h | h
    · rw [undidS_1 (.inl h)]; exact undidS_1 (.inl h)
    · rw [undidS_at ra (.inl h)]; exact undidS_at hl.rt (.inl h)
  · rename_i hlt
    rw [if_neg hlt] at hl
    split
    · rename_i hc
      rw [if_pos hc] at hl
      refine goes_left ra way hl (.inl rfl) (fun _ => ⟨by show (5 : Int) ≠ 1; decide, by show (5 : Int) ≠ 3; decide⟩) (fun _ _ _ => ⟨by show (5 : Int) ≠ 2; decide, by show (5 : Int) ≠ 4; decide⟩) ⟨[], ?_, by simp⟩
      rw [List.append_nil, undidS_at hl.rt (.inr rfl)]
      show undidL d s.at_ s.dn.toNat = _
      rcases way with h | h
      · obtain ⟨k1, k2, k3, -⟩ := sagaRt_1 ra h
        rw [undidS_1 (.inl h)]
        exact undidL_stop (by omega)
      · rw [undidS_at ra (.inl h)]
    · rename_i hc
      have hp1 : s.ph = 1 := by omega
      obtain ⟨k1, k2, k3, -⟩ := sagaRt_1 ra hp1
      exact goes_turn ra hp1 ht (fun h => hc (.inr ⟨h.1, by omega⟩))
theorem askedS_true {d : DefD} {s : SagaD} {now : Int} (h : askedS d s now = true) : sagaRt d s = true ∧ 0 ≤ now ∧ now ≤ 1000000000 := by
  unfold askedS at h
  simpa only [Bool.and_eq_true, inB_true] using h
theorem goes_reply {d : DefD} {s : SagaD} {c : CmdD} {good : Bool} {now : Int} (h : (replyS d s c good now).cd = 0) : Goes d s (replyS d s c good now) := by
  unfold replyS at *
  split
  · rename_i ha; rw [if_pos ha] at h; cases h
  · rename_i ha
    rw [if_neg ha] at h
    obtain ⟨ra, ht⟩ := askedS_true (d := d) (s := s) (now := now) (by simpa using ha)
    split
    · rename_i hb; rw [if_pos hb] at h; cases h
    · rename_i hb
      rw [if_neg hb] at h
      have hsn : s.sn = true := by cases hs : s.sn with | true => rfl | false => rw [hs] at hb; simp at hb
      have way := sagaRt_sent ra hsn
      split
      · exact goes_fail ra hsn way ht
      · split
        · rename_i hp; exact goes_back ra hp ht
        · rename_i hp
          have hp1 : s.ph = 1 := by omega
          obtain ⟨k1, k2, k3, -⟩ := sagaRt_1 ra hp1
          obtain ⟨hd, -⟩ := sagaRt_way ra way
          split
          · rename_i hl
            refine goes_mk ra way (sagaRt_mk hd ?_) rfl (fun h => by cases h) (.inr ⟨hp1, rfl⟩) (fun h => by omega) (fun _ _ _ => ⟨by show (3 : Int) ≠ 2; decide, by show (3 : Int) ≠ 4; decide⟩) ⟨[], ?_, by simp⟩
            · unfold sagaOk
              simp only
              rw [if_neg (by decide), if_neg (by decide), if_pos trivial]
              simp only [Bool.and_eq_true, decide_eq_true_eq, stillS]
              exact ⟨⟨⟨⟨by trivial, by trivial⟩, by trivial⟩, hl⟩, by trivial⟩
            · rw [undidS_1 (.inl hp1)]; exact undidS_1 (.inr rfl)
          · rename_i hl
            have q := DefD.ok_nums hd (s.dn + 1) (by omega) (by omega)
            refine goes_mk ra way (right_send hd ht (.inl ⟨rfl, rfl, by show 0 ≤ s.dn + 1; omega, by show s.dn + 1 < _; omega⟩) (by show (1 : Int) ≤ 1; omega) (by show (1 : Int) ≤ (stAt d (s.dn + 1)).tr; omega)) rfl (fun _ => rfl) (.inr ⟨hp1, rfl⟩) (fun h => by omega) (fun _ _ _ => ⟨by show (1 : Int) ≠ 2; decide, by show (1 : Int) ≠ 4; decide⟩) ⟨[], ?_, by simp⟩
            rw [undidS_1 (.inl hp1)]; exact undidS_1 (.inl rfl)
theorem goes_tick {d : DefD} {s : SagaD} {now : Int} (h : (tickS d s now).cd = 0) : Goes d s (tickS d s now) := by
  unfold tickS at *
  split
  · rename_i ha; rw [if_pos ha] at h; cases h
  · rename_i ha
    rw [if_neg ha] at h
    obtain ⟨ra, ht⟩ := askedS_true (d := d) (s := s) (now := now) (by simpa using ha)
    split
    · rename_i hb; rw [if_pos hb] at h; cases h
    · rename_i hb
      rw [if_neg hb] at h
      have hov : inB s.ph 3 5 = false := by cases hs : inB s.ph 3 5 with | false => rfl | true => rw [hs] at hb; simp at hb
      have way := sagaRt_tick ra hov
      split
      · rename_i hsn; exact goes_fail ra hsn way ht
      · rename_i hsn
        obtain ⟨hd, h0, h1, h2, h3, h4, h5, h6, h7, h8⟩ := sagaRt_way ra way
        have h9 := h8 (by simpa using hsn)
        have hs : sagaRt d (sendS d { s with tr := s.tr + 1 } now).sg = true := by
          refine right_send hd ht ?_ (by show 1 ≤ s.tr + 1; omega) (by show s.tr + 1 ≤ (stAt d s.at_).tr; omega)
          rcases way with hp | hp
          · obtain ⟨k1, k2, k3, -⟩ := sagaRt_1 ra hp
            exact .inl ⟨hp, k1, k2, k3⟩
          · exact .inr ⟨hp, (sagaRt_2 ra hp).1⟩
        refine goes_mk ra way hs rfl (fun _ => rfl) (.inl rfl) (fun h => by show s.ph ≠ 1 ∧ s.ph ≠ 3; omega) (fun h _ _ => by show s.ph ≠ 2 ∧ s.ph ≠ 4; omega) ⟨[], ?_, by simp⟩
        rw [List.append_nil]
        rcases way with h | h
        · rw [undidS_1 (.inl h)]; exact undidS_1 (.inl h)
        · rw [undidS_at ra (.inl h)]; exact undidS_at hs (.inl h)
theorem goes_cancel {d : DefD} {s : SagaD} {now : Int} (h : (cancelS d s now).cd = 0) : Goes d s (cancelS d s now) := by
  unfold cancelS at *
  split
  · rename_i ha; rw [if_pos ha] at h; cases h
  · rename_i ha
    rw [if_neg ha] at h
    obtain ⟨ra, ht⟩ := askedS_true (d := d) (s := s) (now := now) (by simpa using ha)
    split
    · rename_i hb; rw [if_pos hb] at h; cases h
    · rename_i hb
      have hp1 : s.ph = 1 := by
        by_cases hp : s.ph = 1
        · exact hp
        · exact absurd (.inl hp) hb
      obtain ⟨k1, -⟩ := sagaRt_1 ra hp1
      exact goes_turn ra hp1 ht (fun hh => hb (.inr ⟨hh.1, .inl (by omega)⟩))
end Go.Proofs.Ytlbiocfpkpcdhaa
