import Derived.Test.YtlbiocfpkpcdhaaSagaH
import Derived.Test.YtlbiocfpkpcdhaaSagaF
namespace Go.Proofs.Ytlbiocfpkpcdhaa
open Go.RowKit
set_option linter.unusedSimpArgs false
set_option linter.unusedVariables false
/-! a saga ends: the plain law -/
def rank (s : SagaD) : Int := if s.ph = 1 then s.at_ * 10 + s.tr else if s.ph = 2 then (s.dn + 1) * 10 + (s.dn - 1 - s.at_) * 10 + s.tr else 160
structure Ends (d : DefD) (now : Int) (i sends : Int) (x : OutD) : Prop where
  ok : d.ok = true
  tm : inB now 0 1000000000 = true
  cd : x.cd = 0
  rt : sagaRt d x.sg = true
  ow : x.ow = x.sg.sn
  cm : x.sg.sn = true → x.cm = cmdOf x.sg
  cnt : sends + (if x.sg.sn = true then 1 else 0) ≤ rank x.sg
  rnd : i ≤ 2 * sends
  rnd2 : x.sg.sn = false → inB x.sg.ph 3 5 = false → i + 1 ≤ 2 * sends
  pos : 0 ≤ i ∧ 0 ≤ sends
theorem undoB_has {d : DefD} : ∀ n : Nat, 0 ≤ undoB d n → (stAt d (undoB d n)).hasUndo = true
  | 0, h => by simp [undoB] at h
  | n + 1, h => by
    unfold undoB at *
    split
    · assumption
    · rename_i hn
      rw [if_neg hn] at h
      exact undoB_has n h
theorem sagaRt_mk {d : DefD} {s : SagaD} (hd : d.ok = true) (h : sagaOk d s = true) : sagaRt d s = true := by unfold sagaRt; rw [hd, h]; rfl
theorem sagaRt_ok {d : DefD} {s : SagaD} (h : sagaRt d s = true) : sagaOk d s = true := by unfold sagaRt at h; simp only [Bool.and_eq_true] at h; exact h.2
/-- sent anew, it is right -/
theorem right_send {d : DefD} {s : SagaD} {now : Int} (hd : d.ok = true) (ht : 0 ≤ now ∧ now ≤ 1000000000) (hp : (s.ph = 1 ∧ s.at_ = s.dn ∧ 0 ≤ s.at_ ∧ s.at_ < d.st.length) ∨ (s.ph = 2 ∧ backOk d s = true)) (h1 : 1 ≤ s.tr) (h2 : s.tr ≤ (stAt d s.at_).tr) : sagaRt d (sendS d s now).sg = true := by
  refine sagaRt_mk hd ?_
  have hr : 0 ≤ s.at_ ∧ s.at_ < d.st.length := by
    rcases hp with ⟨_, _, h3, h4⟩ | ⟨_, h3⟩
    · exact ⟨h3, h4⟩
    · exact backOk_range h3
  obtain ⟨-, -, -, -, q1, q2⟩ := DefD.ok_nums hd s.at_ hr.1 hr.2
  have how : owing d { s with sn := true, du := now + (stAt d s.at_).ti } = true := by
    unfold owing
    simp only [Bool.and_eq_true, inB_true]
    exact ⟨⟨h1, by simpa using h2⟩, by omega, by omega⟩
  unfold sagaOk sendS
  simp only
  rcases hp with ⟨hp, h3, h4, h5⟩ | ⟨hp, h3⟩
  · rw [if_pos hp]
    simp only [Bool.and_eq_true, decide_eq_true_eq, inB_true]
    exact ⟨⟨h3, h4, by omega⟩, how⟩
  · rw [if_neg (by omega), if_pos hp]
    simp only [Bool.and_eq_true]
    exact ⟨h3, how⟩
theorem right_end4 {d : DefD} {s : SagaD} (hd : d.ok = true) (h : turned d s = true) : sagaRt d (endS s 4).sg = true := by
  refine sagaRt_mk hd ?_
  unfold sagaOk endS
  simp only
  rw [if_neg (by decide), if_neg (by decide), if_neg (by decide), if_pos trivial]
  simp only [Bool.and_eq_true, decide_eq_true_eq, stillS]
  exact ⟨⟨⟨⟨by trivial, by trivial⟩, by trivial⟩, h⟩, by simp⟩
theorem right_back {d : DefD} {s : SagaD} {n now : Int} (hd : d.ok = true) (ht : 0 ≤ now ∧ now ≤ 1000000000) (h0 : 0 ≤ n) (hn : n ≤ s.dn) (h : turned d s = true) : sagaRt d (backS d s n now).sg = true := by
  unfold backS
  split
  · exact right_end4 hd h
  · rename_i hu
    have hlt := undoB_lt (d := d) n.toNat
    have hge : 0 ≤ undoB d n.toNat := by omega
    have hdn := h
    unfold turned at hdn
    simp only [Bool.and_eq_true, inB_true] at hdn
    have hb : backOk d ⟨2, s.dn, undoB d n.toNat, 1, false, 0⟩ = true := by
      unfold backOk
      simp only [Bool.and_eq_true, inB_true]
      exact ⟨⟨h, by omega, by omega⟩, undoB_has _ hge⟩
    have hr := DefD.ok_nums hd (undoB d n.toNat) hge (by omega)
    exact right_send hd ht (.inr ⟨rfl, hb⟩) (by show (1 : Int) ≤ 1; omega) (by show (1 : Int) ≤ (stAt d (undoB d n.toNat)).tr; omega)
theorem right_end5 {d : DefD} {s : SagaD} (hd : d.ok = true) (h : (s.at_ = s.dn ∧ 0 ≤ d.pv ∧ d.pv < s.at_ ∧ s.at_ < d.st.length) ∨ backOk d s = true) : sagaRt d (endS s 5).sg = true := by
  refine sagaRt_mk hd ?_
  unfold sagaOk endS
  simp only
  rw [if_neg (by decide), if_neg (by decide), if_neg (by decide), if_neg (by decide), if_pos trivial]
  simp only [Bool.and_eq_true, Bool.or_eq_true, decide_eq_true_eq, stillS, if_pos trivial, inB_true]
  refine ⟨⟨⟨by trivial, by trivial⟩, by trivial⟩, ?_⟩
  rcases h with ⟨h1, h2, h3, h4⟩ | h
  · exact .inl ⟨⟨h1, h2⟩, by omega, by omega⟩
  · exact .inr h
theorem sagaRt_1 {d : DefD} {s : SagaD} (h : sagaRt d s = true) (hp : s.ph = 1) : s.at_ = s.dn ∧ 0 ≤ s.at_ ∧ s.at_ < d.st.length ∧ owing d s = true := by
  have h1 := sagaRt_ok h
  unfold sagaOk at h1
  rw [if_pos hp] at h1
  simp only [Bool.and_eq_true, decide_eq_true_eq, inB_true] at h1
  exact ⟨h1.1.1, h1.1.2.1, by omega, h1.2⟩
theorem sagaRt_2 {d : DefD} {s : SagaD} (h : sagaRt d s = true) (hp : s.ph = 2) : backOk d s = true ∧ owing d s = true := by
  have h1 := sagaRt_ok h
  unfold sagaOk at h1
  rw [if_neg (by omega), if_pos hp] at h1
  simpa only [Bool.and_eq_true] using h1
theorem backOk_turned {d : DefD} {s : SagaD} (h : backOk d s = true) : turned d s = true ∧ 0 ≤ s.at_ ∧ s.at_ < s.dn ∧ s.dn < d.st.length := by
  unfold backOk at h
  simp only [Bool.and_eq_true, inB_true] at h
  have ht := h.1.1
  unfold turned at ht
  simp only [Bool.and_eq_true, inB_true] at ht
  exact ⟨h.1.1, h.1.2.1, by omega, by omega⟩
/-- what a round leaves: a saga in order, sent or not -/
structure Left (d : DefD) (r : Int) (o : OutD) : Prop where
  cd : o.cd = 0
  rt : sagaRt d o.sg = true
  ow : o.ow = o.sg.sn
  cm : o.sg.sn = true → o.cm = cmdOf o.sg
  cnt : r + (if o.sg.sn = true then 1 else 0) ≤ rank o.sg
theorem left_end {d : DefD} {s : SagaD} {ph r : Int} (hp : ph ≠ 1) (hp2 : ph ≠ 2) (hr : sagaRt d (endS s ph).sg = true) (h : r ≤ 160) : Left d r (endS s ph) := by
  refine ⟨rfl, hr, rfl, fun h => (by cases h), ?_⟩
  show r + 0 ≤ rank ⟨ph, _, _, _, _, _⟩
  unfold rank
  simp only
  rw [if_neg hp, if_neg hp2]
  omega
theorem left_back {d : DefD} {s : SagaD} {n now r : Int} (hd : d.ok = true) (ht : 0 ≤ now ∧ now ≤ 1000000000) (h0 : 0 ≤ n) (hn : n ≤ s.dn) (h : turned d s = true) (hr : r ≤ 160) (hc : r + 1 ≤ (s.dn + 1) * 10 + (s.dn - n) * 10 + 1) : Left d r (backS d s n now) := by
  have hR := right_back (s := s) hd ht h0 hn h
  unfold backS at *
  split
  · rename_i hu
    rw [if_pos hu] at hR
    exact left_end (by decide) (by decide) hR hr
  · rename_i hu
    rw [if_neg hu] at hR
    have hlt := undoB_lt (d := d) n.toNat
    refine ⟨rfl, hR, rfl, fun _ => rfl, ?_⟩
    show r + 1 ≤ rank ⟨2, s.dn, undoB d n.toNat, 1, true, _⟩
    unfold rank
    simp only
    rw [if_neg (by decide), if_pos trivial]
    omega
theorem left_fail {d : DefD} {s : SagaD} {now r : Int} (hs : sagaRt d s = true) (hsn : s.sn = true) (hp : s.ph = 1 ∨ s.ph = 2) (ht : 0 ≤ now ∧ now ≤ 1000000000) (hr : r ≤ rank s) : Left d r (failS d s now) := by
  obtain ⟨hd, h0, h1, h2, h3, h4, h5, h6, h7, -⟩ := sagaRt_way hs hp
  obtain ⟨⟨_, _⟩, _⟩ := (DefD.ok_steps hd).2
  obtain ⟨q1, q2, q3, q4, -, -⟩ := DefD.ok_nums hd s.at_ h0 h1
  have hr160 : rank s ≤ 160 := by
    unfold rank
    rcases hp with hp | hp
    · rw [if_pos hp]; omega
    · have := (backOk_turned (sagaRt_2 hs hp).1)
      rw [if_neg (by omega), if_pos hp]; omega
  unfold failS
  split
  · rename_i hlt
    have hw := waitS_bound (p := stAt d s.at_) (n := s.tr)
    rw [waitS_ok (stAt_nums hd _ h0 h1) h4 (by omega)] at hw
    have how : ∀ du : Int, 0 ≤ du → du ≤ 2000000000 → owing d { s with sn := false, du := du } = true := by
      intro du h8 h9
      unfold owing
      simp only [Bool.and_eq_true, inB_true]
      exact ⟨⟨h4, by simp; omega⟩, by omega, by omega⟩
    refine ⟨rfl, sagaRt_mk hd ?_, rfl, fun h => (by cases h), ?_⟩
    · unfold sagaOk
      simp only
      rcases hp with hp | hp
      · obtain ⟨k1, k2, k3, -⟩ := sagaRt_1 hs hp
        rw [if_pos hp]
        simp only [Bool.and_eq_true, decide_eq_true_eq, inB_true]
        exact ⟨⟨k1, k2, by omega⟩, how _ (by omega) (by omega)⟩
      · obtain ⟨k1, -⟩ := sagaRt_2 hs hp
        rw [if_neg (by omega), if_pos hp]
        simp only [Bool.and_eq_true]
        exact ⟨k1, how _ (by omega) (by omega)⟩
    · show r + 0 ≤ rank { s with sn := false, du := _ }
      show r + 0 ≤ rank s
      omega
  · split
    · rename_i hc
      refine left_end (by decide) (by decide) (right_end5 hd ?_) (by omega)
      rcases hc with hc | hc
      · exact .inr (sagaRt_2 hs hc).1
      · rcases hp with hp | hp
        · obtain ⟨k1, k2, k3, -⟩ := sagaRt_1 hs hp
          exact .inl ⟨k1, hc.1, hc.2, k3⟩
        · exact .inr (sagaRt_2 hs hp).1
    · rename_i hc
      have hp1 : s.ph = 1 := by
        rcases hp with hp | hp
        · exact hp
        · exact absurd (.inl hp) hc
      obtain ⟨k1, k2, k3, -⟩ := sagaRt_1 hs hp1
      have hrk : rank s = s.at_ * 10 + s.tr := by unfold rank; rw [if_pos hp1]
      refine left_back hd ht (by omega) (Int.le_refl _) ?_ (by omega) (by omega)
      unfold turned
      simp only [Bool.and_eq_true, inB_true, Bool.or_eq_true, decide_eq_true_eq]
      refine ⟨⟨by omega, by omega⟩, ?_⟩
      by_cases hpv : d.pv < 0
      · exact .inl hpv
      · exact .inr (by
          have : ¬ d.pv < s.at_ := fun h => hc (.inr ⟨by omega, h⟩)
          omega)
theorem rank_160 {d : DefD} {s : SagaD} (hs : sagaRt d s = true) : rank s ≤ 160 := by
  by_cases hp : s.ph = 1 ∨ s.ph = 2
  · obtain ⟨hd, h0, h1, h2, h3, h4, h5, h6, h7, -⟩ := sagaRt_way hs hp
    obtain ⟨⟨_, _⟩, _⟩ := (DefD.ok_steps hd).2
    obtain ⟨q1, q2, q3, q4, -, -⟩ := DefD.ok_nums hd s.at_ h0 h1
    unfold rank
    rcases hp with hp | hp
    · rw [if_pos hp]; omega
    · have := (backOk_turned (sagaRt_2 hs hp).1)
      rw [if_neg (by omega), if_pos hp]; omega
  · unfold rank
    rw [if_neg (fun h => hp (.inl h)), if_neg (fun h => hp (.inr h))]
    omega
theorem Ends.next {d : DefD} {now i sends : Int} {x o : OutD} (h : Ends d now i sends x) (ho : Left d (sends + if x.sg.sn = true then 1 else 0) o) (hov : inB x.sg.ph 3 5 = false) (hsn : x.sg.sn = false → o.sg.sn = true) : Ends d now (i + 1) (sends + if x.sg.sn = true then 1 else 0) o := by
  have h1 := h.rnd
  have h2 := h.rnd2
  have h3 := h.pos
  refine ⟨h.ok, h.tm, ho.cd, ho.rt, ho.ow, ho.cm, ho.cnt, ?_, ?_, ?_⟩
  · cases hx : x.sg.sn with
    | true => simp; omega
    | false => have := h2 hx hov; simp; omega
  · intro a b
    cases hx : x.sg.sn with
    | true => simp; omega
    | false => rw [hsn hx] at a; cases a
  · split <;> omega
/-- a reply -/
theorem Ends.reply {d : DefD} {now i sends : Int} {x : OutD} (h : Ends d now i sends x) (hov : inB x.sg.ph 3 5 = false) (hsn : x.sg.sn = true) (good : Bool) : Ends d now (i + 1) (sends + 1) (replyS d x.sg x.cm good now) := by
  have hp := sagaRt_tick h.rt hov
  have ht := inB_true.1 h.tm
  have hc := h.cnt
  rw [hsn, if_pos rfl] at hc
  have := h.next (o := replyS d x.sg x.cm good now) (by
    rw [hsn, if_pos rfl]
    obtain ⟨hd, h0, h1, h2, h3, h4, h5, h6, h7, -⟩ := sagaRt_way h.rt hp
    obtain ⟨⟨_, _⟩, _⟩ := (DefD.ok_steps hd).2
    obtain ⟨q1, q2, q3, q4, -, -⟩ := DefD.ok_nums hd x.sg.at_ h0 h1
    have hrk := rank_160 h.rt
    unfold replyS
    rw [if_neg (by unfold askedS; rw [h.rt, h.tm]; simp), if_neg (by rw [hsn, h.cm hsn]; simp [cmdEq])]
    split
    · exact left_fail h.rt hsn hp ht hc
    · split
      · rename_i hp2
        obtain ⟨k1, -⟩ := sagaRt_2 h.rt hp2
        obtain ⟨k2, k3, k4, k5⟩ := backOk_turned k1
        have hrk2 : rank x.sg = (x.sg.dn + 1) * 10 + (x.sg.dn - 1 - x.sg.at_) * 10 + x.sg.tr := by unfold rank; rw [if_neg (by omega), if_pos hp2]
        exact left_back hd ht k3 (by omega) k2 (by omega) (by omega)
      · rename_i hp2
        have hp1 : x.sg.ph = 1 := by rcases hp with hp | hp; exact hp; exact absurd hp hp2
        obtain ⟨k1, k2, k3, -⟩ := sagaRt_1 h.rt hp1
        have hrk1 : rank x.sg = x.sg.at_ * 10 + x.sg.tr := by unfold rank; rw [if_pos hp1]
        split
        · rename_i hl
          refine ⟨rfl, sagaRt_mk hd ?_, rfl, fun h => (by cases h), ?_⟩
          · unfold sagaOk
            simp only
            rw [if_neg (by decide), if_neg (by decide), if_pos trivial]
            simp only [Bool.and_eq_true, decide_eq_true_eq, stillS]
            exact ⟨⟨⟨⟨by trivial, by trivial⟩, by trivial⟩, hl⟩, by trivial⟩
          · show _ + 0 ≤ rank ⟨3, _, _, _, _, _⟩
            unfold rank
            simp only
            rw [if_neg (by decide), if_neg (by decide)]
            omega
        · rename_i hl
          have q := DefD.ok_nums hd (x.sg.dn + 1) (by omega) (by omega)
          refine ⟨rfl, right_send hd ht (.inl ⟨rfl, rfl, by show 0 ≤ x.sg.dn + 1; omega, by show x.sg.dn + 1 < _; omega⟩) (by show (1 : Int) ≤ 1; omega) (by show (1 : Int) ≤ (stAt d (x.sg.dn + 1)).tr; omega), rfl, fun _ => rfl, ?_⟩
          show _ + 1 ≤ rank ⟨1, x.sg.dn + 1, x.sg.dn + 1, 1, true, _⟩
          unfold rank
          simp only
          rw [if_pos trivial]
          omega) hov (fun h => by rw [hsn] at h; cases h)
  rw [hsn, if_pos rfl] at this
  exact this
/-- a tick, where the time has not run out -/
theorem Ends.tick {d : DefD} {now i sends : Int} {x : OutD} (h : Ends d now i sends x) (hov : inB x.sg.ph 3 5 = false) (hdu : x.sg.du ≤ 1000000000) : Ends d now (i + 1) (sends + if x.sg.sn = true then 1 else 0) (tickS d x.sg x.sg.du) := by
  have hp := sagaRt_tick h.rt hov
  have hc := h.cnt
  obtain ⟨hd, h0, h1, h2, h3, h4, h5, h6, h7, h8⟩ := sagaRt_way h.rt hp
  have htm : inB x.sg.du 0 1000000000 = true := inB_true.2 ⟨h6, hdu⟩
  have e : tickS d x.sg x.sg.du = if x.sg.sn = true then failS d x.sg x.sg.du else sendS d { x.sg with tr := x.sg.tr + 1 } x.sg.du := by
    unfold tickS
    rw [if_neg (by unfold askedS; rw [h.rt, htm]; simp), if_neg (by rw [hov]; simp)]
  cases hsn : x.sg.sn with
  | true =>
    have := h.next (o := tickS d x.sg x.sg.du) (by
      rw [e, hsn, if_pos rfl, if_pos rfl]
      rw [hsn, if_pos rfl] at hc
      exact left_fail h.rt hsn hp ⟨h6, hdu⟩ hc) hov (fun h => by rw [hsn] at h; cases h)
    rw [hsn] at this
    exact this
  | false =>
    have h9 := h8 hsn
    have hsd : tickS d x.sg x.sg.du = sendS d { x.sg with tr := x.sg.tr + 1 } x.sg.du := by rw [e, hsn]; simp
    have := h.next (o := tickS d x.sg x.sg.du) (by
      rw [hsd, hsn]
      rw [hsn] at hc
      simp only [if_neg (show ¬ (false = true) from by decide)] at hc ⊢
      refine ⟨rfl, right_send hd ⟨h6, hdu⟩ ?_ (by show 1 ≤ x.sg.tr + 1; omega) (by show x.sg.tr + 1 ≤ (stAt d x.sg.at_).tr; omega), rfl, fun _ => rfl, ?_⟩
      · rcases hp with hp | hp
        · obtain ⟨k1, k2, k3, -⟩ := sagaRt_1 h.rt hp
          exact .inl ⟨hp, k1, k2, k3⟩
        · exact .inr ⟨hp, (sagaRt_2 h.rt hp).1⟩
      · show _ + 1 ≤ rank { x.sg with tr := x.sg.tr + 1, sn := true, du := _ }
        unfold rank at hc ⊢
        simp only
        rcases hp with hp | hp
        · rw [if_pos hp] at hc ⊢; omega
        · rw [if_neg (by omega), if_pos hp] at hc ⊢; omega) hov (fun _ => by rw [hsd]; rfl)
    rw [hsn] at this
    exact this
/-- a tick where the time has run out -/
theorem tick_late {d : DefD} {x : OutD} (hdu : 1000000000 < x.sg.du) : (tickS d x.sg x.sg.du) = codeS 1 := by
  have htm : inB x.sg.du 0 1000000000 = false := by
    cases h : inB x.sg.du 0 1000000000 with
    | false => rfl
    | true => have := inB_true.1 h; omega
  unfold tickS askedS
  rw [htm]
  simp
theorem Ends.start {d : DefD} {now : Int} (hd : d.ok = true) (ht : inB now 0 1000000000 = true) : Ends d now 0 0 (startS d now) := by
  have e : startS d now = sendS d ⟨1, 0, 0, 1, false, 0⟩ now := by unfold startS; rw [hd, ht]; rfl
  obtain ⟨⟨_, _⟩, _⟩ := (DefD.ok_steps hd).2
  have q := DefD.ok_nums hd 0 (by omega) (by omega)
  rw [e]
  exact ⟨hd, ht, rfl, right_send hd (inB_true.1 ht) (.inl ⟨rfl, rfl, Int.le_refl _, by show (0 : Int) < _; omega⟩) (by show (1 : Int) ≤ 1; omega) (by show (1 : Int) ≤ (stAt d 0).tr; omega), rfl, fun _ => rfl, by show (0 : Int) + 1 ≤ rank ⟨1, 0, 0, 1, true, _⟩; unfold rank; simp only; rw [if_pos trivial]; omega, by omega, fun h => (by cases h), by omega⟩
theorem Ends.over {d : DefD} {now i sends : Int} {x : OutD} (h : Ends d now i sends x) : sends ≤ 160 := by
  have h1 := h.cnt
  have h2 := rank_160 h.rt
  split at h1 <;> omega
theorem Ends.rounds {d : DefD} {now i sends : Int} {x : OutD} (h : Ends d now i sends x) : i ≤ 320 := by
  have := h.over
  have := h.rnd
  omega
end Go.Proofs.Ytlbiocfpkpcdhaa
