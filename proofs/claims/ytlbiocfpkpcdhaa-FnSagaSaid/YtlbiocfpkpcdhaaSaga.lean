import Derived.Test.YtlbiocfpkpcdhaaDefs
import Derived.Test.YtlbiocfpkpcdhaaBlock
namespace Go.Proofs.Ytlbiocfpkpcdhaa
open Go.RowKit
set_option linter.unusedSimpArgs false
set_option linter.unusedVariables false

def stepV (s : StepD) : Value := .agg #[.string s.nm, .string s.dd, .string s.ud, .int .i64 s.tr, .int .i64 s.bo, .int .i64 s.ti]
def defV (d : DefD) (A : Option Addr) (cap : Nat) : Value := .agg #[.string d.nm, .slice A d.st.length cap, .int .i64 d.pv]
structure SagaD where
  ph : Int
  dn : Int
  at_ : Int
  tr : Int
  sn : Bool
  du : Int
structure CmdD where
  st : Int
  un : Bool
  ty : Int
structure OutD where
  sg : SagaD
  cm : CmdD
  ow : Bool
  cd : Int
def sagaV (s : SagaD) : Value := .agg #[.int .i64 s.ph, .int .i64 s.dn, .int .i64 s.at_, .int .i64 s.tr, .bool s.sn, .int .i64 s.du]
def cmdV (c : CmdD) : Value := .agg #[.int .i64 c.st, .bool c.un, .int .i64 c.ty]
def outV (o : OutD) : Value := .agg #[.int .i64 o.sg.ph, .int .i64 o.sg.dn, .int .i64 o.sg.at_, .int .i64 o.sg.tr, .bool o.sg.sn, .int .i64 o.sg.du, .int .i64 o.cm.st, .bool o.cm.un, .int .i64 o.cm.ty, .bool o.ow, .int .i64 o.cd]
attribute [go_sem] stepV defV sagaV cmdV outV
def StepD.zero : StepD := ⟨⟨#[]⟩, ⟨#[]⟩, ⟨#[]⟩, 0, 0, 0⟩
def stAt (d : DefD) (i : Int) : StepD := d.st.getD i.toNat StepD.zero
def StepD.hasUndo (s : StepD) : Bool := !decide (s.ud.toList = [])
theorem stAt_eq {d : DefD} {k : Nat} (h : k < d.st.length) : stAt d (k : Int) = d.st[k] := by
  unfold stAt; rw [Int.toNat_natCast, List.getD_eq_getElem?_getD, List.getElem?_eq_getElem h]; rfl
/-- Memory holds the def's steps. -/
structure DefAt (w : World) (d : DefD) (A : Option Addr) (cap : Nat) : Prop where
  nm : d.nm.size ≤ 140737488355328
  fit : StepsFit d.st
  row : RowAt w A 6 StepD.cells d.st
  cap : d.st.length ≤ cap
theorem DefAt.below {w w' : World} {d : DefD} {A : Option Addr} {cap : Nat} (h : DefAt w d A cap) (hb : Below w.heap.size w w') : DefAt w' d A cap := ⟨h.nm, h.fit, h.row.below hb, h.cap⟩
theorem DefAt.alloc {w : World} {d : DefD} {A : Option Addr} {cap : Nat} (h : DefAt w d A cap) (o : Obj) : DefAt (w.alloc o) d A cap := h.below ((Below.refl _ _).alloc (Nat.le_refl _) o)
theorem DefAt.step {w : World} {d : DefD} {A : Option Addr} {cap : Nat} (h : DefAt w d A cap) (i : Int) (h0 : 0 ≤ i) (h1 : i < d.st.length) :
    ∃ b o, A = some ⟨b, o, none⟩ ∧ b < w.heap.size ∧ w.cell? ⟨b, o + i.toNat * 6, none⟩ = some (.string (stAt d i).nm) ∧ w.cell? ⟨b, o + i.toNat * 6 + 1, none⟩ = some (.string (stAt d i).dd) ∧
      w.cell? ⟨b, o + i.toNat * 6 + 2, none⟩ = some (.string (stAt d i).ud) ∧ w.cell? ⟨b, o + i.toNat * 6 + 3, none⟩ = some (.int .i64 (stAt d i).tr) ∧
      w.cell? ⟨b, o + i.toNat * 6 + 4, none⟩ = some (.int .i64 (stAt d i).bo) ∧ w.cell? ⟨b, o + i.toNat * 6 + 5, none⟩ = some (.int .i64 (stAt d i).ti) := by
  obtain ⟨k, rfl⟩ := Int.eq_ofNat_of_zero_le h0
  have hk : k < d.st.length := by omega
  obtain ⟨b, o, hA, hc⟩ := h.row k d.st[k] (List.getElem?_eq_getElem hk)
  rw [stAt_eq hk, Int.toNat_natCast]
  have c0 := hc 0 _ rfl
  simp only [Nat.add_zero] at c0
  exact ⟨b, o, hA, World.block_lt_of_cell? w _ c0, c0, hc 1 _ rfl, hc 2 _ rfl, hc 3 _ rfl, hc 4 _ rfl, hc 5 _ rfl⟩

/-! what they come to, in plain words -/
def owing (d : DefD) (s : SagaD) : Bool := inB s.tr 1 (if s.sn then (stAt d s.at_).tr else (stAt d s.at_).tr - 1) && inB s.du 0 2000000000
def turned (d : DefD) (s : SagaD) : Bool := inB s.dn 0 (d.st.length - 1) && (decide (d.pv < 0) || decide (s.dn ≤ d.pv))
def backOk (d : DefD) (s : SagaD) : Bool := turned d s && inB s.at_ 0 (s.dn - 1) && (stAt d s.at_).hasUndo
def stillS (s : SagaD) : Bool := decide (s.tr = 0) && decide (s.du = 0) && !s.sn
def sagaOk (d : DefD) (s : SagaD) : Bool :=
  if s.ph = 1 then decide (s.at_ = s.dn) && inB s.at_ 0 (d.st.length - 1) && owing d s
  else if s.ph = 2 then backOk d s && owing d s
  else if s.ph = 3 then stillS s && decide (s.dn = d.st.length) && decide (s.at_ = 0)
  else if s.ph = 4 then stillS s && turned d s && decide (s.at_ = 0)
  else if s.ph = 5 then stillS s && ((decide (s.at_ = s.dn) && decide (0 ≤ d.pv) && inB s.at_ (d.pv + 1) (d.st.length - 1)) || backOk d s)
  else false
def cmdOf (s : SagaD) : CmdD := ⟨s.at_, decide (s.ph = 2), s.tr⟩
def sendS (d : DefD) (s : SagaD) (now : Int) : OutD :=
  let s' : SagaD := { s with sn := true, du := now + (stAt d s.at_).ti }
  ⟨s', cmdOf s', true, 0⟩
def endS (s : SagaD) (ph : Int) : OutD := ⟨⟨ph, s.dn, if ph = 5 then s.at_ else 0, 0, false, 0⟩, ⟨0, false, 0⟩, false, 0⟩
/-- the greatest step below n that has an Undo, or -1 -/
def undoB (d : DefD) : Nat → Int
  | 0 => -1
  | n + 1 => if (stAt d n).hasUndo then n else undoB d n

/-! the walks -/
theorem overImpl_any (s : SagaD) (w : World) :
    Calls Try.prog 16 #[sagaV s] w fun e w' => e = .returned (.bool (inB s.ph 3 5)) ∧ Below w.heap.size w w' := by
  unfold sagaV
  go_enter Try.func16, Try.ntmps16
  go_wp2_with (go_at_call 66; refine (within_any _ _ _ _).mono ?_; rintro e w' ⟨rfl, rfl⟩)
  go_ret
  exact ⟨rfl, (Below.refl _ _).alloc (Nat.le_refl _) _⟩
theorem turnedImpl_any (d : DefD) (A : Option Addr) (cap : Nat) (s : SagaD) (w : World) (h : DefAt w d A cap) :
    Calls Try.prog 159 #[defV d A cap, sagaV s] w fun e w' => e = .returned (.bool (turned d s)) ∧ Below w.heap.size w w' := by
  have hl := h.fit.1
  unfold sagaV defV
  go_enter Try.func159, Try.ntmps159
  go_wp2_with (go_at_call 66; refine (within_any _ _ _ _).mono ?_; rintro e w' ⟨rfl, rfl⟩)
  all_goals go_ret
  all_goals exact ⟨ret_bool (by unfold turned; simp_all), ((Below.refl _ _).alloc (Nat.le_refl _) _).alloc (by simp) _⟩
theorem backOkImpl_any (d : DefD) (A : Option Addr) (cap : Nat) (s : SagaD) (w : World) (h : DefAt w d A cap) :
    Calls Try.prog 158 #[defV d A cap, sagaV s] w fun e w' => e = .returned (.bool (backOk d s)) ∧ Below w.heap.size w w' := by
  have hl := h.fit.1
  have H := Lib.hid h
  clear h
  cases ht : turned d s
  · have HT := Lib.hid ht
    clear ht
    unfold sagaV defV
    go_enter Try.func158, Try.ntmps158
    go_wp2_with (first
      | (go_at_call 159; refine (turnedImpl_any d A cap s _ ((H.out.alloc _).alloc _)).mono ?_; rintro e w1 ⟨rfl, hb1⟩; rw [HT.out]))
    go_ret
    exact ⟨ret_bool (by unfold backOk; rw [HT.out]; rfl), bel2t hb1⟩
  · have hdn : inB s.dn 0 (d.st.length - 1) = true := by unfold turned at ht; simp_all
    obtain ⟨hd1, hd2⟩ := inB_true.1 hdn
    clear hdn
    have HT := Lib.hid ht
    clear ht
    cases hat : inB s.at_ 0 (s.dn - 1)
    · have HAT := Lib.hid hat
      clear hat
      unfold sagaV defV
      go_enter Try.func158, Try.ntmps158
      go_wp2_with (first
        | (go_at_call 159; refine (turnedImpl_any d A cap s _ ((H.out.alloc _).alloc _)).mono ?_; rintro e w1 ⟨rfl, hb1⟩; obtain ⟨hc, hf⟩ := bcell hb1; rw [HT.out])
        | (go_at_call 66; refine (within_any _ _ _ _).mono ?_; rintro e w' ⟨rfl, rfl⟩; rw [HAT.out]))
      go_ret
      exact ⟨ret_bool (by unfold backOk; rw [HT.out, HAT.out]; rfl), bel2t hb1⟩
    · obtain ⟨ha1, ha2⟩ := inB_true.1 hat
      have HAT := Lib.hid hat
      clear hat
      obtain ⟨b, o, rfl, hbl, -, -, c2, -⟩ := H.out.step s.at_ ha1 (by omega)
      have hbl1 : b < w.heap.size + 1 := by omega
      have hbl2 : b < w.heap.size + 1 + 1 := by omega
      unfold sagaV defV
      go_enter Try.func158, Try.ntmps158
      go_wp2_with (first
        | (go_at_call 159; refine (turnedImpl_any d _ cap s _ ((H.out.alloc _).alloc _)).mono ?_; rintro e w1 ⟨rfl, hb1⟩; obtain ⟨hc, hf⟩ := bcell hb1; rw [HT.out])
        | (go_at_call 66; refine (within_any _ _ _ _).mono ?_; rintro e w' ⟨rfl, rfl⟩; rw [HAT.out]))
      go_ret
      refine ⟨ret_bool ?_, bel2t hb1⟩
      unfold backOk StepD.hasUndo
      rw [HT.out, HAT.out]
      simp [isEmpty_dec]
theorem owingImpl_any (d : DefD) (A : Option Addr) (cap : Nat) (s : SagaD) (w : World) (h : DefAt w d A cap) (ha : 0 ≤ s.at_) (ha2 : s.at_ < d.st.length) (ht : -9223372036854775808 < (stAt d s.at_).tr) (ht2 : (stAt d s.at_).tr ≤ 9223372036854775807) :
    Calls Try.prog 157 #[defV d A cap, sagaV s] w fun e w' => e = .returned (.bool (owing d s)) ∧ Below w.heap.size w w' := by
  have hl := h.fit.1
  obtain ⟨b, o, rfl, hbl, -, -, -, c3, -⟩ := h.step s.at_ ha ha2
  clear h
  unfold sagaV defV
  cases hs : s.sn
  all_goals
    go_enter Try.func157, Try.ntmps157
    go_wp2_with (go_at_call 66; refine (within_any _ _ _ _).mono ?_; rintro e w' ⟨rfl, rfl⟩)
    all_goals go_ret
    all_goals exact ⟨ret_bool (by unfold owing; simp_all), bel2 _ _⟩

/-- A right saga's numbers lie in int64. -/
def SagaD.wf (s : SagaD) : Prop := -9223372036854775808 ≤ s.dn ∧ s.dn ≤ 9223372036854775807 ∧ -9223372036854775808 ≤ s.at_ ∧ s.at_ ≤ 9223372036854775807 ∧ -9223372036854775808 ≤ s.tr ∧ s.tr ≤ 9223372036854775807
/-- The numbers of the steps are so that none passes int64. -/
def DefD.nice (d : DefD) : Prop := ∀ i : Int, -9223372036854775808 < (stAt d i).tr ∧ (stAt d i).tr ≤ 9223372036854775807
theorem DefD.ok_steps {d : DefD} (h : d.ok = true) : nameOk d.nm = true ∧ (1 ≤ d.st.length ∧ d.st.length ≤ 8) ∧ (-1 ≤ d.pv ∧ d.pv < d.st.length) ∧ ∀ i (hi : i < d.st.length), stepAtOk d.st i hi = true := by
  unfold DefD.ok at h
  simp only [Bool.and_eq_true, inB_true] at h
  obtain ⟨⟨⟨h0, h1⟩, h2⟩, h3⟩ := h
  refine ⟨h0, by omega, by omega, fun i hi => ?_⟩
  rw [List.all_eq_true] at h3
  have := h3 i (List.mem_range.2 hi)
  rw [List.getElem?_eq_getElem hi] at this
  exact this
theorem DefD.ok_nums {d : DefD} (h : d.ok = true) (i : Int) (h0 : 0 ≤ i) (h1 : i < d.st.length) : 1 ≤ (stAt d i).tr ∧ (stAt d i).tr ≤ 10 ∧ 0 ≤ (stAt d i).bo ∧ (stAt d i).bo ≤ 1000 ∧ 1 ≤ (stAt d i).ti ∧ (stAt d i).ti ≤ 1000 := by
  obtain ⟨k, rfl⟩ := Int.eq_ofNat_of_zero_le h0
  have hk : k < d.st.length := by omega
  have := (DefD.ok_steps h).2.2.2 k hk
  rw [stAt_eq hk]
  unfold stepAtOk StepD.ok StepD.nums at this
  simp only [Bool.and_eq_true, inB_true] at this
  omega
theorem DefD.ok_nice {d : DefD} (h : d.ok = true) : d.nice := by
  intro i
  by_cases hi : i.toNat < d.st.length
  · have := DefD.ok_nums h i.toNat (by omega) (by omega)
    have e : stAt d i = stAt d (i.toNat : Int) := by unfold stAt; rw [Int.toNat_natCast]
    rw [e]; omega
  · have : stAt d i = StepD.zero := by unfold stAt; rw [List.getD_eq_getElem?_getD, List.getElem?_eq_none (by omega)]; rfl
    rw [this]; simp [StepD.zero]
theorem inB_lt {n m : Int} (h : inB n 0 (m - 1) = true) : n < m := by have := inB_true.1 h; omega
theorem inB_ge {n m : Int} (h : inB n 0 (m - 1) = true) : 0 ≤ n := (inB_true.1 h).1
theorem backOk_range {d : DefD} {s : SagaD} (h : backOk d s = true) : 0 ≤ s.at_ ∧ s.at_ < d.st.length := by
  unfold backOk turned at h
  simp only [Bool.and_eq_true, inB_true] at h
  omega
set_option maxRecDepth 100000 in
set_option maxHeartbeats 1000000 in
theorem sagaRightImpl_1 (d : DefD) (A : Option Addr) (cap : Nat) (s : SagaD) (w : World) (h : DefAt w d A cap) (hd : d.ok = true) (hp : s.ph = 1) :
    Calls Try.prog 152 #[defV d A cap, sagaV s] w fun e w' => e = .returned (.bool (sagaOk d s)) ∧ Below w.heap.size w w' := by
  have hl := h.fit.1
  have HN := Lib.hid (DefD.ok_nice hd)
  have H := Lib.hid h
  obtain ⟨-, ⟨hn1, hn2⟩, ⟨hp1, hp2⟩, -⟩ := DefD.ok_steps hd
  clear h hd
  have HP := Lib.hid hp
  unfold sagaV defV
  rw [hp]
  clear hp
  go_enter Try.func152, Try.ntmps152
  go_wp2_with (first
      | (go_at_call 66; refine (within_any _ _ _ _).mono ?_; rintro e w' ⟨rfl, rfl⟩)
      | (go_at_call 157; refine (owingImpl_any d A cap ⟨_, _, _, _, _, _⟩ _ ((H.out.alloc _).alloc _) (inB_ge ‹inB _ 0 (_ - 1) = true›) (inB_lt ‹inB _ 0 (_ - 1) = true›) (HN.out _).1 (HN.out _).2).mono ?_; rintro e w2 ⟨rfl, hb2⟩))
  all_goals go_ret
  all_goals refine ⟨ret_bool ?_, by first | exact bel2 _ _ | exact bel2t (belt hb1 hb2) | exact bel2t ‹Below _ _ _›⟩
  all_goals have hp := HP.out
  all_goals obtain ⟨ph, dn, at_, tr, sn, du⟩ := s
  all_goals simp only at hp
  all_goals subst hp
  all_goals simp_all [sagaOk, stillS, backOk, turned, owing, int_beq]
  all_goals grind
set_option maxRecDepth 100000 in
set_option maxHeartbeats 1000000 in
theorem sagaRightImpl_2 (d : DefD) (A : Option Addr) (cap : Nat) (s : SagaD) (w : World) (h : DefAt w d A cap) (hd : d.ok = true) (hp : s.ph = 2) :
    Calls Try.prog 152 #[defV d A cap, sagaV s] w fun e w' => e = .returned (.bool (sagaOk d s)) ∧ Below w.heap.size w w' := by
  have hl := h.fit.1
  have HN := Lib.hid (DefD.ok_nice hd)
  have H := Lib.hid h
  obtain ⟨-, ⟨hn1, hn2⟩, ⟨hp1, hp2⟩, -⟩ := DefD.ok_steps hd
  clear h hd
  have HP := Lib.hid hp
  unfold sagaV defV
  rw [hp]
  clear hp
  go_enter Try.func152, Try.ntmps152
  go_wp2_with (first
      | (go_at_call 66; refine (within_any _ _ _ _).mono ?_; rintro e w' ⟨rfl, rfl⟩)
      | (go_at_call 158; refine (backOkImpl_any d A cap ⟨_, _, _, _, _, _⟩ _ ((H.out.alloc _).alloc _)).mono ?_; rintro e w1 ⟨rfl, hb1⟩; obtain ⟨hc1, hf1⟩ := bcell hb1)
      | (go_at_call 157; refine (owingImpl_any d A cap ⟨_, _, _, _, _, _⟩ _ (((H.out.alloc _).alloc _).below hb1) (backOk_range ‹backOk _ _ = true›).1 (backOk_range ‹backOk _ _ = true›).2 (HN.out _).1 (HN.out _).2).mono ?_; rintro e w2 ⟨rfl, hb2⟩))
  all_goals go_ret
  all_goals refine ⟨ret_bool ?_, by first | exact bel2 _ _ | exact bel2t (belt hb1 hb2) | exact bel2t ‹Below _ _ _›⟩
  all_goals have hp := HP.out
  all_goals obtain ⟨ph, dn, at_, tr, sn, du⟩ := s
  all_goals simp only at hp
  all_goals subst hp
  all_goals simp_all [sagaOk, stillS, backOk, turned, owing, int_beq]
  all_goals grind
set_option maxRecDepth 100000 in
set_option maxHeartbeats 1000000 in
theorem sagaRightImpl_3 (d : DefD) (A : Option Addr) (cap : Nat) (s : SagaD) (w : World) (h : DefAt w d A cap) (hd : d.ok = true) (hp : s.ph = 3) :
    Calls Try.prog 152 #[defV d A cap, sagaV s] w fun e w' => e = .returned (.bool (sagaOk d s)) ∧ Below w.heap.size w w' := by
  have hl := h.fit.1
  have HN := Lib.hid (DefD.ok_nice hd)
  have H := Lib.hid h
  obtain ⟨-, ⟨hn1, hn2⟩, ⟨hp1, hp2⟩, -⟩ := DefD.ok_steps hd
  clear h hd
  have HP := Lib.hid hp
  unfold sagaV defV
  rw [hp]
  clear hp
  go_enter Try.func152, Try.ntmps152
  go_wp2_with (first
      | (go_at_call 66; refine (within_any _ _ _ _).mono ?_; rintro e w' ⟨rfl, rfl⟩)
      | (go_at_call 159; refine (turnedImpl_any d A cap ⟨_, _, _, _, _, _⟩ _ ((H.out.alloc _).alloc _)).mono ?_; rintro e w1 ⟨rfl, hb1⟩; obtain ⟨hc1, hf1⟩ := bcell hb1))
  all_goals go_ret
  all_goals refine ⟨ret_bool ?_, by first | exact bel2 _ _ | exact bel2t (belt hb1 hb2) | exact bel2t ‹Below _ _ _›⟩
  all_goals have hp := HP.out
  all_goals obtain ⟨ph, dn, at_, tr, sn, du⟩ := s
  all_goals simp only at hp
  all_goals subst hp
  all_goals simp_all [sagaOk, stillS, backOk, turned, owing, int_beq]
  all_goals grind
set_option maxRecDepth 100000 in
set_option maxHeartbeats 1000000 in
theorem sagaRightImpl_4 (d : DefD) (A : Option Addr) (cap : Nat) (s : SagaD) (w : World) (h : DefAt w d A cap) (hd : d.ok = true) (hp : s.ph = 4) :
    Calls Try.prog 152 #[defV d A cap, sagaV s] w fun e w' => e = .returned (.bool (sagaOk d s)) ∧ Below w.heap.size w w' := by
  have hl := h.fit.1
  have HN := Lib.hid (DefD.ok_nice hd)
  have H := Lib.hid h
  obtain ⟨-, ⟨hn1, hn2⟩, ⟨hp1, hp2⟩, -⟩ := DefD.ok_steps hd
  clear h hd
  have HP := Lib.hid hp
  unfold sagaV defV
  rw [hp]
  clear hp
  go_enter Try.func152, Try.ntmps152
  go_wp2_with (first
      | (go_at_call 66; refine (within_any _ _ _ _).mono ?_; rintro e w' ⟨rfl, rfl⟩)
      | (go_at_call 159; refine (turnedImpl_any d A cap ⟨_, _, _, _, _, _⟩ _ ((H.out.alloc _).alloc _)).mono ?_; rintro e w1 ⟨rfl, hb1⟩; obtain ⟨hc1, hf1⟩ := bcell hb1))
  all_goals go_ret
  all_goals refine ⟨ret_bool ?_, by first | exact bel2 _ _ | exact bel2t (belt hb1 hb2) | exact bel2t ‹Below _ _ _›⟩
  all_goals have hp := HP.out
  all_goals obtain ⟨ph, dn, at_, tr, sn, du⟩ := s
  all_goals simp only at hp
  all_goals subst hp
  all_goals simp_all [sagaOk, stillS, backOk, turned, owing, int_beq]
  all_goals grind
set_option maxRecDepth 100000 in
set_option maxHeartbeats 1000000 in
theorem sagaRightImpl_5 (d : DefD) (A : Option Addr) (cap : Nat) (s : SagaD) (w : World) (h : DefAt w d A cap) (hd : d.ok = true) (hp : s.ph = 5) :
    Calls Try.prog 152 #[defV d A cap, sagaV s] w fun e w' => e = .returned (.bool (sagaOk d s)) ∧ Below w.heap.size w w' := by
  have hl := h.fit.1
  have HN := Lib.hid (DefD.ok_nice hd)
  have H := Lib.hid h
  obtain ⟨-, ⟨hn1, hn2⟩, ⟨hp1, hp2⟩, -⟩ := DefD.ok_steps hd
  clear h hd
  have HP := Lib.hid hp
  unfold sagaV defV
  rw [hp]
  clear hp
  go_enter Try.func152, Try.ntmps152
  go_wp2_with (first
      | (go_at_call 66; refine (within_any _ _ _ _).mono ?_; rintro e w' ⟨rfl, rfl⟩)
      | (go_at_call 158; refine (backOkImpl_any d A cap ⟨_, _, _, _, _, _⟩ _ ((H.out.alloc _).alloc _)).mono ?_; rintro e w1 ⟨rfl, hb1⟩; obtain ⟨hc1, hf1⟩ := bcell hb1))
  all_goals go_ret
  all_goals refine ⟨ret_bool ?_, by first | exact bel2 _ _ | exact bel2t (belt hb1 hb2) | exact bel2t ‹Below _ _ _›⟩
  all_goals have hp := HP.out
  all_goals obtain ⟨ph, dn, at_, tr, sn, du⟩ := s
  all_goals simp only at hp
  all_goals subst hp
  all_goals simp_all [sagaOk, stillS, backOk, turned, owing, int_beq]
  all_goals grind
set_option maxHeartbeats 1000000 in
theorem sagaRightImpl_0 (d : DefD) (A : Option Addr) (cap : Nat) (s : SagaD) (w : World) (h : DefAt w d A cap) (e1 : (s.ph == 1) = false) (e2 : (s.ph == 2) = false) (e3 : (s.ph == 3) = false) (e4 : (s.ph == 4) = false) (e5 : (s.ph == 5) = false) :
    Calls Try.prog 152 #[defV d A cap, sagaV s] w fun e w' => e = .returned (.bool (sagaOk d s)) ∧ Below w.heap.size w w' := by
  have hl := h.fit.1
  clear h
  have HE := Lib.hid (show sagaOk d s = false from by unfold sagaOk; simp_all)
  unfold sagaV defV
  go_enter Try.func152, Try.ntmps152
  go_wp2
  all_goals go_ret
  all_goals exact ⟨ret_bool HE.out.symm, bel2 _ _⟩
theorem sagaRightImpl_any (d : DefD) (A : Option Addr) (cap : Nat) (s : SagaD) (w : World) (h : DefAt w d A cap) (hd : d.ok = true) :
    Calls Try.prog 152 #[defV d A cap, sagaV s] w fun e w' => e = .returned (.bool (sagaOk d s)) ∧ Below w.heap.size w w' := by
  by_cases h1 : s.ph = 1
  · exact sagaRightImpl_1 d A cap s w h hd h1
  by_cases h2 : s.ph = 2
  · exact sagaRightImpl_2 d A cap s w h hd h2
  by_cases h3 : s.ph = 3
  · exact sagaRightImpl_3 d A cap s w h hd h3
  by_cases h4 : s.ph = 4
  · exact sagaRightImpl_4 d A cap s w h hd h4
  by_cases h5 : s.ph = 5
  · exact sagaRightImpl_5 d A cap s w h hd h5
  exact sagaRightImpl_0 d A cap s w h (by simp [h1]) (by simp [h2]) (by simp [h3]) (by simp [h4]) (by simp [h5])
/-- is the saga right, of that def? -/
def sagaRt (d : DefD) (s : SagaD) : Bool := d.ok && sagaOk d s
theorem SagaRightImpl_any (d : DefD) (A : Option Addr) (cap : Nat) (s : SagaD) (w : World) (h : DefAt w d A cap) :
    Calls Try.prog 125 #[defV d A cap, sagaV s] w fun e w' => e = .returned (.bool (sagaRt d s)) ∧ Below w.heap.size w w' := by
  have H := Lib.hid h
  clear h
  cases hd : d.ok
  · have HD := Lib.hid hd
    clear hd
    unfold sagaV defV
    go_enter Try.func125, Try.ntmps125
    go_wp2_with (first
      | (go_at_call 22; refine (implDefRight_any d A cap _ H.out.nm H.out.fit ((H.out.alloc _).alloc _).row H.out.cap).mono ?_; rintro e w1 ⟨rfl, hb1⟩; rw [HD.out]))
    go_ret
    exact ⟨ret_bool (by unfold sagaRt; rw [HD.out]; rfl), bel2t hb1⟩
  · have HD := Lib.hid hd
    clear hd
    unfold sagaV defV
    go_enter Try.func125, Try.ntmps125
    go_wp2_with (first
      | (go_at_call 22; refine (implDefRight_any d A cap _ H.out.nm H.out.fit ((H.out.alloc _).alloc _).row H.out.cap).mono ?_; rintro e w1 ⟨rfl, hb1⟩; rw [HD.out]; obtain ⟨hc1, hf1⟩ := bcell hb1)
      | (go_at_call 152; refine (sagaRightImpl_any d A cap s _ (((H.out.alloc _).alloc _).below hb1) HD.out).mono ?_; rintro e w2 ⟨rfl, hb2⟩))
    go_ret
    exact ⟨ret_bool (by unfold sagaRt; rw [HD.out]; rfl), bel2t (belt hb1 hb2)⟩
theorem isAsked_any (d : DefD) (A : Option Addr) (cap : Nat) (s : SagaD) (now : Int) (w : World) (h : DefAt w d A cap) :
    Calls Try.prog 67 #[defV d A cap, sagaV s, .int .i64 now] w fun e w' => e = .returned (.bool (sagaRt d s && inB now 0 1000000000)) ∧ Below w.heap.size w w' := by
  have H := Lib.hid h
  clear h
  unfold sagaV defV
  go_enter Try.func67, Try.ntmps67
  go_wp2_with (first
      | (go_at_call 125; refine (SagaRightImpl_any d A cap s _ ((H.out.alloc _).alloc _)).mono ?_; rintro e w1 ⟨rfl, hb1⟩)
      | (go_at_call 62; refine (isTime_any _ _).mono ?_; rintro e w' ⟨rfl, rfl⟩))
  all_goals go_ret
  all_goals exact ⟨ret_bool (by simp [*]), bel2t hb1⟩
end Go.Proofs.Ytlbiocfpkpcdhaa
