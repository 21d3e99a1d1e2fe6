import Derived.Test.YtlbiocfpkpcdhaaBytes
namespace Go.Proofs.Ytlbiocfpkpcdhaa
open Go.RowKit

/-! steps and defs, as plain data -/
structure StepD where
  nm : ByteArray
  dd : ByteArray
  ud : ByteArray
  tr : Int
  bo : Int
  ti : Int
def StepD.cells (s : StepD) : List Value := [.string s.nm, .string s.dd, .string s.ud, .int .i64 s.tr, .int .i64 s.bo, .int .i64 s.ti]
def StepD.fits (s : StepD) : Prop := s.nm.size ≤ 140737488355328 ∧ s.dd.size ≤ 140737488355328 ∧ s.ud.size ≤ 140737488355328
def StepD.nums (s : StepD) : Bool := inB s.tr 1 10 && inB s.bo 0 1000 && inB s.ti 1 1000
def StepD.ok (s : StepD) : Bool := nameOk s.nm && nameOk s.dd && (decide (s.ud.toList = []) || nameOk s.ud) && s.nums

theorem numbersRight_any (s : StepD) (w : World) :
    Calls Try.prog 82 #[.agg #[.string s.nm, .string s.dd, .string s.ud, .int .i64 s.tr, .int .i64 s.bo, .int .i64 s.ti]] w fun e w' => e = .returned (.bool s.nums) ∧ Below w.heap.size w w' := by
  go_enter Try.func82, Try.ntmps82
  go_wp2_with (go_at_call 66; refine (within_any _ _ _ _).mono ?_; rintro e w' ⟨rfl, rfl⟩)
  all_goals go_ret
  all_goals exact ⟨ret_bool (by unfold StepD.nums; simp [*]), (Below.refl _ _).alloc (Nat.le_refl _) _⟩
theorem l12Nums_any (s : StepD) (w : World) :
    Calls Try.prog 83 #[.agg #[.string s.nm, .string s.dd, .string s.ud, .int .i64 s.tr, .int .i64 s.bo, .int .i64 s.ti]] w fun e w' => e = .returned (.bool s.nums) ∧ Below w.heap.size w w' := by
  go_enter Try.func83, Try.ntmps83
  go_wp2_with (go_at_call 84; refine (l12In_any _ _ _ _).mono ?_; rintro e w' ⟨rfl, rfl⟩)
  all_goals go_ret
  all_goals exact ⟨ret_bool (by unfold StepD.nums; simp [*]), (Below.refl _ _).alloc (Nat.le_refl _) _⟩
set_option maxHeartbeats 400000 in
theorem stepRight_any (s : StepD) (w : World) (hs : s.fits) :
    Calls Try.prog 73 #[.agg #[.string s.nm, .string s.dd, .string s.ud, .int .i64 s.tr, .int .i64 s.bo, .int .i64 s.ti]] w fun e w' => e = .returned (.bool s.ok) ∧ Below w.heap.size w w' := by
  obtain ⟨h1, h2, h3⟩ := hs
  go_enter Try.func73, Try.ntmps73
  go_wp2_with (first
    | (go_at_call 72; refine (implNameRight_any _ _ (by assumption)).mono ?_; rintro e w' ⟨rfl, rfl⟩)
    | (go_at_call 82; refine (numbersRight_any s _).mono ?_; rintro e w' ⟨rfl, hb⟩))
  all_goals go_ret
  all_goals refine ⟨ret_bool (by unfold StepD.ok; simp [*]), ?_⟩
  all_goals first
    | exact (Below.refl _ _).alloc (Nat.le_refl _) _
    | exact ((Below.refl _ _).alloc (Nat.le_refl _) _).trans (hb.mono (by simp))
    | (have hb := ‹Below _ _ _›; exact ((Below.refl _ _).alloc (Nat.le_refl _) _).trans (hb.mono (by simp)))
theorem defRight1_any (s : StepD) (x : ByteArray) (b : Nat) (w : World) (hx : w.cell? ⟨b, 0, none⟩ = some (.string x)) :
    Calls Try.prog 75 #[.agg #[.string s.nm, .string s.dd, .string s.ud, .int .i64 s.tr, .int .i64 s.bo, .int .i64 s.ti], .pointer (some ⟨b, 0, none⟩)] w fun e w' => e = .returned (.bool (s.nm.toList == x.toList)) ∧ Below w.heap.size w w' := by
  have hlt : b < w.heap.size := World.block_lt_of_cell? w _ hx
  go_enter Try.func75, Try.ntmps75
  go_wp2
  go_ret
  exact ⟨rfl, (Below.refl _ _).alloc (Nat.le_refl _) _⟩

set_option maxRecDepth 100000 in
set_option maxHeartbeats 1000000 in
theorem indexFuncStep_any (K : Nat) (x : Value) (p : StepD → Bool) (l : List StepD) (A : Option Addr) (cap : Nat) (w : World) (hl : l.length ≤ 140737488355328) (hA : RowAt w A 6 StepD.cells l)
    (hK : ∀ (xs : Array Value) (w1 : World), Sem.run Try.prog (callFunc K xs) w1 = .ok (.enter K xs) w1)
    (hcl : ∀ (s : StepD) (w1 : World), Below w.heap.size w w1 → Calls Try.prog K #[.agg #[.string s.nm, .string s.dd, .string s.ud, .int .i64 s.tr, .int .i64 s.bo, .int .i64 s.ti], x] w1 fun e w' => e = .returned (.bool (p s)) ∧ Below w1.heap.size w1 w') :
    Calls Try.prog 130 #[.slice A l.length cap, .func (.func K) #[] #[x]] w fun e w' => e = .returned (.int .i64 (firstOf p l)) ∧ Below w.heap.size w w' := by
  have HCL := Lib.hid hcl; clear hcl
  have HA := Lib.hid hA; clear hA
  go_enter Try.func130, Try.ntmps130
  go_wp2
  go_loopw [8] (fun i wr => ∃ k : Nat, k ≤ l.length ∧ i = .int .i64 k ∧ (∀ j (hj : j < k) (hl : j < l.length), p l[j] = false) ∧ Below w.heap.size w wr) (fun i _ => l.length - (intOf i).toNat)
  case atStart => exact ⟨0, Nat.zero_le _, rfl, fun j h => absurd h (Nat.not_lt_zero _), Below.refl _ _⟩
  case round =>
    obtain ⟨k, hk, rfl, hf, hb⟩ := hrel
    have HF := Lib.hid hf; clear hf
    have HB := Lib.hid hb; clear hb
    by_cases hlt : k < l.length
    · obtain ⟨b, o, rfl, hc⟩ := (HA.out.below HB.out) k l[k] (List.getElem?_eq_getElem hlt)
      have c0 := hc 0 _ rfl
      simp only [Nat.add_zero] at c0
      have c1 := hc 1 _ rfl
      have c2 := hc 2 _ rfl
      have c3 := hc 3 _ rfl
      have c4 := hc 4 _ rfl
      have c5 := hc 5 _ rfl
      clear hc
      go_wp2_with fail
      refine (HCL.out l[k] _ HB.out).mono ?_
      rintro e w' ⟨rfl, hb⟩
      go_wp2
      · go_ret
        exact ⟨ret_int (firstOf_some hlt ‹_› (fun j hj => HF.out j hj (by omega))).symm, HB.out.trans (hb.mono HB.out.size)⟩
      · have hpk : p l[k] = false := by assumption
        go_roundw
        case rel => exact ⟨k + 1, by omega, by go_num, fun j hj hj2 => by
            rcases Nat.lt_or_ge j k with h | h
            · exact HF.out j h hj2
            · obtain rfl : j = k := by omega
              exact hpk, HB.out.trans (hb.mono HB.out.size)⟩
        case measure => simp [intOf]; omega
    · go_wp2
      go_ret
      exact ⟨ret_int (firstOf_none (fun j hj => HF.out j (by omega) hj)).symm, HB.out⟩

theorem callK_DefRight1 (xs : Array Value) (w1 : World) : Sem.run Try.prog (callFunc 75 xs) w1 = .ok (.enter 75 xs) w1 := by
  go_simp
set_option maxHeartbeats 400000 in
theorem containsFuncStep_any (K : Nat) (x : Value) (p : StepD → Bool) (l : List StepD) (n : Nat) (hn : l.length = n) (A : Option Addr) (cap : Nat) (w : World) (hl : l.length ≤ 140737488355328) (hA : RowAt w A 6 StepD.cells l)
    (hK : ∀ (xs : Array Value) (w1 : World), Sem.run Try.prog (callFunc K xs) w1 = .ok (.enter K xs) w1)
    (hcl : ∀ (s : StepD) (w1 : World), Below w.heap.size w w1 → Calls Try.prog K #[.agg #[.string s.nm, .string s.dd, .string s.ud, .int .i64 s.tr, .int .i64 s.bo, .int .i64 s.ti], x] w1 fun e w' => e = .returned (.bool (p s)) ∧ Below w1.heap.size w1 w') :
    Calls Try.prog 74 #[.slice A n cap, .func (.func K) #[] #[x]] w fun e w' => e = .returned (.bool (l.any p)) ∧ Below w.heap.size w w' := by
  subst hn
  have HCL := Lib.hid hcl; clear hcl
  have HA := Lib.hid hA; clear hA
  have HK := Lib.hid hK; clear hK
  go_enter Try.func74, Try.ntmps74
  go_wp2_with fail
  refine (indexFuncStep_any K x p l A cap w hl HA.out HK.out HCL.out).mono ?_
  rintro e w' ⟨rfl, hb⟩
  go_wp2
  go_ret
  exact ⟨ret_bool (firstOf_nonneg p l), hb⟩

structure DefD where
  nm : ByteArray
  st : List StepD
  pv : Int
def DefD.ok (d : DefD) : Bool := nameOk d.nm && inB d.st.length 1 8 && inB d.pv (-1) (d.st.length - 1) &&
  (List.range d.st.length).all fun i => match d.st[i]? with
    | some s => s.ok && !(d.st.take i).any fun t => t.nm.toList == s.nm.toList
    | none => true
/-- step i is right, and its name is new -/
def stepAtOk (l : List StepD) (i : Nat) (h : i < l.length) : Bool := l[i].ok && !(l.take i).any fun t => t.nm.toList == l[i].nm.toList
theorem DefD.ok_of {d : DefD} (h0 : nameOk d.nm = true) (h1 : inB d.st.length 1 8 = true) (h2 : inB d.pv (-1) (d.st.length - 1) = true) (h : ∀ i (hi : i < d.st.length), stepAtOk d.st i hi = true) : d.ok = true := by
  unfold DefD.ok
  rw [h0, h1, h2]
  simp only [Bool.and_self, Bool.true_and, List.all_eq_true, List.mem_range]
  intro i hi
  rw [List.getElem?_eq_getElem hi]
  exact h i hi
theorem DefD.not_ok {d : DefD} {i : Nat} (hi : i < d.st.length) (h : stepAtOk d.st i hi = false) : d.ok = false := by
  unfold DefD.ok
  have : ((List.range d.st.length).all fun i => match d.st[i]? with
    | some s => s.ok && !(d.st.take i).any fun t => t.nm.toList == s.nm.toList
    | none => true) = false := by
    rw [List.all_eq_false]
    refine ⟨i, List.mem_range.2 hi, ?_⟩
    rw [List.getElem?_eq_getElem hi]
    unfold stepAtOk at h
    simp only [h]
    simp
  rw [this, Bool.and_false]
theorem DefD.not_ok0 {d : DefD} (h : nameOk d.nm = false ∨ inB d.st.length 1 8 = false ∨ inB d.pv (-1) (d.st.length - 1) = false) : d.ok = false := by
  unfold DefD.ok
  rcases h with h | h | h <;> simp [h]
def StepsFit (l : List StepD) : Prop := l.length ≤ 140737488355328 ∧ ∀ s ∈ l, s.fits
set_option maxRecDepth 100000 in
set_option maxHeartbeats 1000000 in
theorem implDefRight_any (d : DefD) (A : Option Addr) (cap : Nat) (w : World) (hn : d.nm.size ≤ 140737488355328) (hfit : StepsFit d.st) (hA : RowAt w A 6 StepD.cells d.st) (hcap : d.st.length ≤ cap) :
    Calls Try.prog 22 #[.agg #[.string d.nm, .slice A d.st.length cap, .int .i64 d.pv]] w fun e w' => e = .returned (.bool d.ok) ∧ Below w.heap.size w w' := by
  have HA := Lib.hid hA; clear hA
  obtain ⟨hl, hf⟩ := hfit
  have HF := Lib.hid hf; clear hf
  by_cases hpre : nameOk d.nm = true ∧ inB d.st.length 1 8 = true ∧ inB d.pv (-1) (d.st.length - 1) = true
  · obtain ⟨h0, h1, h2⟩ := hpre
    go_enter Try.func22, Try.ntmps22
    go_wp2_with (first
      | (go_at_call 72; refine (implNameRight_any _ _ hn).mono ?_; rintro e w' ⟨rfl, rfl⟩)
      | (go_at_call 66; refine (within_any _ _ _ _).mono ?_; rintro e w' ⟨rfl, rfl⟩))
    go_loopw [29] (fun i wr => ∃ k : Nat, k ≤ d.st.length ∧ i = .int .i64 k ∧ (∀ j (hj : j < k) (hl : j < d.st.length), stepAtOk d.st j hl = true) ∧ Below (w.heap.size + 1) (w.alloc (.cells #[.string d.nm, .slice A d.st.length cap, .int .i64 d.pv] 29)) wr) (fun i _ => d.st.length - (intOf i).toNat)
    case atStart => exact ⟨0, Nat.zero_le _, rfl, fun j h => absurd h (Nat.not_lt_zero _), Below.refl _ _⟩
    case round =>
      obtain ⟨k, hk, rfl, hs, hb⟩ := hrel
      have HS := Lib.hid hs; clear hs
      have hsz : w.heap.size < wr.heap.size := by have := hb.size; simp at this; omega
      have d0 : wr.cell? ⟨w.heap.size, 0, none⟩ = some (.string d.nm) := by rw [hb.cell (by simp)]; simp
      have d1 : wr.cell? ⟨w.heap.size, 1, none⟩ = some (.slice A d.st.length cap) := by rw [hb.cell (by simp)]; simp
      have hbw : Below w.heap.size w wr := ((Below.refl _ _).alloc (Nat.le_refl _) _).trans (hb.mono (by simp))
      have HB := Lib.hid hb; clear hb
      have HBW := Lib.hid hbw; clear hbw
      by_cases hlt : k < d.st.length
      · obtain ⟨b, o, rfl, hc⟩ := (HA.out.below HBW.out) k d.st[k] (List.getElem?_eq_getElem hlt)
        have hbl : b < wr.heap.size := World.block_lt_of_cell? wr _ (hc 0 _ rfl)
        have c0 := hc 0 _ rfl
        have c1 := hc 1 _ rfl
        have c2 := hc 2 _ rfl
        have c3 := hc 3 _ rfl
        have c4 := hc 4 _ rfl
        have c5 := hc 5 _ rfl
        simp only [Nat.add_zero] at c0
        clear hc
        go_wp2_with fail
        refine (stepRight_any d.st[k] _ (HF.out _ (List.getElem_mem hlt))).mono ?_
        rintro e w1 ⟨rfl, hb1⟩
        obtain ⟨hc1, hf1⟩ := bcell hb1
        have hz : wr.heap.size < w1.heap.size := by have := hb1.size; simp at this; omega
        go_wp2_with fail
        · have hcell : w1.cell? ⟨wr.heap.size, 0, none⟩ = some (.string d.st[k].nm) := by rw [hc1 _ _ (by simp)]; simp
          have hA1 := ((HA.out.below HBW.out).below ((Below.refl _ _).alloc (Nat.le_refl _) (.cells #[.string d.st[k].nm, .string d.st[k].dd, .string d.st[k].ud, .int .i64 d.st[k].tr, .int .i64 d.st[k].bo, .int .i64 d.st[k].ti] 55))).below hb1
          refine (containsFuncStep_any 75 _ (fun t => t.nm.toList == d.st[k].nm.toList) (d.st.take k) k (by simp; omega) _ cap w1 (by simp; omega) (hA1.take k) callK_DefRight1 (fun s w2 hb2 => defRight1_any s _ _ w2 (cell_later hb2 hcell))).mono ?_
          rintro e w2 ⟨rfl, hb2⟩
          have hbe : Below (w.heap.size + 1) (w.alloc (.cells #[.string d.nm, .slice (some ⟨b, o, none⟩) d.st.length cap, .int .i64 d.pv] 29)) w2 := ((HB.out.alloc (by omega) _).trans (hb1.mono (by simp; omega))).trans (hb2.mono (by omega))
          have hok := ‹d.st[k].ok = true›
          have HBE := Lib.hid hbe
          clear hbe hc1 hf1 hb1 hb2 hA1
          cases hany : (d.st.take k).any fun t => t.nm.toList == d.st[k].nm.toList
          · have HSK := Lib.hid (show stepAtOk d.st k hlt = true by unfold stepAtOk; rw [hok, hany]; rfl)
            go_wp2
            go_roundw
            case rel => exact ⟨k + 1, by omega, by go_num, fun j hj hl => by
              rcases Nat.lt_or_ge j k with h | h
              · exact HS.out j h hl
              · obtain rfl : j = k := by omega
                exact HSK.out, HBE.out⟩
            case measure => simp [intOf]; omega
          · have HSK := Lib.hid (DefD.not_ok (d := d) hlt (by unfold stepAtOk; rw [hok, hany]; rfl))
            go_wp2
            go_ret
            exact ⟨ret_bool HSK.out.symm, ((Below.refl _ _).alloc (Nat.le_refl _) _).trans (HBE.out.mono (by omega))⟩
        · have HSK := Lib.hid (DefD.not_ok (d := d) hlt (by have h := ‹¬d.st[k].ok = true›; unfold stepAtOk; simp [h]))
          go_ret
          exact ⟨ret_bool HSK.out.symm, (HBW.out.alloc HBW.out.size _).trans (hb1.mono (by simp; omega))⟩
      · go_wp2
        go_ret
        exact ⟨ret_bool (DefD.ok_of h0 h1 h2 (fun i hi => HS.out i (by omega) hi)).symm, HBW.out⟩
  · have HN := Lib.hid (DefD.not_ok0 (d := d) (by revert hpre; cases nameOk d.nm <;> cases inB d.st.length 1 8 <;> cases inB d.pv (-1) (d.st.length - 1) <;> simp))
    have HP := Lib.hid hpre; clear hpre
    go_enter Try.func22, Try.ntmps22
    go_wp2_with (first
      | (go_at_call 72; refine (implNameRight_any _ _ hn).mono ?_; rintro e w' ⟨rfl, rfl⟩)
      | (go_at_call 66; refine (within_any _ _ _ _).mono ?_; rintro e w' ⟨rfl, rfl⟩))
    all_goals first
      | (go_ret; exact ⟨ret_bool HN.out.symm, (Below.refl _ _).alloc (Nat.le_refl _) _⟩)
      | (refine absurd ⟨by assumption, by assumption, ?_⟩ HP.out; have h := ‹(!inB _ _ _) = false›; simpa using h)

set_option maxRecDepth 100000 in
set_option maxHeartbeats 2000000 in
theorem specDefRight_any (d : DefD) (A : Option Addr) (cap : Nat) (w : World) (hn : d.nm.size ≤ 140737488355328) (hfit : StepsFit d.st) (hA : RowAt w A 6 StepD.cells d.st) :
    Calls Try.prog 48 #[.agg #[.string d.nm, .slice A d.st.length cap, .int .i64 d.pv]] w fun e w' => e = .returned (.bool d.ok) ∧ Below w.heap.size w w' := by
  have HA := Lib.hid hA; clear hA
  obtain ⟨hl, hf⟩ := hfit
  have HF := Lib.hid hf; clear hf
  by_cases hpre : nameOk d.nm = true ∧ inB d.st.length 1 8 = true ∧ inB d.pv (-1) (d.st.length - 1) = true
  · obtain ⟨h0, h1, h2⟩ := hpre
    have q1 := inB_true.1 h1
    have q2 := inB_true.1 h2
    obtain ⟨q11, q12⟩ := q1
    obtain ⟨q21, q22⟩ := q2
    have g1 : decide ((d.st.length : Int) < 1) = false := by simp; omega
    have g2 : decide ((8 : Int) < d.st.length) = false := by simp; omega
    have g3 : decide (d.pv < -1) = false := by simp; omega
    have g4 : decide ((d.st.length : Int) ≤ d.pv) = false := by simp; omega
    go_enter Try.func48, Try.ntmps48
    go_wp2_with (first
      | (go_at_call 119; refine (specNameRight_any _ _ hn).mono ?_; rintro e w' ⟨rfl, rfl⟩))
    go_loopw [4] (fun i wr => ∃ k : Nat, k ≤ d.st.length ∧ i = .int .i64 k ∧ (∀ j (hj : j < k) (hl : j < d.st.length), stepAtOk d.st j hl = true) ∧ Below (w.heap.size + 1) (w.alloc (.cells #[.string d.nm, .slice A d.st.length cap, .int .i64 d.pv] 29)) wr) (fun i _ => d.st.length - (intOf i).toNat)
    case atStart => exact ⟨0, Nat.zero_le _, rfl, fun j h => absurd h (Nat.not_lt_zero _), Below.refl _ _⟩
    case round =>
      obtain ⟨k, hk, rfl, hs, hb⟩ := hrel
      have HS := Lib.hid hs; clear hs
      have hsz : w.heap.size < wr.heap.size := by have := hb.size; simp at this; omega
      have d0 : wr.cell? ⟨w.heap.size, 0, none⟩ = some (.string d.nm) := by rw [hb.cell (by simp)]; simp
      have d1 : wr.cell? ⟨w.heap.size, 1, none⟩ = some (.slice A d.st.length cap) := by rw [hb.cell (by simp)]; simp
      have hbw : Below w.heap.size w wr := ((Below.refl _ _).alloc (Nat.le_refl _) _).trans (hb.mono (by simp))
      have HB := Lib.hid hb; clear hb
      have HBW := Lib.hid hbw; clear hbw
      by_cases hlt : k < d.st.length
      · obtain ⟨b, o, rfl, hc⟩ := (HA.out.below HBW.out) k d.st[k] (List.getElem?_eq_getElem hlt)
        have hbl : b < wr.heap.size := World.block_lt_of_cell? wr _ (hc 0 _ rfl)
        have c0 := hc 0 _ rfl
        have c1 := hc 1 _ rfl
        have c2 := hc 2 _ rfl
        have c3 := hc 3 _ rfl
        have c4 := hc 4 _ rfl
        have c5 := hc 5 _ rfl
        simp only [Nat.add_zero] at c0
        clear hc
        obtain ⟨z1, z2, z3⟩ := HF.out _ (List.getElem_mem hlt)
        go_wp2_with (first
          | (go_at_call 119; refine (specNameRight_any _ _ (by assumption)).mono ?_; rintro e w' ⟨rfl, rfl⟩)
          | (go_at_call 83; refine (l12Nums_any d.st[k] _).mono ?_; rintro e w1 ⟨rfl, hb1⟩))
        all_goals first
          | (go_ret
             refine ⟨ret_bool (DefD.not_ok hlt (by unfold stepAtOk StepD.ok; simp_all)).symm, ?_⟩
             first
              | exact HBW.out.alloc HBW.out.size _
              | (have hb1 := ‹Below _ (World.alloc _ _) _›; exact (HBW.out.alloc HBW.out.size _).trans (hb1.mono (by simp; omega))))
          | (have hok : d.st[k].ok = true := by unfold StepD.ok; simp_all
             have HOK := Lib.hid hok
             clear hok
             rename_i w1 hb1 hnums
             clear hnums
             have hz : wr.heap.size < w1.heap.size := by have := hb1.size; simp at this; omega
             have e0 : w1.cell? ⟨wr.heap.size, 0, none⟩ = some (.string d.st[k].nm) := by rw [hb1.cell (by simp)]; simp
             have hA1 := ((HA.out.below HBW.out).below ((Below.refl _ _).alloc (Nat.le_refl _) (.cells #[.string d.st[k].nm, .string d.st[k].dd, .string d.st[k].ud, .int .i64 d.st[k].tr, .int .i64 d.st[k].bo, .int .i64 d.st[k].ti] 55))).below hb1
             have e1 : w1.cell? ⟨w.heap.size, 1, none⟩ = some (.slice (some ⟨b, o, none⟩) d.st.length cap) := by rw [hb1.cell (by simp; omega), World.cell?_alloc_lt _ _ _ (by simpa using hsz)]; exact d1
             have hbe : Below (w.heap.size + 1) (w.alloc (.cells #[.string d.nm, .slice (some ⟨b, o, none⟩) d.st.length cap, .int .i64 d.pv] 29)) w1 := (HB.out.alloc (by omega) _).trans (hb1.mono (by simp; omega))
             have HBE := Lib.hid hbe
             have HA1 := Lib.hid hA1
             clear hbe hA1 hb1 c0 c1 c2 c3 c4 c5 d0 d1
             obtain ⟨wo, rfl⟩ : ∃ wo : World, wo = wr := ⟨_, rfl⟩
             go_loopw [6] (fun i wi => ∃ m : Nat, m ≤ k ∧ i = .int .i64 m ∧ (∀ j (hj : j < m) (hl : j < d.st.length), (d.st[j].nm.toList == d.st[k].nm.toList) = false) ∧ Below w1.heap.size w1 wi) (fun i _ => k - (intOf i).toNat)
             case atStart => exact ⟨0, Nat.zero_le _, rfl, fun j h => absurd h (Nat.not_lt_zero _), Below.refl _ _⟩
             case round =>
               obtain ⟨m, hm, rfl, hmf, hbi⟩ := hrel
               have HMF := Lib.hid hmf; clear hmf
               by_cases hmk : m < k
               · obtain ⟨b', o', hbo, hc⟩ := (HA1.out.below hbi) m d.st[m] (List.getElem?_eq_getElem (by omega))
                 obtain ⟨rfl, rfl⟩ : b = b' ∧ o = o' := by simpa using hbo
                 have c0 := hc 0 _ rfl
                 simp only [Nat.add_zero] at c0
                 have i0 := cell_later hbi e0
                 have i1 := cell_later hbi e1
                 have HBI := Lib.hid hbi
                 have hml : (m : Int) < d.st.length := by omega
                 have hml2 : m < d.st.length := by omega
                 clear hc hbi e0 e1
                 cases heq : (d.st[m].nm.toList == d.st[k].nm.toList)
                 · have HEQ := Lib.hid heq
                   go_wp2
                   go_quiet (fail)
                   go_wp2
                   go_roundw
                   case rel => exact ⟨m + 1, by omega, by go_num, fun j hj hl => by
                     rcases Nat.lt_or_ge j m with h | h
                     · exact HMF.out j h hl
                     · obtain rfl : j = m := by omega
                       exact HEQ.out, by first | exact HBI.out | exact below_drewN HBI.out _⟩
                   case measure => simp [intOf]; omega
                 · have HEQ := Lib.hid heq
                   have HSK := Lib.hid (DefD.not_ok (d := d) hlt (by
                     unfold stepAtOk
                     have : ((d.st.take k).any fun t => t.nm.toList == d.st[k].nm.toList) = true := by
                       rw [List.any_eq_true]
                       exact ⟨d.st[m], List.mem_iff_getElem.2 ⟨m, by simp; omega, by simp⟩, HEQ.out⟩
                     rw [this]; simp))
                   go_wp2
                   go_quiet (fail)
                   go_wp2
                   go_ret
                   have hall := (((Below.refl w.heap.size w).alloc (Nat.le_refl _) (.cells #[.string d.nm, .slice (some ⟨b, o, none⟩) d.st.length cap, .int .i64 d.pv] 29)).trans (HBE.out.mono (by omega))).trans (HBI.out.mono (by omega))
                   exact ⟨ret_bool HSK.out.symm, by first | exact hall | exact below_drewN hall _⟩
               · have HSK := Lib.hid (show stepAtOk d.st k hlt = true by
                   unfold stepAtOk; rw [HOK.out, Bool.true_and, Bool.not_eq_true', List.any_eq_false]
                   intro x hx
                   obtain ⟨j, hj, rfl⟩ := List.mem_iff_getElem.1 hx
                   simp only [List.length_take] at hj
                   rw [List.getElem_take]
                   rw [HMF.out j (by omega) (by omega)]; simp)
                 have HBI := Lib.hid hbi
                 clear hbi e0 e1
                 go_wp2
                 go_roundw
                 case rel => exact ⟨k + 1, by omega, by go_num, fun j hj hl => by
                   rcases Nat.lt_or_ge j k with h | h
                   · exact HS.out j h hl
                   · obtain rfl : j = k := by omega
                     exact HSK.out, HBE.out.trans (HBI.out.mono (by omega))⟩
                 case measure => simp [intOf]; omega)
      · go_wp2
        go_ret
        exact ⟨ret_bool (DefD.ok_of h0 h1 h2 (fun i hi => HS.out i (by omega) hi)).symm, HBW.out⟩
  · have HN := Lib.hid (DefD.not_ok0 (d := d) (by revert hpre; cases nameOk d.nm <;> cases inB d.st.length 1 8 <;> cases inB d.pv (-1) (d.st.length - 1) <;> simp))
    have HP := Lib.hid hpre; clear hpre
    go_enter Try.func48, Try.ntmps48
    go_wp2_with (first
      | (go_at_call 119; refine (specNameRight_any _ _ hn).mono ?_; rintro e w' ⟨rfl, rfl⟩))
    all_goals first
      | (go_ret; exact ⟨ret_bool HN.out.symm, (Below.refl _ _).alloc (Nat.le_refl _) _⟩)
      | (refine absurd ⟨by assumption, inB_true.2 ?_, inB_true.2 ?_⟩ HP.out <;> omega)
end Go.Proofs.Ytlbiocfpkpcdhaa
