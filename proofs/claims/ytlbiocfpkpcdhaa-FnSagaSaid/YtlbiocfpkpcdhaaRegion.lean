import Derived.Test.YtlbiocfpkpcdhaaBlock
import Derived.RegionTactic
namespace Go.Proofs.Ytlbiocfpkpcdhaa
open Go.RowKit
set_option linter.unusedSimpArgs false
set_option linter.unusedVariables false
/-! a region that draws its order, of which each operation is shown once, whatever came up ahead of it -/
def dstOf (ops : Array Oper) (j : Nat) : Option Tmp := (ops[j]?).bind (·.dst)
/-- the frame in which the temporaries of the region's operations hold the values vs -/
def putN (ops : Array Oper) (vs : Nat → Value) (a : Act) : Nat → Act
  | 0 => a
  | n + 1 => (putN ops vs a n).put (dstOf ops n) (vs n)
def upd (vs : Nat → Value) (i : Nat) (v : Value) : Nat → Value := fun j => if j = i then v else vs j
/-- no two operations write one temporary -/
def apartN (ops : Array Oper) : Bool := (List.range ops.size).all fun i => (List.range ops.size).all fun j => i == j || (match dstOf ops i, dstOf ops j with | some x, some y => x != y | _, _ => true)
theorem apartN_spec {ops : Array Oper} (h : apartN ops = true) {i j : Nat} (hi : i < ops.size) (hj : j < ops.size) (hne : i ≠ j) : ∀ d, dstOf ops i = some d → dstOf ops j ≠ some d := by
  unfold apartN at h
  rw [List.all_eq_true] at h
  have h1 := h i (List.mem_range.2 hi)
  rw [List.all_eq_true] at h1
  have h2 := h1 j (List.mem_range.2 hj)
  intro d hd hd2
  rw [hd, hd2] at h2
  simp [hne] at h2
theorem put_same (a : Act) (d : Option Tmp) (v u : Value) : (a.put d v).put d u = a.put d u := by
  cases d with
  | none => rfl
  | some d => simp [Act.put]
theorem put_id (a : Act) (d : Option Tmp) (h : ∀ x, d = some x → x < a.tmps.size) : a.put d ((d.map fun x => a.tmps.getD x undef).getD undef) = a := by
  cases d with
  | none => rfl
  | some x =>
    have hx := h x rfl
    simp only [Act.put]
    congr 1
    apply Array.ext_getElem?
    intro i
    rw [Array.getElem?_setIfInBounds]
    by_cases hi : x = i
    · subst hi
      rw [if_pos rfl, if_pos hx]
      simp [hx]
    · rw [if_neg hi]
theorem putN_upd {ops : Array Oper} (h : apartN ops = true) (vs : Nat → Value) (a : Act) (i : Nat) (v : Value) (hi : i < ops.size) : ∀ n, i < n → n ≤ ops.size → putN ops (upd vs i v) a n = (putN ops vs a n).put (dstOf ops i) v := by
  have hlow : ∀ n, n ≤ i → putN ops (upd vs i v) a n = putN ops vs a n := by
    intro n
    induction n with
    | zero => intro _; rfl
    | succ n ih =>
      intro hn
      unfold putN
      rw [ih (by omega), show upd vs i v n = vs n from by unfold upd; rw [if_neg (by omega)]]
  intro n
  induction n with
  | zero => intro h; omega
  | succ n ih =>
    intro hin hn
    unfold putN
    by_cases hc : i = n
    · subst hc
      rw [hlow i (Nat.le_refl _), show upd vs i v i = v from by unfold upd; rw [if_pos rfl], put_same]
    · rw [ih (by omega) (by omega), show upd vs i v n = vs n from by unfold upd; rw [if_neg (fun h => hc h.symm)]]
      exact Act.put_comm _ _ _ (apartN_spec h hi (by omega) hc)
theorem putN_size (ops : Array Oper) (vs : Nat → Value) (a : Act) : ∀ n, (putN ops vs a n).tmps.size = a.tmps.size
  | 0 => rfl
  | n + 1 => by
    unfold putN
    rw [← putN_size ops vs a n]
    cases dstOf ops n <;> simp [Act.put]
/-- what the temporaries hold at first -/
def first (ops : Array Oper) (a : Act) (j : Nat) : Value := ((dstOf ops j).map fun x => a.tmps.getD x undef).getD undef
theorem putN_first {ops : Array Oper} {a : Act} (hd : ∀ j x, dstOf ops j = some x → x < a.tmps.size) : ∀ n, putN ops (first ops a) a n = a
  | 0 => rfl
  | n + 1 => by
    unfold putN
    rw [putN_first hd n]
    exact put_id a (dstOf ops n) (fun x hx => hd n x hx)
/-- What stands behind operation i: v is what it left, the rest is as it was. -/
def Behind (ops : Array Oper) (D : Nat → Value → World → Prop) (G : World → Prop) (R : Nat → World → World → Prop) (i : Nat) (a : Act) (w : World) (a' : Act) (w' : World) : Prop :=
  ∃ v, a' = a.put (dstOf ops i) v ∧ D i v w' ∧ G w' ∧ R i w w'
theorem behind {ops : Array Oper} {D : Nat → Value → World → Prop} {G : World → Prop} {R : Nat → World → World → Prop} {i : Nat} {a a' : Act} {w w' : World} (d : Tmp) (v : Value) (hd : dstOf ops i = some d) (ha : a' = a.put (some d) v) (h1 : D i v w') (h2 : G w') (h3 : R i w w') : Behind ops D G R i a w a' w' :=
  ⟨v, by rw [hd]; exact ha, h1, h2, h3⟩
/-- What binds operation i: the operations that must have come up ahead of it. -/
def depsOf (md : Region.Mode) (ops : Array Oper) (i : Nat) : List Nat := match ops[i]? with
  | some o => (o.after.toList.filter fun e => Region.binds md e).map (·.on)
  | none => []
/-- all that must have come up ahead of those of l, k steps far -/
def aheadN (md : Region.Mode) (ops : Array Oper) : Nat → List Nat → List Nat
  | 0, l => l
  | k + 1, l => aheadN md ops k (l ++ l.flatMap (depsOf md ops))
/-- every operation but m must come up ahead of m; each waits for elder ones alone -/
def lastN (md : Region.Mode) (ops : Array Oper) (m : Nat) : Bool :=
  (ops.size == m + 1) && ((List.range m).all fun j => (aheadN md ops m (depsOf md ops m)).contains j) && ((List.range (m + 1)).all fun i => (depsOf md ops i).all fun j => decide (j < i))
def DownC (md : Region.Mode) (ops : Array Oper) (listed : Array Bool) : Prop := ∀ i, listed.getD i false = true → ∀ j ∈ depsOf md ops i, listed.getD j false = true
theorem aheadN_listed {md : Region.Mode} {ops : Array Oper} {listed : Array Bool} (hd : DownC md ops listed) : ∀ k l, (∀ j ∈ l, listed.getD j false = true) → ∀ j ∈ aheadN md ops k l, listed.getD j false = true
  | 0, _, h => h
  | k + 1, l, h => aheadN_listed hd k _ (fun j hj => by
      rcases List.mem_append.1 hj with hj | hj
      · exact h j hj
      · obtain ⟨i, hi, hji⟩ := List.mem_flatMap.1 hj
        exact hd i (h i hi) j hji)
theorem ready_deps {md : Region.Mode} {ops : Array Oper} {listed : Array Bool} {i : Nat} (h : i ∈ Region.ready md ops listed) : i < ops.size ∧ listed.getD i true = false ∧ ∀ j ∈ depsOf md ops i, listed.getD j false = true := by
  obtain ⟨h0, o, ho, hall⟩ := mem_ready.1 h
  refine ⟨(Array.getElem?_eq_some_iff.1 ho).1, h0, fun j hj => ?_⟩
  unfold depsOf at hj
  rw [ho] at hj
  obtain ⟨e, he, rfl⟩ := List.mem_map.1 hj
  obtain ⟨he1, he2⟩ := List.mem_filter.1 he
  exact hall e (by simpa using he1) he2
theorem ready_of {md : Region.Mode} {ops : Array Oper} {listed : Array Bool} {i : Nat} (hi : i < ops.size) (h0 : listed.getD i true = false) (h : ∀ j ∈ depsOf md ops i, listed.getD j false = true) : i ∈ Region.ready md ops listed := by
  refine mem_ready.2 ⟨h0, ops[i], Array.getElem?_eq_getElem hi, fun e he hb => h e.on ?_⟩
  unfold depsOf
  rw [Array.getElem?_eq_getElem hi]
  exact List.mem_map.2 ⟨e, List.mem_filter.2 ⟨by simpa using he, hb⟩, rfl⟩
theorem wpOp_of_list {P : Program} {ops : Array Oper} {Q : Exit → Act → World → Prop} {i : Nat} {o : Oper} {K : Act → World → Prop} {a : Act} {w : World} (ho : ops[i]? = some o)
    (h : wpList P ops (Exit.then K Q) [o] a w) : wpOp P ops Q i K a w := by
  unfold wpList at h
  unfold wpOp
  rw [ho]
  simp only
  split
  · rename_i hw
    rw [if_pos hw] at h
    rcases h with h | ⟨h1, a1, w1, h2⟩
    · refine .inl ?_
      unfold Oper.wp at *
      generalize (execOp a.eval o).run P w = r at *
      cases r with
      | ok n w' =>
        cases n <;> simp only [Oper.upon] at h ⊢ <;>
          first
            | exact h
            | exact Calls.mono h (fun e w'' he => by cases e <;> exact he)
            | exact Rows.mono h (fun _ _ he => he)
      | halt x w' => cases x <;> simp only [Oper.upon] at h ⊢ <;> exact h
    · exact .inr ⟨h1, a1, w1, h2⟩
  · rename_i hw
    rw [if_neg hw] at h
    exact h
theorem wpAny_facts {P : Program} {ops : Array Oper} {Q : Exit → Act → World → Prop} {md : Region.Mode} (D : Nat → Value → World → Prop) (G : World → Prop) (R : Nat → World → World → Prop) (a0 : Act) (m : Nat)
    (hap : apartN ops = true) (hlast : lastN md ops m = true) (hst : ∀ i j v w w', j ≠ i → R i w w' → D j v w → D j v w')
    (hstep : ∀ i, i < m → ∀ (vs : Nat → Value) (w : World), G w → (∀ j ∈ depsOf md ops i, D j (vs j) w) →
      wpOp P ops Q i (Behind ops D G R i (putN ops vs a0 ops.size) w) (putN ops vs a0 ops.size) w)
    (hend : ∀ (vs : Nat → Value) (w : World), G w → (∀ j, j < m → D j (vs j) w) → wpOp P ops Q m (fun a' w' => Q .normal a' w') (putN ops vs a0 ops.size) w) :
    ∀ (fuel : Nat) (listed : Array Bool) (vs : Nat → Value) (w : World), listed.size = ops.size → DownC md ops listed → listed.getD m true = false → G w → (∀ j, listed.getD j false = true → D j (vs j) w) → (listed.toList.filter (· = false)).length ≤ fuel →
      wpAny P md ops Q fuel listed (putN ops vs a0 ops.size) w := by
  unfold lastN at hlast
  simp only [Bool.and_eq_true, beq_iff_eq, List.all_eq_true, List.mem_range, decide_eq_true_eq, List.contains_iff_mem] at hlast
  obtain ⟨⟨hsz, hah⟩, hlt⟩ := hlast
  intro fuel
  induction fuel with
  | zero =>
    intro listed vs w hs hd hm hG hD hf
    exfalso
    have hml : m < listed.size := by omega
    have : false ∈ listed.toList.filter (· = false) := by
      refine List.mem_filter.2 ⟨?_, by simp⟩
      have : listed[m] = false := by simpa [hml] using hm
      rw [← this]
      simp
    have := List.length_pos_of_mem this
    omega
  | succ fuel ih =>
    intro listed vs w hs hd hm hG hD hf
    have hmin : ∃ i, i ∈ Region.ready md ops listed := by
      have : ∀ k, k ≤ m → (∃ i, i ∈ Region.ready md ops listed) ∨ ∀ j, j < k → listed.getD j false = true := by
        intro k
        induction k with
        | zero => intro _; exact .inr (fun j hj => by omega)
        | succ k ihk =>
          intro hk
          rcases ihk (by omega) with h | h
          · exact .inl h
          · by_cases hkl : listed.getD k false = true
            · refine .inr (fun j hj => ?_)
              rcases Nat.lt_or_ge j k with h1 | h1
              · exact h j h1
              · obtain rfl : j = k := by omega
                exact hkl
            · refine .inl ⟨k, ready_of (by omega) ?_ (fun j hj => h j (hlt k (by omega) j hj))⟩
              have hkl2 : k < listed.size := by omega
              simp [hkl2] at hkl ⊢
              exact hkl
      rcases this m (Nat.le_refl _) with h | h
      · exact h
      · exact ⟨m, ready_of (by omega) hm (fun j hj => h j (hlt m (by omega) j hj))⟩
    refine ⟨fun h => (by obtain ⟨i, hi⟩ := hmin; rw [h] at hi; cases hi), fun i hi => ?_⟩
    obtain ⟨his, hi0, hidep⟩ := ready_deps hi
    have hil : i < listed.size := by omega
    have hif : listed[i] = false := by simpa [hil] using hi0
    by_cases him : i = m
    · subst him
      have hall : ∀ j, j < i → listed.getD j false = true := fun j hj => aheadN_listed hd i _ hidep j (hah j hj)
      refine wpOp_mono (fun a' w' hq => ?_) (hend vs w hG (fun j hj => hD j (hall j hj)))
      have hr : Region.ready md ops (listed.setIfInBounds i true) = [] := by
        cases hrr : Region.ready md ops (listed.setIfInBounds i true) with
        | nil => rfl
        | cons x xs =>
          exfalso
          have hx : x ∈ Region.ready md ops (listed.setIfInBounds i true) := by rw [hrr]; simp
          obtain ⟨hx1, hx2, _⟩ := ready_deps hx
          have hx3 : (listed.setIfInBounds i true).getD x false = true := by
            rcases Nat.lt_or_ge x i with h1 | h1
            · exact getD_set_true (hall x h1)
            · obtain rfl : x = i := by omega
              simp [hil]
          have hx4 : x < (listed.setIfInBounds i true).size := by simp; omega
          rw [Array.getD_eq_getD_getElem?, Array.getElem?_eq_getElem hx4] at hx2 hx3
          simp only [Option.getD_some] at hx2 hx3
          rw [hx2] at hx3
          cases hx3
      cases fuel with
      | zero => exact ⟨hr, hq⟩
      | succ f => exact ⟨fun _ => hq, by rw [hr]; simp⟩
    · have him2 : i < m := by omega
      refine wpOp_mono (fun a' w' hq => ?_) (hstep i him2 vs w hG (fun j hj => hD j (hidep j hj)))
      obtain ⟨v, rfl, hDi, hG', hR⟩ := hq
      rw [← putN_upd hap vs a0 i v his ops.size his (Nat.le_refl _)]
      refine ih (listed.setIfInBounds i true) (upd vs i v) w' (by simpa using hs) ?_ ?_ hG' ?_ ?_
      · intro k hk j hj
        by_cases hki : k = i
        · subst hki
          exact getD_set_true (hidep j hj)
        · rw [getD_set_ne false (Ne.symm hki)] at hk
          exact getD_set_true (hd k hk j hj)
      · rw [getD_set_ne true him]; exact hm
      · intro j hj
        unfold upd
        by_cases hji : j = i
        · subst hji
          rw [if_pos rfl]
          exact hDi
        · rw [if_neg hji]
          rw [getD_set_ne false (Ne.symm hji)] at hj
          exact hst i j _ w w' hji hR (hD j hj)
      · have hlen : ((listed.setIfInBounds i true).toList.filter (· = false)).length + 1 = (listed.toList.filter (· = false)).length := by
          rw [Array.toList_setIfInBounds]
          have hil2 : i < listed.toList.length := by simpa using hil
          have h1 : listed.toList[i] = false := by simpa using hif
          have hsplit : listed.toList = listed.toList.take i ++ listed.toList[i] :: listed.toList.drop (i + 1) := by
            rw [← List.drop_eq_getElem_cons hil2, List.take_append_drop]
          rw [List.set_eq_take_append_cons_drop, if_pos hil2]
          conv => rhs; rw [hsplit]
          rw [h1]
          simp [List.filter_append]
          omega
        omega
/-- the same frame, by the list of the operations -/
def putL (vs : Nat → Value) : List Oper → Nat → Act → Act
  | [], _, a => a
  | o :: r, k, a => putL vs r (k + 1) (a.put o.dst (vs k))
theorem putL_append (vs : Nat → Value) (l : List Oper) (o : Oper) : ∀ k a, putL vs (l ++ [o]) k a = (putL vs l k a).put o.dst (vs (k + l.length)) := by
  induction l with
  | nil => intro k a; rfl
  | cons x l ih =>
    intro k a
    show putL vs (l ++ [o]) (k + 1) (a.put x.dst (vs k)) = _
    rw [ih]
    show _ = (putL vs l (k + 1) (a.put x.dst (vs k))).put o.dst (vs (k + (l.length + 1)))
    rw [show k + 1 + l.length = k + (l.length + 1) from by omega]
theorem putN_putL (ops : Array Oper) (vs : Nat → Value) (a : Act) : ∀ n, n ≤ ops.size → putN ops vs a n = putL vs (ops.toList.take n) 0 a
  | 0, _ => by simp [putN, putL]
  | n + 1, h => by
    unfold putN
    rw [putN_putL ops vs a n (by omega)]
    have hn : n < ops.toList.length := by rw [Array.length_toList]; omega
    rw [List.take_succ_eq_append_getElem hn, putL_append]
    have : dstOf ops n = ops.toList[n].dst := by
      unfold dstOf
      rw [Array.getElem?_eq_getElem (by omega)]
      rfl
    rw [this]
    simp
    rw [Nat.min_eq_left (by omega)]
theorem putN_all (ops : Array Oper) (vs : Nat → Value) (a : Act) : putN ops vs a ops.size = putL vs ops.toList 0 a := by
  rw [putN_putL ops vs a ops.size (Nat.le_refl _)]
  congr 1
  exact List.take_of_length_le (by simp)
/-- **A region that draws its order**: each operation is shown once, from the facts of those that it waits for, whatever else came up; the last one ends it. -/
theorem wp_region_facts {P : Program} {ops : Array Oper} {Q : Exit → Act → World → Prop} {id : Nat} {w : World} {a0 : Act} (hmix : P.follows .mixedOrders = true) (m N : Nat) (hN : a0.tmps.size = N) (D : Nat → Value → World → Prop) (G : World → Prop) (R : Nat → World → World → Prop)
    (hap : apartN ops = true) (hlast : lastN .any ops m = true) (hin : (List.range ops.size).all (fun j => match dstOf ops j with | some x => decide (x < N) | none => true) = true)
    (hst : ∀ i j v w w', j ≠ i → R i w w' → D j v w → D j v w') (hG : G w.drew)
    (hstep : ∀ (Q' : Exit → Act → World → Prop) (i : Nat), i < m → ∀ (vs : Nat → Value) (W : World), G W → (∀ j ∈ depsOf .any ops i, D j (vs j) W) →
      wpOp P ops Q' i (Behind ops D G R i (putL vs ops.toList 0 a0) W) (putL vs ops.toList 0 a0) W)
    (hend : ∀ (vs : Nat → Value) (W : World), G W → (∀ j, j < m → D j (vs j) W) → wpOp P ops Q m (fun a' w' => Q .normal a' w') (putL vs ops.toList 0 a0) W) :
    (Code.region id ops true).wp P Q a0 w := by
  simp only [← putN_all] at hstep hend
  refine wp_region_any hmix ?_
  have hd : ∀ j x, dstOf ops j = some x → x < a0.tmps.size := by
    intro j x hx
    rw [List.all_eq_true] at hin
    have hj : j < ops.size := by
      unfold dstOf at hx
      rcases Nat.lt_or_ge j ops.size with h | h
      · exact h
      · rw [Array.getElem?_eq_none h] at hx; cases hx
    have := hin j (List.mem_range.2 hj)
    rw [hx] at this
    rw [hN]
    simpa using this
  have h0 : putN ops (first ops a0) a0 ops.size = a0 := putN_first hd _
  have hfal : ∀ j, (Array.replicate ops.size false).getD j false = false := by
    intro j
    rw [Array.getD_eq_getD_getElem?, Array.getElem?_replicate]
    split <;> rfl
  have hsz : ops.size = m + 1 := by
    unfold lastN at hlast
    simp only [Bool.and_eq_true, beq_iff_eq] at hlast
    exact hlast.1.1
  have := wpAny_facts (P := P) (Q := Q) D G R a0 m hap hlast hst (hstep Q) hend ops.size (Array.replicate ops.size false) (first ops a0) w.drew (by simp) (fun i hi => by rw [hfal i] at hi; cases hi)
    (by rw [Array.getD_eq_getD_getElem?, Array.getElem?_replicate, if_pos (by omega)]; rfl) hG (fun j hj => by rw [hfal j] at hj; cases hj) (by
      refine Nat.le_trans (List.length_filter_le _ _) ?_
      simp)
  rw [h0] at this
  exact this
end Go.Proofs.Ytlbiocfpkpcdhaa
