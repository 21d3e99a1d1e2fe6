/- FnExactDefBytes: for every input the law returns true, and the argument reads as it did. No condition. -/
import Derived.Test.YtlbiocfpkpcdhaaFinal
import Derived.Test.YtlbiocfpkpcdhaaExD
import Derived.SizedLaws
import Derived.Lib.SmallJoins
namespace Go.Proofs.Ytlbiocfpkpcdhaa
open Go.ChangeShapes Go.WideShapes Go.ChangeAt Go.RowKit Go.Joins Go.Deep
set_option linter.unusedVariables false
set_option maxRecDepth 100000
theorem cells_string : Try.prog.cellsOf 9 = 1 := by kernel_rfl
theorem cells_int64 : Try.prog.cellsOf 2 = 1 := by kernel_rfl
theorem cells_lawStep : Try.prog.cellsOf 139 = 6 := by kernel_rfl
theorem bytes_lawStep : Try.prog.bytesOf 139 = 72 := by kernel_rfl
/-- one thing an index: a list of them -/
theorem listOf {α : Type} {Q : Nat → α → Prop} : ∀ n : Nat, (∀ i, i < n → ∃ s, Q i s) → ∃ l : List α, l.length = n ∧ ∀ i s, l[i]? = some s → Q i s
  | 0, _ => ⟨[], rfl, by simp⟩
  | n + 1, h => by
    obtain ⟨l, hl, hq⟩ := listOf n fun i hi => h i (by omega)
    obtain ⟨s, hs⟩ := h n (by omega)
    refine ⟨l ++ [s], by simp [hl], fun i t ht => ?_⟩
    rcases Nat.lt_or_ge i n with hi | hi
    · rw [List.getElem?_append_left (by omega)] at ht
      exact hq i t ht
    · rw [List.getElem?_append_right (by omega)] at ht
      rcases Nat.lt_or_ge n i with hj | hj
      · rw [List.getElem?_eq_none (by simp; omega)] at ht
        cases ht
      · obtain rfl : i = n := by omega
        simp [hl] at ht
        exact ht ▸ hs
theorem weights_of_mem {H : Type} {P : Program} {e : TypeId} : ∀ {l : List (DataW H)} {d : DataW H}, d ∈ l → ∀ n ∈ d.weights P e, n ∈ DataW.weightsAll P e l
  | x :: l, d, hd, n, hn => by
    simp only [DataW.weightsAll, List.mem_append]
    rcases List.mem_cons.1 hd with rfl | hd
    · exact .inl hn
    · exact .inr (weights_of_mem hd n hn)
/-- a step that was handed in -/
theorem step_in {H : Type} {enc : TypeId × Value → H} {W : World} {base fuel : Nat} {cs : List Value} {x : DataW H × List MemPlace}
    (h : DataW.trod enc Try.prog W base (fun _ => true) true fuel 139 cs = some x) (hw : ∀ n ∈ x.1.weights Try.prog 139, n ≤ reachBytes) : ∃ s : StepD, cs = s.cells ∧ s.fits := by
  obtain ⟨xs, n, -, rfl, hlen, hxl, hf⟩ := DataW.trod_struct Try.underlying139 h
  rw [cells_lawStep] at hlen
  have hxl : xs.length = 6 := hxl
  match cs, hlen with
  | [c0, c1, c2, c3, c4, c5], _ =>
  match xs, hxl with
  | [y0, y1, y2, y3, y4, y5], _ =>
    have h0 : DataW.trod enc Try.prog W base (fun _ => true) true n 9 (([c0, c1, c2, c3, c4, c5].drop 0).take (Try.prog.cellsOf 9)) = some y0 := hf 0 _ rfl
    have h1 : DataW.trod enc Try.prog W base (fun _ => true) true n 9 (([c0, c1, c2, c3, c4, c5].drop 1).take (Try.prog.cellsOf 9)) = some y1 := hf 1 _ rfl
    have h2 : DataW.trod enc Try.prog W base (fun _ => true) true n 9 (([c0, c1, c2, c3, c4, c5].drop 2).take (Try.prog.cellsOf 9)) = some y2 := hf 2 _ rfl
    have h3 : DataW.trod enc Try.prog W base (fun _ => true) true n 2 (([c0, c1, c2, c3, c4, c5].drop 3).take (Try.prog.cellsOf 2)) = some y3 := hf 3 _ rfl
    have h4 : DataW.trod enc Try.prog W base (fun _ => true) true n 2 (([c0, c1, c2, c3, c4, c5].drop 4).take (Try.prog.cellsOf 2)) = some y4 := hf 4 _ rfl
    have h5 : DataW.trod enc Try.prog W base (fun _ => true) true n 2 (([c0, c1, c2, c3, c4, c5].drop 5).take (Try.prog.cellsOf 2)) = some y5 := hf 5 _ rfl
    clear hf h
    rw [cells_string] at h0 h1 h2
    rw [cells_int64] at h3 h4 h5
    obtain ⟨s0, e0, g0, -⟩ := DataW.trod_string (x := y0) (cs := [c0]) Try.underlying9 h0
    obtain ⟨s1, e1, g1, -⟩ := DataW.trod_string (x := y1) (cs := [c1]) Try.underlying9 h1
    obtain ⟨s2, e2, g2, -⟩ := DataW.trod_string (x := y2) (cs := [c2]) Try.underlying9 h2
    obtain ⟨n3, e3, g3, -⟩ := DataW.trod_int (x := y3) (cs := [c3]) Try.underlying2 h3
    obtain ⟨n4, e4, g4, -⟩ := DataW.trod_int (x := y4) (cs := [c4]) Try.underlying2 h4
    obtain ⟨n5, e5, g5, -⟩ := DataW.trod_int (x := y5) (cs := [c5]) Try.underlying2 h5
    simp only [List.cons.injEq, and_true] at e0 e1 e2 e3 e4 e5
    subst e0 e1 e2 e3 e4 e5 g0 g1 g2 g3 g4 g5
    simp only [DataW.weights, Try.underlying139, DataW.weightsEach, List.map_cons, List.map_nil, List.cons_append, List.nil_append, List.mem_cons, List.not_mem_nil, or_false, forall_eq_or_imp, forall_eq, reachBytes, Array.length_toList] at hw
    refine ⟨⟨s0, s1, s2, n3, n4, n5⟩, rfl, ?_⟩
    obtain ⟨w0, w1, w2⟩ := hw
    have w0 : s0.size ≤ _ := w0
    have w1 : s1.size ≤ _ := w1
    have w2 : s2.size ≤ _ := w2
    exact ⟨show s0.size ≤ _ by omega, show s1.size ≤ _ by omega, show s2.size ≤ _ by omega⟩
/-- a row of steps that was handed in -/
theorem steps_in {H : Type} {enc : TypeId × Value → H} {W : World} {base fuel : Nat} {v : Value} {x : DataW H × List MemPlace}
    (hv : Cell.okWide Try.prog W .any base 22 v) (h : DataW.trod enc Try.prog W 0 (fun _ => true) true fuel 22 [v] = some x) (hw : ∀ n ∈ x.1.weights Try.prog 22, n ≤ reachBytes) :
    ∃ (A : Option Addr) (l : List StepD) (cap : Nat), v = .slice A l.length cap ∧ StepsFit l ∧ RowAt W A 6 StepD.cells l ∧ l.length ≤ cap := by
  rcases open_slice Try.underlying22 h with ⟨hcs, _⟩ | ⟨a, len, cap, m, n, D, Pl, hcs, hb, hl, hm, hmm, hx, hi⟩
  · simp only [List.cons.injEq, and_true] at hcs
    subst hcs
    exact ⟨none, [], 0, rfl, ⟨by simp, by simp⟩, fun i x hx => by simp at hx, Nat.le_refl _⟩
  · simp only [List.cons.injEq, and_true] at hcs
    subst hcs
    subst hx
    simp only [if_true] at hmm
    subst hmm
    simp only [Cell.okWide, Try.underlying22, Cell.ok, World.has] at hv
    obtain ⟨-, -, -, hsp, -⟩ := hv
    obtain ⟨b, o, s⟩ := a
    simp only at hsp
    subst hsp
    simp only [DataW.weights, Try.underlying22, bytes_lawStep, List.mem_cons, List.mem_append, forall_eq_or_imp, List.length_map, List.length_range, reachBytes] at hw
    obtain ⟨hw1, hw2⟩ := hw
    have hQ : ∀ i, i < len → ∃ s : StepD, s.fits ∧ ∀ j v, s.cells[j]? = some v → W.cell? ⟨b, o + i * 6 + j, none⟩ = some v := by
      intro i hil
      obtain ⟨cs', hc, ht⟩ := hi i (by omega)
      obtain ⟨s, rfl, hfit⟩ := step_in ht (fun n hn => hw2 n (.inl (weights_of_mem (List.mem_map.2 ⟨i, List.mem_range.2 hil, rfl⟩) n hn)))
      refine ⟨s, hfit, fun j v hj => ?_⟩
      rw [cells_lawStep] at hc
      obtain ⟨_, hcl, hat⟩ := World.cells?_some hc
      have hj6 : j < 6 := (List.getElem?_eq_some_iff.1 hj).1
      rw [← hj, ← hat j hj6]
      unfold Addr.add
      by_cases h1 : i * 6 = 0 <;> by_cases h2 : j = 0 <;> simp [h1, h2]
    obtain ⟨l, hll, hq⟩ := listOf len hQ
    subst hll
    refine ⟨some ⟨b, o, none⟩, l, _, rfl, ⟨by omega, fun s hs => ?_⟩, fun k s hk => ⟨b, o, rfl, (hq k s hk).2⟩, hl⟩
    obtain ⟨k, hk⟩ := List.mem_iff_getElem?.1 hs
    exact (hq k s hk).1
theorem fnExactDefBytes_lifted (os : Os) (started : os.Started) (H : Type) (enc : TypeId × Value → H) :
    ReturnsInHanded {} Try.checked os 3 .any (Rows.fnExactDefBytesSpec.pre6 enc Try.prog Try.f3 Rows.fnExactDefBytesRow.domain false) (Rows.fnExactDefBytesSpec.post enc Try.prog Try.f3 false true false false) := by
  refine returnsInHanded_of_change_sized (C := Try.checked) own started (by kernel_rfl) Try.func3
    (ChangeSpec.witness6 (enc := enc) (C := Try.checked) false ⟨#[], #[.agg #[.string ⟨#[]⟩, .slice none 0 0, .int .i64 0]], []⟩ 8 (by kernel_rfl) (by kernel_rfl) (by kernel_rfl) (by kernel_rfl)) ?_
  intro W base args ds gs before hval0 hW hcnd hsz0 _
  have hval : ∀ (j : Nat) t v, Try.f3.params[j]? = some t → args[j]? = some v → Value.okWide Try.prog W .any base t v := hval0
  have hsz : (DataW.weightsEach Try.prog (Try.f3.params.toList ++ Rows.fnExactDefBytesSpec.plain.varTypes Try.prog) (ds ++ gs)).all (· ≤ reachBytes) = true := hsz0
  have hW' := hW
  obtain ⟨p, q, hA0, hV, rfl, hfz, hnd⟩ := hW
  have hA : DataW.TrodAll enc Try.prog W 0 (fun _ => true) true Try.f3.params.toList args.toList ds p := hA0
  rw [Try.params3] at hA hval hsz
  obtain ⟨v0, vs0, d0, ds0, p0, q0, hargs, rfl, rfl, h0, r0⟩ := trodAll_cons hA
  obtain ⟨rfl, rfl, rfl⟩ := trodAll_nil r0
  obtain rfl : args = #[v0] := by cases args; simp_all
  obtain ⟨rfl, rfl⟩ := trodVars_none hV
  have o0 := hval 0 24 v0 rfl rfl
  have lt0 : ∀ x ∈ p0, x.block < W.heap.size := by obtain ⟨m, hm⟩ := h0; exact DataW.trod_lt m _ _ _ hm
  have o0' := o0
  obtain ⟨w0, w1, w2, y0, y1, y2, n, rfl, rfl, rfl, t0, t1, t2⟩ := open_agg3 Try.underlying24 (by kernel_rfl) (by kernel_rfl) o0 h0
  obtain ⟨nm, e0, g0, -⟩ := DataW.trod_string Try.underlying9 t0
  obtain ⟨pv, e2, g2, -⟩ := DataW.trod_int Try.underlying2 t2
  simp only [List.cons.injEq, and_true] at e0 e2
  subst e0 e2 g0 g2
  have hz : ∀ n ∈ DataW.weightsEach Try.prog [24] [.agg [.lit (.string nm.data.toList), y1.1, .lit (.int .i64 pv)]], n ≤ reachBytes := fun n hn => by
    simpa using List.all_eq_true.1 hsz n hn
  simp only [DataW.weightsEach, DataW.weights, Try.underlying24, List.map_cons, List.map_nil, List.cons_append, List.nil_append, List.append_nil, List.mem_cons, forall_eq_or_imp] at hz
  obtain ⟨z0, z1⟩ := hz
  have z0 : nm.size ≤ 140737488351232 := z0
  have oc : Cell.okWide Try.prog W .any base 22 w1 := by
    simp only [Value.okWide, Try.underlying24] at o0'
    obtain ⟨cs, hcs, -, ts, hts, -, hcell⟩ := o0'
    simp only [Value.agg.injEq] at hcs
    subst hcs
    obtain ⟨u, hu, hok⟩ := hcell 1 w1 rfl
    obtain rfl : ts = [9, 22, 2] := Option.some.inj (hts.symm.trans (by kernel_rfl))
    simp only [List.length_cons, List.length_nil] at hu
    obtain rfl : 22 = u := Option.some.inj hu
    exact hok
  obtain ⟨A, l, cap, rfl, hfit, hrow, hcap⟩ := steps_in oc t1 z1
  clear hA0 hval0
  refine (fnExactDefBytes_any ⟨nm, l, pv⟩ A cap W ⟨by show nm.size ≤ _; omega, hfit, hrow, hcap⟩).mono fun e W' ⟨he, bel⟩ => ?_
  subst he
  exact ⟨_, rfl, _, _, _, [], _, [], hW', trodAll_mk1 (shut_bool Try.underlying4 _), (trodAll_cons_mk (Below.trod laidOut (by kernel_rfl) (of_decide_eq_true (by kernel_rfl)) h0 bel lt0) trodAll_mk0), rfl, bel.frame _, fun h => by cases h⟩
theorem fnExactDefBytes_holds : Rows.FnExactDefBytesSaid :=
  OpenClaim.holds_of_wide 3 Try.f3 rfl rfl rfl rfl rfl rfl rfl ⟨rfl, rfl, rfl, rfl, rfl⟩ rfl rfl rfl rfl rfl (by kernel_rfl) Try.func3 (by kernel_rfl)
    (of_decide_eq_true (by kernel_rfl)) (by unfold Func.isWrapper; first | (rw [if_pos (by decide +kernel)]; kernel_rfl) | (rw [if_neg (by decide +kernel)]; exact ⟨rfl, rfl⟩))
    (fun os started H enc _ => fnExactDefBytes_lifted os started H enc)
#print axioms fnExactDefBytes_holds
end Go.Proofs.Ytlbiocfpkpcdhaa
