import Derived.Test.YtlbiocfpkpcdhaaDrawS
import Derived.Test.YtlbiocfpkpcdhaaSagaM
import Derived.Outline
import Derived.Deep.CutBlock
namespace Go.Proofs.Ytlbiocfpkpcdhaa
open Go.RowKit
set_option linter.unusedSimpArgs false
set_option linter.unusedVariables false
def sagaCells (s : SagaD) : Array Value := #[.int .i64 s.ph, .int .i64 s.dn, .int .i64 s.at_, .int .i64 s.tr, .bool s.sn, .int .i64 s.du]
def sagaO (s : SagaD) : Obj := .cells #[.int .i64 s.ph, .int .i64 s.dn, .int .i64 s.at_, .int .i64 s.tr, .bool s.sn, .int .i64 s.du] 37
def defO (d : DefD) (A : Option Addr) (cap : Nat) : Obj := .cells #[.string d.nm, .slice A d.st.length cap, .int .i64 d.pv] 29
def outO (o : OutD) : Obj := .cells #[.int .i64 o.sg.ph, .int .i64 o.sg.dn, .int .i64 o.sg.at_, .int .i64 o.sg.tr, .bool o.sg.sn, .int .i64 o.sg.du, .int .i64 o.cm.st, .bool o.cm.un, .int .i64 o.cm.ty, .bool o.ow, .int .i64 o.cd] 41
def zSaga : SagaD := ⟨0, 0, 0, 0, false, 0⟩
/-- what a draw of a saga and a time says -/
def DrewSaga (g : Nat) (w : World) (e : Ending) (w' : World) : Prop := ∃ (s : SagaD) (t : Int), 0 ≤ t ∧ t ≤ 1000 ∧ e = .returned (.tuple #[sagaV s, .int .i64 t]) ∧ SrcAt w' g ∧ w.grownBy w' (some g)
theorem DefAt.later {w w' : World} {d : DefD} {A : Option Addr} {cap : Nat} {r : Option Nat} (h : DefAt w d A cap) (hb : w.grownBy w' r) (hne : ∀ x, A = some x → some x.block ≠ r) : DefAt w' d A cap := ⟨h.nm, h.fit, h.row.grown hb hne, h.cap⟩
theorem roundCells {g : Nat} {w W : World} {d : DefD} {A : Option Addr} {cap bx yb : Nat} {s z : SagaD} {o : OutD} (h : DS g w ((yb, outO o) :: [(bx, sagaO s), (w.heap.size + 1, sagaO z), (w.heap.size, defO d A cap)]) W) :
    (yb < W.heap.size ∧ bx < W.heap.size ∧ w.heap.size < W.heap.size) ∧ (∀ j, W.frozen? ⟨yb, j, none⟩ = false) := by
  obtain ⟨y0, yf, -⟩ := cells11 (h.at 0 rfl)
  exact ⟨⟨y0, (h.new 1 rfl).2.2, (h.new 3 rfl).2.2⟩, yf⟩
/-- memory in a round -/
def Round (g : Nat) (w : World) (d : DefD) (A : Option Addr) (cap bx yb : Nat) (s : SagaD) (W : World) : Prop := ∃ o, DS g w ((yb, outO o) :: [(bx, sagaO s), (w.heap.size + 1, sagaO zSaga), (w.heap.size, defO d A cap)]) W
theorem roundS {g : Nat} {w w' : World} {d : DefD} {A : Option Addr} {cap bx yb : Nat} {s : SagaD} {o : OutD} (h : DS g w ((yb, outO o) :: [(bx, sagaO s), (w.heap.size + 1, sagaO zSaga), (w.heap.size, defO d A cap)]) w') :
    ((w'.cell? ⟨w.heap.size, 0, none⟩ = some (.string d.nm) ∧ w'.cell? ⟨w.heap.size, 1, none⟩ = some (.slice A d.st.length cap) ∧ w'.cell? ⟨w.heap.size, 2, none⟩ = some (.int .i64 d.pv)) ∧ (w'.cell? ⟨bx, 0, none⟩ = some (.int .i64 s.ph) ∧ w'.cell? ⟨bx, 1, none⟩ = some (.int .i64 s.dn) ∧ w'.cell? ⟨bx, 2, none⟩ = some (.int .i64 s.at_) ∧ w'.cell? ⟨bx, 3, none⟩ = some (.int .i64 s.tr) ∧ w'.cell? ⟨bx, 4, none⟩ = some (.bool s.sn) ∧ w'.cell? ⟨bx, 5, none⟩ = some (.int .i64 s.du))) ∧ Round g w d A cap bx yb s w' := by
  obtain ⟨-, -, x0, x1, x2, x3, x4, x5⟩ := cells6 (h.at 1 rfl)
  obtain ⟨-, -, d0, d1, d2⟩ := cells3 (h.at 3 rfl)
  exact ⟨⟨⟨d0, d1, d2⟩, x0, x1, x2, x3, x4, x5⟩, o, h⟩
def outL (o : OutD) : List Value := [.int .i64 o.sg.ph, .int .i64 o.sg.dn, .int .i64 o.sg.at_, .int .i64 o.sg.tr, .bool o.sg.sn, .int .i64 o.sg.du, .int .i64 o.cm.st, .bool o.cm.un, .int .i64 o.cm.ty, .bool o.ow, .int .i64 o.cd]
theorem DS.out {g : Nat} {w W : World} {yb : Nat} {o : OutD} {bs : List (Nat × Obj)} (h : DS g w ((yb, outO o) :: bs) W) (o' : OutD) : DS g w ((yb, outO o') :: bs) (stores W yb 0 (outL o')) := by
  rw [stores_all (outL o') (h.at 0 rfl) rfl]
  exact h.put 0 (outO o') rfl
theorem DS.saga {g : Nat} {w W : World} {bx : Nat} {s : SagaD} {p : Nat × Obj} {bs : List (Nat × Obj)} (h : DS g w (p :: (bx, sagaO s) :: bs) W) (s' : SagaD) : DS g w (p :: (bx, sagaO s') :: bs) (stores W bx 0 [.int .i64 s'.ph, .int .i64 s'.dn, .int .i64 s'.at_, .int .i64 s'.tr, .bool s'.sn, .int .i64 s'.du]) := by
  rw [stores_all [.int .i64 s'.ph, .int .i64 s'.dn, .int .i64 s'.at_, .int .i64 s'.tr, .bool s'.sn, .int .i64 s'.du] (h.at 1 rfl) rfl]
  exact h.put 1 (sagaO s') rfl
theorem endSaga {fn : Func} {p u : Tmp} (hres : fn.results = #[.cell p 37, .tmp u]) {a : Act} {w W : World} {g bx : Nat} {s : SagaD} {o : Obj} {t : Int} (hp : a.tmps.getD p undef = .pointer (some ⟨w.heap.size + 1, 0, none⟩)) (hu : a.tmps.getD u undef = .int .i64 t) (hd : a.defers = [])
    (h : DS g w [(bx, sagaO s), (w.heap.size + 1, sagaO zSaga), (w.heap.size, o)] W) (h0 : 0 ≤ t) (h1 : t ≤ 1000) : bodyPost Try.prog fn (DrewSaga g w) .ret a (stores W (w.heap.size + 1) 0 [.int .i64 s.ph, .int .i64 s.dn, .int .i64 s.at_, .int .i64 s.tr, .bool s.sn, .int .i64 s.du]) :=
  endCellTmp hres [.int .i64 s.ph, .int .i64 s.dn, .int .i64 s.at_, .int .i64 s.tr, .bool s.sn, .int .i64 s.du] hp hu hd (h.at 1 rfl) rfl Try.underlying37 rfl size_Saga
    ⟨s, t, h0, h1, rfl, (h.put 1 (sagaO s) rfl).src, (h.put 1 (sagaO s) rfl).gr⟩
theorem field_sg (v0 v1 v2 v3 v4 v5 v6 v7 v8 v9 v10 : Value) (W : World) : (Instr.field 41 (.agg #[v0, v1, v2, v3, v4, v5, v6, v7, v8, v9, v10]) 0).run Try.prog W = .ok (.agg #[v0, v1, v2, v3, v4, v5]) W := by kernel_rfl
set_option maxRecDepth 100000 in
set_option maxHeartbeats 4000000 in
theorem l13SagaDraw_any (g : Nat) (d : DefD) (A : Option Addr) (cap : Nat) (w : World) (h : SrcAt w g) (hd : DefAt w d A cap) (hA : ∀ x, A = some x → some x.block ≠ some g) :
    Calls Try.prog 91 #[.pointer (some ⟨g, 0, none⟩), defV d A cap] w (DrewSaga g w) := by
  have HS := Lib.hid (DS.start h)
  have HD := Lib.hid hd
  have HA := Lib.hid hA
  clear h hd hA
  unfold defV
  go_enter Try.func91, Try.ntmps91
  go_upto_region 1 with fail
  refine wpNamed (DS g w [(w.heap.size + 1, sagaO zSaga), (w.heap.size, defO d A cap)]) ((HS.out.alloc _ rfl).alloc _ (by simp)) ?_
  intro W hW
  have HW := Lib.hid hW
  clear hW HS
  go_wp2_with fail
  refine (n_any g 20 _ HW.out.src (by omega)).mono ?_
  rintro e w1 ⟨t, ⟨ht0, ht1⟩, rfl, hs, hg⟩
  have HW1 := Lib.hid (HW.out.draw hs hg)
  have ht2 := ht1 (by omega)
  clear hs hg ht1 HW
  obtain ⟨d0, df, d1, d2, d3⟩ := cells3 (HW1.out.at 1 rfl)
  go_wp2_with fail
  refine (startSpec_any d A cap t _ (HD.out.later HW1.out.gr HA.out)).mono ?_
  rintro e w2 ⟨rfl, hb⟩
  have HW2 := Lib.hid (HW1.out.below hb)
  clear hb d0 df d1 d2 d3 HW1
  obtain ⟨o, ho⟩ : ∃ o, startS d t = o := ⟨_, rfl⟩
  rw [ho]
  clear ho
  obtain ⟨⟨q0, q1, q2, q3, q4, q5⟩, ⟨q6, q7, q8⟩, q9, q10⟩ := o
  have hfs := field_sg
  dsimp only
  go_upto_region 3 with fail
  obtain ⟨bx, hbx⟩ : ∃ bx, bx = w2.heap.size := ⟨_, rfl⟩
  rw [← hbx]
  refine wpNamed (DS g w [(bx, sagaO ⟨q0, q1, q2, q3, q4, q5⟩), (w.heap.size + 1, sagaO zSaga), (w.heap.size, defO d A cap)]) (HW2.out.alloc _ hbx) ?_
  clear HW2 hbx w2 w1 W hfs
  intro W hW
  have HW := Lib.hid hW
  clear hW
  go_wp2_with fail
  refine (n_any g 8 _ HW.out.src (by omega)).mono ?_
  rintro e w3 ⟨k, ⟨hk0, hk1⟩, rfl, hs, hg⟩
  have HW3 := Lib.hid (HW.out.draw hs hg)
  have hk2 := hk1 (by omega)
  clear hs hg hk1 HW W
  go_wp2_with fail
  obtain ⟨k, rfl⟩ := Int.eq_ofNat_of_zero_le hk0
  go_loopw [6, 8] (fun v6 v8 wr => ∃ (m : Nat) (t : Int) (s : SagaD), m ≤ 7 ∧ v6 = .int .i64 t ∧ v8 = .int .i64 m ∧ 0 ≤ t ∧ t ≤ 19 + 11 * (7 - m) ∧ DS g w [(bx, sagaO s), (w.heap.size + 1, sagaO zSaga), (w.heap.size, defO d A cap)] wr) (fun v6 v8 wr => (intOf v8).toNat)
  case atStart => exact ⟨k, t, _, by omega, rfl, rfl, by omega, by omega, HW3.out⟩
  case round =>
    clear ht0 ht2 hk0 hk2 HW3 w3
    obtain ⟨m, t, s, hm, rfl, rfl, ht0, ht1, hds⟩ := hrel
    have HR := Lib.hid hds
    clear hds
    by_cases hlt : 0 < m
    · go_wp2_with fail
      refine (n_any g 12 _ HR.out.src (by omega)).mono ?_
      rintro e w1 ⟨r, ⟨hr0, hr1⟩, rfl, hs, hg⟩
      have HR1 := Lib.hid (HR.out.draw hs hg)
      have hr2 := hr1 (by omega)
      clear hs hg hr1 HR
      go_upto_region 8 with fail
      obtain ⟨yb, hyb⟩ : ∃ yb, yb = w1.heap.size := ⟨_, rfl⟩
      rw [← hyb]
      refine wpNamed (DS g w ((yb, outO (codeS 12)) :: [(bx, sagaO s), (w.heap.size + 1, sagaO zSaga), (w.heap.size, defO d A cap)])) (HR1.out.alloc _ hyb) ?_
      clear HR1 hyb w1
      intro W hW
      have HR1 := Lib.hid hW
      clear hW
      obtain ⟨t2, ht2⟩ : ∃ t2, t2 = t + r := ⟨_, rfl⟩
      rw [← ht2]
      have ht3 : 0 ≤ t2 := by omega
      have ht4 : t2 ≤ 19 + 11 * (8 - m) := by omega
      clear ht2 hr0 hr2 ht0 ht1
      go_wp2_with fail
      refine (n_any g 6 _ HR1.out.src (by omega)).mono ?_
      rintro e w1 ⟨c, ⟨hc0, hc1⟩, rfl, hs, hg⟩
      have HR2 := Lib.hid (HR1.out.draw hs hg)
      have hc2 := hc1 (by omega)
      clear hs hg hc1 HR1 W
      go_upto_block 2 with fail
      have HRD := Lib.hid HR2.out.drew
      go_cut [] (fun wx => ∃ o : OutD, DS g w ((yb, outO o) :: [(bx, sagaO s), (w.heap.size + 1, sagaO zSaga), (w.heap.size, defO d A cap)]) wx)
      case first =>
        obtain ⟨hgl, hfr⟩ := roundCells HR2.out
        have hc : c = 0 ∨ c = 1 ∨ c = 2 ∨ c = 3 ∨ c = 4 ∨ c = 5 := by omega
        clear hc0 hc2
        rcases hc with rfl | rfl | rfl | rfl | rfl | rfl
        · go_wp2_with fail
          have HSD := Lib.hid (roundS HRD.out)
          go_region_held3 (fun w' => ((w'.cell? ⟨w.heap.size, 0, none⟩ = some (.string d.nm) ∧ w'.cell? ⟨w.heap.size, 1, none⟩ = some (.slice A d.st.length cap) ∧ w'.cell? ⟨w.heap.size, 2, none⟩ = some (.int .i64 d.pv)) ∧ (w'.cell? ⟨bx, 0, none⟩ = some (.int .i64 s.ph) ∧ w'.cell? ⟨bx, 1, none⟩ = some (.int .i64 s.dn) ∧ w'.cell? ⟨bx, 2, none⟩ = some (.int .i64 s.at_) ∧ w'.cell? ⟨bx, 3, none⟩ = some (.int .i64 s.tr) ∧ w'.cell? ⟨bx, 4, none⟩ = some (.bool s.sn) ∧ w'.cell? ⟨bx, 5, none⟩ = some (.int .i64 s.du))) ∧ Round g w d A cap bx yb s w')
            (first | with_reducible exact HS5.out | with_reducible exact HS4.out | with_reducible exact HS3.out | with_reducible exact HSD.out | exact roundS (HR5.out.out (replyS d s (cmdOf s) (!r4) t2)))
            (first
              | (go_at_call 92; refine (l13Command_any s _).mono ?_; rintro e w3 ⟨rfl, hb⟩; have HR3 := Lib.hid (HRD.out.below hb); have HS3 := Lib.hid (roundS HR3.out); clear hb)
              | (go_at_call 59; refine (one_any g 3 _ HR3.out.src (by omega)).mono ?_; rintro e w4 ⟨r4, rfl, hs, hg⟩; have HR4 := Lib.hid (HR3.out.draw hs hg); have HS4 := Lib.hid (roundS HR4.out); clear hs hg)
              | (go_at_call 32; refine (replySpec_any d A cap s (cmdOf s) _ t2 _ (HD.out.later HR4.out.gr HA.out)).mono ?_; rintro e w5 ⟨rfl, hb⟩; have HR5 := Lib.hid (HR4.out.below hb); have HS5 := Lib.hid (roundS HR5.out); clear hb; obtain ⟨e0, ef, e1, e2, e3, e4, e5, e6, e7, e8, e9, e10, e11⟩ := cells11 (HR5.out.at 0 rfl)))
          go_wp2_with fail
          go_meet
          exact (‹_ ∧ Round g w d A cap bx yb s _›).2
        · go_wp2_with fail
          have HSD := Lib.hid (roundS HRD.out)
          go_region_held3 (fun w' => ((w'.cell? ⟨w.heap.size, 0, none⟩ = some (.string d.nm) ∧ w'.cell? ⟨w.heap.size, 1, none⟩ = some (.slice A d.st.length cap) ∧ w'.cell? ⟨w.heap.size, 2, none⟩ = some (.int .i64 d.pv)) ∧ (w'.cell? ⟨bx, 0, none⟩ = some (.int .i64 s.ph) ∧ w'.cell? ⟨bx, 1, none⟩ = some (.int .i64 s.dn) ∧ w'.cell? ⟨bx, 2, none⟩ = some (.int .i64 s.at_) ∧ w'.cell? ⟨bx, 3, none⟩ = some (.int .i64 s.tr) ∧ w'.cell? ⟨bx, 4, none⟩ = some (.bool s.sn) ∧ w'.cell? ⟨bx, 5, none⟩ = some (.int .i64 s.du))) ∧ Round g w d A cap bx yb s w')
            (first | with_reducible exact HS5.out | with_reducible exact HS4.out | with_reducible exact HS3.out | with_reducible exact HSD.out | exact roundS (HR5.out.out (replyS d s (cmdOf s) (!r4) t2)))
            (first
              | (go_at_call 92; refine (l13Command_any s _).mono ?_; rintro e w3 ⟨rfl, hb⟩; have HR3 := Lib.hid (HRD.out.below hb); have HS3 := Lib.hid (roundS HR3.out); clear hb)
              | (go_at_call 59; refine (one_any g 3 _ HR3.out.src (by omega)).mono ?_; rintro e w4 ⟨r4, rfl, hs, hg⟩; have HR4 := Lib.hid (HR3.out.draw hs hg); have HS4 := Lib.hid (roundS HR4.out); clear hs hg)
              | (go_at_call 32; refine (replySpec_any d A cap s (cmdOf s) _ t2 _ (HD.out.later HR4.out.gr HA.out)).mono ?_; rintro e w5 ⟨rfl, hb⟩; have HR5 := Lib.hid (HR4.out.below hb); have HS5 := Lib.hid (roundS HR5.out); clear hb; obtain ⟨e0, ef, e1, e2, e3, e4, e5, e6, e7, e8, e9, e10, e11⟩ := cells11 (HR5.out.at 0 rfl)))
          go_wp2_with fail
          go_meet
          exact (‹_ ∧ Round g w d A cap bx yb s _›).2
        · go_wp2_with fail
          have HSD := Lib.hid (roundS HRD.out)
          go_region_held3 (fun w' => ((w'.cell? ⟨w.heap.size, 0, none⟩ = some (.string d.nm) ∧ w'.cell? ⟨w.heap.size, 1, none⟩ = some (.slice A d.st.length cap) ∧ w'.cell? ⟨w.heap.size, 2, none⟩ = some (.int .i64 d.pv)) ∧ (w'.cell? ⟨bx, 0, none⟩ = some (.int .i64 s.ph) ∧ w'.cell? ⟨bx, 1, none⟩ = some (.int .i64 s.dn) ∧ w'.cell? ⟨bx, 2, none⟩ = some (.int .i64 s.at_) ∧ w'.cell? ⟨bx, 3, none⟩ = some (.int .i64 s.tr) ∧ w'.cell? ⟨bx, 4, none⟩ = some (.bool s.sn) ∧ w'.cell? ⟨bx, 5, none⟩ = some (.int .i64 s.du))) ∧ Round g w d A cap bx yb s w')
            (first | with_reducible exact HS5.out | with_reducible exact HS4.out | with_reducible exact HS3.out | with_reducible exact HSD.out | exact roundS (HR5.out.out (replyS d s (cmdOf s) (!r4) t2)))
            (first
              | (go_at_call 92; refine (l13Command_any s _).mono ?_; rintro e w3 ⟨rfl, hb⟩; have HR3 := Lib.hid (HRD.out.below hb); have HS3 := Lib.hid (roundS HR3.out); clear hb)
              | (go_at_call 59; refine (one_any g 3 _ HR3.out.src (by omega)).mono ?_; rintro e w4 ⟨r4, rfl, hs, hg⟩; have HR4 := Lib.hid (HR3.out.draw hs hg); have HS4 := Lib.hid (roundS HR4.out); clear hs hg)
              | (go_at_call 32; refine (replySpec_any d A cap s (cmdOf s) _ t2 _ (HD.out.later HR4.out.gr HA.out)).mono ?_; rintro e w5 ⟨rfl, hb⟩; have HR5 := Lib.hid (HR4.out.below hb); have HS5 := Lib.hid (roundS HR5.out); clear hb; obtain ⟨e0, ef, e1, e2, e3, e4, e5, e6, e7, e8, e9, e10, e11⟩ := cells11 (HR5.out.at 0 rfl)))
          go_wp2_with fail
          go_meet
          exact (‹_ ∧ Round g w d A cap bx yb s _›).2
        · obtain ⟨x0, xf, x1, x2, x3, x4, x5, x6⟩ := cells6 (HR2.out.at 1 rfl)
          obtain ⟨d0, df, d1, d2, d3⟩ := cells3 (HR2.out.at 3 rfl)
          go_wp2_with fail
          refine (tickSpec_any d A cap s t2 _ (HD.out.later HR2.out.gr HA.out)).mono ?_
          rintro e w5 ⟨rfl, hb⟩
          have HR5 := Lib.hid (HR2.out.below hb)
          clear hb
          obtain ⟨e0, ef, e1, e2, e3, e4, e5, e6, e7, e8, e9, e10, e11⟩ := cells11 (HR5.out.at 0 rfl)
          go_wp2_with fail
          go_meet
          exact ⟨_, HR5.out.out (tickS d s t2)⟩
        · obtain ⟨x0, xf, x1, x2, x3, x4, x5, x6⟩ := cells6 (HR2.out.at 1 rfl)
          obtain ⟨d0, df, d1, d2, d3⟩ := cells3 (HR2.out.at 3 rfl)
          go_wp2_with fail
          refine (tickSpec_any d A cap s t2 _ (HD.out.later HR2.out.gr HA.out)).mono ?_
          rintro e w5 ⟨rfl, hb⟩
          have HR5 := Lib.hid (HR2.out.below hb)
          clear hb
          obtain ⟨e0, ef, e1, e2, e3, e4, e5, e6, e7, e8, e9, e10, e11⟩ := cells11 (HR5.out.at 0 rfl)
          go_wp2_with fail
          go_meet
          exact ⟨_, HR5.out.out (tickS d s t2)⟩
        · go_wp2_with fail
          refine (one_any g 2 _ HR2.out.src (by omega)).mono ?_
          rintro e w4 ⟨r4, rfl, hs, hg⟩
          have HR4 := Lib.hid (HR2.out.draw hs hg)
          clear hs hg
          cases r4
          · go_wp2_with fail
            go_meet
            exact ⟨_, HR4.out⟩
          · obtain ⟨x0, xf, x1, x2, x3, x4, x5, x6⟩ := cells6 (HR4.out.at 1 rfl)
            obtain ⟨d0, df, d1, d2, d3⟩ := cells3 (HR4.out.at 3 rfl)
            go_wp2_with fail
            refine (cancelSpec_any d A cap s t2 _ (HD.out.later HR4.out.gr HA.out)).mono ?_
            rintro e w5 ⟨rfl, hb⟩
            have HR5 := Lib.hid (HR4.out.below hb)
            clear hb
            obtain ⟨e0, ef, e1, e2, e3, e4, e5, e6, e7, e8, e9, e10, e11⟩ := cells11 (HR5.out.at 0 rfl)
            go_wp2_with fail
            go_meet
            exact ⟨_, HR5.out.out (cancelS d s t2)⟩
      case rest =>
      obtain ⟨o, hcut⟩ := hcut
      have HR3 := Lib.hid hcut
      clear hcut HR2 HRD hc0 hc2
      obtain ⟨e0, ef, e1, e2, e3, e4, e5, e6, e7, e8, e9, e10, e11⟩ := cells11 (HR3.out.at 0 rfl)
      obtain ⟨x0, xf, x1, x2, x3, x4, x5, x6⟩ := cells6 (HR3.out.at 1 rfl)
      obtain ⟨m, rfl⟩ : ∃ j, m = j + 1 := ⟨m - 1, by omega⟩
      by_cases hcd : o.cd = 0
      · go_wp2_with fail
        go_roundw
        case rel => exact ⟨m, t2, o.sg, by omega, rfl, by go_num, ht3, by omega, (HR3.out.saga o.sg).drop _ (List.sublist_cons_self _ _)⟩
        case measure => simp [intOf]
      · have hcd2 : (o.cd == 0) = false := by simpa using hcd
        go_wp2_with fail
        go_roundw
        case rel => exact ⟨m, t2, s, by omega, rfl, by go_num, ht3, by omega, HR3.out.drop _ (List.sublist_cons_self _ _)⟩
        case measure => simp [intOf]
    · have hm0 : m = 0 := by omega
      subst hm0
      go_wp2_with fail
      refine (one_any g 15 _ HR.out.src (by omega)).mono ?_
      rintro e w4 ⟨r4, rfl, hs, hg⟩
      have HR4 := Lib.hid (HR.out.draw hs hg)
      clear hs hg HR
      cases r4
      · obtain ⟨x0, xf, x1, x2, x3, x4, x5, x6⟩ := cells6 (HR4.out.at 0 rfl)
        obtain ⟨z0, zf, z1, z2, z3, z4, z5, z6⟩ := cells6 (HR4.out.at 1 rfl)
        go_wp2_with fail
        exact endSaga Try.results91 rfl rfl rfl HR4.out ht0 (by omega)
      · go_wp2_with fail
        refine (n_any g 6 _ HR4.out.src (by omega)).mono ?_
        rintro e w1 ⟨c, ⟨hc0, hc1⟩, rfl, hs, hg⟩
        have HR2 := Lib.hid (HR4.out.draw hs hg)
        have hc2 := hc1 (by omega)
        clear hs hg hc1 HR4
        go_upto_block 3 with fail
        go_cut [] (fun wx => ∃ s' : SagaD, DS g w [(bx, sagaO s'), (w.heap.size + 1, sagaO zSaga), (w.heap.size, defO d A cap)] wx)
        case first =>
          have hc : c = 0 ∨ c = 1 ∨ c = 2 ∨ c = 3 ∨ c = 4 ∨ c = 5 := by omega
          clear hc0 hc2
          rcases hc with rfl | rfl | rfl | rfl | rfl | rfl
          · go_wp2_with fail
            refine (n_any g 7 _ HR2.out.src (by omega)).mono ?_
            rintro e w3 ⟨r, ⟨hr0, hr1⟩, rfl, hs, hg⟩
            have HR3 := Lib.hid (HR2.out.draw hs hg)
            have hr2 := hr1 (by omega)
            clear hs hg hr1
            obtain ⟨x0, xf, x1, x2, x3, x4, x5, x6⟩ := cells6 (HR3.out.at 0 rfl)
            go_wp2_with fail
            go_meet
            exact ⟨{ s with ph := r }, HR3.out.set 0 0 rfl⟩
          · go_wp2_with fail
            refine (n_any g 6 _ HR2.out.src (by omega)).mono ?_
            rintro e w3 ⟨r, ⟨hr0, hr1⟩, rfl, hs, hg⟩
            have HR3 := Lib.hid (HR2.out.draw hs hg)
            have hr2 := hr1 (by omega)
            clear hs hg hr1
            obtain ⟨x0, xf, x1, x2, x3, x4, x5, x6⟩ := cells6 (HR3.out.at 0 rfl)
            go_wp2_with fail
            go_meet
            exact ⟨{ s with dn := r - 1 }, HR3.out.set 0 1 rfl⟩
          · go_wp2_with fail
            refine (n_any g 6 _ HR2.out.src (by omega)).mono ?_
            rintro e w3 ⟨r, ⟨hr0, hr1⟩, rfl, hs, hg⟩
            have HR3 := Lib.hid (HR2.out.draw hs hg)
            have hr2 := hr1 (by omega)
            clear hs hg hr1
            obtain ⟨x0, xf, x1, x2, x3, x4, x5, x6⟩ := cells6 (HR3.out.at 0 rfl)
            go_wp2_with fail
            go_meet
            exact ⟨{ s with at_ := r - 1 }, HR3.out.set 0 2 rfl⟩
          · go_wp2_with fail
            refine (n_any g 5 _ HR2.out.src (by omega)).mono ?_
            rintro e w3 ⟨r, ⟨hr0, hr1⟩, rfl, hs, hg⟩
            have HR3 := Lib.hid (HR2.out.draw hs hg)
            have hr2 := hr1 (by omega)
            clear hs hg hr1
            obtain ⟨x0, xf, x1, x2, x3, x4, x5, x6⟩ := cells6 (HR3.out.at 0 rfl)
            go_wp2_with fail
            go_meet
            exact ⟨{ s with tr := r }, HR3.out.set 0 3 rfl⟩
          · go_wp2_with fail
            refine (n_any g 3 _ (HR2.out.src.alloc _) (by omega)).mono ?_
            rintro e w3 ⟨r, ⟨hr0, hr1⟩, rfl, hs, hg⟩
            have HR3 := Lib.hid ((HR2.out.alloc (.cells #[.int .i64 (-1), .int .i64 2000000000, .int .i64 2000000001] 2) rfl).draw hs hg)
            have hr2 := hr1 (by omega)
            clear hs hg hr1
            obtain ⟨y0, yf, y1, y2, y3⟩ := cells3 (HR3.out.at 0 rfl)
            obtain ⟨x0, xf, x1, x2, x3, x4, x5, x6⟩ := cells6 (HR3.out.at 1 rfl)
            have hr : r = 0 ∨ r = 1 ∨ r = 2 := by omega
            clear hr0 hr2
            rcases hr with rfl | rfl | rfl
            · go_wp2_with fail
              go_meet
              exact ⟨{ s with du := -1 }, (HR3.out.set 1 5 rfl).drop _ (List.sublist_cons_self _ _)⟩
            · go_wp2_with fail
              go_meet
              exact ⟨{ s with du := 2000000000 }, (HR3.out.set 1 5 rfl).drop _ (List.sublist_cons_self _ _)⟩
            · go_wp2_with fail
              go_meet
              exact ⟨{ s with du := 2000000001 }, (HR3.out.set 1 5 rfl).drop _ (List.sublist_cons_self _ _)⟩
          · obtain ⟨x0, xf, x1, x2, x3, x4, x5, x6⟩ := cells6 (HR2.out.at 0 rfl)
            go_wp2_with fail
            go_meet
            exact ⟨{ s with sn := !s.sn }, HR2.out.set 0 4 rfl⟩
        case rest =>
        obtain ⟨s', hcut⟩ := hcut
        have HR3 := Lib.hid hcut
        clear hcut HR2 hc0 hc2
        obtain ⟨x0, xf, x1, x2, x3, x4, x5, x6⟩ := cells6 (HR3.out.at 0 rfl)
        obtain ⟨z0, zf, z1, z2, z3, z4, z5, z6⟩ := cells6 (HR3.out.at 1 rfl)
        go_wp2_with fail
        exact endSaga Try.results91 rfl rfl rfl HR3.out ht0 (by omega)
end Go.Proofs.Ytlbiocfpkpcdhaa
