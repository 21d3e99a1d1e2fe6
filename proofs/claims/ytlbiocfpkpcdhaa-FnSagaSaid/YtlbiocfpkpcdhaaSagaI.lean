import Derived.Test.YtlbiocfpkpcdhaaSagaH
import Derived.Test.YtlbiocfpkpcdhaaSagaF
import Derived.Deep.DeepCutAuto
namespace Go.Proofs.Ytlbiocfpkpcdhaa
open Go.RowKit
set_option linter.unusedSimpArgs false
set_option linter.unusedVariables false
/-- the head of a call with a def and a saga: both boxed, the result's cell in block g behind them -/
structure Three (w0 : World) (d : DefD) (A : Option Addr) (cap : Nat) (s : SagaD) (g : Nat) (W : World) : Prop where
  df0 : DefAt w0 d A cap
  b0 : W.heap[w0.heap.size]? = some (.cells #[.string d.nm, .slice A d.st.length cap, .int .i64 d.pv] 29)
  b1 : W.heap[w0.heap.size + 1]? = some (.cells #[.int .i64 s.ph, .int .i64 s.dn, .int .i64 s.at_, .int .i64 s.tr, .bool s.sn, .int .i64 s.du] 37)
  b2 : W.heap[g]? = some zOut
  hg : w0.heap.size + 1 < g
  bel : Below w0.heap.size w0 W
theorem Three.df {w0 W : World} {d : DefD} {A : Option Addr} {cap g : Nat} {s : SagaD} (h : Three w0 d A cap s g W) : DefAt W d A cap := h.df0.below h.bel
theorem Three.start {w0 : World} {d : DefD} {A : Option Addr} {cap : Nat} {s : SagaD} (h : DefAt w0 d A cap) : Three w0 d A cap s (w0.heap.size + 1 + 1) (((w0.alloc (.cells #[.string d.nm, .slice A d.st.length cap, .int .i64 d.pv] 29)).alloc (.cells #[.int .i64 s.ph, .int .i64 s.dn, .int .i64 s.at_, .int .i64 s.tr, .bool s.sn, .int .i64 s.du] 37)).alloc zOut) :=
  ⟨h, blk_old (blk_old (heap_alloc_new _ _) _) _, blk_old (blk2 _ _) _, blk3 _ _ _, by omega, bel3 _ _ _⟩
/-- with one box more between -/
theorem Three.start4 {w0 : World} {d : DefD} {A : Option Addr} {cap : Nat} {s : SagaD} (h : DefAt w0 d A cap) (o : Obj) : Three w0 d A cap s (w0.heap.size + 1 + 1 + 1) ((((w0.alloc (.cells #[.string d.nm, .slice A d.st.length cap, .int .i64 d.pv] 29)).alloc (.cells #[.int .i64 s.ph, .int .i64 s.dn, .int .i64 s.at_, .int .i64 s.tr, .bool s.sn, .int .i64 s.du] 37)).alloc o).alloc zOut) ∧
    ((((w0.alloc (.cells #[.string d.nm, .slice A d.st.length cap, .int .i64 d.pv] 29)).alloc (.cells #[.int .i64 s.ph, .int .i64 s.dn, .int .i64 s.at_, .int .i64 s.tr, .bool s.sn, .int .i64 s.du] 37)).alloc o).alloc zOut).heap[w0.heap.size + 1 + 1]? = some o :=
  ⟨⟨h, blk_old (blk_old (blk_old (heap_alloc_new _ _) _) _) _, blk_old (blk_old (blk2 _ _) _) _, blk4 _ _ _ _, by omega, bel4 _ _ _ _⟩, blk_old (blk3 _ _ _) _⟩
theorem Three.below {w0 W W' : World} {d : DefD} {A : Option Addr} {cap g : Nat} {s : SagaD} (h : Three w0 d A cap s g W) (hb : Below W.heap.size W W') : Three w0 d A cap s g W' := ⟨h.df0, blk_below h.b0 hb, blk_below h.b1 hb, blk_below h.b2 hb, h.hg, belt h.bel hb⟩
/-- a field of the saga is written anew -/
theorem Three.set {w0 W : World} {d : DefD} {A : Option Addr} {cap g : Nat} {s : SagaD} (h : Three w0 d A cap s g W) (s' : SagaD) (j : Nat) (v : Value)
    (hv : (#[.int .i64 s.ph, .int .i64 s.dn, .int .i64 s.at_, .int .i64 s.tr, .bool s.sn, .int .i64 s.du] : Array Value).setIfInBounds j v = #[.int .i64 s'.ph, .int .i64 s'.dn, .int .i64 s'.at_, .int .i64 s'.tr, .bool s'.sn, .int .i64 s'.du]) : Three w0 d A cap s' g (W.setCell ⟨w0.heap.size + 1, j, none⟩ v) := by
  have hg := h.hg
  rw [setCell_known h.b1, hv]
  exact ⟨h.df0, (withBlock_other (by omega)).trans h.b0, withBlock_heap (blk_lt h.b1), (withBlock_other (by omega)).trans h.b2, hg, Below_withBlock h.bel (by omega)⟩
theorem Three.facts {w0 W : World} {d : DefD} {A : Option Addr} {cap g : Nat} {s : SagaD} (h : Three w0 d A cap s g W) :
    (w0.heap.size < W.heap.size ∧ w0.heap.size + 1 < W.heap.size ∧ g < W.heap.size) ∧
    (W.cell? ⟨w0.heap.size, 0, none⟩ = some (.string d.nm) ∧ W.cell? ⟨w0.heap.size, 1, none⟩ = some (.slice A d.st.length cap) ∧ W.cell? ⟨w0.heap.size, 2, none⟩ = some (.int .i64 d.pv)) ∧
    ((∀ j, W.frozen? ⟨w0.heap.size + 1, j, none⟩ = false) ∧ W.cell? ⟨w0.heap.size + 1, 0, none⟩ = some (.int .i64 s.ph) ∧ W.cell? ⟨w0.heap.size + 1, 1, none⟩ = some (.int .i64 s.dn) ∧ W.cell? ⟨w0.heap.size + 1, 2, none⟩ = some (.int .i64 s.at_) ∧ W.cell? ⟨w0.heap.size + 1, 3, none⟩ = some (.int .i64 s.tr) ∧ W.cell? ⟨w0.heap.size + 1, 4, none⟩ = some (.bool s.sn) ∧ W.cell? ⟨w0.heap.size + 1, 5, none⟩ = some (.int .i64 s.du)) := by
  have hc0 : ∀ j, W.cell? ⟨w0.heap.size, j, none⟩ = (#[.string d.nm, .slice A d.st.length cap, .int .i64 d.pv] : Array Value)[j]? := fun j => by
    unfold World.cell?
    simp only [h.b0]
    rfl
  have hc1 : ∀ j, W.cell? ⟨w0.heap.size + 1, j, none⟩ = (#[.int .i64 s.ph, .int .i64 s.dn, .int .i64 s.at_, .int .i64 s.tr, .bool s.sn, .int .i64 s.du] : Array Value)[j]? := fun j => by
    unfold World.cell?
    simp only [h.b1]
    rfl
  refine ⟨⟨blk_lt h.b0, blk_lt h.b1, blk_lt h.b2⟩, ⟨hc0 0, hc0 1, hc0 2⟩, fun j => ?_, hc1 0, hc1 1, hc1 2, hc1 3, hc1 4, hc1 5⟩
  unfold World.frozen?
  simp only [h.b1]
  simp
/-- the end of such a call -/
theorem endThree {fn : Func} {p : Tmp} (hres : fn.results = #[.cell p 41]) {a : Act} {w0 wx : World} {d : DefD} {A : Option Addr} {cap g : Nat} {s : SagaD} {o r : OutD} (hr : r = o) (hp : a.tmps.getD p undef = .pointer (some ⟨g, 0, none⟩)) (hd : a.defers = []) (h : Three w0 d A cap s g wx) :
    bodyPost Try.prog fn (fun e w' => e = .returned (outV r) ∧ Below w0.heap.size w0 w') .ret a (World.setCell (World.setCell (World.setCell (World.setCell (World.setCell (World.setCell (World.setCell (World.setCell (World.setCell (World.setCell (World.setCell wx ⟨g, 0, none⟩ (.int .i64 o.sg.ph)) ⟨g, 1, none⟩ (.int .i64 o.sg.dn)) ⟨g, 2, none⟩ (.int .i64 o.sg.at_)) ⟨g, 3, none⟩ (.int .i64 o.sg.tr)) ⟨g, 4, none⟩ (.bool o.sg.sn)) ⟨g, 5, none⟩ (.int .i64 o.sg.du)) ⟨g, 6, none⟩ (.int .i64 o.cm.st)) ⟨g, 7, none⟩ (.bool o.cm.un)) ⟨g, 8, none⟩ (.int .i64 o.cm.ty)) ⟨g, 9, none⟩ (.bool o.ow)) ⟨g, 10, none⟩ (.int .i64 o.cd)) :=
  endOut hres o hp hd h.b2 (fun wy hy => ⟨by rw [hr], hy _ _ (by have := h.hg; omega) h.bel⟩)
set_option maxRecDepth 100000 in
set_option maxHeartbeats 1000000 in
theorem l13Below_any (d : DefD) (A : Option Addr) (cap : Nat) (s : SagaD) (n now : Int) (w : World) (h : DefAt w d A cap) (hd : d.ok = true) (h0 : 0 ≤ n) (h1 : n ≤ d.st.length) (ht : inB now 0 1000000000 = true) :
    Calls Try.prog 136 #[defV d A cap, sagaV s, .int .i64 n, .int .i64 now] w fun e w' => e = .returned (outV (backS d s n now)) ∧ Below w.heap.size w w' := by
  have hl := h.fit.1
  have ht' := inB_true.1 ht
  have HNUM := Lib.hid (DefD.ok_nums hd)
  have HT := Lib.hid (Three.start (s := s) h)
  clear h hd ht
  obtain ⟨m, rfl⟩ := Int.eq_ofNat_of_zero_le h0
  obtain ⟨u, hu⟩ : ∃ u, backS d s (m : Int) now = u := ⟨_, rfl⟩
  rw [hu]
  unfold defV sagaV
  go_enter Try.func136, Try.ntmps136
  go_upto_region 1 with fail
  refine wpNamed (fun W => Three w d A cap s (w.heap.size + 1 + 1) W) HT.out ?_
  intro W hW
  have HW := Lib.hid hW
  clear hW HT
  go_wp2_with fail
  go_loopw [9] (fun i wr => ∃ k : Nat, k ≤ m ∧ i = .int .i64 ((k : Int) - 1) ∧ undoB d m = undoB d k ∧ wr = W) (fun i _ => (intOf i + 1).toNat)
  case atStart => exact ⟨m, Nat.le_refl _, rfl, rfl, rfl⟩
  case round =>
    obtain ⟨k, hk, rfl, hub, rfl⟩ := hrel
    have HU := Lib.hid hub
    clear hub
    obtain ⟨⟨z0, z1, z2⟩, ⟨x0, x1, x2⟩, xf, y0, y1, y2, y3, y4, y5⟩ := HW.out.facts
    obtain ⟨of, o0, o1, o2, o3, o4, o5, o6, o7, o8, o9, o10⟩ := zOut_facts HW.out.b2
    cases k with
    | zero =>
      have hq : ¬ ((0 : Int) ≤ ((0 : Nat) : Int) - 1) := by omega
      have HX := Lib.hid (show u = endS s 4 from by rw [← hu]; unfold backS; rw [Int.toNat_natCast, HU.out, if_pos (by unfold undoB; omega)])
      go_wp2_with fail
      exact endThree (o := endS s 4) Try.results136 HX.out rfl rfl HW.out
    | succ k =>
      obtain ⟨b, o, rfl, ⟨hb0, hb1, hb2, hb3⟩, -, -, c2, -⟩ := HW.out.df.step' (k : Int) (by omega) (by omega)
      rw [show ((k + 1 : Nat) : Int) - 1 = (k : Int) from by omega]
      rw [Int.toNat_natCast] at c2
      cases hz : (stAt d k).hasUndo
      · have he : (stAt d k).ud.toList = [] := by unfold StepD.hasUndo at hz; simpa using hz
        have HZ := Lib.hid hz
        clear hz
        go_wp2_with fail
        go_roundw
        case rel => exact ⟨k, by omega, rfl, by rw [HU.out, undoB, HZ.out]; rfl, trivial⟩
        case measure => simp [intOf] <;> omega
      · have he : ¬ (stAt d k).ud.toList = [] := by unfold StepD.hasUndo at hz; simpa using hz
        have he2 : (stAt d k).ud.toList.isEmpty = false := by rw [isEmpty_dec]; simpa using he
        have HX := Lib.hid (show u = sendS d ⟨2, s.dn, k, 1, false, 0⟩ now from by rw [← hu]; unfold backS; rw [Int.toNat_natCast, HU.out]; unfold undoB; rw [if_pos hz, if_neg (by omega)])
        clear hz
        have ⟨_, _, _, _, q1, q2⟩ := HNUM.out (k : Int) (by omega) (by omega)
        go_wp2_with fail
        refine (l13Send_any d _ cap ⟨2, s.dn, k, 1, false, 0⟩ now _ HW.out.df (by show (0 : Int) ≤ k; omega) (by show (k : Int) < _; omega) (by show _ ≤ now + (stAt d k).ti; omega) (by show now + (stAt d k).ti ≤ _; omega)).mono ?_
        rintro e w2 ⟨rfl, hb⟩
        have HW2 := Lib.hid (HW.out.below hb)
        clear hb of o0 o1 o2 o3 o4 o5 o6 o7 o8 o9 o10
        obtain ⟨of, o0, o1, o2, o3, o4, o5, o6, o7, o8, o9, o10⟩ := zOut_facts HW2.out.b2
        have hz2 := blk_lt HW2.out.b2
        go_wp2_with fail
        exact endThree (o := sendS d ⟨2, s.dn, k, 1, false, 0⟩ now) Try.results136 HX.out rfl rfl HW2.out
end Go.Proofs.Ytlbiocfpkpcdhaa
