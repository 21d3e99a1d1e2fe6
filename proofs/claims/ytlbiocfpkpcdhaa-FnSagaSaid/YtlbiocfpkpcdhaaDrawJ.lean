import Derived.Test.YtlbiocfpkpcdhaaDrawI
import Derived.Deep.CutBlock
namespace Go.Proofs.Ytlbiocfpkpcdhaa
open Go.RowKit
set_option linter.unusedSimpArgs false
set_option linter.unusedVariables false
def cmdO (c : CmdD) : Obj := .cells #[.int .i64 c.st, .bool c.un, .int .i64 c.ty] 39
theorem size_Cmd : (Try.prog.info? 39).map (·.size) = some 3 := by kernel_rfl
/-- what a draw of a def, a saga, a command, an answer and a time says -/
def DrewReply (w : World) (e : Ending) (w' : World) : Prop := ∃ (d : DefD) (A : Option Addr) (cap : Nat) (s : SagaD) (c : CmdD) (b : Bool) (t : Int), DefAt w' d A cap ∧ e = .returned (.tuple #[.agg #[.string d.nm, .slice A d.st.length cap, .int .i64 d.pv], .agg #[.int .i64 s.ph, .int .i64 s.dn, .int .i64 s.at_, .int .i64 s.tr, .bool s.sn, .int .i64 s.du], .agg #[.int .i64 c.st, .bool c.un, .int .i64 c.ty], .bool b, .int .i64 t]) ∧ w.grownBy w' none
theorem results_ccctt {P : Program} {fn : Func} {p q r u v : Tmp} {t1 t2 t3 : TypeId} (h : fn.results = #[.cell p t1, .cell q t2, .cell r t3, .tmp u, .tmp v]) {tmps : Array Value} {w : World} {g1 g2 g3 : Nat} {cs1 cs2 cs3 : Array Value} {f1 f2 f3 : Nat × Nat} {d1 d2 d3 : TypeDesc} {x y : Value}
    (hp : tmps.getD p undef = .pointer (some ⟨g1, 0, none⟩)) (hq : tmps.getD q undef = .pointer (some ⟨g2, 0, none⟩)) (hr : tmps.getD r undef = .pointer (some ⟨g3, 0, none⟩)) (hx : tmps.getD u undef = x) (hy : tmps.getD v undef = y)
    (hg1 : w.heap[g1]? = some (.cells cs1 t1 f1)) (hg2 : w.heap[g2]? = some (.cells cs2 t2 f2)) (hg3 : w.heap[g3]? = some (.cells cs3 t3 f3))
    (hu1 : P.underlying t1 = some d1) (ha1 : (match d1 with | .struct _ | .array _ _ => true | _ => false) = true) (hi1 : (P.info? t1).map (·.size) = some cs1.size)
    (hu2 : P.underlying t2 = some d2) (ha2 : (match d2 with | .struct _ | .array _ _ => true | _ => false) = true) (hi2 : (P.info? t2).map (·.size) = some cs2.size)
    (hu3 : P.underlying t3 = some d3) (ha3 : (match d3 with | .struct _ | .array _ _ => true | _ => false) = true) (hi3 : (P.info? t3).map (·.size) = some cs3.size) :
    (results fn tmps).run P w = .ok (.tuple #[.agg cs1, .agg cs2, .agg cs3, x, y]) w := by
  have e1 : tmps[p]?.getD undef = .pointer (some ⟨g1, 0, none⟩) := by simpa using hp
  have e2 : tmps[q]?.getD undef = .pointer (some ⟨g2, 0, none⟩) := by simpa using hq
  have e3 : tmps[r]?.getD undef = .pointer (some ⟨g3, 0, none⟩) := by simpa using hr
  have e4 : tmps[u]?.getD undef = x := by simpa using hx
  have e5 : tmps[v]?.getD undef = y := by simpa using hy
  simp [results, h, e1, e2, e3, e4, e5, asAddr, run_loadVar_row w g1 t1 t1 cs1 f1 d1 hg1 hu1 ha1 hi1, run_loadVar_row w g2 t2 t2 cs2 f2 d2 hg2 hu2 ha2 hi2, run_loadVar_row w g3 t3 t3 cs3 f3 d3 hg3 hu3 ha3 hi3]
theorem endReply {fn : Func} {p q r u v : Tmp} (hres : fn.results = #[.cell p 29, .cell q 37, .cell r 39, .tmp u, .tmp v]) {a : Act} {w w1 W : World} {g : Nat} {d : DefD} {A : Option Addr} {cap : Nat} {bs : List (Nat × Obj)} {s : SagaD} {c : CmdD} {b : Bool} {t : Int}
    (hp : a.tmps.getD p undef = .pointer (some ⟨w.heap.size, 0, none⟩)) (hq : a.tmps.getD q undef = .pointer (some ⟨w.heap.size + 1, 0, none⟩)) (hr : a.tmps.getD r undef = .pointer (some ⟨w.heap.size + 1 + 1, 0, none⟩)) (hu : a.tmps.getD u undef = .bool b) (hv : a.tmps.getD v undef = .int .i64 t) (hd : a.defers = [])
    (h : TK w w1 g [(w.heap.size + 1 + 1, cmdO ⟨0, false, 0⟩), (w.heap.size + 1, sagaO zSaga), (w.heap.size, zDef)] d A cap bs W) :
    bodyPost Try.prog fn (DrewReply w) .ret a (stores (stores (stores W w.heap.size 0 [.string d.nm, .slice A d.st.length cap, .int .i64 d.pv]) (w.heap.size + 1) 0 [.int .i64 s.ph, .int .i64 s.dn, .int .i64 s.at_, .int .i64 s.tr, .bool s.sn, .int .i64 s.du]) (w.heap.size + 1 + 1) 0 [.int .i64 c.st, .bool c.un, .int .i64 c.ty]) := by
  have h0 : W.heap[w.heap.size]? = some zDef := h.hh.fr.at 2 rfl
  rw [stores_all [.string d.nm, .slice A d.st.length cap, .int .i64 d.pv] h0 rfl]
  have hf1 := h.hh.fr.put 2 (defO d A cap) rfl
  have h1 : (withBlock W w.heap.size (defO d A cap)).heap[w.heap.size + 1]? = some (sagaO zSaga) := hf1.at 1 rfl
  have e := stores_all (W := withBlock W w.heap.size (defO d A cap)) [.int .i64 s.ph, .int .i64 s.dn, .int .i64 s.at_, .int .i64 s.tr, .bool s.sn, .int .i64 s.du] h1 rfl
  unfold defO at e
  rw [e]
  have hf2 := hf1.put 1 (sagaO s) rfl
  have h2 : (withBlock (withBlock W w.heap.size (defO d A cap)) (w.heap.size + 1) (sagaO s)).heap[w.heap.size + 1 + 1]? = some (cmdO ⟨0, false, 0⟩) := hf2.at 0 rfl
  have e2 := stores_all (W := withBlock (withBlock W w.heap.size (defO d A cap)) (w.heap.size + 1) (sagaO s)) [.int .i64 c.st, .bool c.un, .int .i64 c.ty] h2 rfl
  unfold defO sagaO at e2
  rw [e2]
  have hf3 := hf2.put 0 (cmdO c) rfl
  have k0 := hf3.at 2 rfl
  have k1 := hf3.at 1 rfl
  have k2 := hf3.at 0 rfl
  have hg1 := (h.hh.lo (w.heap.size + 1 + 1, cmdO ⟨0, false, 0⟩) (by simp))
  simp only at hg1
  have hdf : DefAt (withBlock (withBlock (withBlock W w.heap.size (defO d A cap)) (w.heap.size + 1) (sagaO s)) (w.heap.size + 1 + 1) (cmdO c)) d A cap :=
    ((h.df.later grown_withBlock (fun x hx => by have := h.ap x hx; simp; omega)).later grown_withBlock (fun x hx => by have := h.ap x hx; simp; omega)).later grown_withBlock (fun x hx => by have := h.ap x hx; simp; omega)
  refine bodyPost_ret (results_ccctt hres hp hq hr hu hv k0 k1 k2 Try.underlying29 rfl size_Def Try.underlying37 rfl size_Saga Try.underlying39 rfl size_Cmd) hd ⟨d, A, cap, s, c, b, t, hdf, rfl, hf3.gr⟩
theorem TK.set {w w1 W : World} {g : Nat} {rs bs : List (Nat × Obj)} {d : DefD} {A : Option Addr} {cap : Nat} (h : TK w w1 g rs d A cap bs W) (i j : Nat) {b : Nat} {cs : Array Value} {t : TypeId} {v : Value} (hi : bs[i]? = some (b, .cells cs t)) : TK w w1 g rs d A cap (bs.set i (b, .cells (cs.setIfInBounds j v) t)) (W.setCell ⟨b, j, none⟩ v) := by
  rw [setCell_known (h.at i hi)]
  exact h.put i _ hi
theorem replyCells {w w1 w' : World} {g bc bg bd : Nat} {rs : List (Nat × Obj)} {d : DefD} {A : Option Addr} {cap : Nat} {c : CmdD} {s : SagaD} (h : TK w w1 g rs d A cap [(bc, cmdO c), (bg, sagaO s), (bd, defO d A cap)] w') : ((w'.cell? ⟨bd, 0, none⟩ = some (.string d.nm) ∧ w'.cell? ⟨bd, 1, none⟩ = some (.slice A d.st.length cap) ∧ w'.cell? ⟨bd, 2, none⟩ = some (.int .i64 d.pv)) ∧ (w'.cell? ⟨bg, 0, none⟩ = some (.int .i64 s.ph) ∧ w'.cell? ⟨bg, 1, none⟩ = some (.int .i64 s.dn) ∧ w'.cell? ⟨bg, 2, none⟩ = some (.int .i64 s.at_) ∧ w'.cell? ⟨bg, 3, none⟩ = some (.int .i64 s.tr) ∧ w'.cell? ⟨bg, 4, none⟩ = some (.bool s.sn) ∧ w'.cell? ⟨bg, 5, none⟩ = some (.int .i64 s.du)) ∧ (w'.cell? ⟨bc, 0, none⟩ = some (.int .i64 c.st) ∧ w'.cell? ⟨bc, 1, none⟩ = some (.bool c.un) ∧ w'.cell? ⟨bc, 2, none⟩ = some (.int .i64 c.ty))) := by
  obtain ⟨-, -, x0, x1, x2, x3, x4, x5⟩ := cells6 (h.at 1 rfl)
  obtain ⟨-, -, d0, d1, d2⟩ := cells3 (h.at 2 rfl)
  obtain ⟨-, -, c0, c1, c2⟩ := cells3 (h.at 0 rfl)
  exact ⟨⟨d0, d1, d2⟩, ⟨x0, x1, x2, x3, x4, x5⟩, c0, c1, c2⟩
set_option maxRecDepth 100000 in
set_option maxHeartbeats 4000000 in
theorem drawReply_any (bs : List UInt8) (A0 : Option Addr) (cap0 : Nat) (w : World) (hr : RowAt w A0 1 byteC bs) (hl : bs.length ≤ 1048576) (hc : bs.length ≤ cap0) (hA : ∀ x, A0 = some x → x.block < w.heap.size) :
    Calls Try.prog 29 #[.slice A0 bs.length cap0] w (DrewReply w) := by
  have HR := Lib.hid hr
  have HA := Lib.hid hA
  clear hr hA
  go_enter Try.func29, Try.ntmps29
  go_wp2_with fail
  refine (source_any bs A0 cap0 _ (HR.out.grown (grown_alloc (grown_alloc (World.grownBy_alloc w _ none) _) _) (fun x hx => by simp)) hl hc (fun x hx => by have := HA.out x hx; simp; omega)).mono ?_
  rintro e w1 ⟨g, rfl, hg, hs, hgr⟩
  have hg' : w.heap.size + 1 + 1 < g := by simp at hg; omega
  have HH := Lib.hid (show Heads w g [(w.heap.size + 1 + 1, cmdO ⟨0, false, 0⟩), (w.heap.size + 1, sagaO zSaga), (w.heap.size, zDef)] w1 from ⟨((((Fr.start none w).alloc _ rfl).alloc _ (by simp)).alloc _ (by simp)).grown hgr (by simp), by simp; omega⟩)
  have HS := Lib.hid (DS.start hs)
  clear hg hs hgr HR HA
  go_wp2_with fail
  refine (l12Def_any g w1 HS.out.src).mono ?_
  rintro e w2 ⟨d, A, cap, hdf, hlen, hap, rfl, hs, hgr⟩
  have HS2 := Lib.hid (HS.out.draw hs hgr)
  have HH2 := Lib.hid (HH.out.later hgr (by omega))
  have HD := Lib.hid hdf
  have hgl := HS.out.glt
  have hap2 : ∀ x, A = some x → g < x.block := fun x hx => by have := hap x hx; omega
  have HAP := Lib.hid hap2
  clear hdf hlen hap hs hgr HS HH hap2 hgl
  go_upto_region 3 with fail
  obtain ⟨bd, hbd⟩ : ∃ bd, bd = w2.heap.size := ⟨_, rfl⟩
  rw [← hbd]
  refine wpNamed (TK w w1 g [(w.heap.size + 1 + 1, cmdO ⟨0, false, 0⟩), (w.heap.size + 1, sagaO zSaga), (w.heap.size, zDef)] d A cap [(bd, defO d A cap)]) (TK.alloc ⟨HS2.out, HH2.out, HD.out, HAP.out, by omega, by simp⟩ _ hbd) ?_
  clear HS2 HH2 HD HAP hbd
  clear w2
  intro W hW
  have HW := Lib.hid hW
  clear hW
  obtain ⟨d0, df, d1, d2, d3⟩ := cells3 (HW.out.at 0 rfl)
  go_wp2_with fail
  refine (l13SagaDraw_any g d A cap _ HW.out.ds.src HW.out.df HW.out.hA).mono ?_
  rintro e w3 ⟨s, t, ht0, ht1, rfl, hs, hgr⟩
  have HW3 := Lib.hid (HW.out.draw hs hgr)
  clear hs hgr HW d0 df d1 d2 d3
  go_upto_region 4 with fail
  obtain ⟨bg, hbg⟩ : ∃ bg, bg = w3.heap.size := ⟨_, rfl⟩
  rw [← hbg]
  refine wpNamed (TK w w1 g [(w.heap.size + 1 + 1, cmdO ⟨0, false, 0⟩), (w.heap.size + 1, sagaO zSaga), (w.heap.size, zDef)] d A cap [(bg, sagaO s), (bd, defO d A cap)]) (HW3.out.alloc _ hbg) ?_
  clear HW3 hbg W
  clear w3
  intro W hW
  have HW := Lib.hid hW
  clear hW
  obtain ⟨x0, xf, x1, x2, x3, x4, x5, x6⟩ := cells6 (HW.out.at 0 rfl)
  go_wp2_with fail
  refine (l13Command_any s _).mono ?_
  rintro e w3 ⟨rfl, hb⟩
  have HW3 := Lib.hid (HW.out.below hb)
  clear hb HW x0 xf x1 x2 x3 x4 x5 x6
  unfold cmdV
  go_upto_region 5 with fail
  obtain ⟨bc, hbc⟩ : ∃ bc, bc = w3.heap.size := ⟨_, rfl⟩
  rw [← hbc]
  refine wpNamed (TK w w1 g [(w.heap.size + 1 + 1, cmdO ⟨0, false, 0⟩), (w.heap.size + 1, sagaO zSaga), (w.heap.size, zDef)] d A cap [(bc, cmdO (cmdOf s)), (bg, sagaO s), (bd, defO d A cap)]) (HW3.out.alloc _ hbc) ?_
  clear HW3 hbc W
  clear w3
  intro W hW
  have HW := Lib.hid hW
  clear hW
  go_wp2_with fail
  refine (one_any g 6 _ HW.out.ds.src (by omega)).mono ?_
  rintro e w3 ⟨r, rfl, hs, hgr⟩
  have HW3 := Lib.hid (HW.out.draw hs hgr)
  clear hs hgr HW W
  go_upto_if 25 with fail
  go_cut [] (fun wx => ∃ c : CmdD, TK w w1 g [(w.heap.size + 1 + 1, cmdO ⟨0, false, 0⟩), (w.heap.size + 1, sagaO zSaga), (w.heap.size, zDef)] d A cap [(bc, cmdO c), (bg, sagaO s), (bd, defO d A cap)] wx)
  case first =>
    cases r
    · go_wp2_with fail
      go_meet
      exact ⟨_, HW3.out⟩
    · go_wp2_with fail
      refine (n_any g 3 _ HW3.out.ds.src (by omega)).mono ?_
      rintro e w4 ⟨r, ⟨hr0, hr1⟩, rfl, hs, hgr⟩
      have hr2 := hr1 (by omega)
      have HW4 := Lib.hid (HW3.out.draw hs hgr)
      clear hs hgr hr1 HW3
      have hr : r = 0 ∨ r = 1 ∨ r = 2 := by omega
      clear hr0 hr2
      rcases hr with rfl | rfl | rfl
      · go_wp2_with fail
        refine (n_any g 5 _ HW4.out.ds.src (by omega)).mono ?_
        rintro e w5 ⟨r, ⟨hr0, hr1⟩, rfl, hs, hgr⟩
        have hr2 := hr1 (by omega)
        have HW5 := Lib.hid (HW4.out.draw hs hgr)
        clear hs hgr hr1 HW4
        obtain ⟨x0, xf, x1, x2, x3⟩ := cells3 (HW5.out.at 0 rfl)
        go_wp2_with fail
        go_meet
        exact ⟨⟨r - 1, (cmdOf s).un, (cmdOf s).ty⟩, HW5.out.set 0 0 rfl⟩
      · obtain ⟨x0, xf, x1, x2, x3⟩ := cells3 (HW4.out.at 0 rfl)
        go_wp2_with fail
        go_meet
        exact ⟨⟨(cmdOf s).st, !(cmdOf s).un, (cmdOf s).ty⟩, HW4.out.set 0 1 rfl⟩
      · go_wp2_with fail
        refine (n_any g 4 _ HW4.out.ds.src (by omega)).mono ?_
        rintro e w5 ⟨r, ⟨hr0, hr1⟩, rfl, hs, hgr⟩
        have hr2 := hr1 (by omega)
        have HW5 := Lib.hid (HW4.out.draw hs hgr)
        clear hs hgr hr1 HW4
        obtain ⟨x0, xf, x1, x2, x3⟩ := cells3 (HW5.out.at 0 rfl)
        go_wp2_with fail
        go_meet
        exact ⟨⟨(cmdOf s).st, (cmdOf s).un, r⟩, HW5.out.set 0 2 rfl⟩
  case rest =>
  obtain ⟨c, hcut⟩ := hcut
  have HW4 := Lib.hid hcut
  clear hcut HW3
  go_wp2_with fail
  refine (one_any g 20 _ HW4.out.ds.src (by omega)).mono ?_
  rintro e w4 ⟨r2, rfl, hs, hgr⟩
  have HW5 := Lib.hid (HW4.out.draw hs hgr)
  clear hs hgr HW4
  go_upto_if 44 with fail
  go_cut [10] (fun s10 wx => ∃ t : Int, s10 = .int .i64 t ∧ TK w w1 g [(w.heap.size + 1 + 1, cmdO ⟨0, false, 0⟩), (w.heap.size + 1, sagaO zSaga), (w.heap.size, zDef)] d A cap [(bc, cmdO c), (bg, sagaO s), (bd, defO d A cap)] wx)
  case first =>
    cases r2
    · go_wp2_with fail
      go_meet
      exact ⟨_, rfl, HW5.out⟩
    · go_wp2_with fail
      refine (edge_any g _ HW5.out.ds.src).mono ?_
      rintro e w6 ⟨t2, -, rfl, hs, hgr⟩
      have HW6 := Lib.hid (HW5.out.draw hs hgr)
      clear hs hgr HW5
      go_wp2_with fail
      go_meet
      exact ⟨_, rfl, HW6.out⟩
  case rest =>
  obtain ⟨t3, rfl, hcut⟩ := hcut
  have HW6 := Lib.hid hcut
  clear hcut HW5
  have HWd := Lib.hid (HW6.out.below (show Below wc.heap.size wc wc.drew from ⟨rfl, rfl, rfl, Nat.le_refl _, fun _ _ => rfl⟩))
  have HSD := Lib.hid (replyCells HWd.out)
  obtain ⟨n1, n1', n2, n2', n3, n3', n4, n4', n5, n5', n6, n6', n7, n7', n8, n8', n9, n9'⟩ : w.heap.size ≠ bg ∧ bg ≠ w.heap.size ∧ w.heap.size + 1 ≠ bg ∧ bg ≠ w.heap.size + 1 ∧ w.heap.size ≠ bd ∧ bd ≠ w.heap.size ∧ w.heap.size + 1 ≠ bd ∧ bd ≠ w.heap.size + 1 ∧ w.heap.size ≠ bc ∧ bc ≠ w.heap.size ∧ w.heap.size + 1 ≠ bc ∧ bc ≠ w.heap.size + 1 ∧ w.heap.size + 1 + 1 ≠ bd ∧ bd ≠ w.heap.size + 1 + 1 ∧ w.heap.size + 1 + 1 ≠ bg ∧ bg ≠ w.heap.size + 1 + 1 ∧ w.heap.size + 1 + 1 ≠ bc ∧ bc ≠ w.heap.size + 1 + 1 := by
    have q1 := (HW6.out.ds.new 0 rfl).1
    have q2 := (HW6.out.ds.new 1 rfl).1
    have q3 := (HW6.out.ds.new 2 rfl).1
    omega
  go_wp2_with fail
  go_region_held3 (fun w' => ((w'.cell? ⟨bd, 0, none⟩ = some (.string d.nm) ∧ w'.cell? ⟨bd, 1, none⟩ = some (.slice A d.st.length cap) ∧ w'.cell? ⟨bd, 2, none⟩ = some (.int .i64 d.pv)) ∧ (w'.cell? ⟨bg, 0, none⟩ = some (.int .i64 s.ph) ∧ w'.cell? ⟨bg, 1, none⟩ = some (.int .i64 s.dn) ∧ w'.cell? ⟨bg, 2, none⟩ = some (.int .i64 s.at_) ∧ w'.cell? ⟨bg, 3, none⟩ = some (.int .i64 s.tr) ∧ w'.cell? ⟨bg, 4, none⟩ = some (.bool s.sn) ∧ w'.cell? ⟨bg, 5, none⟩ = some (.int .i64 s.du)) ∧ (w'.cell? ⟨bc, 0, none⟩ = some (.int .i64 c.st) ∧ w'.cell? ⟨bc, 1, none⟩ = some (.bool c.un) ∧ w'.cell? ⟨bc, 2, none⟩ = some (.int .i64 c.ty))))
    (first | with_reducible exact HS7.out | with_reducible exact HSD.out | go_keep)
    (first | (go_at_call 59; refine (one_any g 2 _ HWd.out.ds.src (by omega)).mono ?_; rintro e w7 ⟨r7, rfl, hs, hgr⟩; have HW7 := Lib.hid (HWd.out.draw hs hgr); clear hs hgr; have HS7 := Lib.hid (replyCells HW7.out); obtain ⟨y0, yf, y1, y2, y3, y4, y5, y6⟩ := cells6 (HW7.out.hh.fr.at 1 rfl); obtain ⟨z0, zf, z1, z2, z3⟩ := cells3 (HW7.out.hh.fr.at 2 rfl); obtain ⟨v0, vf, v1, v2, v3⟩ := cells3 (HW7.out.hh.fr.at 0 rfl)))
  go_wp2_with fail
  exact endReply Try.results29 rfl rfl rfl rfl rfl rfl HW7.out
end Go.Proofs.Ytlbiocfpkpcdhaa
