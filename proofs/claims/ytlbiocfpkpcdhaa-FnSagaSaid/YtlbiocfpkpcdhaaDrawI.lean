import Derived.Test.YtlbiocfpkpcdhaaDrawH
import Derived.Test.YtlbiocfpkpcdhaaDrawG
namespace Go.Proofs.Ytlbiocfpkpcdhaa
open Go.RowKit
set_option linter.unusedSimpArgs false
set_option linter.unusedVariables false
/-- what a draw of a def, a saga and a time says -/
def DrewTick (w : World) (e : Ending) (w' : World) : Prop := ∃ (d : DefD) (A : Option Addr) (cap : Nat) (s : SagaD) (t : Int), DefAt w' d A cap ∧ e = .returned (.tuple #[.agg #[.string d.nm, .slice A d.st.length cap, .int .i64 d.pv], .agg #[.int .i64 s.ph, .int .i64 s.dn, .int .i64 s.at_, .int .i64 s.tr, .bool s.sn, .int .i64 s.du], .int .i64 t]) ∧ w.grownBy w' none
/-- the result's cells are there, the source lies behind them -/
structure Heads (w : World) (g : Nat) (rs : List (Nat × Obj)) (W : World) : Prop where
  fr : Fr none w rs W
  lo : ∀ p ∈ rs, p.1 < g
theorem Heads.later {w W W' : World} {g : Nat} {rs : List (Nat × Obj)} (h : Heads w g rs W) (hg : W.grownBy W' (some g)) (hw : w.heap.size ≤ g) : Heads w g rs W' :=
  ⟨h.fr.grown hg (fun b hb => ⟨.inr (by cases hb; exact hw), fun p hp => by cases hb; have := h.lo p hp; omega⟩), h.lo⟩
theorem results_cct {P : Program} {fn : Func} {p q u : Tmp} {t1 t2 : TypeId} (h : fn.results = #[.cell p t1, .cell q t2, .tmp u]) {tmps : Array Value} {w : World} {g1 g2 : Nat} {cs1 cs2 : Array Value} {f1 f2 : Nat × Nat} {d1 d2 : TypeDesc} {x : Value}
    (hp : tmps.getD p undef = .pointer (some ⟨g1, 0, none⟩)) (hq : tmps.getD q undef = .pointer (some ⟨g2, 0, none⟩)) (hx : tmps.getD u undef = x) (hg1 : w.heap[g1]? = some (.cells cs1 t1 f1)) (hg2 : w.heap[g2]? = some (.cells cs2 t2 f2))
    (hu1 : P.underlying t1 = some d1) (ha1 : (match d1 with | .struct _ | .array _ _ => true | _ => false) = true) (hi1 : (P.info? t1).map (·.size) = some cs1.size)
    (hu2 : P.underlying t2 = some d2) (ha2 : (match d2 with | .struct _ | .array _ _ => true | _ => false) = true) (hi2 : (P.info? t2).map (·.size) = some cs2.size) :
    (results fn tmps).run P w = .ok (.tuple #[.agg cs1, .agg cs2, x]) w := by
  have e1 : tmps[p]?.getD undef = .pointer (some ⟨g1, 0, none⟩) := by simpa using hp
  have e2 : tmps[q]?.getD undef = .pointer (some ⟨g2, 0, none⟩) := by simpa using hq
  have e3 : tmps[u]?.getD undef = x := by simpa using hx
  simp [results, h, e1, e2, e3, asAddr, run_loadVar_row w g1 t1 t1 cs1 f1 d1 hg1 hu1 ha1 hi1, run_loadVar_row w g2 t2 t2 cs2 f2 d2 hg2 hu2 ha2 hi2]
/-- memory in a draw of a def and what goes with it -/
structure TK (w w1 : World) (g : Nat) (rs : List (Nat × Obj)) (d : DefD) (A : Option Addr) (cap : Nat) (bs : List (Nat × Obj)) (W : World) : Prop where
  ds : DS g w1 bs W
  hh : Heads w g rs W
  df : DefAt W d A cap
  ap : ∀ x, A = some x → g < x.block
  hw : w.heap.size ≤ g
  ab : ∀ p ∈ bs, d.st ≠ [] → ∀ x, A = some x → x.block ≠ p.1
section
variable {w w1 W W' : World} {g : Nat} {rs bs : List (Nat × Obj)} {d : DefD} {A : Option Addr} {cap : Nat}
theorem TK.draw (h : TK w w1 g rs d A cap bs W) (hs : SrcAt W' g) (hg : W.grownBy W' (some g)) : TK w w1 g rs d A cap bs W' :=
  ⟨h.ds.draw hs hg, h.hh.later hg h.hw, h.df.later hg (fun x hx => by have := h.ap x hx; simp; omega), h.ap, h.hw, h.ab⟩
theorem TK.below (h : TK w w1 g rs d A cap bs W) (hb : Below W.heap.size W W') : TK w w1 g rs d A cap bs W' :=
  ⟨h.ds.below hb, h.hh.later (below_grown' hb _) h.hw, h.df.below hb, h.ap, h.hw, h.ab⟩
theorem TK.alloc (h : TK w w1 g rs d A cap bs W) (o : Obj) {b : Nat} (hb : b = W.heap.size) : TK w w1 g rs d A cap ((b, o) :: bs) (W.alloc o) :=
  ⟨h.ds.alloc o hb, h.hh.later (World.grownBy_alloc _ _ _) h.hw, h.df.alloc o, h.ap, h.hw, fun p hp hn x hx => by
    rcases List.mem_cons.1 hp with rfl | hp
    · have := h.df.row.lt (fun s => by simp [StepD.cells]) hn x hx; simp only; omega
    · exact h.ab p hp hn x hx⟩
theorem TK.put (h : TK w w1 g rs d A cap bs W) (i : Nat) {b : Nat} {o : Obj} (o' : Obj) (hi : bs[i]? = some (b, o)) : TK w w1 g rs d A cap (bs.set i (b, o')) (withBlock W b o') := by
  have hb := (h.ds.new i hi).1
  have hm := List.mem_of_getElem? hi
  refine ⟨h.ds.put i o' hi, ⟨h.hh.fr.grown grown_withBlock (fun c hc => ⟨.inr (by cases hc; have := h.hw; omega), fun p hp => by cases hc; have := h.hh.lo p hp; omega⟩), h.hh.lo⟩, ⟨h.df.nm, h.df.fit, h.df.row.keep grown_withBlock (fun hn x hx => by have := h.ab _ hm hn x hx; simp only at this; simp; exact this), h.df.cap⟩, h.ap, h.hw, ?_⟩
  intro p hp hn x hx
  rcases List.mem_or_eq_of_mem_set hp with hp | rfl
  · exact h.ab p hp hn x hx
  · exact h.ab _ hm hn x hx
theorem TK.hA (h : TK w w1 g rs d A cap bs W) : ∀ x, A = some x → some x.block ≠ some g := fun x hx => by have := h.ap x hx; simp; omega
theorem TK.at (h : TK w w1 g rs d A cap bs W) (i : Nat) {b : Nat} {o : Obj} (hi : bs[i]? = some (b, o)) : W.heap[b]? = some o := h.ds.at i hi
end
theorem endTick {fn : Func} {p q u : Tmp} (hres : fn.results = #[.cell p 29, .cell q 37, .tmp u]) {a : Act} {w w1 W : World} {g : Nat} {d : DefD} {A : Option Addr} {cap : Nat} {bs : List (Nat × Obj)} {s : SagaD} {t : Int}
    (hp : a.tmps.getD p undef = .pointer (some ⟨w.heap.size, 0, none⟩)) (hq : a.tmps.getD q undef = .pointer (some ⟨w.heap.size + 1, 0, none⟩)) (hu : a.tmps.getD u undef = .int .i64 t) (hd : a.defers = [])
    (h : TK w w1 g [(w.heap.size + 1, sagaO zSaga), (w.heap.size, zDef)] d A cap bs W) :
    bodyPost Try.prog fn (DrewTick w) .ret a (stores (stores W w.heap.size 0 [.string d.nm, .slice A d.st.length cap, .int .i64 d.pv]) (w.heap.size + 1) 0 [.int .i64 s.ph, .int .i64 s.dn, .int .i64 s.at_, .int .i64 s.tr, .bool s.sn, .int .i64 s.du]) := by
  have h0 : W.heap[w.heap.size]? = some zDef := h.hh.fr.at 1 rfl
  rw [stores_all [.string d.nm, .slice A d.st.length cap, .int .i64 d.pv] h0 rfl]
  have hf1 := h.hh.fr.put 1 (defO d A cap) rfl
  have h1 : (withBlock W w.heap.size (defO d A cap)).heap[w.heap.size + 1]? = some (sagaO zSaga) := hf1.at 0 rfl
  have e := stores_all (W := withBlock W w.heap.size (defO d A cap)) [.int .i64 s.ph, .int .i64 s.dn, .int .i64 s.at_, .int .i64 s.tr, .bool s.sn, .int .i64 s.du] h1 rfl
  unfold defO at e
  rw [e]
  have hf2 := hf1.put 0 (sagaO s) rfl
  have k0 := hf2.at 1 rfl
  have k1 := hf2.at 0 rfl
  have hg1 := (h.hh.lo (w.heap.size + 1, sagaO zSaga) (by simp))
  simp only at hg1
  have hdf : DefAt (withBlock (withBlock W w.heap.size (defO d A cap)) (w.heap.size + 1) (sagaO s)) d A cap :=
    (h.df.later grown_withBlock (fun x hx => by have := h.ap x hx; simp; omega)).later grown_withBlock (fun x hx => by have := h.ap x hx; simp; omega)
  refine bodyPost_ret (results_cct hres hp hq hu k0 k1 Try.underlying29 rfl size_Def Try.underlying37 rfl size_Saga) hd ⟨d, A, cap, s, t, hdf, rfl, hf2.gr⟩
set_option maxRecDepth 100000 in
set_option maxHeartbeats 4000000 in
theorem drawTick_any (bs : List UInt8) (A0 : Option Addr) (cap0 : Nat) (w : World) (hr : RowAt w A0 1 byteC bs) (hl : bs.length ≤ 1048576) (hc : bs.length ≤ cap0) (hA : ∀ x, A0 = some x → x.block < w.heap.size) :
    Calls Try.prog 30 #[.slice A0 bs.length cap0] w (DrewTick w) := by
  have HR := Lib.hid hr
  have HA := Lib.hid hA
  clear hr hA
  go_enter Try.func30, Try.ntmps30
  go_wp2_with fail
  refine (source_any bs A0 cap0 _ (HR.out.grown (grown_alloc (World.grownBy_alloc w _ none) _) (fun x hx => by simp)) hl hc (fun x hx => by have := HA.out x hx; simp; omega)).mono ?_
  rintro e w1 ⟨g, rfl, hg, hs, hgr⟩
  have hg' : w.heap.size + 1 < g := by simp at hg; omega
  have HH := Lib.hid (show Heads w g [(w.heap.size + 1, sagaO zSaga), (w.heap.size, zDef)] w1 from ⟨(((Fr.start none w).alloc _ rfl).alloc _ (by simp)).grown hgr (by simp), by simp; omega⟩)
  have HS := Lib.hid (DS.start hs)
  clear hg hs hgr HR HA
  go_wp2_with fail
  refine (l12Def_any g w1 HS.out.src).mono ?_
  rintro e w2 ⟨d, A, cap, hdf, hlen, hap, rfl, hs, hgr⟩
  have HS2 := Lib.hid (HS.out.draw hs hgr)
  have HH2 := Lib.hid (HH.out.later hgr (by omega))
  have HD := Lib.hid hdf
  have hgl := HS.out.glt
  have hap2 : ∀ x, A = some x → g < x.block := fun x hx => by have := hap x hx; omega
  have HAP := Lib.hid hap2
  clear hdf hlen hap hs hgr HS HH hap2 hgl
  go_upto_region 3 with fail
  obtain ⟨bd, hbd⟩ : ∃ bd, bd = w2.heap.size := ⟨_, rfl⟩
  rw [← hbd]
  refine wpNamed (TK w w1 g [(w.heap.size + 1, sagaO zSaga), (w.heap.size, zDef)] d A cap [(bd, defO d A cap)]) (TK.alloc ⟨HS2.out, HH2.out, HD.out, HAP.out, by omega, by simp⟩ _ hbd) ?_
  clear HS2 HH2 HD HAP hbd
  clear w2
  intro W hW
  have HW := Lib.hid hW
  clear hW
  obtain ⟨d0, df, d1, d2, d3⟩ := cells3 (HW.out.at 0 rfl)
  go_wp2_with fail
  refine (l13SagaDraw_any g d A cap _ HW.out.ds.src HW.out.df HW.out.hA).mono ?_
  rintro e w3 ⟨s, t, ht0, ht1, rfl, hs, hgr⟩
  have HW3 := Lib.hid (HW.out.draw hs hgr)
  clear hs hgr HW d0 df d1 d2 d3
  go_upto_region 4 with fail
  obtain ⟨bg, hbg⟩ : ∃ bg, bg = w3.heap.size := ⟨_, rfl⟩
  rw [← hbg]
  refine wpNamed (TK w w1 g [(w.heap.size + 1, sagaO zSaga), (w.heap.size, zDef)] d A cap [(bg, sagaO s), (bd, defO d A cap)]) (HW3.out.alloc _ hbg) ?_
  clear HW3 hbg W
  clear w3
  intro W hW
  have HW := Lib.hid hW
  clear hW
  go_wp2_with fail
  refine (one_any g 20 _ HW.out.ds.src (by omega)).mono ?_
  rintro e w3 ⟨r, rfl, hs, hgr⟩
  have HW3 := Lib.hid (HW.out.draw hs hgr)
  clear hs hgr HW W
  obtain ⟨x0, xf, x1, x2, x3, x4, x5, x6⟩ := cells6 (HW3.out.at 0 rfl)
  obtain ⟨d0, df, d1, d2, d3⟩ := cells3 (HW3.out.at 1 rfl)
  have HWd := Lib.hid (HW3.out.below (show Below w3.heap.size w3 w3.drew from ⟨rfl, rfl, rfl, Nat.le_refl _, fun _ _ => rfl⟩))
  obtain ⟨n1, n1', n2, n2', n3, n3', n4, n4'⟩ : w.heap.size ≠ bg ∧ bg ≠ w.heap.size ∧ w.heap.size + 1 ≠ bg ∧ bg ≠ w.heap.size + 1 ∧ w.heap.size ≠ bd ∧ bd ≠ w.heap.size ∧ w.heap.size + 1 ≠ bd ∧ bd ≠ w.heap.size + 1 := by
    have q1 := (HW3.out.ds.new 0 rfl).1
    have q2 := (HW3.out.ds.new 1 rfl).1
    omega
  cases r
  · go_wp2_with fail
    go_region_with (refine (n_any g 20 _ HWd.out.ds.src (by omega)).mono ?_; rintro e w4 ⟨r, ⟨hr0, hr1⟩, rfl, hs, hgr⟩; have hr2 := hr1 (by omega); have HW4 := Lib.hid (HWd.out.draw hs hgr); clear hs hgr hr1; obtain ⟨x0, xf, x1, x2, x3, x4, x5, x6⟩ := cells6 (HW4.out.at 0 rfl); obtain ⟨d0, df, d1, d2, d3⟩ := cells3 (HW4.out.at 1 rfl); obtain ⟨y0, yf, y1, y2, y3, y4, y5, y6⟩ := cells6 (HW4.out.hh.fr.at 0 rfl); obtain ⟨z0, zf, z1, z2, z3⟩ := cells3 (HW4.out.hh.fr.at 1 rfl))
    all_goals go_wp2_with fail
    all_goals exact endTick Try.results30 rfl rfl rfl rfl HW4.out
  · go_wp2_with fail
    go_region_with (refine (edge_any g _ HWd.out.ds.src).mono ?_; rintro e w4 ⟨r, -, rfl, hs, hgr⟩; have HW4 := Lib.hid (HWd.out.draw hs hgr); clear hs hgr; obtain ⟨x0, xf, x1, x2, x3, x4, x5, x6⟩ := cells6 (HW4.out.at 0 rfl); obtain ⟨d0, df, d1, d2, d3⟩ := cells3 (HW4.out.at 1 rfl); obtain ⟨y0, yf, y1, y2, y3, y4, y5, y6⟩ := cells6 (HW4.out.hh.fr.at 0 rfl); obtain ⟨z0, zf, z1, z2, z3⟩ := cells3 (HW4.out.hh.fr.at 1 rfl))
    all_goals go_wp2_with fail
    all_goals exact endTick Try.results30 rfl rfl rfl rfl HW4.out
end Go.Proofs.Ytlbiocfpkpcdhaa
