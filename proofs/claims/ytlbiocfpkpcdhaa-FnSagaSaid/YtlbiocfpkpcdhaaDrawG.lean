import Derived.Test.YtlbiocfpkpcdhaaDrawE
import Derived.Test.YtlbiocfpkpcdhaaDrawF
import Derived.Laws.ResultCell
namespace Go.Proofs.Ytlbiocfpkpcdhaa
open Go.RowKit
set_option linter.unusedSimpArgs false
set_option linter.unusedVariables false
theorem DefAt.grown {w w' : World} {d : DefD} {A : Option Addr} {cap : Nat} {r : Option Nat} (h : DefAt w d A cap) (hb : w.grownBy w' r) (hne : ∀ x, A = some x → some x.block ≠ r) : DefAt w' d A cap := ⟨h.nm, h.fit, h.row.grown hb hne, h.cap⟩
/-- A def lies in memory apart from the source and from the result's cell; a copy of its head lies in block bx. -/
structure DrawnD (w0 : World) (g bx : Nat) (d : DefD) (A : Option Addr) (cap : Nat) (W : World) : Prop where
  df : DefAt W d A cap
  few : d.st.length ≤ 8
  src : SrcAt W g
  grown : w0.grownBy W none
  box : W.heap[bx]? = some (.cells #[.string d.nm, .slice A d.st.length cap, .int .i64 d.pv] 29)
  res : W.heap[w0.heap.size]? = some zDef
  hg : w0.heap.size < g
  hbx : g < bx
  apart : ∀ x, A = some x → g < x.block
theorem DrawnD.mono {w0 W W' : World} {g bx : Nat} {d : DefD} {A : Option Addr} {cap : Nat} (h : DrawnD w0 g bx d A cap W) (hg : W.grownBy W' (some g)) (hs : SrcAt W' g) : DrawnD w0 g bx d A cap W' := by
  have h1 := h.hg
  have h2 := h.hbx
  exact ⟨h.df.grown hg (fun x hx => by have := h.apart x hx; simp; omega), h.few, hs, grown_new h.grown hg (by omega), (hg.block bx (blk_lt h.box) (by simp; omega)).trans h.box, (hg.block _ (blk_lt h.res) (by simp; omega)).trans h.res, h1, h2, h.apart⟩
theorem DrawnD.facts {w0 W : World} {g bx : Nat} {d : DefD} {A : Option Addr} {cap : Nat} (h : DrawnD w0 g bx d A cap W) : bx < W.heap.size ∧ W.cell? ⟨bx, 0, none⟩ = some (.string d.nm) ∧ W.cell? ⟨bx, 1, none⟩ = some (.slice A d.st.length cap) ∧ W.cell? ⟨bx, 2, none⟩ = some (.int .i64 d.pv) := by
  have hc : ∀ j, W.cell? ⟨bx, j, none⟩ = (#[.string d.nm, .slice A d.st.length cap, .int .i64 d.pv] : Array Value)[j]? := fun j => by
    unfold World.cell?
    simp only [h.box]
    rfl
  exact ⟨blk_lt h.box, hc 0, hc 1, hc 2⟩
/-- what a draw of a def and a time says -/
def DrewStart (w : World) (e : Ending) (w' : World) : Prop := ∃ (d : DefD) (A : Option Addr) (cap : Nat) (t : Int), DefAt w' d A cap ∧ d.st.length ≤ 8 ∧ e = .returned (.tuple #[.agg #[.string d.nm, .slice A d.st.length cap, .int .i64 d.pv], .int .i64 t]) ∧ w.grownBy w' none
theorem endStart {fn : Func} {p u : Tmp} (hres : fn.results = #[.cell p 29, .tmp u]) {a : Act} {w wx : World} {g bx : Nat} {d : DefD} {A : Option Addr} {cap : Nat} {t : Int} (hp : a.tmps.getD p undef = .pointer (some ⟨w.heap.size, 0, none⟩)) (hu : a.tmps.getD u undef = .int .i64 t) (hd : a.defers = [])
    (h : DrawnD w g bx d A cap wx) : bodyPost Try.prog fn (DrewStart w) .ret a (World.setCell (World.setCell (World.setCell wx ⟨w.heap.size, 0, none⟩ (.string d.nm)) ⟨w.heap.size, 1, none⟩ (.slice A d.st.length cap)) ⟨w.heap.size, 2, none⟩ (.int .i64 d.pv)) := by
  have hz' : wx.heap[w.heap.size]? = some (.cells #[.string ⟨#[]⟩, .slice none 0 0, .int .i64 0] 29) := h.res
  have h1 := h.hg
  have h2 := h.hbx
  rw [set3 hz']
  refine bodyPost_ret (v := .tuple #[.agg #[.string d.nm, .slice A d.st.length cap, .int .i64 d.pv], .int .i64 t]) ?_ hd ⟨d, A, cap, t, h.df.grown grown_withBlock (fun x hx => by have := h.apart x hx; simp; omega), h.few, rfl, grown_new h.grown grown_withBlock (Nat.le_refl _)⟩
  rw [results_cell_tmp hres, hp, hu]
  have := run_loadVar_row (P := Try.prog) (withBlock wx w.heap.size (.cells #[.string d.nm, .slice A d.st.length cap, .int .i64 d.pv] 29)) w.heap.size 29 29 #[.string d.nm, .slice A d.st.length cap, .int .i64 d.pv] (0, 0) _ (withBlock_heap (blk_lt h.res)) Try.underlying29 rfl size_Def
  simp [asAddr, this]
set_option maxRecDepth 100000 in
set_option maxHeartbeats 2000000 in
theorem drawStart_any (bs : List UInt8) (A0 : Option Addr) (cap0 : Nat) (w : World) (hr : RowAt w A0 1 byteC bs) (hl : bs.length ≤ 1048576) (hc : bs.length ≤ cap0) (hA : ∀ x, A0 = some x → x.block < w.heap.size) :
    Calls Try.prog 13 #[.slice A0 bs.length cap0] w (DrewStart w) := by
  have HR := Lib.hid hr
  have HA := Lib.hid hA
  clear hr hA
  go_enter Try.func13, Try.ntmps13
  go_wp2_with fail
  refine (source_any bs A0 cap0 _ (HR.out.grown (World.grownBy_alloc w _ none) (fun x hx => by simp)) hl hc (fun x hx => by have := HA.out x hx; simp; omega)).mono ?_
  rintro e w1 ⟨g, rfl, hg, hs, hgr⟩
  have HR1 := Lib.hid ((hgr.block w.heap.size (by simp) (by simp)).trans (heap_alloc_new w zDef))
  have HG1 := Lib.hid (grown_trans (World.grownBy_alloc w zDef none) hgr)
  have HS1 := Lib.hid hs
  have hg' : w.heap.size < g := by simp at hg; omega
  clear hg hs hgr HR HA
  go_wp2_with fail
  refine (l12Def_any g w1 HS1.out).mono ?_
  rintro e w2 ⟨d, A, cap, hdf, hlen, hap, rfl, hs, hgr⟩
  have hgw := HS1.out.lt
  have hgw2 := hs.lt
  have hD : DrawnD w g w2.heap.size d A cap (w2.alloc (.cells #[.string d.nm, .slice A d.st.length cap, .int .i64 d.pv] 29)) :=
    ⟨hdf.alloc _, hlen, hs.alloc _, grown_alloc (grown_new HG1.out hgr (by omega)) _, heap_alloc_new _ _, blk_old ((hgr.block _ (blk_lt HR1.out) (by simp; omega)).trans HR1.out) _, hg', hgw2, fun x hx => by have := hap x hx; omega⟩
  have HD := Lib.hid hD
  clear hD hdf hap hs hgr HR1 HG1 HS1
  obtain ⟨bx, hbx⟩ : ∃ bx, bx = w2.heap.size := ⟨_, rfl⟩
  rw [← hbx] at HD
  go_wp2_with fail
  rw [← hbx]
  refine (one_any g 8 _ HD.out.src (by omega)).mono ?_
  rintro e w3 ⟨r, rfl, hs, hgr⟩
  have HD3 := Lib.hid (HD.out.mono hgr hs)
  clear hs hgr HD hbx
  obtain ⟨hbl, p0, p1, p2⟩ := HD3.out.facts
  obtain ⟨fy, y0, y1, y2⟩ := zDef_facts HD3.out.res
  have hrl := blk_lt HD3.out.res
  cases r
  · go_wp2_with fail
    have HDd := Lib.hid (HD3.out.mono (grown_drew (grown_refl _ _)) HD3.out.src.drew)
    go_region_with (refine (n_any g 99 _ HDd.out.src (by omega)).mono ?_; rintro e w4 ⟨t, -, rfl, hs, hgr⟩; have HD4 := Lib.hid (HDd.out.mono hgr hs); clear hs hgr; obtain ⟨hbl4, q0, q1, q2⟩ := HD4.out.facts; obtain ⟨fz, z0, z1, z2⟩ := zDef_facts HD4.out.res; have hrl4 := blk_lt HD4.out.res)
    all_goals go_wp2_with fail
    all_goals exact endStart Try.results13 rfl rfl rfl HD4.out
  · go_wp2_with fail
    have HDd := Lib.hid (HD3.out.mono (grown_drew (grown_refl _ _)) HD3.out.src.drew)
    go_region_with (refine (edge_any g _ HDd.out.src).mono ?_; rintro e w4 ⟨t, -, rfl, hs, hgr⟩; have HD4 := Lib.hid (HDd.out.mono hgr hs); clear hs hgr; obtain ⟨hbl4, q0, q1, q2⟩ := HD4.out.facts; obtain ⟨fz, z0, z1, z2⟩ := zDef_facts HD4.out.res; have hrl4 := blk_lt HD4.out.res)
    all_goals go_wp2_with fail
    all_goals exact endStart Try.results13 rfl rfl rfl HD4.out
end Go.Proofs.Ytlbiocfpkpcdhaa
