import Derived.Test.YtlbiocfpkpcdhaaDrawD
import Derived.Test.YtlbiocfpkpcdhaaSaga
namespace Go.Proofs.Ytlbiocfpkpcdhaa
open Go.RowKit
set_option linter.unusedSimpArgs false
set_option linter.unusedVariables false
def steps1 (g : Nat) (B : Nat) (i : Int) (l : List StepD) (v : Value) (j : Nat) (u : Value) (W : World) : Prop := match j with
  | 0 | 7 => u = .pointer (some ⟨B, 1, none⟩)
  | 1 => u = v
  | 2 => u = .pointer (some ⟨g, 0, none⟩)
  | 3 => u = .int .i64 i
  | 4 => ∃ s : StepD, s.fits ∧ u = .agg #[.string s.nm, .string s.dd, .string s.ud, .int .i64 s.tr, .int .i64 s.bo, .int .i64 s.ti]
  | 5 => ∃ (s : StepD) (b : Nat), s.fits ∧ b ≠ g ∧ v.ownBlock ≠ some b ∧ u = .slice (some ⟨b, 0, none⟩) 1 1 ∧ W.heap[b]? = some (.cells #[.string s.nm, .string s.dd, .string s.ud, .int .i64 s.tr, .int .i64 s.bo, .int .i64 s.ti] 55)
  | 6 => ∃ s : StepD, s.fits ∧ W.ownsRow (B + 1) 55 6 u (l.length + 1) (l.flatMap StepD.cells ++ s.cells)
  | _ => True
def steps1R (g B : Nat) (l : List StepD) (v : Value) (j : Nat) (W W' : World) : Prop := match j with
  | 6 => W.grownBy W' v.ownBlock
  | _ => W.grownBy W' (some g)
theorem steps1_stable (g B : Nat) (hgB : g < B + 1) (i : Int) (l : List StepD) (v : Value) (k j : Nat) (u : Value) (w w' : World) (hne : j ≠ k) (hg : steps1R g B l v k w w') (h : steps1 g B i l v j u w) : steps1 g B i l v j u w' := by
  have hR : (w.grownBy w' (some g)) ∨ (k = 6 ∧ w.grownBy w' v.ownBlock) := by
    by_cases h6 : k = 6
    · subst h6; exact .inr ⟨rfl, hg⟩
    · refine .inl ?_
      unfold steps1R at hg
      split at hg
      · exact absurd rfl h6
      · exact hg
  match j, h with
  | 0, h | 1, h | 2, h | 3, h | 4, h | 7, h => exact h
  | 5, ⟨s, b, hs, hb, hv, hu, hh⟩ =>
    refine ⟨s, b, hs, hb, hv, hu, ?_⟩
    rcases hR with hR | ⟨_, hR⟩
    · exact (hR.block b (blk_lt hh) (by simpa using hb)).trans hh
    · exact (hR.block b (blk_lt hh) (fun e => hv e.symm)).trans hh
  | 6, ⟨s, hs, ho⟩ =>
    rcases hR with hR | ⟨h6, _⟩
    · refine ⟨s, hs, ho.kept hR ?_⟩
      cases hv : u.ownBlock with
      | none => exact .inl rfl
      | some b => exact .inr (by have := (ho.lt b hv).1; simp; omega)
    · exact absurd h6.symm hne
  | n + 8, _ => exact trivial
/-- region: the value appended lies in the box -/
def DrewDef (g : Nat) (w : World) (e : Ending) (w' : World) : Prop := ∃ (d : DefD) (A : Option Addr) (cap : Nat), DefAt w' d A cap ∧ d.st.length ≤ 8 ∧ (∀ x, A = some x → w.heap.size ≤ x.block) ∧ e = .returned (.agg #[.string d.nm, .slice A d.st.length cap, .int .i64 d.pv]) ∧ SrcAt w' g ∧ w.grownBy w' (some g)
theorem zDef_facts {w : World} {g : Nat} (h : w.heap[g]? = some zDef) : (∀ j, w.frozen? ⟨g, j, none⟩ = false) ∧ w.cell? ⟨g, 0, none⟩ = some (.string ⟨#[]⟩) ∧ w.cell? ⟨g, 1, none⟩ = some (.slice none 0 0) ∧ w.cell? ⟨g, 2, none⟩ = some (.int .i64 0) := by
  have hc : ∀ j, w.cell? ⟨g, j, none⟩ = (#[.string ⟨#[]⟩, .slice none 0 0, .int .i64 0] : Array Value)[j]? := fun j => by
    unfold World.cell?
    simp only [h, zDef]
    rfl
  refine ⟨fun j => ?_, hc 0, hc 1, hc 2⟩
  unfold World.frozen?
  simp only [h, zDef]
  simp
theorem endDef {fn : Func} {p : Tmp} (hres : fn.results = #[.cell p 29]) {R : Ending → World → Prop} {a : Act} {wx : World} {g : Nat} {x0 x1 x2 : Value} (hp : a.tmps.getD p undef = .pointer (some ⟨g, 0, none⟩)) (hd : a.defers = [])
    (hz : wx.heap[g]? = some zDef) (hR : ∀ wy, wx.grownBy wy (some g) → R (.returned (.agg #[x0, x1, x2])) wy) : bodyPost Try.prog fn R .ret a (World.setCell (World.setCell (World.setCell wx ⟨g, 0, none⟩ x0) ⟨g, 1, none⟩ x1) ⟨g, 2, none⟩ x2) := by
  have hz' : wx.heap[g]? = some (.cells #[.string ⟨#[]⟩, .slice none 0 0, .int .i64 0] 29) := hz
  rw [set3 hz']
  exact bodyPost_ret (results_c hres _ _ g _ #[x0, x1, x2] _ _ hp (withBlock_heap (blk_lt hz)) Try.underlying29 rfl size_Def) hd (hR _ grown_withBlock)
theorem BoxD.done {w0 W wy : World} {g B b cap : Nat} {l : List StepD} (h : BoxD w0 g B l (.slice (some ⟨b, 0, none⟩) l.length cap) W) (hl : l.length ≤ 8) (nm : ByteArray) (pv : Int) (hn : nm.size ≤ 10) (hy : W.grownBy wy (some w0.heap.size)) : DrewDef g w0 (.returned (.agg #[.string nm, .slice (some ⟨b, 0, none⟩) l.length cap, .int .i64 pv])) wy := by
  have hgl := h.glt
  have hbl := h.blt
  have hb := h.row_ne (b := b) rfl
  have ho : wy.ownsRow (B + 1) 55 6 (.slice (some ⟨b, 0, none⟩) l.length cap) l.length (l.flatMap StepD.cells) := h.own.kept hy (.inr (by simp [Value.ownBlock]; omega))
  have hc : l.length ≤ cap := by
    rcases h.own.2 with ⟨hv, _⟩ | ⟨b', cap', cur, hv, _, _, hc, _⟩
    · cases hv
    · cases hv; exact hc
  exact ⟨⟨nm, l, pv⟩, some ⟨b, 0, none⟩, cap, ⟨by show nm.size ≤ _; omega, ⟨by show l.length ≤ _; omega, h.fits⟩, rowAt_own ho, hc⟩, hl, fun x hx => by cases hx; show w0.heap.size ≤ b; omega, rfl, h.src.above hy (by omega), grown_new h.grown hy (Nat.le_refl _)⟩

theorem BoxD.rowcells {w0 W : World} {g B b n cap : Nat} {s : StepD} {l : List StepD} (h : BoxD w0 g B (s :: l) (.slice (some ⟨b, 0, none⟩) n cap) W) : b < W.heap.size ∧ (∀ j, W.frozen? ⟨b, j, none⟩ = false) ∧
    W.cell? ⟨b, 0, none⟩ = some (.string s.nm) ∧ W.cell? ⟨b, 1, none⟩ = some (.string s.dd) ∧ W.cell? ⟨b, 2, none⟩ = some (.string s.ud) ∧ W.cell? ⟨b, 3, none⟩ = some (.int .i64 s.tr) ∧ W.cell? ⟨b, 4, none⟩ = some (.int .i64 s.bo) ∧ W.cell? ⟨b, 5, none⟩ = some (.int .i64 s.ti) := by
  have hr := h.own.cells (g := b) rfl
  have hc : ∀ j u, s.cells[j]? = some u → W.cell? ⟨b, j, none⟩ = some u := by
    intro j u hu
    have hj := (List.getElem?_eq_some_iff.1 hu).1
    have h1 := hr j u (by rw [List.flatMap_cons, List.getElem?_append_left hj]; exact hu)
    rw [show (⟨b, 0, none⟩ : Addr).add j = ⟨b, j, none⟩ from by unfold Addr.add; split <;> simp_all] at h1
    exact h1
  refine ⟨World.block_lt_of_cell? W _ (hc 0 _ rfl), fun j => ?_, hc 0 _ rfl, hc 1 _ rfl, hc 2 _ rfl, hc 3 _ rfl, hc 4 _ rfl, hc 5 _ rfl⟩
  rcases h.own.2 with ⟨hv, _⟩ | ⟨b', cap', cur, hv, _, hh, _⟩
  · cases hv
  · cases hv
    unfold World.frozen?
    simp only [hh]
    simp
def fieldD (g B rb : Nat) (f : Nat) (v : Value) (ks : List Int) (j : Nat) (u : Value) (W : World) : Prop := match j with
  | 0 => u = .pointer (some ⟨B, 1, none⟩)
  | 1 => u = v
  | 2 => ∃ b, b ≠ g ∧ u = .slice (some ⟨b, 0, none⟩) 3 3 ∧ RowAt W (some ⟨b, 0, none⟩) 1 (fun x => [.int .i64 x]) ks
  | 3 => u = .pointer (some ⟨g, 0, none⟩)
  | 4 => IsInt 0 2 u
  | 5 => ∃ (b : Nat) (k : Nat) (x : Int), b ≠ g ∧ u = .pointer (some ⟨b, k, none⟩) ∧ W.cell? ⟨b, k, none⟩ = some (.int .i64 x)
  | 6 => ∃ x : Int, u = .int .i64 x
  | 7 => u = .pointer (some ⟨rb, 0, none⟩)
  | 8 => u = .pointer (some ⟨rb, f, none⟩)
  | _ => True
theorem fieldD_stable (g B rb : Nat) (f : Nat) (v : Value) (ks : List Int) (j : Nat) (u : Value) (w w' : World) (hg : w.grownBy w' (some g)) (h : fieldD g B rb f v ks j u w) : fieldD g B rb f v ks j u w' := by
  match j, h with
  | 0, h | 1, h | 3, h | 4, h | 6, h | 7, h | 8, h => exact h
  | 2, ⟨b, hb, hv, hr⟩ => exact ⟨b, hb, hv, hr.grown hg (fun x hx => by cases hx; simpa using hb)⟩
  | 5, ⟨b, k, x, hb, hv, hc⟩ => exact ⟨b, k, x, hb, hv, hg.cell hc (by simpa using hb)⟩
  | n + 9, _ => exact trivial
def againD (B rb : Nat) (g : Nat) (s : StepD) (l : List StepD) (v : Value) (j : Nat) (u : Value) (W : World) : Prop := match j with
  | 0 | 2 | 8 => u = .pointer (some ⟨B, 1, none⟩)
  | 1 | 3 => u = v
  | 4 => u = .pointer (some ⟨rb, 0, none⟩)
  | 5 => u = .agg #[.string s.nm, .string s.dd, .string s.ud, .int .i64 s.tr, .int .i64 s.bo, .int .i64 s.ti]
  | 6 => ∃ (b : Nat), b ≠ g ∧ v.ownBlock ≠ some b ∧ u = .slice (some ⟨b, 0, none⟩) 1 1 ∧ W.heap[b]? = some (.cells #[.string s.nm, .string s.dd, .string s.ud, .int .i64 s.tr, .int .i64 s.bo, .int .i64 s.ti] 55)
  | 7 => W.ownsRow (B + 1) 55 6 u (l.length + 1) (l.flatMap StepD.cells ++ s.cells)
  | _ => True
def againR (g : Nat) (v : Value) (j : Nat) (W W' : World) : Prop := match j with
  | 7 => W.grownBy W' v.ownBlock
  | _ => W.grownBy W' (some g)
theorem againD_stable (B rb g : Nat) (hgB : g < B + 1) (s : StepD) (l : List StepD) (v : Value) (k j : Nat) (u : Value) (w w' : World) (hne : j ≠ k) (hg : againR g v k w w') (h : againD B rb g s l v j u w) : againD B rb g s l v j u w' := by
  have hR : (w.grownBy w' (some g)) ∨ (k = 7 ∧ w.grownBy w' v.ownBlock) := by
    by_cases h6 : k = 7
    · subst h6; exact .inr ⟨rfl, hg⟩
    · refine .inl ?_
      unfold againR at hg
      split at hg
      · exact absurd rfl h6
      · exact hg
  match j, h with
  | 0, h | 1, h | 2, h | 3, h | 4, h | 5, h | 8, h => exact h
  | 6, ⟨b, hb, hv, hu, hh⟩ =>
    refine ⟨b, hb, hv, hu, ?_⟩
    rcases hR with hR | ⟨_, hR⟩
    · exact (hR.block b (blk_lt hh) (by simpa using hb)).trans hh
    · exact (hR.block b (blk_lt hh) (fun e => hv e.symm)).trans hh
  | 7, ho =>
    rcases hR with hR | ⟨h6, _⟩
    · refine World.ownsRow.kept ho hR ?_
      cases hv : u.ownBlock with
      | none => exact .inl rfl
      | some b => exact .inr (by have := (World.ownsRow.lt ho b hv).1; simp; omega)
    · exact absurd h6.symm hne
  | n + 9, _ => exact trivial
set_option maxRecDepth 100000 in
set_option maxHeartbeats 4000000 in
theorem l12Def_any (g : Nat) (w : World) (h : SrcAt w g) :
    Calls Try.prog 58 #[.pointer (some ⟨g, 0, none⟩)] w (DrewDef g w) := by
  have HS := Lib.hid h
  have hgl := h.lt
  clear h
  go_enter Try.func58, Try.ntmps58
  go_wp2_with fail
  have HW := Lib.hid (rowAt_strs (w.alloc zDef) [⟨#[111, 114, 100, 101, 114]⟩, ⟨#[116, 114, 105, 112]⟩] 9)
  refine (pick_any g [⟨#[111, 114, 100, 101, 114]⟩, ⟨#[116, 114, 105, 112]⟩] (some ⟨w.heap.size + 1, 0, none⟩) 2 _ ((HS.out.alloc zDef).alloc _) (by simp) (by simp) (by simpa using HW.out) (fun x hx => by cases hx; show w.heap.size + 1 ≠ g; omega)).mono ?_
  rintro e w1 ⟨nm, hmem, rfl, hs, hg⟩
  have hsz : nm.size ≤ 10 := by
    simp only [List.mem_cons, List.not_mem_nil, or_false] at hmem
    rcases hmem with rfl | rfl <;> decide
  have hs1 := hg.size
  simp at hs1
  have HR := Lib.hid ((hg.block w.heap.size (by simp; omega) (by simp; omega)).trans (blk_old (heap_alloc_new w zDef) _))
  have HG := Lib.hid (grown_trans (grown_alloc (World.grownBy_alloc w zDef (some g)) _) hg)
  have HS1 := Lib.hid hs
  clear hs hg hmem
  go_wp2_with fail
  have hB1 : BoxD w g w1.heap.size [] (.slice none 0 0) (w1.alloc (.cells #[.string nm, .slice none 0 0, .int .i64 (-1)] 29)) := ⟨⟨nm, _, hsz, heap_alloc_new _ _⟩, World.ownsRow_nil _ _ _ _, by simp, HS1.out.alloc _, grown_alloc HG.out _, blk_old HR.out _, hgl, by omega⟩
  have HB1 := Lib.hid hB1
  clear hB1 HR HG HS1 HW
  refine (n_any g 4 _ HB1.out.src (by omega)).mono ?_
  rintro e w2 ⟨r, ⟨hr0, hr1⟩, rfl, hs, hg⟩
  have HB2 := Lib.hid (HB1.out.mono hg hs)
  have hr2 := hr1 (by omega)
  clear hs hg hr1 HB1 hs1
  obtain ⟨B, hB⟩ : ∃ B, B = w1.heap.size := ⟨_, rfl⟩
  rw [← hB] at HB2 ⊢
  clear hB
  obtain ⟨m, rfl⟩ := Int.eq_ofNat_of_zero_le hr0
  go_wp2
  go_loopw [5] (fun i wr => ∃ (l : List StepD) (v : Value), i = .int .i64 l.length ∧ l.length ≤ m + 1 ∧ BoxD w g B l v wr) (fun i _ => m + 1 - (intOf i).toNat)
  case atStart => exact ⟨[], .slice none 0 0, rfl, by simp, HB2.out⟩
  case round =>
    obtain ⟨l, v, rfl, hl, hb⟩ := hrel
    have HB := Lib.hid hb
    clear hb HB2
    by_cases hlt : l.length < m + 1
    · have hgB : g < B + 1 := by have := HB.out.blt; omega
      have hwB := HB.out.blt
      go_wp2_with fail
      refine wp_region_facts rfl 8 96 rfl (steps1 g B l.length l v) (fun W => BoxD w g B l v W) (steps1R g B l v) (by decide) (by decide) (by decide) (fun k j u W W' hne hR h => steps1_stable g B hgB _ l v k j u W W' hne hR h) ?hG ?hstep ?hend
      case hG => exact HB.out.drew
      case hstep =>
        intro Q' j hj vs W hG hd
        have HG := Lib.hid hG
        clear hG HB
        match j, hj with
        | 0, _ =>
          refine wpOp_of_list rfl ?_
          simp only [putL]
          go_wp2
          exact behind 18 _ rfl (by simp [Act.put] <;> omega) rfl HG.out (grown_refl _ _)
        | 1, _ =>
          have e1 : vs 0 = .pointer (some ⟨B, 1, none⟩) := hd 0 (by simp [depsOf, Region.binds])
          obtain ⟨hBl, fz, nm', pv', hn', p0, p1, p2⟩ := HG.out.facts
          refine wpOp_of_list rfl ?_
          simp only [putL, e1]
          go_wp2
          exact behind 19 v rfl (by simp [Act.put] <;> omega) rfl HG.out (grown_refl _ _)
        | 2, _ =>
          refine wpOp_of_list rfl ?_
          simp only [putL]
          go_wp2
          exact behind 20 _ rfl (by simp [Act.put] <;> omega) rfl HG.out (grown_refl _ _)
        | 3, _ =>
          refine wpOp_of_list rfl ?_
          simp only [putL]
          go_wp2
          exact behind 21 _ rfl (by simp [Act.put] <;> omega) rfl HG.out (grown_refl _ _)
        | 4, _ =>
          have e1 : vs 2 = .pointer (some ⟨g, 0, none⟩) := hd 2 (by simp [depsOf, Region.binds])
          have e2 : vs 3 = .int .i64 l.length := hd 3 (by simp [depsOf, Region.binds])
          refine wpOp_of_list rfl ?_
          simp only [putL, e1, e2]
          go_wp2_with fail
          refine (l12Step_any g l.length W HG.out.src (by omega) (by omega)).mono ?_
          rintro e w3 ⟨s, hsf, rfl, hs, hg⟩
          have HS3 := Lib.hid hs
          have HG3 := Lib.hid hg
          have HSF := Lib.hid hsf
          clear hs hg hsf
          go_wp2
          exact behind 22 _ rfl (by simp [Act.put] <;> omega) ⟨s, HSF.out, rfl⟩ (HG.out.mono HG3.out HS3.out) HG3.out
        | 5, _ =>
          obtain ⟨s, hsf, e1⟩ : ∃ s : StepD, s.fits ∧ vs 4 = .agg #[.string s.nm, .string s.dd, .string s.ud, .int .i64 s.tr, .int .i64 s.bo, .int .i64 s.ti] := hd 4 (by simp [depsOf, Region.binds])
          have HSF := Lib.hid hsf
          clear hsf
          have hgW := HG.out.src.lt
          have hvW : v.ownBlock ≠ some W.heap.size := fun e => by have := (HG.out.own.lt _ e).2; omega
          refine wpOp_of_list rfl ?_
          simp only [putL, e1]
          go_wp2
          exact behind 23 _ rfl (by simp [Act.put] <;> omega) ⟨s, W.heap.size, HSF.out, by omega, hvW, rfl, heap_alloc_new _ _⟩ (HG.out.alloc _) (World.grownBy_alloc _ _ _)
        | 6, _ =>
          have e1 : vs 1 = v := hd 1 (by simp [depsOf, Region.binds])
          obtain ⟨s, b, hsf, hb, hv, e2, hh⟩ : ∃ (s : StepD) (b : Nat), s.fits ∧ b ≠ g ∧ v.ownBlock ≠ some b ∧ vs 5 = .slice (some ⟨b, 0, none⟩) 1 1 ∧ W.heap[b]? = some (.cells #[.string s.nm, .string s.dd, .string s.ud, .int .i64 s.tr, .int .i64 s.bo, .int .i64 s.ti] 55) := hd 5 (by simp [depsOf, Region.binds])
          obtain ⟨i0, hi0, hz0, hz1, hz2⟩ := info_parts info_Step
          have hBW := HG.out.lt
          refine wpOp_of_list rfl ?_
          simp only [putL, e1, e2]
          refine wpList_plain rfl fun _ hK => wp_append_keep W _ _ _ rfl (B + 1) 55 i0 _ 6 72 Try.underlying27 hi0 hz0 hz1 hz2 rfl (by omega) v l.length (l.flatMap StepD.cells) (by go_simp) HG.out.own ⟨b, 0, none⟩ 1 1 s.cells (by go_simp) rfl (World.news_of_block hh) (by simp [StepD.cells, Value.oneCell']) (by omega) (by simp only [maxLen]; omega) (by omega) (by omega) ?_
          intro v' W' h2 h3 h4
          refine hK _ _ ?_
          have H2 := Lib.hid h2
          have H3 := Lib.hid h3
          have H4 := Lib.hid h4
          clear h2 h3 h4
          go_wp2
          exact behind 24 v' rfl (by simp [Act.put] <;> omega) ⟨s, hsf, H2.out⟩ (HG.out.row H3.out H4.out) H3.out
        | 7, _ =>
          refine wpOp_of_list rfl ?_
          simp only [putL]
          go_wp2
          exact behind 25 _ rfl (by simp [Act.put] <;> omega) rfl HG.out (grown_refl _ _)
        | n + 8, hn => exact absurd hn (by omega)
      case hend =>
        intro vs W hG hd
        have HG := Lib.hid hG
        clear hG HB
        obtain ⟨s, hsf, ho⟩ : ∃ s : StepD, s.fits ∧ W.ownsRow (B + 1) 55 6 (vs 6) (l.length + 1) (l.flatMap StepD.cells ++ s.cells) := hd 6 (by omega)
        have e7 : vs 7 = .pointer (some ⟨B, 1, none⟩) := hd 7 (by omega)
        have e3 : vs 3 = .int .i64 l.length := hd 3 (by omega)
        obtain ⟨gg, cap6, e6, -, -⟩ := ho.form (by omega)
        rw [e6] at ho
        generalize hv6 : Value.slice (some ⟨gg, 0, none⟩) (l.length + 1) cap6 = v6 at *
        have HO := Lib.hid ho
        have HSF := Lib.hid hsf
        clear ho hsf
        obtain ⟨hBl, fz, nm', pv', hn', p0, p1, p2⟩ := HG.out.facts
        refine wpOp_of_list rfl ?_
        simp only [putL, e7, e6]
        have HB3 : Hid (BoxD w g B (l ++ [s]) v6 (W.setCell ⟨B, 1, none⟩ v6)) := Lib.hid (HG.out.setSt (l' := l ++ [s]) (by simpa using HO.out) (by
          intro x hx
          rcases List.mem_append.1 hx with hx | hx
          · exact HG.out.fits x hx
          · rw [List.mem_singleton.1 hx]; exact HSF.out))
        clear hd
        subst hv6
        go_wp2_with fail
        go_roundw
        case rel => exact ⟨l ++ [s], _, (by first | rfl | go_num | (simp; done)), (by simp <;> omega), HB3.out⟩
        case measure => simp [intOf]; omega
    · have hm1 : l.length = m + 1 := by omega
      obtain ⟨rb, cap, hv, -, -, hcap⟩ := HB.out.form (by omega)
      rw [hm1] at hv
      subst hv
      obtain ⟨s0, l0, rfl⟩ : ∃ s0 l0, l = s0 :: l0 := by
        cases l with
        | nil => simp at hm1
        | cons a b => exact ⟨a, b, rfl⟩
      go_upto_if 27 with (refine (one_any g 2 wr HB.out.src (by omega)).mono ?_; rintro e w3 ⟨r, rfl, hs, hg⟩)
      have HB3 := Lib.hid (HB.out.mono hg hs)
      clear hs hg
      go_cut [] (fun wx => BoxD w g B (s0 :: l0) (.slice (some ⟨rb, 0, none⟩) (m + 1) cap) wx)
      case first =>
        cases r
        · go_wp2_with fail
          go_meet
          exact HB3.out
        · go_wp2_with fail
          refine (n_any g _ w3 HB3.out.src (by omega)).mono ?_
          rintro e w4 ⟨x, -, rfl, hs, hg⟩
          have HB4 := Lib.hid (HB3.out.mono hg hs)
          clear hs hg
          obtain ⟨hBl, fz, nm', pv', hn', p0, p1, p2⟩ := HB4.out.facts
          go_wp2_with fail
          go_meet
          exact HB4.out.setPv x
      case rest =>
      have HBc := Lib.hid hcut
      clear hcut HB3
      go_upto_if 33 with (refine (one_any g 20 wc HBc.out.src (by omega)).mono ?_; rintro e w3 ⟨r2, rfl, hs, hg⟩)
      have HB4 := Lib.hid (HBc.out.mono hg hs)
      clear hs hg
      go_cut [] (fun wx => ∃ (l' : List StepD) (b' cap' : Nat), BoxD w g B l' (.slice (some ⟨b', 0, none⟩) l'.length cap') wx ∧ l'.length ≤ 8)
      case first =>
        cases r2
        · go_wp2_with fail
          go_meet
          exact ⟨s0 :: l0, rb, cap, by rw [hm1]; exact HB4.out, by omega⟩
        · go_wp2_with fail
          refine (n_any g 6 _ HB4.out.src (by omega)).mono ?_
          rintro e w5 ⟨k, ⟨hk0, hk1⟩, rfl, hs, hg⟩
          have HBk := Lib.hid (HB4.out.mono hg hs)
          have hk2 := hk1 (by omega)
          clear hs hg hk1
          rcases (show k = 0 ∨ k = 1 ∨ k = 2 ∨ k = 3 ∨ k = 4 ∨ k = 5 by omega) with rfl | rfl | rfl | rfl | rfl | rfl
          · go_wp2_with fail
            have HW0 := Lib.hid (rowAt_strs w5 [⟨#[]⟩, ⟨#[65]⟩] 9)
            have hgl5 := HBk.out.src.lt
            refine (pick_any g [⟨#[]⟩, ⟨#[65]⟩] (some ⟨w5.heap.size, 0, none⟩) 2 _ (HBk.out.src.alloc _) (by simp) (by simp) HW0.out (fun x hx => by cases hx; show w5.heap.size ≠ g; omega)).mono ?_
            rintro e w6 ⟨nm2, hmem, rfl, hs, hg⟩
            have hsz2 : nm2.size ≤ 10 := by
              simp only [List.mem_cons, List.not_mem_nil, or_false] at hmem
              rcases hmem with rfl | rfl <;> decide
            have HB6 := Lib.hid ((HBk.out.alloc _).mono hg hs)
            clear hs hg hmem
            obtain ⟨hBl, fz, nm', pv', hn', p0, p1, p2⟩ := HB6.out.facts
            go_wp2_with fail
            go_meet
            exact ⟨s0 :: l0, rb, cap, by rw [hm1]; exact HB6.out.setNm _ hsz2, by omega⟩
          · go_wp2_with fail
            have HW0 := Lib.hid (rowAt_ints w5 [-2, 1 + (m : Int), 1 + (m : Int) - 1] 2)
            have hgl5 := HBk.out.src.lt
            refine (n_any g 3 _ (HBk.out.src.alloc _) (by omega)).mono ?_
            rintro e w6 ⟨q, ⟨hq0, hq1⟩, rfl, hs, hg⟩
            have hq2 := hq1 (by omega)
            obtain ⟨q, rfl⟩ := Int.eq_ofNat_of_zero_le hq0
            have hqk : q < ([-2, 1 + (m : Int), 1 + (m : Int) - 1] : List Int).length := by show q < 3; omega
            obtain ⟨bb, oo, hA, hc⟩ := (HW0.out.grown hg (fun x hx => by cases hx; show some w5.heap.size ≠ some g; simp; omega)) q _ (List.getElem?_eq_getElem hqk)
            cases hA
            have c0 := hc 0 _ rfl
            simp only [Nat.mul_one, Nat.add_zero, Nat.zero_add] at c0
            have HB6 := Lib.hid ((HBk.out.alloc _).mono hg hs)
            clear hc hs hg
            obtain ⟨hBl, fz, nm', pv', hn', p0, p1, p2⟩ := HB6.out.facts
            go_wp2_with fail
            go_meet
            exact ⟨s0 :: l0, rb, cap, by rw [hm1]; exact HB6.out.setPv _, by omega⟩
          · have hgB : g < B := Nat.lt_trans HBk.out.glt HBk.out.blt
            go_wp2_with fail
            refine wp_region_facts rfl 9 96 rfl (fieldD g B rb 3 (.slice (some ⟨rb, 0, none⟩) (m + 1) cap) [0, 10, 11]) (fun W => BoxD w g B (s0 :: l0) (.slice (some ⟨rb, 0, none⟩) (m + 1) cap) W) (fun _ W W' => W.grownBy W' (some g)) (by decide) (by decide) (by decide) (fun k j u W W' _ hR h => fieldD_stable g B rb 3 _ [0, 10, 11] j u W W' hR h) ?hG ?hstep ?hend
            case hG => exact HBk.out.drew
            case hstep =>
              intro Q' j hj vs W hG hd
              have HG := Lib.hid hG
              clear hG HB HBc HB4 HBk
              match j, hj with
              | 0, _ =>
                refine wpOp_of_list rfl ?_
                simp only [putL]
                go_wp2
                exact behind 64 _ rfl (by simp [Act.put] <;> omega) rfl HG.out (grown_refl _ _)
              | 1, _ =>
                have e1 : vs 0 = .pointer (some ⟨B, 1, none⟩) := hd 0 (by simp [depsOf, Region.binds])
                obtain ⟨hBl, fz, nm', pv', hn', p0, p1, p2⟩ := HG.out.facts
                refine wpOp_of_list rfl ?_
                simp only [putL, e1]
                go_wp2
                exact behind 65 _ rfl (by simp [Act.put] <;> omega) rfl HG.out (grown_refl _ _)
              | 2, _ =>
                have hgW := HG.out.src.lt
                refine wpOp_of_list rfl ?_
                simp only [putL]
                go_wp2
                exact behind 66 _ rfl (by simp [Act.put] <;> omega) ⟨W.heap.size, by omega, rfl, rowAt_ints W [0, 10, 11] _⟩ (HG.out.alloc _) (World.grownBy_alloc _ _ _)
              | 3, _ =>
                refine wpOp_of_list rfl ?_
                simp only [putL]
                go_wp2
                exact behind 67 _ rfl (by simp [Act.put] <;> omega) rfl HG.out (grown_refl _ _)
              | 4, _ =>
                have e1 : vs 3 = .pointer (some ⟨g, 0, none⟩) := hd 3 (by simp [depsOf, Region.binds])
                refine wpOp_of_list rfl ?_
                simp only [putL, e1]
                go_wp2_with fail
                refine (n_any g 3 W HG.out.src (by omega)).mono ?_
                rintro e w9 ⟨x, ⟨hx0, hx1⟩, rfl, hs, hg⟩
                have HS3 := Lib.hid hs
                have HG3 := Lib.hid hg
                have hx2 := hx1 (by omega)
                clear hs hg hx1
                go_wp2
                exact behind 68 _ rfl (by simp [Act.put] <;> omega) ⟨x, hx0, by omega, rfl⟩ (HG.out.mono HG3.out HS3.out) HG3.out
              | 5, _ =>
                obtain ⟨b, hb, e1, hr⟩ : ∃ b, b ≠ g ∧ vs 2 = .slice (some ⟨b, 0, none⟩) 3 3 ∧ RowAt W (some ⟨b, 0, none⟩) 1 (fun x => [.int .i64 x]) [0, 10, 11] := hd 2 (by simp [depsOf, Region.binds])
                obtain ⟨x, hx0, hx1, e2⟩ : IsInt 0 2 (vs 4) := hd 4 (by simp [depsOf, Region.binds])
                obtain ⟨k, rfl⟩ := Int.eq_ofNat_of_zero_le hx0
                have hk : k < ([0, 10, 11] : List Int).length := by show k < 3; omega
                obtain ⟨b', o', hA, hc⟩ := hr k _ (List.getElem?_eq_getElem hk)
                cases hA
                have c0 := hc 0 _ rfl
                simp only [Nat.mul_one, Nat.add_zero, Nat.zero_add] at c0
                have C0 := Lib.hid c0
                clear hc hr c0
                have hk3 : (k : Int) < 3 := by omega
                refine wpOp_of_list rfl ?_
                simp only [putL, e1, e2]
                go_wp2
                exact behind 69 (.pointer (some ⟨b, k, none⟩)) rfl (by simp [Act.put] <;> omega) ⟨b, k, _, hb, rfl, C0.out⟩ HG.out (grown_refl _ _)
              | 6, _ =>
                obtain ⟨b, k, x, hb, e1, hc⟩ : ∃ (b : Nat) (k : Nat) (x : Int), b ≠ g ∧ vs 5 = .pointer (some ⟨b, k, none⟩) ∧ W.cell? ⟨b, k, none⟩ = some (.int .i64 x) := hd 5 (by simp [depsOf, Region.binds])
                refine wpOp_of_list rfl ?_
                simp only [putL, e1]
                go_wp2
                exact behind 70 _ rfl (by simp [Act.put] <;> omega) ⟨x, rfl⟩ HG.out (grown_refl _ _)
              | 7, _ =>
                have e1 : vs 1 = .slice (some ⟨rb, 0, none⟩) (m + 1) cap := hd 1 (by simp [depsOf, Region.binds])
                refine wpOp_of_list rfl ?_
                simp only [putL, e1]
                go_wp2
                exact behind 71 _ rfl (by simp [Act.put] <;> omega) rfl HG.out (grown_refl _ _)
              | 8, _ =>
                have e1 : vs 7 = .pointer (some ⟨rb, 0, none⟩) := hd 7 (by simp [depsOf, Region.binds])
                refine wpOp_of_list rfl ?_
                simp only [putL, e1]
                go_wp2
                exact behind 72 _ rfl (by simp [Act.put] <;> omega) rfl HG.out (grown_refl _ _)
              | n + 9, hn => exact absurd hn (by omega)
            case hend =>
              intro vs W hG hd
              have HG := Lib.hid hG
              clear hG HB HBc HB4 HBk
              obtain ⟨x, e6⟩ : ∃ x : Int, vs 6 = .int .i64 x := hd 6 (by omega)
              have e8 : vs 8 = .pointer (some ⟨rb, 3, none⟩) := hd 8 (by omega)
              obtain ⟨hBl, fz, p0, p1, p2, p3, p4, p5⟩ := HG.out.rowcells
              clear hd
              refine wpOp_of_list rfl ?_
              simp only [putL, e6, e8]
              go_wp2_with fail
              go_meet
              exact ⟨{ s0 with tr := x } :: l0, rb, cap, by have := HG.out.setRow (j := 3) (u := .int .i64 x) (s' := { s0 with tr := x }) (by omega) rfl (HG.out.fits s0 (by simp)); rw [show ({ s0 with tr := x } :: l0).length = m + 1 from hm1]; exact this, by show l0.length + 1 ≤ 8; have : l0.length + 1 = m + 1 := hm1; omega⟩
          · have hgB : g < B := Nat.lt_trans HBk.out.glt HBk.out.blt
            go_wp2_with fail
            refine wp_region_facts rfl 9 96 rfl (fieldD g B rb 4 (.slice (some ⟨rb, 0, none⟩) (m + 1) cap) [-1, 1000, 1001]) (fun W => BoxD w g B (s0 :: l0) (.slice (some ⟨rb, 0, none⟩) (m + 1) cap) W) (fun _ W W' => W.grownBy W' (some g)) (by decide) (by decide) (by decide) (fun k j u W W' _ hR h => fieldD_stable g B rb 4 _ [-1, 1000, 1001] j u W W' hR h) ?hG ?hstep ?hend
            case hG => exact HBk.out.drew
            case hstep =>
              intro Q' j hj vs W hG hd
              have HG := Lib.hid hG
              clear hG HB HBc HB4 HBk
              match j, hj with
              | 0, _ =>
                refine wpOp_of_list rfl ?_
                simp only [putL]
                go_wp2
                exact behind 75 _ rfl (by simp [Act.put] <;> omega) rfl HG.out (grown_refl _ _)
              | 1, _ =>
                have e1 : vs 0 = .pointer (some ⟨B, 1, none⟩) := hd 0 (by simp [depsOf, Region.binds])
                obtain ⟨hBl, fz, nm', pv', hn', p0, p1, p2⟩ := HG.out.facts
                refine wpOp_of_list rfl ?_
                simp only [putL, e1]
                go_wp2
                exact behind 76 _ rfl (by simp [Act.put] <;> omega) rfl HG.out (grown_refl _ _)
              | 2, _ =>
                have hgW := HG.out.src.lt
                refine wpOp_of_list rfl ?_
                simp only [putL]
                go_wp2
                exact behind 77 _ rfl (by simp [Act.put] <;> omega) ⟨W.heap.size, by omega, rfl, rowAt_ints W [-1, 1000, 1001] _⟩ (HG.out.alloc _) (World.grownBy_alloc _ _ _)
              | 3, _ =>
                refine wpOp_of_list rfl ?_
                simp only [putL]
                go_wp2
                exact behind 78 _ rfl (by simp [Act.put] <;> omega) rfl HG.out (grown_refl _ _)
              | 4, _ =>
                have e1 : vs 3 = .pointer (some ⟨g, 0, none⟩) := hd 3 (by simp [depsOf, Region.binds])
                refine wpOp_of_list rfl ?_
                simp only [putL, e1]
                go_wp2_with fail
                refine (n_any g 3 W HG.out.src (by omega)).mono ?_
                rintro e w9 ⟨x, ⟨hx0, hx1⟩, rfl, hs, hg⟩
                have HS3 := Lib.hid hs
                have HG3 := Lib.hid hg
                have hx2 := hx1 (by omega)
                clear hs hg hx1
                go_wp2
                exact behind 79 _ rfl (by simp [Act.put] <;> omega) ⟨x, hx0, by omega, rfl⟩ (HG.out.mono HG3.out HS3.out) HG3.out
              | 5, _ =>
                obtain ⟨b, hb, e1, hr⟩ : ∃ b, b ≠ g ∧ vs 2 = .slice (some ⟨b, 0, none⟩) 3 3 ∧ RowAt W (some ⟨b, 0, none⟩) 1 (fun x => [.int .i64 x]) [-1, 1000, 1001] := hd 2 (by simp [depsOf, Region.binds])
                obtain ⟨x, hx0, hx1, e2⟩ : IsInt 0 2 (vs 4) := hd 4 (by simp [depsOf, Region.binds])
                obtain ⟨k, rfl⟩ := Int.eq_ofNat_of_zero_le hx0
                have hk : k < ([-1, 1000, 1001] : List Int).length := by show k < 3; omega
                obtain ⟨b', o', hA, hc⟩ := hr k _ (List.getElem?_eq_getElem hk)
                cases hA
                have c0 := hc 0 _ rfl
                simp only [Nat.mul_one, Nat.add_zero, Nat.zero_add] at c0
                have C0 := Lib.hid c0
                clear hc hr c0
                have hk3 : (k : Int) < 3 := by omega
                refine wpOp_of_list rfl ?_
                simp only [putL, e1, e2]
                go_wp2
                exact behind 80 (.pointer (some ⟨b, k, none⟩)) rfl (by simp [Act.put] <;> omega) ⟨b, k, _, hb, rfl, C0.out⟩ HG.out (grown_refl _ _)
              | 6, _ =>
                obtain ⟨b, k, x, hb, e1, hc⟩ : ∃ (b : Nat) (k : Nat) (x : Int), b ≠ g ∧ vs 5 = .pointer (some ⟨b, k, none⟩) ∧ W.cell? ⟨b, k, none⟩ = some (.int .i64 x) := hd 5 (by simp [depsOf, Region.binds])
                refine wpOp_of_list rfl ?_
                simp only [putL, e1]
                go_wp2
                exact behind 81 _ rfl (by simp [Act.put] <;> omega) ⟨x, rfl⟩ HG.out (grown_refl _ _)
              | 7, _ =>
                have e1 : vs 1 = .slice (some ⟨rb, 0, none⟩) (m + 1) cap := hd 1 (by simp [depsOf, Region.binds])
                refine wpOp_of_list rfl ?_
                simp only [putL, e1]
                go_wp2
                exact behind 82 _ rfl (by simp [Act.put] <;> omega) rfl HG.out (grown_refl _ _)
              | 8, _ =>
                have e1 : vs 7 = .pointer (some ⟨rb, 0, none⟩) := hd 7 (by simp [depsOf, Region.binds])
                refine wpOp_of_list rfl ?_
                simp only [putL, e1]
                go_wp2
                exact behind 83 _ rfl (by simp [Act.put] <;> omega) rfl HG.out (grown_refl _ _)
              | n + 9, hn => exact absurd hn (by omega)
            case hend =>
              intro vs W hG hd
              have HG := Lib.hid hG
              clear hG HB HBc HB4 HBk
              obtain ⟨x, e6⟩ : ∃ x : Int, vs 6 = .int .i64 x := hd 6 (by omega)
              have e8 : vs 8 = .pointer (some ⟨rb, 4, none⟩) := hd 8 (by omega)
              obtain ⟨hBl, fz, p0, p1, p2, p3, p4, p5⟩ := HG.out.rowcells
              clear hd
              refine wpOp_of_list rfl ?_
              simp only [putL, e6, e8]
              go_wp2_with fail
              go_meet
              exact ⟨{ s0 with bo := x } :: l0, rb, cap, by have := HG.out.setRow (j := 4) (u := .int .i64 x) (s' := { s0 with bo := x }) (by omega) rfl (HG.out.fits s0 (by simp)); rw [show ({ s0 with bo := x } :: l0).length = m + 1 from hm1]; exact this, by show l0.length + 1 ≤ 8; have : l0.length + 1 = m + 1 := hm1; omega⟩
          · have hgB : g < B := Nat.lt_trans HBk.out.glt HBk.out.blt
            go_wp2_with fail
            refine wp_region_facts rfl 9 96 rfl (fieldD g B rb 5 (.slice (some ⟨rb, 0, none⟩) (m + 1) cap) [0, 1000, 1001]) (fun W => BoxD w g B (s0 :: l0) (.slice (some ⟨rb, 0, none⟩) (m + 1) cap) W) (fun _ W W' => W.grownBy W' (some g)) (by decide) (by decide) (by decide) (fun k j u W W' _ hR h => fieldD_stable g B rb 5 _ [0, 1000, 1001] j u W W' hR h) ?hG ?hstep ?hend
            case hG => exact HBk.out.drew
            case hstep =>
              intro Q' j hj vs W hG hd
              have HG := Lib.hid hG
              clear hG HB HBc HB4 HBk
              match j, hj with
              | 0, _ =>
                refine wpOp_of_list rfl ?_
                simp only [putL]
                go_wp2
                exact behind 86 _ rfl (by simp [Act.put] <;> omega) rfl HG.out (grown_refl _ _)
              | 1, _ =>
                have e1 : vs 0 = .pointer (some ⟨B, 1, none⟩) := hd 0 (by simp [depsOf, Region.binds])
                obtain ⟨hBl, fz, nm', pv', hn', p0, p1, p2⟩ := HG.out.facts
                refine wpOp_of_list rfl ?_
                simp only [putL, e1]
                go_wp2
                exact behind 87 _ rfl (by simp [Act.put] <;> omega) rfl HG.out (grown_refl _ _)
              | 2, _ =>
                have hgW := HG.out.src.lt
                refine wpOp_of_list rfl ?_
                simp only [putL]
                go_wp2
                exact behind 88 _ rfl (by simp [Act.put] <;> omega) ⟨W.heap.size, by omega, rfl, rowAt_ints W [0, 1000, 1001] _⟩ (HG.out.alloc _) (World.grownBy_alloc _ _ _)
              | 3, _ =>
                refine wpOp_of_list rfl ?_
                simp only [putL]
                go_wp2
                exact behind 89 _ rfl (by simp [Act.put] <;> omega) rfl HG.out (grown_refl _ _)
              | 4, _ =>
                have e1 : vs 3 = .pointer (some ⟨g, 0, none⟩) := hd 3 (by simp [depsOf, Region.binds])
                refine wpOp_of_list rfl ?_
                simp only [putL, e1]
                go_wp2_with fail
                refine (n_any g 3 W HG.out.src (by omega)).mono ?_
                rintro e w9 ⟨x, ⟨hx0, hx1⟩, rfl, hs, hg⟩
                have HS3 := Lib.hid hs
                have HG3 := Lib.hid hg
                have hx2 := hx1 (by omega)
                clear hs hg hx1
                go_wp2
                exact behind 90 _ rfl (by simp [Act.put] <;> omega) ⟨x, hx0, by omega, rfl⟩ (HG.out.mono HG3.out HS3.out) HG3.out
              | 5, _ =>
                obtain ⟨b, hb, e1, hr⟩ : ∃ b, b ≠ g ∧ vs 2 = .slice (some ⟨b, 0, none⟩) 3 3 ∧ RowAt W (some ⟨b, 0, none⟩) 1 (fun x => [.int .i64 x]) [0, 1000, 1001] := hd 2 (by simp [depsOf, Region.binds])
                obtain ⟨x, hx0, hx1, e2⟩ : IsInt 0 2 (vs 4) := hd 4 (by simp [depsOf, Region.binds])
                obtain ⟨k, rfl⟩ := Int.eq_ofNat_of_zero_le hx0
                have hk : k < ([0, 1000, 1001] : List Int).length := by show k < 3; omega
                obtain ⟨b', o', hA, hc⟩ := hr k _ (List.getElem?_eq_getElem hk)
                cases hA
                have c0 := hc 0 _ rfl
                simp only [Nat.mul_one, Nat.add_zero, Nat.zero_add] at c0
                have C0 := Lib.hid c0
                clear hc hr c0
                have hk3 : (k : Int) < 3 := by omega
                refine wpOp_of_list rfl ?_
                simp only [putL, e1, e2]
                go_wp2
                exact behind 91 (.pointer (some ⟨b, k, none⟩)) rfl (by simp [Act.put] <;> omega) ⟨b, k, _, hb, rfl, C0.out⟩ HG.out (grown_refl _ _)
              | 6, _ =>
                obtain ⟨b, k, x, hb, e1, hc⟩ : ∃ (b : Nat) (k : Nat) (x : Int), b ≠ g ∧ vs 5 = .pointer (some ⟨b, k, none⟩) ∧ W.cell? ⟨b, k, none⟩ = some (.int .i64 x) := hd 5 (by simp [depsOf, Region.binds])
                refine wpOp_of_list rfl ?_
                simp only [putL, e1]
                go_wp2
                exact behind 92 _ rfl (by simp [Act.put] <;> omega) ⟨x, rfl⟩ HG.out (grown_refl _ _)
              | 7, _ =>
                have e1 : vs 1 = .slice (some ⟨rb, 0, none⟩) (m + 1) cap := hd 1 (by simp [depsOf, Region.binds])
                refine wpOp_of_list rfl ?_
                simp only [putL, e1]
                go_wp2
                exact behind 93 _ rfl (by simp [Act.put] <;> omega) rfl HG.out (grown_refl _ _)
              | 8, _ =>
                have e1 : vs 7 = .pointer (some ⟨rb, 0, none⟩) := hd 7 (by simp [depsOf, Region.binds])
                refine wpOp_of_list rfl ?_
                simp only [putL, e1]
                go_wp2
                exact behind 94 _ rfl (by simp [Act.put] <;> omega) rfl HG.out (grown_refl _ _)
              | n + 9, hn => exact absurd hn (by omega)
            case hend =>
              intro vs W hG hd
              have HG := Lib.hid hG
              clear hG HB HBc HB4 HBk
              obtain ⟨x, e6⟩ : ∃ x : Int, vs 6 = .int .i64 x := hd 6 (by omega)
              have e8 : vs 8 = .pointer (some ⟨rb, 5, none⟩) := hd 8 (by omega)
              obtain ⟨hBl, fz, p0, p1, p2, p3, p4, p5⟩ := HG.out.rowcells
              clear hd
              refine wpOp_of_list rfl ?_
              simp only [putL, e6, e8]
              go_wp2_with fail
              go_meet
              exact ⟨{ s0 with ti := x } :: l0, rb, cap, by have := HG.out.setRow (j := 5) (u := .int .i64 x) (s' := { s0 with ti := x }) (by omega) rfl (HG.out.fits s0 (by simp)); rw [show ({ s0 with ti := x } :: l0).length = m + 1 from hm1]; exact this, by show l0.length + 1 ≤ 8; have : l0.length + 1 = m + 1 := hm1; omega⟩
          · have hgB : g < B := Nat.lt_trans HBk.out.glt HBk.out.blt
            go_wp2_with fail
            refine wp_region_facts rfl 9 96 rfl (againD B rb g s0 (s0 :: l0) (.slice (some ⟨rb, 0, none⟩) (m + 1) cap)) (fun W => BoxD w g B (s0 :: l0) (.slice (some ⟨rb, 0, none⟩) (m + 1) cap) W) (againR g (.slice (some ⟨rb, 0, none⟩) (m + 1) cap)) (by decide) (by decide) (by decide) (fun k j u W W' hne hR h => againD_stable B rb g (by omega) s0 (s0 :: l0) _ k j u W W' hne hR h) ?hG ?hstep ?hend
            case hG => exact HBk.out.drew
            case hstep =>
              intro Q' j hj vs W hG hd
              have HG := Lib.hid hG
              clear hG HB HBc HB4 HBk
              match j, hj with
              | 0, _ =>
                refine wpOp_of_list rfl ?_
                simp only [putL]
                go_wp2
                exact behind 36 _ rfl (by simp [Act.put] <;> omega) rfl HG.out (grown_refl _ _)
              | 1, _ =>
                have e1 : vs 0 = .pointer (some ⟨B, 1, none⟩) := hd 0 (by simp [depsOf, Region.binds])
                obtain ⟨hBl, fz, nm', pv', hn', p0, p1, p2⟩ := HG.out.facts
                refine wpOp_of_list rfl ?_
                simp only [putL, e1]
                go_wp2
                exact behind 37 _ rfl (by simp [Act.put] <;> omega) rfl HG.out (grown_refl _ _)
              | 2, _ =>
                refine wpOp_of_list rfl ?_
                simp only [putL]
                go_wp2
                exact behind 38 _ rfl (by simp [Act.put] <;> omega) rfl HG.out (grown_refl _ _)
              | 3, _ =>
                have e1 : vs 2 = .pointer (some ⟨B, 1, none⟩) := hd 2 (by simp [depsOf, Region.binds])
                obtain ⟨hBl, fz, nm', pv', hn', p0, p1, p2⟩ := HG.out.facts
                refine wpOp_of_list rfl ?_
                simp only [putL, e1]
                go_wp2
                exact behind 39 _ rfl (by simp [Act.put] <;> omega) rfl HG.out (grown_refl _ _)
              | 4, _ =>
                have e1 : vs 3 = .slice (some ⟨rb, 0, none⟩) (m + 1) cap := hd 3 (by simp [depsOf, Region.binds])
                refine wpOp_of_list rfl ?_
                simp only [putL, e1]
                go_wp2
                exact behind 40 _ rfl (by simp [Act.put] <;> omega) rfl HG.out (grown_refl _ _)
              | 5, _ =>
                have e1 : vs 4 = .pointer (some ⟨rb, 0, none⟩) := hd 4 (by simp [depsOf, Region.binds])
                obtain ⟨hBl, fz, p0, p1, p2, p3, p4, p5⟩ := HG.out.rowcells
                refine wpOp_of_list rfl ?_
                simp only [putL, e1]
                go_wp2
                exact behind 41 _ rfl (by simp [Act.put] <;> omega) rfl HG.out (grown_refl _ _)
              | 6, _ =>
                have e1 : vs 5 = .agg #[.string s0.nm, .string s0.dd, .string s0.ud, .int .i64 s0.tr, .int .i64 s0.bo, .int .i64 s0.ti] := hd 5 (by simp [depsOf, Region.binds])
                have hgW := HG.out.src.lt
                have hvW : (Value.slice (some ⟨rb, 0, none⟩) (m + 1) cap).ownBlock ≠ some W.heap.size := fun e => by have := (HG.out.own.lt _ e).2; omega
                refine wpOp_of_list rfl ?_
                simp only [putL, e1]
                go_wp2
                exact behind 42 _ rfl (by simp [Act.put] <;> omega) ⟨W.heap.size, by omega, hvW, rfl, heap_alloc_new _ _⟩ (HG.out.alloc _) (World.grownBy_alloc _ _ _)
              | 7, _ =>
                have e1 : vs 1 = .slice (some ⟨rb, 0, none⟩) (m + 1) cap := hd 1 (by simp [depsOf, Region.binds])
                obtain ⟨b, hb, hv, e2, hh⟩ : ∃ (b : Nat), b ≠ g ∧ (Value.slice (some ⟨rb, 0, none⟩) (m + 1) cap).ownBlock ≠ some b ∧ vs 6 = .slice (some ⟨b, 0, none⟩) 1 1 ∧ W.heap[b]? = some (.cells #[.string s0.nm, .string s0.dd, .string s0.ud, .int .i64 s0.tr, .int .i64 s0.bo, .int .i64 s0.ti] 55) := hd 6 (by simp [depsOf, Region.binds])
                obtain ⟨i0, hi0, hz0, hz1, hz2⟩ := info_parts info_Step
                have hBW := HG.out.lt
                have hlen : (s0 :: l0).length ≤ 8 := by omega
                refine wpOp_of_list rfl ?_
                simp only [putL, e1, e2]
                refine wpList_plain rfl fun _ hK => wp_append_keep W _ _ _ rfl (B + 1) 55 i0 _ 6 72 Try.underlying27 hi0 hz0 hz1 hz2 rfl (by omega) (.slice (some ⟨rb, 0, none⟩) (m + 1) cap) (s0 :: l0).length ((s0 :: l0).flatMap StepD.cells) (by go_simp) HG.out.own ⟨b, 0, none⟩ 1 1 s0.cells (by go_simp) rfl (World.news_of_block hh) (by simp [StepD.cells, Value.oneCell']) (by omega) (by simp only [maxLen]; omega) (by omega) (by omega) ?_
                intro v' W' h2 h3 h4
                refine hK _ _ ?_
                have H2 := Lib.hid h2
                have H3 := Lib.hid h3
                have H4 := Lib.hid h4
                clear h2 h3 h4
                go_wp2
                exact behind 43 v' rfl (by simp [Act.put] <;> omega) H2.out (HG.out.row H3.out H4.out) H3.out
              | 8, _ =>
                refine wpOp_of_list rfl ?_
                simp only [putL]
                go_wp2
                exact behind 44 _ rfl (by simp [Act.put] <;> omega) rfl HG.out (grown_refl _ _)
              | n + 9, hn => exact absurd hn (by omega)
            case hend =>
              intro vs W hG hd
              have HG := Lib.hid hG
              clear hG HB HBc HB4 HBk
              have ho : W.ownsRow (B + 1) 55 6 (vs 7) ((s0 :: l0).length + 1) ((s0 :: l0).flatMap StepD.cells ++ s0.cells) := hd 7 (by omega)
              have e8 : vs 8 = .pointer (some ⟨B, 1, none⟩) := hd 8 (by omega)
              obtain ⟨gg, cap6, e6, -, -⟩ := ho.form (by omega)
              rw [e6] at ho
              have HO := Lib.hid ho
              clear ho
              obtain ⟨hBl, fz, nm', pv', hn', p0, p1, p2⟩ := HG.out.facts
              have hlen : (s0 :: l0).length ≤ 4 := by omega
              have HB9 := Lib.hid (HG.out.setSt (l' := (s0 :: l0) ++ [s0]) (by simpa using HO.out) (by
                intro x hx
                rcases List.mem_append.1 hx with hx | hx
                · exact HG.out.fits x hx
                · rw [List.mem_singleton.1 hx]; exact HG.out.fits s0 (by simp)))
              clear hd
              refine wpOp_of_list rfl ?_
              simp only [putL, e8, e6]
              go_wp2_with fail
              go_meet
              have hm2 : l0.length = m := by
                have h1 : l0.length + 1 = m + 1 := hm1
                omega
              exact ⟨(s0 :: l0) ++ [s0], gg, cap6, by have := HB9.out; simpa [hm2] using this, by simp; simp at hlen; omega⟩
      case rest =>
      obtain ⟨l', b', cap', hb', hl'⟩ := hcut
      have HE := Lib.hid hb'
      clear hb' HB4 HBc
      obtain ⟨hBl, fz, nm', pv', hn', p0, p1, p2⟩ := HE.out.facts
      obtain ⟨fy, y0, y1, y2⟩ := zDef_facts HE.out.res
      have hrl := blk_lt HE.out.res
      go_wp2_with fail
      exact endDef Try.results58 rfl rfl HE.out.res (fun wy hy => HE.out.done hl' _ _ hn' hy)
end Go.Proofs.Ytlbiocfpkpcdhaa
