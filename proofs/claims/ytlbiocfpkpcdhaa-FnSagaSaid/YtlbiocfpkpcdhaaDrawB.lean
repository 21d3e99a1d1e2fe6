import Derived.Test.YtlbiocfpkpcdhaaDraw
import Derived.Test.YtlbiocfpkpcdhaaRegion
namespace Go.Proofs.Ytlbiocfpkpcdhaa
open Go.RowKit
set_option linter.unusedSimpArgs false
set_option linter.unusedVariables false
theorem SrcAt.grown {w w' : World} {g : Nat} {r : Option Nat} (h : SrcAt w g) (hg : w.grownBy w' r) (hr : some g ≠ r) (hr2 : ∀ b, r = some b → w.heap.size ≤ b) : SrcAt w' g := by
  obtain ⟨A, cap, bs, a, m, z, hs⟩ := h
  refine ⟨A, cap, bs, a, m, z, (hg.block g (blk_lt hs.blk) hr).trans hs.blk, ?_, hs.len, hs.cap, hs.a0, hs.a1, hs.apart⟩
  intro i x hx
  obtain ⟨b, o, hA, hc⟩ := hs.row i x hx
  refine ⟨b, o, hA, fun j u hu => hg.cell (hc j u hu) ?_⟩
  intro he
  have h1 := World.block_lt_of_cell? w _ (hc j u hu)
  have h2 := hr2 b he.symm
  simp at h1
  omega
theorem SrcAt.above {w w' : World} {g b : Nat} (h : SrcAt w g) (hg : w.grownBy w' (some b)) (hb : g < b) : SrcAt w' g := by
  obtain ⟨A, cap, bs, a, m, z, hs⟩ := h
  refine ⟨A, cap, bs, a, m, z, (hg.block g (blk_lt hs.blk) (by simp; omega)).trans hs.blk, ?_, hs.len, hs.cap, hs.a0, hs.a1, hs.apart⟩
  intro i x hx
  obtain ⟨b', o, hA, hc⟩ := hs.row i x hx
  have := hs.apart _ hA
  simp only at this
  exact ⟨b', o, hA, fun j u hu => hg.cell (hc j u hu) (by simp; omega)⟩
theorem SrcAt.alloc {w : World} {g : Nat} (h : SrcAt w g) (o : Obj) : SrcAt (w.alloc o) g := h.grown (World.grownBy_alloc w o none) (by simp) (by simp)
theorem SrcAt.drew {w : World} {g : Nat} (h : SrcAt w g) : SrcAt w.drew g := by
  obtain ⟨A, cap, bs, a, m, z, hs⟩ := h
  exact ⟨A, cap, bs, a, m, z, hs.drew⟩
theorem SrcAt.lt {w : World} {g : Nat} (h : SrcAt w g) : g < w.heap.size := by
  obtain ⟨A, cap, bs, a, m, z, hs⟩ := h
  exact blk_lt hs.blk
def IsInt (lo hi : Int) (v : Value) : Prop := ∃ r : Int, lo ≤ r ∧ r ≤ hi ∧ v = .int .i64 r
def IsStr (n : Nat) (v : Value) : Prop := ∃ s : ByteArray, s.size ≤ n ∧ v = .string s
def IsPtr (g : Nat) (v : Value) : Prop := v = .pointer (some ⟨g, 0, none⟩)
/-- a new row of strings -/
def IsStrs (g : Nat) (l : List ByteArray) (v : Value) (W : World) : Prop := ∃ b, b ≠ g ∧ v = .slice (some ⟨b, 0, none⟩) l.length l.length ∧ RowAt W (some ⟨b, 0, none⟩) 1 (fun s => [.string s]) l
def IsByte (g : Nat) (v : Value) (W : World) : Prop := ∃ b c, b ≠ g ∧ v = .slice (some ⟨b, 0, none⟩) 1 1 ∧ 0 ≤ c ∧ c ≤ 255 ∧ W.cell? ⟨b, 0, none⟩ = some (.int .u8 c)
def zStep : Obj := .cells #[.string ⟨#[]⟩, .string ⟨#[]⟩, .string ⟨#[]⟩, .int .i64 0, .int .i64 0, .int .i64 0] 55
theorem zStep_facts {w : World} {g : Nat} (h : w.heap[g]? = some zStep) : (∀ j, w.frozen? ⟨g, j, none⟩ = false) ∧ w.cell? ⟨g, 0, none⟩ = some (.string ⟨#[]⟩) ∧ w.cell? ⟨g, 1, none⟩ = some (.string ⟨#[]⟩) ∧ w.cell? ⟨g, 2, none⟩ = some (.string ⟨#[]⟩) ∧ w.cell? ⟨g, 3, none⟩ = some (.int .i64 0) ∧ w.cell? ⟨g, 4, none⟩ = some (.int .i64 0) ∧ w.cell? ⟨g, 5, none⟩ = some (.int .i64 0) := by
  have hc : ∀ j, w.cell? ⟨g, j, none⟩ = (#[.string ⟨#[]⟩, .string ⟨#[]⟩, .string ⟨#[]⟩, .int .i64 0, .int .i64 0, .int .i64 0] : Array Value)[j]? := fun j => by
    unfold World.cell?
    simp only [h, zStep]
    rfl
  refine ⟨fun j => ?_, hc 0, hc 1, hc 2, hc 3, hc 4, hc 5⟩
  unfold World.frozen?
  simp only [h, zStep]
  simp
theorem step_facts {w : World} {g : Nat} {x0 x1 x2 x3 x4 x5 : Value} (h : w.heap[g]? = some (.cells #[x0, x1, x2, x3, x4, x5] 55)) : (∀ j, w.frozen? ⟨g, j, none⟩ = false) ∧ w.cell? ⟨g, 0, none⟩ = some x0 ∧ w.cell? ⟨g, 1, none⟩ = some x1 ∧ w.cell? ⟨g, 2, none⟩ = some x2 ∧ w.cell? ⟨g, 3, none⟩ = some x3 ∧ w.cell? ⟨g, 4, none⟩ = some x4 ∧ w.cell? ⟨g, 5, none⟩ = some x5 := by
  have hc : ∀ j, w.cell? ⟨g, j, none⟩ = (#[x0, x1, x2, x3, x4, x5] : Array Value)[j]? := fun j => by
    unfold World.cell?
    simp only [h]
    rfl
  refine ⟨fun j => ?_, hc 0, hc 1, hc 2, hc 3, hc 4, hc 5⟩
  unfold World.frozen?
  simp only [h]
  simp
theorem endStep {fn : Func} {p : Tmp} (hres : fn.results = #[.cell p 55]) {R : Ending → World → Prop} {a : Act} {wx : World} {g : Nat} {x0 x1 x2 x3 x4 x5 : Value} (hp : a.tmps.getD p undef = .pointer (some ⟨g, 0, none⟩)) (hd : a.defers = [])
    (hz : wx.heap[g]? = some zStep) (hR : ∀ wy, wx.grownBy wy (some g) → R (.returned (.agg #[x0, x1, x2, x3, x4, x5])) wy) : bodyPost Try.prog fn R .ret a (World.setCell (World.setCell (World.setCell (World.setCell (World.setCell (World.setCell wx ⟨g, 0, none⟩ x0) ⟨g, 1, none⟩ x1) ⟨g, 2, none⟩ x2) ⟨g, 3, none⟩ x3) ⟨g, 4, none⟩ x4) ⟨g, 5, none⟩ x5) := by
  have hz' : wx.heap[g]? = some (.cells #[.string ⟨#[]⟩, .string ⟨#[]⟩, .string ⟨#[]⟩, .int .i64 0, .int .i64 0, .int .i64 0] 55) := hz
  rw [set6 hz']
  exact bodyPost_ret (results_c hres _ _ g _ #[x0, x1, x2, x3, x4, x5] _ _ hp (withBlock_heap (blk_lt hz)) Try.underlying55 rfl size_Step) hd (hR _ grown_withBlock)
theorem conv_byte (W : World) (b : Nat) (c : Int) (h : W.cell? ⟨b, 0, none⟩ = some (.int .u8 c)) : (convert 33 9 (.slice (some ⟨b, 0, none⟩) 1 1)).run Try.prog W = .ok (.string (strOfNums [c])) W := by
  refine run_convert_bytes_arg (P := Try.prog) W 33 5 Try.underlying33 Try.underlying5 b 0 1 1 [c] rfl (fun k hk => ?_) 9 Try.underlying9
  obtain rfl : k = 0 := by omega
  exact h
def l12StepD (g : Nat) (i : Int) (B : Nat) (j : Nat) (v : Value) (W : World) : Prop := match j with
  | 0 => v = .int .i64 i
  | 1 => IsInt 48 57 v
  | 2 => ∃ c, 0 ≤ c ∧ c ≤ 255 ∧ v = .int .u8 c
  | 3 => IsByte g v W
  | 4 => IsStr 1 v
  | 5 => IsStr 2 v
  | 6 | 9 | 12 | 14 => IsPtr g v
  | 7 => IsStrs g [⟨#[112, 97, 121]⟩, ⟨#[98, 111, 111, 107]⟩, ⟨#[115, 104, 105, 112]⟩] v W
  | 8 => IsStr 4 v
  | 10 => IsInt 0 2 v
  | 11 => IsInt 1 3 v
  | 13 => IsInt 0 4 v
  | 15 => IsInt 0 8 v
  | 16 => IsInt 1 9 v
  | 17 => ∃ s : StepD, s.fits ∧ v = .agg #[.string s.nm, .string s.dd, .string s.ud, .int .i64 s.tr, .int .i64 s.bo, .int .i64 s.ti]
  | 18 => ∃ b, b ≠ g ∧ B ≤ b ∧ v = .pointer (some ⟨b, 0, none⟩) ∧ W.heap[b]? = some zStep
  | _ => True
theorem l12StepD_stable (g : Nat) (i : Int) (B : Nat) (j : Nat) (v : Value) (w w' : World) (hg : w.grownBy w' (some g)) (h : l12StepD g i B j v w) : l12StepD g i B j v w' := by
  match j, h with
  | 0, h | 1, h | 2, h | 4, h | 5, h | 6, h | 9, h | 12, h | 14, h | 8, h | 10, h | 11, h | 13, h | 15, h | 16, h | 17, h => exact h
  | 3, ⟨b, c, hb, hv, h0, h1, hc⟩ => exact ⟨b, c, hb, hv, h0, h1, hg.cell hc (by simpa using hb)⟩
  | 7, ⟨b, hb, hv, hr⟩ => exact ⟨b, hb, hv, hr.grown hg (fun x hx => by cases hx; simpa using hb)⟩
  | 18, ⟨b, hb, hB, hv, hh⟩ => exact ⟨b, hb, hB, hv, (hg.block b (blk_lt hh) (by simpa using hb)).trans hh⟩
  | n + 19, _ => exact trivial
def DrewStep (g : Nat) (w : World) (e : Ending) (w' : World) : Prop := ∃ s : StepD, s.fits ∧ e = .returned (.agg #[.string s.nm, .string s.dd, .string s.ud, .int .i64 s.tr, .int .i64 s.bo, .int .i64 s.ti]) ∧ SrcAt w' g ∧ w.grownBy w' (some g)
set_option maxRecDepth 100000 in
set_option maxHeartbeats 2000000 in
theorem l12Step_any (g : Nat) (i : Int) (w : World) (h : SrcAt w g) (h0 : 0 ≤ i) (h1 : i ≤ 9) :
    Calls Try.prog 81 #[.pointer (some ⟨g, 0, none⟩), .int .i64 i] w (DrewStep g w) := by
  have HS := Lib.hid h
  clear h
  go_enter Try.func81, Try.ntmps81
  go_wp2
  refine wp_region_facts rfl 19 32 rfl (l12StepD g i (w.heap.size + 1)) (fun W => SrcAt W g ∧ (w.alloc zStep).grownBy W (some g)) (fun _ W W' => W.grownBy W' (some g)) (by decide) (by decide) (by decide) (fun _ j v W W' _ hR h => l12StepD_stable g i _ j v W W' hR h) ?hG ?hstep ?hend
  case hG => exact ⟨(HS.out.alloc _).drew, grown_drew (grown_refl _ _)⟩
  case hstep =>
    intro Q' j hj vs W hG hd
    have HG := Lib.hid hG
    have hgW : g < W.heap.size := hG.1.lt
    clear hG
    match j, hj with
    | 0, _ =>
      refine wpOp_of_list rfl ?_
      simp only [putL]
      go_wp2
      exact behind 6 _ rfl (by simp [Act.put]) rfl HG.out (grown_refl _ _)
    | 1, _ =>
      have e1 : vs 0 = .int .i64 i := hd 0 (by simp [depsOf, Region.binds])
      refine wpOp_of_list rfl ?_
      simp only [putL, e1]
      go_wp2
      exact behind 7 _ rfl (by simp [Act.put]) ⟨48 + i, by omega, by omega, rfl⟩ HG.out (grown_refl _ _)
    | 2, _ =>
      obtain ⟨r, hr0, hr1, e1⟩ : IsInt 48 57 (vs 1) := hd 1 (by simp [depsOf, Region.binds])
      refine wpOp_of_list rfl ?_
      simp only [putL, e1]
      go_wp2
      exact behind 8 _ rfl (by simp [Act.put]) ⟨r, by omega, by omega, rfl⟩ HG.out (grown_refl _ _)
    | 3, _ =>
      obtain ⟨c, hc0, hc1, e1⟩ : ∃ c, 0 ≤ c ∧ c ≤ 255 ∧ vs 2 = .int .u8 c := hd 2 (by simp [depsOf, Region.binds])
      refine wpOp_of_list rfl ?_
      simp only [putL, e1]
      go_wp2
      exact behind 9 _ rfl (by simp [Act.put]) ⟨W.heap.size, c, by omega, rfl, hc0, hc1, by go_simp⟩ ⟨HG.out.1.alloc _, grown_alloc HG.out.2 _⟩ (World.grownBy_alloc _ _ _)
    | 4, _ =>
      obtain ⟨b, c, hb, e1, hc0, hc1, hcell⟩ : IsByte g (vs 3) W := hd 3 (by simp [depsOf, Region.binds])
      refine wpOp_of_list rfl ?_
      simp only [putL, e1]
      have hcv := conv_byte W b c hcell
      go_wp2
      exact behind 10 _ rfl (by simp [Act.put]) ⟨strOfNums [c], by rw [strOfNums_size]; simp, rfl⟩ HG.out (grown_refl _ _)
    | 5, _ =>
      obtain ⟨s, hs, e1⟩ : IsStr 1 (vs 4) := hd 4 (by simp [depsOf, Region.binds])
      refine wpOp_of_list rfl ?_
      simp only [putL, e1]
      go_wp2
      exact behind 11 _ rfl (by simp [Act.put]) ⟨⟨#[115]⟩ ++ s, by rw [ByteArray.size_append]; show 1 + s.size ≤ 2; omega, rfl⟩ HG.out (grown_refl _ _)
    | 7, _ =>
      refine wpOp_of_list rfl ?_
      simp only [putL]
      go_wp2
      exact behind 13 _ rfl (by simp [Act.put]) ⟨W.heap.size, by omega, rfl, rowAt_strs W [⟨#[112, 97, 121]⟩, ⟨#[98, 111, 111, 107]⟩, ⟨#[115, 104, 105, 112]⟩] _⟩ ⟨HG.out.1.alloc _, grown_alloc HG.out.2 _⟩ (World.grownBy_alloc _ _ _)
    | 8, _ =>
      have e1 : vs 6 = .pointer (some ⟨g, 0, none⟩) := hd 6 (by simp [depsOf, Region.binds])
      obtain ⟨b, hb, e2, hr⟩ : IsStrs g [⟨#[112, 97, 121]⟩, ⟨#[98, 111, 111, 107]⟩, ⟨#[115, 104, 105, 112]⟩] (vs 7) W := hd 7 (by simp [depsOf, Region.binds])
      have HR := Lib.hid hr
      clear hr
      refine wpOp_of_list rfl ?_
      simp only [putL, e1, e2]
      go_wp2_with fail
      refine (pick_any g [⟨#[112, 97, 121]⟩, ⟨#[98, 111, 111, 107]⟩, ⟨#[115, 104, 105, 112]⟩] (some ⟨b, 0, none⟩) 3 W HG.out.1 (by simp) (by simp) HR.out (fun x hx => by cases hx; exact hb)).mono ?_
      rintro e w1 ⟨r, hmem, rfl, hs, hg⟩
      have HS1 := Lib.hid hs
      have HG1 := Lib.hid hg
      have hsz : r.size ≤ 4 := by
        simp only [List.mem_cons, List.not_mem_nil, or_false] at hmem
        rcases hmem with rfl | rfl | rfl <;> decide
      clear hs hg hmem
      go_wp2
      exact behind 14 _ rfl (by simp [Act.put]) ⟨r, hsz, rfl⟩ ⟨HS1.out, grown_trans HG.out.2 HG1.out⟩ HG1.out
    | 6, _ =>
      refine wpOp_of_list rfl ?_
      simp only [putL]
      go_wp2
      exact behind 12 _ rfl (by simp [Act.put]) rfl HG.out (grown_refl _ _)
    | 9, _ =>
      refine wpOp_of_list rfl ?_
      simp only [putL]
      go_wp2
      exact behind 15 _ rfl (by simp [Act.put]) rfl HG.out (grown_refl _ _)
    | 12, _ =>
      refine wpOp_of_list rfl ?_
      simp only [putL]
      go_wp2
      exact behind 18 _ rfl (by simp [Act.put]) rfl HG.out (grown_refl _ _)
    | 14, _ =>
      refine wpOp_of_list rfl ?_
      simp only [putL]
      go_wp2
      exact behind 20 _ rfl (by simp [Act.put]) rfl HG.out (grown_refl _ _)
    | 10, _ =>
      have e1 : vs 9 = .pointer (some ⟨g, 0, none⟩) := hd 9 (by simp [depsOf, Region.binds])
      refine wpOp_of_list rfl ?_
      simp only [putL, e1]
      go_wp2_with fail
      refine (n_any g 3 W HG.out.1 (by omega)).mono ?_
      rintro e w1 ⟨r, ⟨hr0, hr1⟩, rfl, hs, hg⟩
      have HS1 := Lib.hid hs
      have HG1 := Lib.hid hg
      have hr2 := hr1 (by omega)
      clear hs hg hr1
      go_wp2
      exact behind 16 _ rfl (by simp [Act.put]) ⟨r, hr0, by omega, rfl⟩ ⟨HS1.out, grown_trans HG.out.2 HG1.out⟩ HG1.out
    | 13, _ =>
      have e1 : vs 12 = .pointer (some ⟨g, 0, none⟩) := hd 12 (by simp [depsOf, Region.binds])
      refine wpOp_of_list rfl ?_
      simp only [putL, e1]
      go_wp2_with fail
      refine (n_any g 5 W HG.out.1 (by omega)).mono ?_
      rintro e w1 ⟨r, ⟨hr0, hr1⟩, rfl, hs, hg⟩
      have HS1 := Lib.hid hs
      have HG1 := Lib.hid hg
      have hr2 := hr1 (by omega)
      clear hs hg hr1
      go_wp2
      exact behind 19 _ rfl (by simp [Act.put]) ⟨r, hr0, by omega, rfl⟩ ⟨HS1.out, grown_trans HG.out.2 HG1.out⟩ HG1.out
    | 15, _ =>
      have e1 : vs 14 = .pointer (some ⟨g, 0, none⟩) := hd 14 (by simp [depsOf, Region.binds])
      refine wpOp_of_list rfl ?_
      simp only [putL, e1]
      go_wp2_with fail
      refine (n_any g 9 W HG.out.1 (by omega)).mono ?_
      rintro e w1 ⟨r, ⟨hr0, hr1⟩, rfl, hs, hg⟩
      have HS1 := Lib.hid hs
      have HG1 := Lib.hid hg
      have hr2 := hr1 (by omega)
      clear hs hg hr1
      go_wp2
      exact behind 21 _ rfl (by simp [Act.put]) ⟨r, hr0, by omega, rfl⟩ ⟨HS1.out, grown_trans HG.out.2 HG1.out⟩ HG1.out
    | 11, _ =>
      obtain ⟨r, hr0, hr1, e1⟩ : IsInt 0 2 (vs 10) := hd 10 (by simp [depsOf, Region.binds])
      refine wpOp_of_list rfl ?_
      simp only [putL, e1]
      go_wp2
      exact behind 17 _ rfl (by simp [Act.put]) ⟨1 + r, by omega, by omega, rfl⟩ HG.out (grown_refl _ _)
    | 16, _ =>
      obtain ⟨r, hr0, hr1, e1⟩ : IsInt 0 8 (vs 15) := hd 15 (by simp [depsOf, Region.binds])
      refine wpOp_of_list rfl ?_
      simp only [putL, e1]
      go_wp2
      exact behind 22 _ rfl (by simp [Act.put]) ⟨1 + r, by omega, by omega, rfl⟩ HG.out (grown_refl _ _)
    | 17, _ =>
      obtain ⟨s1, hs1, e1⟩ : IsStr 2 (vs 5) := hd 5 (by simp [depsOf, Region.binds])
      obtain ⟨s2, hs2, e2⟩ : IsStr 4 (vs 8) := hd 8 (by simp [depsOf, Region.binds])
      obtain ⟨r1, -, -, e3⟩ : IsInt 1 3 (vs 11) := hd 11 (by simp [depsOf, Region.binds])
      obtain ⟨r2, -, -, e4⟩ : IsInt 0 4 (vs 13) := hd 13 (by simp [depsOf, Region.binds])
      obtain ⟨r3, -, -, e5⟩ : IsInt 1 9 (vs 16) := hd 16 (by simp [depsOf, Region.binds])
      refine wpOp_of_list rfl ?_
      simp only [putL, e1, e2, e3, e4, e5]
      go_wp2
      exact behind 23 _ rfl (by simp [Act.put]) ⟨⟨s1, s2, ⟨#[]⟩, r1, r2, r3⟩, ⟨by show s1.size ≤ _; omega, by show s2.size ≤ _; omega, Nat.zero_le _⟩, rfl⟩ HG.out (grown_refl _ _)
    | 18, _ =>
      refine wpOp_of_list rfl ?_
      simp only [putL]
      go_wp2
      exact behind 5 _ rfl (by simp [Act.put]) ⟨W.heap.size, by omega, by have := HG.out.2.size; simpa using this, rfl, heap_alloc_new _ _⟩ ⟨HG.out.1.alloc _, grown_alloc HG.out.2 _⟩ (World.grownBy_alloc _ _ _)
    | n + 19, hn => exact absurd hn (by omega)
  case hend =>
    intro vs W hG hd
    have HG := Lib.hid hG
    have hgW : g < W.heap.size := hG.1.lt
    clear hG
    obtain ⟨s, hsf, e1⟩ : ∃ s : StepD, s.fits ∧ vs 17 = .agg #[.string s.nm, .string s.dd, .string s.ud, .int .i64 s.tr, .int .i64 s.bo, .int .i64 s.ti] := hd 17 (by omega)
    obtain ⟨b, hb, hB, e2, hblk⟩ : ∃ b, b ≠ g ∧ w.heap.size + 1 ≤ b ∧ vs 18 = .pointer (some ⟨b, 0, none⟩) ∧ W.heap[b]? = some zStep := hd 18 (by omega)
    have e0 : vs 6 = .pointer (some ⟨g, 0, none⟩) := hd 6 (by omega)
    obtain ⟨fz, p0, p1, p2, p3, p4, p5⟩ := zStep_facts hblk
    have HBLK := Lib.hid hblk
    clear hblk
    have hgw := HS.out.lt
    have hres : W.heap[w.heap.size]? = some zStep := (HG.out.2.block _ (by simp) (by simp; omega)).trans (heap_alloc_new _ _)
    have HRES := Lib.hid hres
    clear hres
    refine wpOp_of_list rfl ?_
    simp only [putL, e1, e2]
    go_wp2_with fail
    rw [set6 (show W.heap[b]? = some (.cells #[.string ⟨#[]⟩, .string ⟨#[]⟩, .string ⟨#[]⟩, .int .i64 0, .int .i64 0, .int .i64 0] 55) from HBLK.out)]
    obtain ⟨W1, hW1⟩ : ∃ W1, W1 = withBlock W b (.cells #[.string s.nm, .string s.dd, .string s.ud, .int .i64 s.tr, .int .i64 s.bo, .int .i64 s.ti] 55) := ⟨_, rfl⟩
    rw [← hW1]
    have hS1 : SrcAt W1 g := by rw [hW1]; exact HG.out.1.above grown_withBlock (by omega)
    have hG1 : w.grownBy W1 (some g) := by rw [hW1]; exact grown_new (grown_trans (World.grownBy_alloc _ _ _) HG.out.2) grown_withBlock (by omega)
    have hb1 : W1.heap[b]? = some (.cells #[.string s.nm, .string s.dd, .string s.ud, .int .i64 s.tr, .int .i64 s.bo, .int .i64 s.ti] 55) := by rw [hW1]; exact withBlock_heap (blk_lt HBLK.out)
    have hr1 : W1.heap[w.heap.size]? = some zStep := by rw [hW1, withBlock_other (by omega)]; exact HRES.out
    have HS1 := Lib.hid hS1
    have HG1 := Lib.hid hG1
    have HB1 := Lib.hid hb1
    have HR1 := Lib.hid hr1
    clear hS1 hG1 hb1 hr1 hW1 fz p0 p1 p2 p3 p4 p5
    refine (one_any g 3 W1 HS1.out (by omega)).mono ?_
    rintro e w2 ⟨r, rfl, hs2, hg2⟩
    have HS2 := Lib.hid hs2
    have HG2 := Lib.hid (grown_trans HG1.out hg2)
    have HB2 := Lib.hid ((hg2.block b (blk_lt HB1.out) (by simp; omega)).trans HB1.out)
    have HR2 := Lib.hid ((hg2.block w.heap.size (blk_lt HR1.out) (by simp; omega)).trans HR1.out)
    clear hs2 hg2
    cases r
    · obtain ⟨fz, p0, p1, p2, p3, p4, p5⟩ := zStep_facts HR2.out
      obtain ⟨fy, y0, y1, y2, y3, y4, y5⟩ := step_facts HB2.out
      have hl0 : w.heap.size < w2.heap.size := blk_lt HR2.out
      have hl1 : b < w2.heap.size := blk_lt HB2.out
      have hl2 : g < w2.heap.size := HS2.out.lt
      go_wp2_with fail
      have HW := Lib.hid (rowAt_strs w2 [⟨#[114, 101, 102, 117, 110, 100]⟩, ⟨#[102, 114, 101, 101]⟩, ⟨#[99, 97, 108, 108, 95, 98, 97, 99, 107]⟩] 9)
      refine (pick_any g [⟨#[114, 101, 102, 117, 110, 100]⟩, ⟨#[102, 114, 101, 101]⟩, ⟨#[99, 97, 108, 108, 95, 98, 97, 99, 107]⟩] (some ⟨w2.heap.size, 0, none⟩) 3 _ (HS2.out.alloc _) (by simp) (by simp) HW.out (fun x hx => by cases hx; show w2.heap.size ≠ g; omega)).mono ?_
      rintro e w3 ⟨ru, hmem, rfl, hs3, hg3⟩
      have hsz : ru.size ≤ 9 := by
        simp only [List.mem_cons, List.not_mem_nil, or_false] at hmem
        rcases hmem with rfl | rfl | rfl <;> decide
      have hg3' := grown_trans (World.grownBy_alloc w2 _ (some g)) hg3
      have HS3 := Lib.hid hs3
      have HG3 := Lib.hid (grown_trans HG2.out hg3')
      have HB3 := Lib.hid ((hg3'.block b hl1 (by simp; omega)).trans HB2.out)
      have HR3 := Lib.hid ((hg3'.block w.heap.size hl0 (by simp; omega)).trans HR2.out)
      clear hs3 hg3 hg3' hmem fz p0 p1 p2 p3 p4 p5 fy y0 y1 y2 y3 y4 y5 hl0 hl1 hl2
      obtain ⟨fz, p0, p1, p2, p3, p4, p5⟩ := zStep_facts HR3.out
      obtain ⟨fy, y0, y1, y2, y3, y4, y5⟩ := step_facts HB3.out
      go_wp2_with fail
      refine endStep Try.results81 rfl rfl (by rw [Below.heap_setCell _ _ _ _ (by simp; omega)]; exact HR3.out) (fun wy hy => ⟨⟨s.nm, s.dd, ru, s.tr, s.bo, s.ti⟩, ⟨hsf.1, hsf.2.1, by show ru.size ≤ _; omega⟩, rfl, ?_, ?_⟩)
      · exact (HS3.out.above (w' := w3.setCell ⟨b, 2, none⟩ (.string ru)) (grown_set (grown_refl _ _)) (by omega)).above hy (by omega)
      · exact grown_new (grown_new HG3.out (w2 := w3.setCell ⟨b, 2, none⟩ (.string ru)) (grown_set (grown_refl _ _)) (by omega)) hy (by omega)
    · obtain ⟨fz, p0, p1, p2, p3, p4, p5⟩ := zStep_facts HR2.out
      obtain ⟨fy, y0, y1, y2, y3, y4, y5⟩ := step_facts HB2.out
      go_wp2_with fail
      exact endStep Try.results81 rfl rfl HR2.out (fun wy hy => ⟨s, hsf, rfl, HS2.out.above hy (by omega), grown_new HG2.out hy (by omega)⟩)
end Go.Proofs.Ytlbiocfpkpcdhaa
