import Derived.Test.YtlbiocfpkpcdhaaBytes
namespace Go.Proofs.Ytlbiocfpkpcdhaa
open Go.RowKit
/-! a block of one's own, known whole, of which all cells are written -/
def withBlock (w : World) (g : Nat) (o : Obj) : World := { w with heap := w.heap.setIfInBounds g o }
theorem setCell_known {w : World} {g j : Nat} {z : Array Value} {e : TypeId} {fr : Nat × Nat} {v : Value} (h : w.heap[g]? = some (.cells z e fr)) : w.setCell ⟨g, j, none⟩ v = withBlock w g (.cells (z.setIfInBounds j v) e fr) := by
  unfold World.setCell withBlock
  congr 1
  apply Array.ext_getElem?
  intro i
  rw [Array.getElem?_modify, Array.getElem?_setIfInBounds]
  have hg := (Array.getElem?_eq_some_iff.1 h).1
  by_cases hi : g = i
  · subst hi
    rw [if_pos rfl, if_pos rfl, if_pos hg, h]
    simp
  · rw [if_neg hi, if_neg hi]
theorem withBlock_heap {w : World} {g : Nat} {o : Obj} (hg : g < w.heap.size) : (withBlock w g o).heap[g]? = some o := by
  unfold withBlock
  simp [hg]
theorem withBlock_twice {w : World} {g : Nat} {o o' : Obj} : withBlock (withBlock w g o) g o' = withBlock w g o' := by
  unfold withBlock
  congr 1
  apply Array.ext_getElem?
  intro i
  simp only [Array.getElem?_setIfInBounds, Array.size_setIfInBounds]
  by_cases hi : g = i
  · rw [if_pos hi, if_pos hi]
  · rw [if_neg hi, if_neg hi, if_neg hi]
theorem withBlock_setCell {w : World} {g j : Nat} {z : Array Value} {e : TypeId} {fr : Nat × Nat} {v : Value} (hg : g < w.heap.size) : (withBlock w g (.cells z e fr)).setCell ⟨g, j, none⟩ v = withBlock w g (.cells (z.setIfInBounds j v) e fr) := by
  rw [setCell_known (withBlock_heap hg), withBlock_twice]
theorem withBlock_size {w : World} {g : Nat} {o : Obj} : (withBlock w g o).heap.size = w.heap.size := by unfold withBlock; simp
theorem withBlock_other {w : World} {g k : Nat} {o : Obj} (h : k ≠ g) : (withBlock w g o).heap[k]? = w.heap[k]? := by
  unfold withBlock
  simp only [Array.getElem?_setIfInBounds]
  rw [if_neg (fun e => h e.symm)]
theorem withBlock_cell {w : World} {g j : Nat} {z : Array Value} {e : TypeId} {fr : Nat × Nat} (hg : g < w.heap.size) : (withBlock w g (.cells z e fr)).cell? ⟨g, j, none⟩ = z[j]? := by
  unfold World.cell?
  simp only [withBlock_heap hg]
  rfl
theorem withBlock_cell_ne {w : World} {g b j : Nat} {o : Obj} (h : b ≠ g) : (withBlock w g o).cell? ⟨b, j, none⟩ = w.cell? ⟨b, j, none⟩ := World.cell?_of_block (withBlock_other h)
theorem Below_withBlock {B : Nat} {a w : World} {g : Nat} {o : Obj} (h : Below B a w) (hg : B ≤ g) : Below B a (withBlock w g o) :=
  h.trans ⟨rfl, rfl, rfl, by rw [withBlock_size]; exact Nat.le_refl _, fun k hk => withBlock_other (by omega)⟩
theorem set2 {w : World} {g : Nat} {e : TypeId} {z0 z1 : Value} (h : w.heap[g]? = some (.cells #[z0, z1] e)) (v0 v1 : Value) :
    ((w.setCell ⟨g, 0, none⟩ v0).setCell ⟨g, 1, none⟩ v1) = withBlock w g (.cells #[v0, v1] e) := by
  have hg := (Array.getElem?_eq_some_iff.1 h).1
  rw [setCell_known h]
  simp only [withBlock_setCell hg, List.setIfInBounds_toArray, List.set_cons_zero, List.set_cons_succ]
theorem set3 {w : World} {g : Nat} {e : TypeId} {z0 z1 z2 : Value} (h : w.heap[g]? = some (.cells #[z0, z1, z2] e)) (v0 v1 v2 : Value) :
    (((w.setCell ⟨g, 0, none⟩ v0).setCell ⟨g, 1, none⟩ v1).setCell ⟨g, 2, none⟩ v2) = withBlock w g (.cells #[v0, v1, v2] e) := by
  have hg := (Array.getElem?_eq_some_iff.1 h).1
  rw [setCell_known h]
  simp only [withBlock_setCell hg, List.setIfInBounds_toArray, List.set_cons_zero, List.set_cons_succ]
theorem set4 {w : World} {g : Nat} {e : TypeId} {z0 z1 z2 z3 : Value} (h : w.heap[g]? = some (.cells #[z0, z1, z2, z3] e)) (v0 v1 v2 v3 : Value) :
    ((((w.setCell ⟨g, 0, none⟩ v0).setCell ⟨g, 1, none⟩ v1).setCell ⟨g, 2, none⟩ v2).setCell ⟨g, 3, none⟩ v3) = withBlock w g (.cells #[v0, v1, v2, v3] e) := by
  have hg := (Array.getElem?_eq_some_iff.1 h).1
  rw [setCell_known h]
  simp only [withBlock_setCell hg, List.setIfInBounds_toArray, List.set_cons_zero, List.set_cons_succ]
theorem set6 {w : World} {g : Nat} {e : TypeId} {z0 z1 z2 z3 z4 z5 : Value} (h : w.heap[g]? = some (.cells #[z0, z1, z2, z3, z4, z5] e)) (v0 v1 v2 v3 v4 v5 : Value) :
    ((((((w.setCell ⟨g, 0, none⟩ v0).setCell ⟨g, 1, none⟩ v1).setCell ⟨g, 2, none⟩ v2).setCell ⟨g, 3, none⟩ v3).setCell ⟨g, 4, none⟩ v4).setCell ⟨g, 5, none⟩ v5) = withBlock w g (.cells #[v0, v1, v2, v3, v4, v5] e) := by
  have hg := (Array.getElem?_eq_some_iff.1 h).1
  rw [setCell_known h]
  simp only [withBlock_setCell hg, List.setIfInBounds_toArray, List.set_cons_zero, List.set_cons_succ]
theorem set11 {w : World} {g : Nat} {e : TypeId} {z0 z1 z2 z3 z4 z5 z6 z7 z8 z9 z10 : Value} (h : w.heap[g]? = some (.cells #[z0, z1, z2, z3, z4, z5, z6, z7, z8, z9, z10] e)) (v0 v1 v2 v3 v4 v5 v6 v7 v8 v9 v10 : Value) :
    (((((((((((w.setCell ⟨g, 0, none⟩ v0).setCell ⟨g, 1, none⟩ v1).setCell ⟨g, 2, none⟩ v2).setCell ⟨g, 3, none⟩ v3).setCell ⟨g, 4, none⟩ v4).setCell ⟨g, 5, none⟩ v5).setCell ⟨g, 6, none⟩ v6).setCell ⟨g, 7, none⟩ v7).setCell ⟨g, 8, none⟩ v8).setCell ⟨g, 9, none⟩ v9).setCell ⟨g, 10, none⟩ v10) = withBlock w g (.cells #[v0, v1, v2, v3, v4, v5, v6, v7, v8, v9, v10] e) := by
  have hg := (Array.getElem?_eq_some_iff.1 h).1
  rw [setCell_known h]
  simp only [withBlock_setCell hg, List.setIfInBounds_toArray, List.set_cons_zero, List.set_cons_succ]
theorem blk2 {w : World} (a b : Obj) : ((w.alloc a).alloc b).heap[w.heap.size + 1]? = some b := by
  rw [show w.heap.size + 1 = (w.alloc a).heap.size from by simp]; exact heap_alloc_new _ _
theorem blk3 {w : World} (a b c : Obj) : (((w.alloc a).alloc b).alloc c).heap[w.heap.size + 1 + 1]? = some c := by
  rw [show w.heap.size + 1 + 1 = ((w.alloc a).alloc b).heap.size from by simp]; exact heap_alloc_new _ _
theorem blk4 {w : World} (a b c d : Obj) : ((((w.alloc a).alloc b).alloc c).alloc d).heap[w.heap.size + 1 + 1 + 1]? = some d := by
  rw [show w.heap.size + 1 + 1 + 1 = (((w.alloc a).alloc b).alloc c).heap.size from by simp]; exact heap_alloc_new _ _
theorem blk_lt {w : World} {g : Nat} {o : Obj} (h : w.heap[g]? = some o) : g < w.heap.size := (Array.getElem?_eq_some_iff.1 h).1
theorem blk_old {w : World} {g : Nat} {o : Obj} (h : w.heap[g]? = some o) (o' : Obj) : (w.alloc o').heap[g]? = some o := (Below.heap_alloc w o' g (blk_lt h)).trans h
theorem blk_below {w w1 : World} {g : Nat} {o : Obj} (h : w.heap[g]? = some o) (hb : Below w.heap.size w w1) : w1.heap[g]? = some o := (hb.block g (blk_lt h)).trans h
/-- From here on the world is a letter of which S alone is known. -/
theorem wpNamed {P : Program} {c : Code} {Q : Exit → Act → World → Prop} {a : Act} {w : World} (S : World → Prop) (hS : S w) (h : ∀ W, S W → Code.wp P c Q a W) : Code.wp P c Q a w := h w hS
theorem wpNamedK {K : Act → World → Prop} {a : Act} {w : World} (S : World → Prop) (hS : S w) (h : ∀ W, S W → K a W) : K a w := h w hS
/-- A result that lies in a cell of one's own. -/
theorem results_c {P : Program} {fn : Func} {p : Tmp} {ty : TypeId} (h : fn.results = #[.cell p ty]) (tmps : Array Value) (w : World) (g : Nat) (t : TypeId) (cs : Array Value) (fr : Nat × Nat) (d : TypeDesc)
    (hp : tmps.getD p undef = .pointer (some ⟨g, 0, none⟩)) (hg : w.heap[g]? = some (.cells cs t fr))
    (hu : P.underlying ty = some d) (hd : (match d with | .struct _ | .array _ _ => true | _ => false) = true) (hi : (P.info? ty).map (·.size) = some cs.size) :
    (results fn tmps).run P w = .ok (.agg cs) w := by
  have h1 : tmps[p]?.getD undef = .pointer (some ⟨g, 0, none⟩) := by simpa using hp
  simp [results, h, h1, asAddr, run_loadVar_row w g t ty cs fr d hg hu hd hi]
theorem size_Out : (Try.prog.info? 41).map (·.size) = some 11 := by kernel_rfl
theorem size_Def : (Try.prog.info? 29).map (·.size) = some 3 := by kernel_rfl
theorem size_Step : (Try.prog.info? 55).map (·.size) = some 6 := by kernel_rfl
theorem size_Saga : (Try.prog.info? 37).map (·.size) = some 6 := by kernel_rfl
end Go.Proofs.Ytlbiocfpkpcdhaa
