import Derived.Test.YtlbiocfpkpcdhaaRows
import Derived.WalkKit
import Derived.WalkSpells
import Derived.WalkLawsBesides
import Derived.Below
import Derived.Lib.Hide
import Derived.Deep.QuietTactic
import Derived.BigQuiet
import Derived.Deep.RegionHeld3
import Derived.Deep.DeepCutAuto
import Derived.Laws.ResultCell
namespace Go.Proofs.Ytlbiocfpkpcdhaa
open Go.RowKit
set_option linter.unusedSimpArgs false
set_option linter.unusedVariables false
/-! words that hold for any program -/
def inB (n lo hi : Int) : Bool := decide (lo ≤ n) && decide (n ≤ hi)
theorem inB_true {n lo hi : Int} : inB n lo hi = true ↔ lo ≤ n ∧ n ≤ hi := by unfold inB; simp
theorem inB_false {n lo hi : Int} : inB n lo hi = false ↔ n < lo ∨ hi < n := by
  unfold inB; simp only [Bool.and_eq_false_iff, decide_eq_false_iff_not]; omega
theorem ret_bool {a b : Bool} (h : a = b) : Ending.returned (.bool a) = .returned (.bool b) := by rw [h]

/-- What was there when the call began reads as it did. -/
theorem bcell {W w1 : World} (hb : Below W.heap.size W w1) : (∀ b o, b < W.heap.size → w1.cell? ⟨b, o, none⟩ = W.cell? ⟨b, o, none⟩) ∧ (∀ b o, b < W.heap.size → w1.frozen? ⟨b, o, none⟩ = W.frozen? ⟨b, o, none⟩) :=
  ⟨fun b o h => hb.cell (p := ⟨b, o, none⟩) h, fun b o h => hb.frozen (p := ⟨b, o, none⟩) h⟩

theorem below_drewN {B : Nat} {a w : World} (h : Below B a w) (n : Nat) : Below B a (w.drewN n) := ⟨h.os, h.tape, h.output, h.size, h.block⟩
/-- The row at A reads as the elements of l, each of sz cells. -/
def RowAt {α : Type} (w : World) (A : Option Addr) (sz : Nat) (f : α → List Value) (l : List α) : Prop :=
  ∀ i x, l[i]? = some x → ∃ b o, A = some ⟨b, o, none⟩ ∧ ∀ j u, (f x)[j]? = some u → w.cell? ⟨b, o + i * sz + j, none⟩ = some u
theorem RowAt.below {α : Type} {w w' : World} {A : Option Addr} {sz : Nat} {f : α → List Value} {l : List α} (h : RowAt w A sz f l) (hb : Below w.heap.size w w') : RowAt w' A sz f l := by
  intro i x hx
  obtain ⟨b, o, hA, hc⟩ := h i x hx
  refine ⟨b, o, hA, fun j u hu => ?_⟩
  have h1 := hc j u hu
  rw [hb.cell (p := ⟨b, o + i * sz + j, none⟩) (World.block_lt_of_cell? w _ h1)]
  exact h1
theorem RowAt.take {α : Type} {w : World} {A : Option Addr} {sz : Nat} {f : α → List Value} {l : List α} (h : RowAt w A sz f l) (n : Nat) : RowAt w A sz f (l.take n) := by
  intro i x hx
  rw [List.getElem?_take] at hx
  split at hx
  · exact h i x hx
  · cases hx

theorem ret_int {k : IntKind} {a b : Int} (h : a = b) : Ending.returned (.int k a) = .returned (.int k b) := by rw [h]
/-- the place of the first for which p holds, or -1 -/
def firstOf {α : Type} (p : α → Bool) (l : List α) : Int := match l.findIdx? p with | some i => i | none => -1
theorem firstOf_some {α : Type} {p : α → Bool} {l : List α} {k : Nat} (h : k < l.length) (hp : p l[k] = true) (hb : ∀ j (hj : j < k), p (l[j]'(by omega)) = false) : firstOf p l = k := by
  unfold firstOf
  have : l.findIdx? p = some k := by
    rw [List.findIdx?_eq_some_iff_getElem]
    exact ⟨h, hp, fun j hj => by simp [hb j hj]⟩
  rw [this]
theorem firstOf_none {α : Type} {p : α → Bool} {l : List α} (hb : ∀ j (hj : j < l.length), p l[j] = false) : firstOf p l = -1 := by
  unfold firstOf
  have : l.findIdx? p = none := by
    rw [List.findIdx?_eq_none_iff]
    intro x hx
    obtain ⟨j, hj, rfl⟩ := List.mem_iff_getElem.1 hx
    exact hb j hj
  rw [this]
theorem firstOf_nonneg {α : Type} (p : α → Bool) (l : List α) : decide (0 ≤ firstOf p l) = l.any p := by
  unfold firstOf
  cases h : l.findIdx? p with
  | none =>
    rw [List.findIdx?_eq_none_iff] at h
    have : l.any p = false := by rw [List.any_eq_false]; intro x hx; simp [h x hx]
    rw [this]; rfl
  | some k =>
    rw [List.findIdx?_eq_some_iff_getElem] at h
    obtain ⟨hk, hp, _⟩ := h
    have : l.any p = true := by rw [List.any_eq_true]; exact ⟨_, List.getElem_mem hk, hp⟩
    rw [this]; simp
def withBlock (w : World) (g : Nat) (o : Obj) : World := { w with heap := w.heap.setIfInBounds g o }
theorem setCell_known {w : World} {g j : Nat} {z : Array Value} {e : TypeId} {fr : Nat × Nat} {v : Value} (h : w.heap[g]? = some (.cells z e fr)) : w.setCell ⟨g, j, none⟩ v = withBlock w g (.cells (z.setIfInBounds j v) e fr) := by
  unfold World.setCell withBlock
  congr 1
  apply Array.ext_getElem?
  intro i
  rw [Array.getElem?_modify, Array.getElem?_setIfInBounds]
  have hg := (Array.getElem?_eq_some_iff.1 h).1
  by_cases hi : g = i
  · subst hi
    rw [if_pos rfl, if_pos rfl, if_pos hg, h]
    simp
  · rw [if_neg hi, if_neg hi]
theorem withBlock_heap {w : World} {g : Nat} {o : Obj} (hg : g < w.heap.size) : (withBlock w g o).heap[g]? = some o := by
  unfold withBlock
  simp [hg]
theorem withBlock_twice {w : World} {g : Nat} {o o' : Obj} : withBlock (withBlock w g o) g o' = withBlock w g o' := by
  unfold withBlock
  congr 1
  apply Array.ext_getElem?
  intro i
  simp only [Array.getElem?_setIfInBounds, Array.size_setIfInBounds]
  by_cases hi : g = i
  · rw [if_pos hi, if_pos hi]
  · rw [if_neg hi, if_neg hi, if_neg hi]
theorem withBlock_setCell {w : World} {g j : Nat} {z : Array Value} {e : TypeId} {fr : Nat × Nat} {v : Value} (hg : g < w.heap.size) : (withBlock w g (.cells z e fr)).setCell ⟨g, j, none⟩ v = withBlock w g (.cells (z.setIfInBounds j v) e fr) := by
  rw [setCell_known (withBlock_heap hg), withBlock_twice]
theorem withBlock_size {w : World} {g : Nat} {o : Obj} : (withBlock w g o).heap.size = w.heap.size := by unfold withBlock; simp
theorem withBlock_other {w : World} {g k : Nat} {o : Obj} (h : k ≠ g) : (withBlock w g o).heap[k]? = w.heap[k]? := by
  unfold withBlock
  simp only [Array.getElem?_setIfInBounds]
  rw [if_neg (fun e => h e.symm)]
theorem withBlock_cell {w : World} {g j : Nat} {z : Array Value} {e : TypeId} {fr : Nat × Nat} (hg : g < w.heap.size) : (withBlock w g (.cells z e fr)).cell? ⟨g, j, none⟩ = z[j]? := by
  unfold World.cell?
  simp only [withBlock_heap hg]
  rfl
theorem withBlock_cell_ne {w : World} {g b j : Nat} {o : Obj} (h : b ≠ g) : (withBlock w g o).cell? ⟨b, j, none⟩ = w.cell? ⟨b, j, none⟩ := World.cell?_of_block (withBlock_other h)
theorem Below_withBlock {B : Nat} {a w : World} {g : Nat} {o : Obj} (h : Below B a w) (hg : B ≤ g) : Below B a (withBlock w g o) :=
  h.trans ⟨rfl, rfl, rfl, by rw [withBlock_size]; exact Nat.le_refl _, fun k hk => withBlock_other (by omega)⟩
theorem set2 {w : World} {g : Nat} {e : TypeId} {z0 z1 : Value} (h : w.heap[g]? = some (.cells #[z0, z1] e)) (v0 v1 : Value) :
    ((w.setCell ⟨g, 0, none⟩ v0).setCell ⟨g, 1, none⟩ v1) = withBlock w g (.cells #[v0, v1] e) := by
  have hg := (Array.getElem?_eq_some_iff.1 h).1
  rw [setCell_known h]
  simp only [withBlock_setCell hg, List.setIfInBounds_toArray, List.set_cons_zero, List.set_cons_succ]
theorem set3 {w : World} {g : Nat} {e : TypeId} {z0 z1 z2 : Value} (h : w.heap[g]? = some (.cells #[z0, z1, z2] e)) (v0 v1 v2 : Value) :
    (((w.setCell ⟨g, 0, none⟩ v0).setCell ⟨g, 1, none⟩ v1).setCell ⟨g, 2, none⟩ v2) = withBlock w g (.cells #[v0, v1, v2] e) := by
  have hg := (Array.getElem?_eq_some_iff.1 h).1
  rw [setCell_known h]
  simp only [withBlock_setCell hg, List.setIfInBounds_toArray, List.set_cons_zero, List.set_cons_succ]
theorem set4 {w : World} {g : Nat} {e : TypeId} {z0 z1 z2 z3 : Value} (h : w.heap[g]? = some (.cells #[z0, z1, z2, z3] e)) (v0 v1 v2 v3 : Value) :
    ((((w.setCell ⟨g, 0, none⟩ v0).setCell ⟨g, 1, none⟩ v1).setCell ⟨g, 2, none⟩ v2).setCell ⟨g, 3, none⟩ v3) = withBlock w g (.cells #[v0, v1, v2, v3] e) := by
  have hg := (Array.getElem?_eq_some_iff.1 h).1
  rw [setCell_known h]
  simp only [withBlock_setCell hg, List.setIfInBounds_toArray, List.set_cons_zero, List.set_cons_succ]
theorem set6 {w : World} {g : Nat} {e : TypeId} {z0 z1 z2 z3 z4 z5 : Value} (h : w.heap[g]? = some (.cells #[z0, z1, z2, z3, z4, z5] e)) (v0 v1 v2 v3 v4 v5 : Value) :
    ((((((w.setCell ⟨g, 0, none⟩ v0).setCell ⟨g, 1, none⟩ v1).setCell ⟨g, 2, none⟩ v2).setCell ⟨g, 3, none⟩ v3).setCell ⟨g, 4, none⟩ v4).setCell ⟨g, 5, none⟩ v5) = withBlock w g (.cells #[v0, v1, v2, v3, v4, v5] e) := by
  have hg := (Array.getElem?_eq_some_iff.1 h).1
  rw [setCell_known h]
  simp only [withBlock_setCell hg, List.setIfInBounds_toArray, List.set_cons_zero, List.set_cons_succ]
theorem set11 {w : World} {g : Nat} {e : TypeId} {z0 z1 z2 z3 z4 z5 z6 z7 z8 z9 z10 : Value} (h : w.heap[g]? = some (.cells #[z0, z1, z2, z3, z4, z5, z6, z7, z8, z9, z10] e)) (v0 v1 v2 v3 v4 v5 v6 v7 v8 v9 v10 : Value) :
    (((((((((((w.setCell ⟨g, 0, none⟩ v0).setCell ⟨g, 1, none⟩ v1).setCell ⟨g, 2, none⟩ v2).setCell ⟨g, 3, none⟩ v3).setCell ⟨g, 4, none⟩ v4).setCell ⟨g, 5, none⟩ v5).setCell ⟨g, 6, none⟩ v6).setCell ⟨g, 7, none⟩ v7).setCell ⟨g, 8, none⟩ v8).setCell ⟨g, 9, none⟩ v9).setCell ⟨g, 10, none⟩ v10) = withBlock w g (.cells #[v0, v1, v2, v3, v4, v5, v6, v7, v8, v9, v10] e) := by
  have hg := (Array.getElem?_eq_some_iff.1 h).1
  rw [setCell_known h]
  simp only [withBlock_setCell hg, List.setIfInBounds_toArray, List.set_cons_zero, List.set_cons_succ]
theorem blk2 {w : World} (a b : Obj) : ((w.alloc a).alloc b).heap[w.heap.size + 1]? = some b := by
  rw [show w.heap.size + 1 = (w.alloc a).heap.size from by simp]; exact heap_alloc_new _ _
theorem blk3 {w : World} (a b c : Obj) : (((w.alloc a).alloc b).alloc c).heap[w.heap.size + 1 + 1]? = some c := by
  rw [show w.heap.size + 1 + 1 = ((w.alloc a).alloc b).heap.size from by simp]; exact heap_alloc_new _ _
theorem blk4 {w : World} (a b c d : Obj) : ((((w.alloc a).alloc b).alloc c).alloc d).heap[w.heap.size + 1 + 1 + 1]? = some d := by
  rw [show w.heap.size + 1 + 1 + 1 = (((w.alloc a).alloc b).alloc c).heap.size from by simp]; exact heap_alloc_new _ _
theorem blk_lt {w : World} {g : Nat} {o : Obj} (h : w.heap[g]? = some o) : g < w.heap.size := (Array.getElem?_eq_some_iff.1 h).1
theorem blk_old {w : World} {g : Nat} {o : Obj} (h : w.heap[g]? = some o) (o' : Obj) : (w.alloc o').heap[g]? = some o := (Below.heap_alloc w o' g (blk_lt h)).trans h
theorem blk_below {w w1 : World} {g : Nat} {o : Obj} (h : w.heap[g]? = some o) (hb : Below w.heap.size w w1) : w1.heap[g]? = some o := (hb.block g (blk_lt h)).trans h
/-- From here on the world is a letter of which S alone is known. -/
theorem wpNamed {P : Program} {c : Code} {Q : Exit → Act → World → Prop} {a : Act} {w : World} (S : World → Prop) (hS : S w) (h : ∀ W, S W → Code.wp P c Q a W) : Code.wp P c Q a w := h w hS
theorem wpNamedK {K : Act → World → Prop} {a : Act} {w : World} (S : World → Prop) (hS : S w) (h : ∀ W, S W → K a W) : K a w := h w hS
/-- A result that lies in a cell of one's own. -/
theorem results_c {P : Program} {fn : Func} {p : Tmp} {ty : TypeId} (h : fn.results = #[.cell p ty]) (tmps : Array Value) (w : World) (g : Nat) (t : TypeId) (cs : Array Value) (fr : Nat × Nat) (d : TypeDesc)
    (hp : tmps.getD p undef = .pointer (some ⟨g, 0, none⟩)) (hg : w.heap[g]? = some (.cells cs t fr))
    (hu : P.underlying ty = some d) (hd : (match d with | .struct _ | .array _ _ => true | _ => false) = true) (hi : (P.info? ty).map (·.size) = some cs.size) :
    (results fn tmps).run P w = .ok (.agg cs) w := by
  have h1 : tmps[p]?.getD undef = .pointer (some ⟨g, 0, none⟩) := by simpa using hp
  simp [results, h, h1, asAddr, run_loadVar_row w g t ty cs fr d hg hu hd hi]
theorem ret_val {v v' : Value} (h : v = v') : Ending.returned v = .returned v' := by rw [h]

theorem bel1 {w : World} (a : Obj) : Below w.heap.size w (w.alloc a) := (Below.refl _ _).alloc (Nat.le_refl _) _
theorem bel2 {w : World} (a b : Obj) : Below w.heap.size w ((w.alloc a).alloc b) := (bel1 a).alloc (by simp) _
theorem bel3 {w : World} (a b c : Obj) : Below w.heap.size w (((w.alloc a).alloc b).alloc c) := (bel2 a b).alloc (by simp; omega) _
theorem bel1t {w w1 : World} {a : Obj} (hb : Below (w.alloc a).heap.size (w.alloc a) w1) : Below w.heap.size w w1 := (bel1 a).trans (hb.mono (by simp))
theorem bel2t {w w1 : World} {a b : Obj} (hb : Below ((w.alloc a).alloc b).heap.size ((w.alloc a).alloc b) w1) : Below w.heap.size w w1 := (bel2 a b).trans (hb.mono (by simp; omega))
theorem bel3t {w w1 : World} {a b c : Obj} (hb : Below (((w.alloc a).alloc b).alloc c).heap.size (((w.alloc a).alloc b).alloc c) w1) : Below w.heap.size w w1 := (bel3 a b c).trans (hb.mono (by simp; omega))
theorem belt {w w1 w2 : World} (h1 : Below w.heap.size w w1) (h2 : Below w1.heap.size w1 w2) : Below w.heap.size w w2 := h1.trans (h2.mono h1.size)
theorem int_beq (a b : Int) : (a == b) = decide (a = b) := by by_cases h : a = b <;> simp [h]
theorem isEmpty_dec (l : List UInt8) : l.isEmpty = decide (l = []) := by cases l <;> rfl
theorem below_undrew {B : Nat} {w w1 : World} (h : Below B w.drew w1) : Below B w w1 := ⟨h.os, h.tape, h.output, h.size, h.block⟩
theorem belt1 {w w1 : World} {B : Nat} (hB : B = w.heap.size) (h : Below B w w1) : Below w.heap.size w w1 := hB ▸ h
theorem bel4 {w : World} (a b c d : Obj) : Below w.heap.size w ((((w.alloc a).alloc b).alloc c).alloc d) := (bel3 a b c).alloc (by simp <;> omega) _
theorem sz4 {w w1 : World} {a b c d : Obj} (h : Below ((((w.alloc a).alloc b).alloc c).alloc d).heap.size ((((w.alloc a).alloc b).alloc c).alloc d) w1) : w.heap.size < w1.heap.size ∧ w.heap.size + 1 < w1.heap.size ∧ w.heap.size + 1 + 1 < w1.heap.size ∧ w.heap.size + 1 + 1 + 1 < w1.heap.size := by
  have := h.size; simp at this; omega
theorem sz3 {w w1 : World} {a b c : Obj} (h : Below (((w.alloc a).alloc b).alloc c).heap.size (((w.alloc a).alloc b).alloc c) w1) : w.heap.size < w1.heap.size ∧ w.heap.size + 1 < w1.heap.size ∧ w.heap.size + 1 + 1 < w1.heap.size := by
  have := h.size; simp at this; omega
def byteC (b : UInt8) : List Value := [.int .u8 b.toNat]
theorem RowAt.grown {α : Type} {w w' : World} {A : Option Addr} {sz : Nat} {f : α → List Value} {l : List α} {r : Option Nat} (h : RowAt w A sz f l) (hb : w.grownBy w' r) (hne : ∀ x, A = some x → some x.block ≠ r) : RowAt w' A sz f l := by
  intro i x hx
  obtain ⟨b, o, hA, hc⟩ := h i x hx
  exact ⟨b, o, hA, fun j u hu => hb.cell (hc j u hu) (hne ⟨b, o, none⟩ hA)⟩
theorem grown_refl (w : World) (r : Option Nat) : w.grownBy w r := ⟨rfl, rfl, rfl, Nat.le_refl _, fun _ _ _ => rfl⟩
theorem grown_drew {w w' : World} {r : Option Nat} (h : w.grownBy w' r) : w.grownBy w'.drew r := ⟨h.os, h.tape, h.output, h.size, h.block⟩
theorem grown_drewN {w w' : World} {r : Option Nat} (h : w.grownBy w' r) (n : Nat) : w.grownBy (w'.drewN n) r := ⟨h.os, h.tape, h.output, h.size, h.block⟩
theorem grown_set {w w' : World} {g j : Nat} {v : Value} (h : w.grownBy w' (some g)) : w.grownBy (w'.setCell ⟨g, j, none⟩ v) (some g) :=
  ⟨h.os, h.tape, h.output, by simpa [World.setCell] using h.size, fun k hk hne => by rw [Below.heap_setCell _ _ _ _ (by simpa using hne)]; exact h.block k hk hne⟩
theorem grown_trans {w w1 w2 : World} {r : Option Nat} (h : w.grownBy w1 r) (h2 : w1.grownBy w2 r) : w.grownBy w2 r :=
  ⟨h2.os.trans h.os, h2.tape.trans h.tape, h2.output.trans h.output, Nat.le_trans h.size h2.size, fun k hk hne => (h2.block k (Nat.lt_of_lt_of_le hk h.size) hne).trans (h.block k hk hne)⟩
theorem grown_withBlock {w : World} {b : Nat} {o : Obj} : w.grownBy (withBlock w b o) (some b) := ⟨rfl, rfl, rfl, by rw [withBlock_size]; exact Nat.le_refl _, fun k _ hne => withBlock_other (by simpa using hne)⟩
/-- what is written is new -/
theorem grown_new {w w1 w2 : World} {r : Option Nat} {b : Nat} (h : w.grownBy w1 r) (h2 : w1.grownBy w2 (some b)) (hb : w.heap.size ≤ b) : w.grownBy w2 r :=
  ⟨h2.os.trans h.os, h2.tape.trans h.tape, h2.output.trans h.output, Nat.le_trans h.size h2.size, fun k hk hne => (h2.block k (Nat.lt_of_lt_of_le hk h.size) (by simp; omega)).trans (h.block k hk hne)⟩
theorem grown_alloc {w w' : World} {r : Option Nat} (h : w.grownBy w' r) (o : Obj) : w.grownBy (w'.alloc o) r := grown_trans h (World.grownBy_alloc w' o r)
theorem rowAt_strs (W : World) (l : List ByteArray) (t : TypeId) : RowAt (W.alloc (.cells (l.map Value.string).toArray t)) (some ⟨W.heap.size, 0, none⟩) 1 (fun s => [.string s]) l := by
  intro i x hx
  refine ⟨W.heap.size, 0, rfl, fun j u hu => ?_⟩
  rw [World.cell?_alloc_new]
  match j, hu with
  | 0, hu =>
    simp at hu
    subst hu
    simp [hx]
  | j + 1, hu => simp at hu
theorem below_grown {w w' : World} (h : Below w.heap.size w w') : w.grownBy w' none := ⟨h.os, h.tape, h.output, h.size, fun k hk _ => h.block k hk⟩
theorem RowAt.keep {α : Type} {w w' : World} {A : Option Addr} {sz : Nat} {f : α → List Value} {l : List α} {r : Option Nat} (h : RowAt w A sz f l) (hb : w.grownBy w' r) (hne : l ≠ [] → ∀ x, A = some x → some x.block ≠ r) : RowAt w' A sz f l := by
  cases l with
  | nil => intro i x hx; simp at hx
  | cons a l => exact h.grown hb (hne (by simp))
theorem RowAt.lt {α : Type} {w : World} {A : Option Addr} {sz : Nat} {f : α → List Value} {l : List α} (h : RowAt w A sz f l) (hf : ∀ x, f x ≠ []) (hl : l ≠ []) (x : Addr) (hx : A = some x) : x.block < w.heap.size := by
  cases l with
  | nil => exact absurd rfl hl
  | cons a l =>
    obtain ⟨b, o, hA, hc⟩ := h 0 a rfl
    rw [hA] at hx
    cases hx
    cases hfa : f a with
    | nil => exact absurd hfa (hf a)
    | cons u us => exact World.block_lt_of_cell? w ⟨b, o + 0 * sz + 0, none⟩ (hc 0 u (by rw [hfa]; rfl))
theorem rowAt_ints (W : World) (l : List Int) (t : TypeId) : RowAt (W.alloc (.cells (l.map (Value.int .i64)).toArray t)) (some ⟨W.heap.size, 0, none⟩) 1 (fun x => [.int .i64 x]) l := by
  intro i x hx
  refine ⟨W.heap.size, 0, rfl, fun j u hu => ?_⟩
  rw [World.cell?_alloc_new]
  match j, hu with
  | 0, hu =>
    simp at hu
    subst hu
    simp [hx]
  | j + 1, hu => simp at hu
theorem below_grown' {w w' : World} (h : Below w.heap.size w w') (r : Option Nat) : w.grownBy w' r := ⟨h.os, h.tape, h.output, h.size, fun k hk _ => h.block k hk⟩
theorem blk_cell {W : World} {g : Nat} {cs : Array Value} {t : TypeId} {fr : Nat × Nat} (h : W.heap[g]? = some (.cells cs t fr)) (j : Nat) : W.cell? ⟨g, j, none⟩ = cs[j]? := by
  unfold World.cell?
  simp only [h]
  rfl
theorem blk_free {W : World} {g : Nat} {cs : Array Value} {t : TypeId} (h : W.heap[g]? = some (.cells cs t)) (j : Nat) : W.frozen? ⟨g, j, none⟩ = false := by
  unfold World.frozen?
  simp only [h]
  simp
theorem cells1 {W : World} {g : Nat} {t : TypeId} {v0 : Value} (h : W.heap[g]? = some (.cells #[v0] t)) : g < W.heap.size ∧ (∀ j, W.frozen? ⟨g, j, none⟩ = false) ∧ W.cell? ⟨g, 0, none⟩ = some v0 :=
  ⟨blk_lt h, blk_free h, blk_cell h 0⟩
theorem cells2 {W : World} {g : Nat} {t : TypeId} {v0 v1 : Value} (h : W.heap[g]? = some (.cells #[v0, v1] t)) : g < W.heap.size ∧ (∀ j, W.frozen? ⟨g, j, none⟩ = false) ∧ W.cell? ⟨g, 0, none⟩ = some v0 ∧ W.cell? ⟨g, 1, none⟩ = some v1 :=
  ⟨blk_lt h, blk_free h, blk_cell h 0, blk_cell h 1⟩
theorem cells3 {W : World} {g : Nat} {t : TypeId} {v0 v1 v2 : Value} (h : W.heap[g]? = some (.cells #[v0, v1, v2] t)) : g < W.heap.size ∧ (∀ j, W.frozen? ⟨g, j, none⟩ = false) ∧ W.cell? ⟨g, 0, none⟩ = some v0 ∧ W.cell? ⟨g, 1, none⟩ = some v1 ∧ W.cell? ⟨g, 2, none⟩ = some v2 :=
  ⟨blk_lt h, blk_free h, blk_cell h 0, blk_cell h 1, blk_cell h 2⟩
theorem cells4 {W : World} {g : Nat} {t : TypeId} {v0 v1 v2 v3 : Value} (h : W.heap[g]? = some (.cells #[v0, v1, v2, v3] t)) : g < W.heap.size ∧ (∀ j, W.frozen? ⟨g, j, none⟩ = false) ∧ W.cell? ⟨g, 0, none⟩ = some v0 ∧ W.cell? ⟨g, 1, none⟩ = some v1 ∧ W.cell? ⟨g, 2, none⟩ = some v2 ∧ W.cell? ⟨g, 3, none⟩ = some v3 :=
  ⟨blk_lt h, blk_free h, blk_cell h 0, blk_cell h 1, blk_cell h 2, blk_cell h 3⟩
theorem cells5 {W : World} {g : Nat} {t : TypeId} {v0 v1 v2 v3 v4 : Value} (h : W.heap[g]? = some (.cells #[v0, v1, v2, v3, v4] t)) : g < W.heap.size ∧ (∀ j, W.frozen? ⟨g, j, none⟩ = false) ∧ W.cell? ⟨g, 0, none⟩ = some v0 ∧ W.cell? ⟨g, 1, none⟩ = some v1 ∧ W.cell? ⟨g, 2, none⟩ = some v2 ∧ W.cell? ⟨g, 3, none⟩ = some v3 ∧ W.cell? ⟨g, 4, none⟩ = some v4 :=
  ⟨blk_lt h, blk_free h, blk_cell h 0, blk_cell h 1, blk_cell h 2, blk_cell h 3, blk_cell h 4⟩
theorem cells6 {W : World} {g : Nat} {t : TypeId} {v0 v1 v2 v3 v4 v5 : Value} (h : W.heap[g]? = some (.cells #[v0, v1, v2, v3, v4, v5] t)) : g < W.heap.size ∧ (∀ j, W.frozen? ⟨g, j, none⟩ = false) ∧ W.cell? ⟨g, 0, none⟩ = some v0 ∧ W.cell? ⟨g, 1, none⟩ = some v1 ∧ W.cell? ⟨g, 2, none⟩ = some v2 ∧ W.cell? ⟨g, 3, none⟩ = some v3 ∧ W.cell? ⟨g, 4, none⟩ = some v4 ∧ W.cell? ⟨g, 5, none⟩ = some v5 :=
  ⟨blk_lt h, blk_free h, blk_cell h 0, blk_cell h 1, blk_cell h 2, blk_cell h 3, blk_cell h 4, blk_cell h 5⟩
theorem cells8 {W : World} {g : Nat} {t : TypeId} {v0 v1 v2 v3 v4 v5 v6 v7 : Value} (h : W.heap[g]? = some (.cells #[v0, v1, v2, v3, v4, v5, v6, v7] t)) : g < W.heap.size ∧ (∀ j, W.frozen? ⟨g, j, none⟩ = false) ∧ W.cell? ⟨g, 0, none⟩ = some v0 ∧ W.cell? ⟨g, 1, none⟩ = some v1 ∧ W.cell? ⟨g, 2, none⟩ = some v2 ∧ W.cell? ⟨g, 3, none⟩ = some v3 ∧ W.cell? ⟨g, 4, none⟩ = some v4 ∧ W.cell? ⟨g, 5, none⟩ = some v5 ∧ W.cell? ⟨g, 6, none⟩ = some v6 ∧ W.cell? ⟨g, 7, none⟩ = some v7 :=
  ⟨blk_lt h, blk_free h, blk_cell h 0, blk_cell h 1, blk_cell h 2, blk_cell h 3, blk_cell h 4, blk_cell h 5, blk_cell h 6, blk_cell h 7⟩
theorem cells9 {W : World} {g : Nat} {t : TypeId} {v0 v1 v2 v3 v4 v5 v6 v7 v8 : Value} (h : W.heap[g]? = some (.cells #[v0, v1, v2, v3, v4, v5, v6, v7, v8] t)) : g < W.heap.size ∧ (∀ j, W.frozen? ⟨g, j, none⟩ = false) ∧ W.cell? ⟨g, 0, none⟩ = some v0 ∧ W.cell? ⟨g, 1, none⟩ = some v1 ∧ W.cell? ⟨g, 2, none⟩ = some v2 ∧ W.cell? ⟨g, 3, none⟩ = some v3 ∧ W.cell? ⟨g, 4, none⟩ = some v4 ∧ W.cell? ⟨g, 5, none⟩ = some v5 ∧ W.cell? ⟨g, 6, none⟩ = some v6 ∧ W.cell? ⟨g, 7, none⟩ = some v7 ∧ W.cell? ⟨g, 8, none⟩ = some v8 :=
  ⟨blk_lt h, blk_free h, blk_cell h 0, blk_cell h 1, blk_cell h 2, blk_cell h 3, blk_cell h 4, blk_cell h 5, blk_cell h 6, blk_cell h 7, blk_cell h 8⟩
theorem cells11 {W : World} {g : Nat} {t : TypeId} {v0 v1 v2 v3 v4 v5 v6 v7 v8 v9 v10 : Value} (h : W.heap[g]? = some (.cells #[v0, v1, v2, v3, v4, v5, v6, v7, v8, v9, v10] t)) : g < W.heap.size ∧ (∀ j, W.frozen? ⟨g, j, none⟩ = false) ∧ W.cell? ⟨g, 0, none⟩ = some v0 ∧ W.cell? ⟨g, 1, none⟩ = some v1 ∧ W.cell? ⟨g, 2, none⟩ = some v2 ∧ W.cell? ⟨g, 3, none⟩ = some v3 ∧ W.cell? ⟨g, 4, none⟩ = some v4 ∧ W.cell? ⟨g, 5, none⟩ = some v5 ∧ W.cell? ⟨g, 6, none⟩ = some v6 ∧ W.cell? ⟨g, 7, none⟩ = some v7 ∧ W.cell? ⟨g, 8, none⟩ = some v8 ∧ W.cell? ⟨g, 9, none⟩ = some v9 ∧ W.cell? ⟨g, 10, none⟩ = some v10 :=
  ⟨blk_lt h, blk_free h, blk_cell h 0, blk_cell h 1, blk_cell h 2, blk_cell h 3, blk_cell h 4, blk_cell h 5, blk_cell h 6, blk_cell h 7, blk_cell h 8, blk_cell h 9, blk_cell h 10⟩
theorem withBlock_same {W : World} {g : Nat} {o : Obj} (h : W.heap[g]? = some o) : withBlock W g o = W := by
  unfold withBlock
  have : W.heap.setIfInBounds g o = W.heap := by
    apply Array.ext_getElem?
    intro i
    rw [Array.getElem?_setIfInBounds]
    by_cases hi : g = i
    · subst hi; rw [if_pos rfl, if_pos (blk_lt h), h]
    · rw [if_neg hi]
  rw [this]
/-- values stored one behind the other into block g -/
def stores (W : World) (g : Nat) : Nat → List Value → World
  | _, [] => W
  | k, v :: vs => stores (W.setCell ⟨g, k, none⟩ v) g (k + 1) vs
theorem stores_known {g : Nat} {t : TypeId} {fr : Nat × Nat} : ∀ (vs : List Value) (W : World) (zs : List Value) (k : Nat), W.heap[g]? = some (.cells ⟨zs⟩ t fr) → k + vs.length ≤ zs.length →
    stores W g k vs = withBlock W g (.cells ⟨zs.take k ++ vs ++ zs.drop (k + vs.length)⟩ t fr) := by
  intro vs
  induction vs with
  | nil =>
    intro W zs k h hl
    simp only [List.length_nil, Nat.add_zero, List.append_nil, List.take_append_drop]
    exact (withBlock_same h).symm
  | cons v vs ih =>
    intro W zs k h hl
    simp only [List.length_cons] at hl
    unfold stores
    rw [setCell_known h]
    simp only [List.setIfInBounds_toArray]
    rw [ih _ (zs.set k v) (k + 1) (withBlock_heap (blk_lt h)) (by rw [List.length_set]; omega), withBlock_twice]
    congr 3
    have h1 : (zs.set k v).take (k + 1) = zs.take k ++ [v] := by
      have hk : k < zs.length := by omega
      rw [List.set_eq_take_append_cons_drop, if_pos hk, List.take_append]
      simp [List.length_take, Nat.min_eq_left (Nat.le_of_lt hk)]
      exact List.take_of_length_le (by simp; omega)
    have h2 : (zs.set k v).drop (k + 1 + vs.length) = zs.drop (k + (vs.length + 1)) := by
      rw [List.drop_set_of_lt (by omega)]
      congr 1
      omega
    rw [h1, h2]
    simp
theorem stores_all {g : Nat} {t : TypeId} {fr : Nat × Nat} {W : World} {zs : Array Value} (vs : List Value) (h : W.heap[g]? = some (.cells zs t fr)) (hl : vs.length = zs.size) : stores W g 0 vs = withBlock W g (.cells ⟨vs⟩ t fr) := by
  obtain ⟨zs⟩ := zs
  have hl' : vs.length = zs.length := hl
  rw [stores_known vs W zs 0 h (by omega)]
  congr 3
  rw [List.take_zero, List.nil_append, List.drop_of_length_le (by omega), List.append_nil]
/-- The end of a call whose result is a struct in a cell of its own, written whole. -/
theorem endCell {P : Program} {fn : Func} {p : Tmp} {ty : TypeId} (hres : fn.results = #[.cell p ty]) {R : Ending → World → Prop} {a : Act} {W : World} {g : Nat} {zs : Array Value} {d : TypeDesc} (vs : List Value)
    (hp : a.tmps.getD p undef = .pointer (some ⟨g, 0, none⟩)) (hd : a.defers = []) (hz : W.heap[g]? = some (.cells zs ty)) (hl : vs.length = zs.size)
    (hu : P.underlying ty = some d) (hag : (match d with | .struct _ | .array _ _ => true | _ => false) = true) (hi : (P.info? ty).map (·.size) = some vs.length)
    (hR : R (.returned (.agg ⟨vs⟩)) (withBlock W g (.cells ⟨vs⟩ ty))) : bodyPost P fn R .ret a (stores W g 0 vs) := by
  rw [stores_all vs hz hl]
  exact bodyPost_ret (results_c hres _ _ g ty ⟨vs⟩ (0, 0) d hp (withBlock_heap (blk_lt hz)) hu hag hi) hd hR
/-- The same, where the cell has been written ahead. -/
theorem endHeld {P : Program} {fn : Func} {p : Tmp} {ty : TypeId} (hres : fn.results = #[.cell p ty]) {R : Ending → World → Prop} {a : Act} {W : World} {g : Nat} {cs : Array Value} {fr : Nat × Nat} {d : TypeDesc}
    (hp : a.tmps.getD p undef = .pointer (some ⟨g, 0, none⟩)) (hd : a.defers = []) (hz : W.heap[g]? = some (.cells cs ty fr))
    (hu : P.underlying ty = some d) (hag : (match d with | .struct _ | .array _ _ => true | _ => false) = true) (hi : (P.info? ty).map (·.size) = some cs.size)
    (hR : R (.returned (.agg cs)) W) : bodyPost P fn R .ret a W :=
  bodyPost_ret (results_c hres _ _ g ty cs fr d hp hz hu hag hi) hd hR
/-- W has come out of w0: no old block but r is written; some new blocks are known. -/
structure Fr (r : Option Nat) (w0 : World) (bs : List (Nat × Obj)) (W : World) : Prop where
  gr : w0.grownBy W r
  lo : ∀ p ∈ bs, w0.heap.size ≤ p.1
  ne : bs.Pairwise (fun p q => p.1 ≠ q.1)
  has : ∀ p ∈ bs, W.heap[p.1]? = some p.2
theorem Fr.start (r : Option Nat) (w : World) : Fr r w [] w := ⟨grown_refl w r, by simp, by simp, by simp⟩
theorem Fr.at {r : Option Nat} {w0 W : World} {bs : List (Nat × Obj)} (h : Fr r w0 bs W) (i : Nat) {g : Nat} {o : Obj} (hi : bs[i]? = some (g, o)) : W.heap[g]? = some o := h.has _ (List.mem_of_getElem? hi)
theorem Fr.lt {r : Option Nat} {w0 W : World} {bs : List (Nat × Obj)} (h : Fr r w0 bs W) {p : Nat × Obj} (hp : p ∈ bs) : p.1 < W.heap.size := blk_lt (h.has p hp)
theorem Fr.alloc {r : Option Nat} {w0 W : World} {bs : List (Nat × Obj)} (h : Fr r w0 bs W) (o : Obj) {g : Nat} (hg : g = W.heap.size) : Fr r w0 ((g, o) :: bs) (W.alloc o) := by
  subst hg
  refine ⟨grown_alloc h.gr o, ?_, ?_, ?_⟩
  · intro p hp
    rcases List.mem_cons.1 hp with rfl | hp
    · exact h.gr.size
    · exact h.lo p hp
  · exact List.pairwise_cons.2 ⟨fun q hq => by have := h.lt hq; simp only; omega, h.ne⟩
  · intro p hp
    rcases List.mem_cons.1 hp with rfl | hp
    · exact heap_alloc_new _ _
    · exact blk_old (h.has p hp) o
theorem Fr.below {r : Option Nat} {w0 W W' : World} {bs : List (Nat × Obj)} (h : Fr r w0 bs W) (hb : Below W.heap.size W W') : Fr r w0 bs W' :=
  ⟨grown_trans h.gr (below_grown' hb r), h.lo, h.ne, fun p hp => blk_below (h.has p hp) hb⟩
theorem Fr.grown {r r' : Option Nat} {w0 W W' : World} {bs : List (Nat × Obj)} (h : Fr r w0 bs W) (hg : W.grownBy W' r') (hr : ∀ b, r' = some b → (r = some b ∨ w0.heap.size ≤ b) ∧ ∀ p ∈ bs, p.1 ≠ b) : Fr r w0 bs W' := by
  refine ⟨⟨hg.os.trans h.gr.os, hg.tape.trans h.gr.tape, hg.output.trans h.gr.output, Nat.le_trans h.gr.size hg.size, fun k hk hne => ?_⟩, h.lo, h.ne, fun p hp => ?_⟩
  · refine (hg.block k (Nat.lt_of_lt_of_le hk h.gr.size) ?_).trans (h.gr.block k hk hne)
    intro he
    rcases (hr k he.symm).1 with h1 | h1
    · exact hne h1.symm
    · omega
  · refine (hg.block p.1 (h.lt hp) ?_).trans (h.has p hp)
    intro he
    exact (hr p.1 he.symm).2 p hp rfl
theorem Fr.drew {r : Option Nat} {w0 W : World} {bs : List (Nat × Obj)} (h : Fr r w0 bs W) : Fr r w0 bs W.drew := ⟨grown_drew h.gr, h.lo, h.ne, h.has⟩
theorem Fr.drewN {r : Option Nat} {w0 W : World} {bs : List (Nat × Obj)} (h : Fr r w0 bs W) (n : Nat) : Fr r w0 bs (W.drewN n) := ⟨grown_drewN h.gr n, h.lo, h.ne, h.has⟩
theorem Fr.drop {r : Option Nat} {w0 W : World} {bs : List (Nat × Obj)} (h : Fr r w0 bs W) (bs' : List (Nat × Obj)) (hs : bs'.Sublist bs) : Fr r w0 bs' W := ⟨h.gr, fun p hp => h.lo p (hs.mem hp), h.ne.sublist hs, fun p hp => h.has p (hs.mem hp)⟩
/-- one of the known blocks is written anew -/
theorem Fr.put {r : Option Nat} {w0 W : World} {bs : List (Nat × Obj)} (h : Fr r w0 bs W) (i : Nat) {g : Nat} {o : Obj} (o' : Obj) (hi : bs[i]? = some (g, o)) : Fr r w0 (bs.set i (g, o')) (withBlock W g o') := by
  have hlt : i < bs.length := (List.getElem?_eq_some_iff.1 hi).1
  have hgi : bs[i] = (g, o) := (List.getElem?_eq_some_iff.1 hi).2
  have hg : w0.heap.size ≤ g := by have := h.lo _ (List.mem_of_getElem? hi); simpa using this
  have hgl : g < W.heap.size := by have := h.lt (List.mem_of_getElem? hi); simpa using this
  have hmem : ∀ p ∈ bs.set i (g, o'), p = (g, o') ∨ (p ∈ bs ∧ p.1 ≠ g) := by
    intro p hp
    obtain ⟨j, hj, rfl⟩ := List.mem_iff_getElem.1 hp
    rw [List.getElem_set]
    by_cases hji : i = j
    · left; rw [if_pos hji]
    · right
      rw [if_neg hji]
      have hj' : j < bs.length := by simpa using hj
      refine ⟨List.getElem_mem hj', ?_⟩
      have hp2 := List.pairwise_iff_getElem.1 h.ne
      rcases Nat.lt_or_gt_of_ne hji with h1 | h1
      · have := hp2 i j hlt hj' h1; rw [hgi] at this; exact fun e => this e.symm
      · have := hp2 j i hj' hlt h1; rw [hgi] at this; exact this
  refine ⟨grown_new h.gr grown_withBlock hg, fun p hp => ?_, ?_, fun p hp => ?_⟩
  · rcases hmem p hp with rfl | ⟨h1, _⟩
    · exact hg
    · exact h.lo p h1
  · rw [List.pairwise_iff_getElem]
    intro a b ha hb hab
    have hp2 := List.pairwise_iff_getElem.1 h.ne
    have ha' : a < bs.length := by simpa using ha
    have hb' : b < bs.length := by simpa using hb
    have hab2 := hp2 a b ha' hb' hab
    rw [List.getElem_set, List.getElem_set]
    by_cases h1 : i = a
    · subst h1; rw [if_pos rfl, if_neg (by omega)]; rw [hgi] at hab2; exact hab2
    · rw [if_neg h1]
      by_cases h2 : i = b
      · subst h2; rw [if_pos rfl]; rw [hgi] at hab2; exact hab2
      · rw [if_neg h2]; exact hab2
  · rcases hmem p hp with rfl | ⟨h1, h2⟩
    · exact withBlock_heap hgl
    · rw [withBlock_other h2]; exact h.has p h1
theorem Fr.bel {w0 W : World} {bs : List (Nat × Obj)} (h : Fr none w0 bs W) : Below w0.heap.size w0 W := ⟨h.gr.os, h.gr.tape, h.gr.output, h.gr.size, fun k hk => h.gr.block k hk (by simp)⟩
theorem grown_below {w W : World} (h : w.grownBy W none) : Below w.heap.size w W := ⟨h.os, h.tape, h.output, h.size, fun k hk => h.block k hk (by simp)⟩
end Go.Proofs.Ytlbiocfpkpcdhaa
