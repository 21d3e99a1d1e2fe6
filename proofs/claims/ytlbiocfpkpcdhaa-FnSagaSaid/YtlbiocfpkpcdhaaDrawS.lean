import Derived.Test.YtlbiocfpkpcdhaaDrawC
import Derived.Test.YtlbiocfpkpcdhaaGen
import Derived.Laws.ResultCell
namespace Go.Proofs.Ytlbiocfpkpcdhaa
open Go.RowKit
set_option linter.unusedSimpArgs false
set_option linter.unusedVariables false
/-- in a draw: W has come out of w, the source in block g is one still, some new blocks are known -/
structure DS (g : Nat) (w : World) (bs : List (Nat × Obj)) (W : World) : Prop where
  fr : Fr (some g) w bs W
  src : SrcAt W g
  glt : g < w.heap.size
theorem DS.start {g : Nat} {w : World} (h : SrcAt w g) : DS g w [] w := ⟨Fr.start _ w, h, h.lt⟩
theorem DS.at {g : Nat} {w W : World} {bs : List (Nat × Obj)} (h : DS g w bs W) (i : Nat) {b : Nat} {o : Obj} (hi : bs[i]? = some (b, o)) : W.heap[b]? = some o := h.fr.at i hi
theorem DS.alloc {g : Nat} {w W : World} {bs : List (Nat × Obj)} (h : DS g w bs W) (o : Obj) {b : Nat} (hb : b = W.heap.size) : DS g w ((b, o) :: bs) (W.alloc o) := ⟨h.fr.alloc o hb, h.src.alloc o, h.glt⟩
theorem DS.drop {g : Nat} {w W : World} {bs : List (Nat × Obj)} (h : DS g w bs W) (bs' : List (Nat × Obj)) (hs : bs'.Sublist bs) : DS g w bs' W := ⟨h.fr.drop bs' hs, h.src, h.glt⟩
theorem DS.drew {g : Nat} {w W : World} {bs : List (Nat × Obj)} (h : DS g w bs W) : DS g w bs W.drew := ⟨h.fr.drew, h.src.drew, h.glt⟩
theorem SrcAt.drewN {w : World} {g : Nat} (h : SrcAt w g) (n : Nat) : SrcAt (w.drewN n) g := by
  obtain ⟨A, cap, bs, a, m, z, hs⟩ := h
  exact ⟨A, cap, bs, a, m, z, hs.drewN n⟩
theorem DS.drewN {g : Nat} {w W : World} {bs : List (Nat × Obj)} (h : DS g w bs W) (n : Nat) : DS g w bs (W.drewN n) := ⟨h.fr.drewN n, h.src.drewN n, h.glt⟩
theorem DS.below {g : Nat} {w W W' : World} {bs : List (Nat × Obj)} (h : DS g w bs W) (hb : Below W.heap.size W W') : DS g w bs W' := ⟨h.fr.below hb, h.src.grown (below_grown hb) (by simp) (by simp), h.glt⟩
/-- the source is drawn from -/
theorem DS.draw {g : Nat} {w W W' : World} {bs : List (Nat × Obj)} (h : DS g w bs W) (hs : SrcAt W' g) (hg : W.grownBy W' (some g)) : DS g w bs W' :=
  ⟨h.fr.grown hg (fun b hb => ⟨.inl hb, fun p hp => by have := h.fr.lo p hp; have := h.glt; cases hb; omega⟩), hs, h.glt⟩
theorem DS.put {g : Nat} {w W : World} {bs : List (Nat × Obj)} (h : DS g w bs W) (i : Nat) {b : Nat} {o : Obj} (o' : Obj) (hi : bs[i]? = some (b, o)) : DS g w (bs.set i (b, o')) (withBlock W b o') :=
  ⟨h.fr.put i o' hi, h.src.above grown_withBlock (by have := h.fr.lo _ (List.mem_of_getElem? hi); have := h.glt; simp only at *; omega), h.glt⟩
theorem DS.gr {g : Nat} {w W : World} {bs : List (Nat × Obj)} (h : DS g w bs W) : w.grownBy W (some g) := h.fr.gr
theorem DS.new {g : Nat} {w W : World} {bs : List (Nat × Obj)} (h : DS g w bs W) (i : Nat) {b : Nat} {o : Obj} (hi : bs[i]? = some (b, o)) : g < b ∧ w.heap.size ≤ b ∧ b < W.heap.size := by
  have h1 := h.fr.lo _ (List.mem_of_getElem? hi)
  have h2 := h.fr.lt (List.mem_of_getElem? hi)
  have := h.glt
  simp only at h1 h2
  exact ⟨by omega, h1, h2⟩
/-- one cell of a known block is written -/
theorem DS.set {g : Nat} {w W : World} {bs : List (Nat × Obj)} (h : DS g w bs W) (i j : Nat) {b : Nat} {cs : Array Value} {t : TypeId} {v : Value} (hi : bs[i]? = some (b, .cells cs t)) : DS g w (bs.set i (b, .cells (cs.setIfInBounds j v) t)) (W.setCell ⟨b, j, none⟩ v) := by
  rw [setCell_known (h.at i hi)]
  exact h.put i _ hi
theorem Fr.set {r : Option Nat} {w W : World} {bs : List (Nat × Obj)} (h : Fr r w bs W) (i j : Nat) {b : Nat} {cs : Array Value} {t : TypeId} {v : Value} (hi : bs[i]? = some (b, .cells cs t)) : Fr r w (bs.set i (b, .cells (cs.setIfInBounds j v) t)) (W.setCell ⟨b, j, none⟩ v) := by
  rw [setCell_known (h.at i hi)]
  exact h.put i _ hi
/-- two results: a struct in a cell of its own, written whole, and a temporary -/
theorem endCellTmp {P : Program} {fn : Func} {p u : Tmp} {ty : TypeId} (hres : fn.results = #[.cell p ty, .tmp u]) {R : Ending → World → Prop} {a : Act} {W : World} {g : Nat} {zs : Array Value} {d : TypeDesc} {x : Value} (vs : List Value)
    (hp : a.tmps.getD p undef = .pointer (some ⟨g, 0, none⟩)) (hx : a.tmps.getD u undef = x) (hd : a.defers = []) (hz : W.heap[g]? = some (.cells zs ty)) (hl : vs.length = zs.size)
    (hu : P.underlying ty = some d) (hag : (match d with | .struct _ | .array _ _ => true | _ => false) = true) (hi : (P.info? ty).map (·.size) = some vs.length)
    (hR : R (.returned (.tuple #[.agg ⟨vs⟩, x])) (withBlock W g (.cells ⟨vs⟩ ty))) : bodyPost P fn R .ret a (stores W g 0 vs) := by
  rw [stores_all vs hz hl]
  refine bodyPost_ret (v := .tuple #[.agg ⟨vs⟩, x]) ?_ hd hR
  rw [results_cell_tmp hres, hp, hx]
  have := run_loadVar_row (P := P) (withBlock W g (.cells ⟨vs⟩ ty)) g ty ty ⟨vs⟩ (0, 0) d (withBlock_heap (blk_lt hz)) hu hag hi
  simp [asAddr, this]
end Go.Proofs.Ytlbiocfpkpcdhaa
