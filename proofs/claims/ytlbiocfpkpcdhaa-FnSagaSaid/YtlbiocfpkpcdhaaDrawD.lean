import Derived.Test.YtlbiocfpkpcdhaaDrawC
import Derived.Deep.AppendLies
namespace Go.Proofs.Ytlbiocfpkpcdhaa
open Go.RowKit
set_option linter.unusedSimpArgs false
set_option linter.unusedVariables false
def zDef : Obj := .cells #[.string ⟨#[]⟩, .slice none 0 0, .int .i64 0] 29
/-- A def in the making lies in block B, its steps l in a row of one's own. -/
structure BoxD (w0 : World) (g B : Nat) (l : List StepD) (v : Value) (W : World) : Prop where
  blk : ∃ (nm : ByteArray) (pv : Int), nm.size ≤ 10 ∧ W.heap[B]? = some (.cells #[.string nm, v, .int .i64 pv] 29)
  own : W.ownsRow (B + 1) 55 6 v l.length (l.flatMap StepD.cells)
  fits : ∀ s ∈ l, s.fits
  src : SrcAt W g
  grown : w0.grownBy W (some g)
  res : W.heap[w0.heap.size]? = some zDef
  glt : g < w0.heap.size
  blt : w0.heap.size < B
theorem BoxD.lt {w0 W : World} {g B : Nat} {l : List StepD} {v : Value} (h : BoxD w0 g B l v W) : B < W.heap.size := by
  obtain ⟨_, _, _, hb⟩ := h.blk
  exact blk_lt hb
theorem BoxD.row_ne {w0 W : World} {g B : Nat} {l : List StepD} {v : Value} (h : BoxD w0 g B l v W) {b : Nat} (hb : v.ownBlock = some b) : B < b := (h.own.lt b hb).1
theorem BoxD.mono {w0 W W' : World} {g B : Nat} {l : List StepD} {v : Value} (h : BoxD w0 g B l v W) (hg : W.grownBy W' (some g)) (hs : SrcAt W' g) : BoxD w0 g B l v W' := by
  have hgl := h.glt
  have hbl := h.blt
  obtain ⟨nm, pv, hn, hb⟩ := h.blk
  refine ⟨⟨nm, pv, hn, (hg.block B (blk_lt hb) (by simp; omega)).trans hb⟩, h.own.kept hg ?_, h.fits, hs, grown_trans h.grown hg, (hg.block _ (blk_lt h.res) (by simp; omega)).trans h.res, h.glt, h.blt⟩
  cases hv : v.ownBlock with
  | none => exact .inl rfl
  | some b => exact .inr (by have := h.row_ne hv; simp; omega)
theorem BoxD.alloc {w0 W : World} {g B : Nat} {l : List StepD} {v : Value} (h : BoxD w0 g B l v W) (o : Obj) : BoxD w0 g B l v (W.alloc o) := h.mono (World.grownBy_alloc _ _ _) (h.src.alloc o)
theorem BoxD.drew {w0 W : World} {g B : Nat} {l : List StepD} {v : Value} (h : BoxD w0 g B l v W) : BoxD w0 g B l v W.drew := h.mono (grown_drew (grown_refl _ _)) h.src.drew
/-- an append onto the steps' row -/
theorem BoxD.row {w0 W W' : World} {g B : Nat} {l : List StepD} {v : Value} (h : BoxD w0 g B l v W) (hg : W.grownBy W' v.ownBlock) (ho : W'.ownsRow (B + 1) 55 6 v l.length (l.flatMap StepD.cells)) : BoxD w0 g B l v W' := by
  have hgl := h.glt
  have hbl := h.blt
  obtain ⟨nm, pv, hn, hb⟩ := h.blk
  cases hv : v.ownBlock with
  | none =>
    rw [hv] at hg
    exact ⟨⟨nm, pv, hn, (hg.block B (blk_lt hb) (by simp)).trans hb⟩, ho, h.fits, h.src.grown hg (by simp) (by simp), ⟨hg.os.trans h.grown.os, hg.tape.trans h.grown.tape, hg.output.trans h.grown.output, Nat.le_trans h.grown.size hg.size, fun k hk hne => (hg.block k (Nat.lt_of_lt_of_le hk h.grown.size) (by simp)).trans (h.grown.block k hk hne)⟩, (hg.block _ (blk_lt h.res) (by simp)).trans h.res, h.glt, h.blt⟩
  | some b =>
    rw [hv] at hg
    have hlt := h.row_ne hv
    exact ⟨⟨nm, pv, hn, (hg.block B (blk_lt hb) (by simp; omega)).trans hb⟩, ho, h.fits, h.src.above hg (by omega), grown_new h.grown hg (by omega), (hg.block _ (blk_lt h.res) (by simp; omega)).trans h.res, h.glt, h.blt⟩
/-- the box is written anew -/
theorem BoxD.box {w0 W : World} {g B : Nat} {l l' : List StepD} {v v' : Value} (h : BoxD w0 g B l v W) (nm : ByteArray) (pv : Int) (hn : nm.size ≤ 10) (ho : W.ownsRow (B + 1) 55 6 v' l'.length (l'.flatMap StepD.cells)) (hf : ∀ s ∈ l', s.fits) :
    BoxD w0 g B l' v' (withBlock W B (.cells #[.string nm, v', .int .i64 pv] 29)) := by
  have hgl := h.glt
  have hbl := h.blt
  refine ⟨⟨nm, pv, hn, withBlock_heap h.lt⟩, ho.kept (grown_withBlock (b := B)) ?_, hf, h.src.above grown_withBlock (by omega), grown_new h.grown grown_withBlock (by omega), ?_, h.glt, h.blt⟩
  · cases hv : v'.ownBlock with
    | none => exact .inl rfl
    | some b => exact .inr (by have := (ho.lt b hv).1; simp; omega)
  · rw [withBlock_other (by omega)]; exact h.res
theorem BoxD.facts {w0 W : World} {g B : Nat} {l : List StepD} {v : Value} (h : BoxD w0 g B l v W) : B < W.heap.size ∧ (∀ j, W.frozen? ⟨B, j, none⟩ = false) ∧
    ∃ (nm : ByteArray) (pv : Int), nm.size ≤ 10 ∧ W.cell? ⟨B, 0, none⟩ = some (.string nm) ∧ W.cell? ⟨B, 1, none⟩ = some v ∧ W.cell? ⟨B, 2, none⟩ = some (.int .i64 pv) := by
  obtain ⟨nm, pv, hn, hb⟩ := h.blk
  have hc : ∀ j, W.cell? ⟨B, j, none⟩ = (#[.string nm, v, .int .i64 pv] : Array Value)[j]? := fun j => by
    unfold World.cell?
    simp only [hb]
    rfl
  refine ⟨blk_lt hb, fun j => ?_, nm, pv, hn, hc 0, hc 1, hc 2⟩
  unfold World.frozen?
  simp only [hb]
  simp
theorem BoxD.setNm {w0 W : World} {g B : Nat} {l : List StepD} {v : Value} (h : BoxD w0 g B l v W) (nm : ByteArray) (hn : nm.size ≤ 10) : BoxD w0 g B l v (W.setCell ⟨B, 0, none⟩ (.string nm)) := by
  obtain ⟨nm0, pv, hn0, hb⟩ := h.blk
  rw [setCell_known hb]
  exact h.box nm pv hn h.own h.fits
theorem BoxD.setPv {w0 W : World} {g B : Nat} {l : List StepD} {v : Value} (h : BoxD w0 g B l v W) (pv : Int) : BoxD w0 g B l v (W.setCell ⟨B, 2, none⟩ (.int .i64 pv)) := by
  obtain ⟨nm, pv0, hn, hb⟩ := h.blk
  rw [setCell_known hb]
  exact h.box nm pv hn h.own h.fits
theorem BoxD.setSt {w0 W : World} {g B : Nat} {l l' : List StepD} {v v' : Value} (h : BoxD w0 g B l v W) (ho : W.ownsRow (B + 1) 55 6 v' l'.length (l'.flatMap StepD.cells)) (hf : ∀ s ∈ l', s.fits) : BoxD w0 g B l' v' (W.setCell ⟨B, 1, none⟩ v') := by
  obtain ⟨nm, pv, hn, hb⟩ := h.blk
  rw [setCell_known hb]
  exact h.box nm pv hn ho hf
theorem BoxD.form {w0 W : World} {g B : Nat} {l : List StepD} {v : Value} (h : BoxD w0 g B l v W) (hl : 0 < l.length) : ∃ b cap, v = .slice (some ⟨b, 0, none⟩) l.length cap ∧ B < b ∧ b < W.heap.size ∧ l.length ≤ cap := by
  rcases h.own.2 with ⟨_, h0⟩ | ⟨b, cap, cur, hv, hb, hh, hc, _⟩
  · omega
  · exact ⟨b, cap, hv, hb, blk_lt hh, hc⟩
/-- a field of the first step is written anew -/
theorem BoxD.setRow {w0 W : World} {g B b n cap j : Nat} {s s' : StepD} {l : List StepD} {u : Value} (h : BoxD w0 g B (s :: l) (.slice (some ⟨b, 0, none⟩) n cap) W) (hj6 : j < 6) (hs : s.cells.set j u = s'.cells) (hf : s'.fits) : BoxD w0 g B (s' :: l) (.slice (some ⟨b, 0, none⟩) n cap) (W.setCell ⟨b, j, none⟩ u) := by
  have hgl := h.glt
  have hbl := h.blt
  have hBb := h.row_ne (b := b) rfl
  have hj : (s' :: l).length = (s :: l).length := rfl
  rcases h.own with ⟨hlen, ⟨hv, h0⟩ | ⟨b', cap', cur, hv, hb, hh, hc, hm, hcs, ht⟩⟩
  · cases hv
  · cases hv
    obtain ⟨nm, pv, hn, hbb⟩ := h.blk
    rw [setCell_known hh]
    refine ⟨⟨nm, pv, hn, (withBlock_other (by omega)).trans hbb⟩, ⟨by rw [hj]; exact (cells_len _).trans rfl, .inr ⟨b, cap, _, rfl, hb, withBlock_heap (blk_lt hh), hc, hm, by simpa using hcs, ?_⟩⟩, ?_, h.src.above grown_withBlock (by omega), grown_new h.grown grown_withBlock (by omega), (withBlock_other (by omega)).trans h.res, h.glt, h.blt⟩
    · rw [Array.toList_setIfInBounds, hj, List.take_set, ht, List.flatMap_cons, List.flatMap_cons, ← hs, List.set_append]
      rw [if_pos (show j < s.cells.length from hj6)]
    · intro x hx
      rcases List.mem_cons.1 hx with rfl | hx
      · exact hf
      · exact h.fits x (List.mem_cons_of_mem _ hx)
end Go.Proofs.Ytlbiocfpkpcdhaa
