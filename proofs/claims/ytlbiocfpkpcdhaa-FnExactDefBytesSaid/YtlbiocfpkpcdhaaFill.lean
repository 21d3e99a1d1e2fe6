import Derived.Test.YtlbiocfpkpcdhaaGen
import Derived.Laws.MakeOwn
import Derived.Laws.OwnMore
namespace Go.Proofs.Ytlbiocfpkpcdhaa
open Go.RowKit
set_option linter.unusedSimpArgs false
set_option linter.unusedVariables false
/-! a row that is made and filled, one element a round -/
section
variable {α : Type} {f : α → List Value} {l : List α} {Z : List Value} {sz : Nat}
/-- what the row holds behind k rounds -/
def fillC (f : α → List Value) (l : List α) (Z : List Value) (sz k : Nat) : List Value := (l.take k).flatMap f ++ Z.drop (k * sz)
theorem flat_len (hf : ∀ x, (f x).length = sz) (l : List α) : (l.flatMap f).length = l.length * sz := by
  induction l with
  | nil => simp
  | cons x l ih => rw [List.flatMap_cons, List.length_append, ih, hf, List.length_cons, Nat.add_mul]; omega
theorem fill_len (hf : ∀ x, (f x).length = sz) (hZ : Z.length = l.length * sz) {k : Nat} (hk : k ≤ l.length) : (fillC f l Z sz k).length = l.length * sz := by
  unfold fillC
  have h1 : k * sz ≤ l.length * sz := Nat.mul_le_mul_right _ hk
  rw [List.length_append, flat_len hf, List.length_take, Nat.min_eq_left hk, List.length_drop, hZ]
  omega
theorem fill_zero : fillC f l Z sz 0 = Z := by simp [fillC]
theorem fill_done (hZ : Z.length = l.length * sz) : fillC f l Z sz l.length = l.flatMap f := by
  unfold fillC
  rw [List.take_length, List.drop_of_length_le (by omega), List.append_nil]
theorem fill_step (hf : ∀ x, (f x).length = sz) (hZ : Z.length = l.length * sz) {k : Nat} (hk : k < l.length) :
    (fillC f l Z sz k).take (k * sz) ++ f l[k] ++ (fillC f l Z sz k).drop (k * sz + (f l[k]).length) = fillC f l Z sz (k + 1) := by
  have h1 : ((l.take k).flatMap f).length = k * sz := by rw [flat_len hf, List.length_take, Nat.min_eq_left (by omega)]
  unfold fillC
  rw [List.take_left' h1, hf, List.drop_append, h1]
  rw [List.drop_of_length_le (by omega), List.nil_append, List.drop_drop, List.take_succ_eq_append_getElem hk, List.flatMap_append]
  simp only [List.flatMap_cons, List.flatMap_nil, List.append_nil]
  rw [show k * sz + sz - k * sz = sz from by omega, show (k + 1) * sz = k * sz + sz from by rw [Nat.add_mul]; omega]
theorem fill_some (hf : ∀ x, (f x).length = sz) (hZ : Z.length = l.length * sz) {k j : Nat} (hk : k < l.length) (hj : j < sz) : ∃ v, (fillC f l Z sz k)[k * sz + j]? = some v := by
  have h1 : k * sz + j < l.length * sz := by
    have : (k + 1) * sz ≤ l.length * sz := Nat.mul_le_mul_right _ hk
    rw [Nat.add_mul] at this
    omega
  exact ⟨_, List.getElem?_eq_getElem (by rw [fill_len hf hZ (by omega)]; exact h1)⟩
theorem flat_at (hf : ∀ x, (f x).length = sz) : ∀ (l : List α) (i : Nat) (x : α), l[i]? = some x → ∀ j u, (f x)[j]? = some u → (l.flatMap f)[i * sz + j]? = some u
  | [], i, x, h => by simp at h
  | y :: l, 0, x, h => fun j u hu => by
    simp at h
    subst h
    rw [List.flatMap_cons, List.getElem?_append_left (by have := (List.getElem?_eq_some_iff.1 hu).1; omega)]
    simpa using hu
  | y :: l, i + 1, x, h => fun j u hu => by
    rw [List.flatMap_cons, List.getElem?_append_right (by rw [hf, Nat.add_mul]; omega), hf, show (i + 1) * sz + j - sz = i * sz + j from by rw [Nat.add_mul]; omega]
    exact flat_at hf l i x (by simpa using h) j u hu
theorem rowAt_block {W : World} {g : Nat} {t : TypeId} (hf : ∀ x, (f x).length = sz) (h : W.heap[g]? = some (.cells ⟨l.flatMap f⟩ t)) : RowAt W (some ⟨g, 0, none⟩) sz f l := by
  intro i x hx
  refine ⟨g, 0, rfl, fun j u hu => ?_⟩
  rw [blk_cell h]
  simpa using flat_at hf l i x hx j u hu
end
theorem made_len (z : Array Value) (n sz : Nat) : (madeCells z (n * sz)).toList.length = n * sz := by
  rw [Array.length_toList, size_madeCells]
end Go.Proofs.Ytlbiocfpkpcdhaa
