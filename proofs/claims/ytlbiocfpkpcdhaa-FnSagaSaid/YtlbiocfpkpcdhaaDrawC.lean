import Derived.Test.YtlbiocfpkpcdhaaDrawB
import Derived.Maps.AppendAt
namespace Go.Proofs.Ytlbiocfpkpcdhaa
open Go.RowKit
set_option linter.unusedSimpArgs false
set_option linter.unusedVariables false
def edges : List Int := [0, 1, -1, 2, 1000, 1001, 2147483648, 2147483647, -2147483648, 4611686018427387904, 9223372036854775807, -9223372036854775808, 1000000, 1000001]
set_option maxRecDepth 100000 in
theorem edge_any (g : Nat) (w : World) (h : SrcAt w g) :
    Calls Try.prog 60 #[.pointer (some ⟨g, 0, none⟩)] w (DrewInt (fun r => r ∈ edges) g w) := by
  have HS := Lib.hid h
  have hgl := h.lt
  clear h
  go_enter Try.func60, Try.ntmps60
  go_wp2_with fail
  have HA := Lib.hid (rowAt_ints w edges 2)
  refine (n_any g 14 _ (HS.out.alloc _) (by omega)).mono ?_
  rintro e w1 ⟨r, ⟨hr0, hr1⟩, rfl, hs, hg⟩
  have HS1 := Lib.hid hs
  have HG1 := Lib.hid hg
  have hr2 := hr1 (by omega)
  clear hs hg hr1
  obtain ⟨k, rfl⟩ := Int.eq_ofNat_of_zero_le hr0
  have hk : k < edges.length := by show k < 14; omega
  have hk2 : k < 14 := by omega
  obtain ⟨b, o, hA, hc⟩ := (HA.out.grown HG1.out (fun x hx => by cases hx; show some w.heap.size ≠ some g; simp; omega)) k edges[k] (List.getElem?_eq_getElem hk)
  cases hA
  have c0 := hc 0 _ rfl
  simp only [Nat.mul_one, Nat.add_zero, Nat.zero_add] at c0
  clear hc
  go_wp2
  go_ret
  exact ⟨_, List.getElem_mem hk, rfl, HS1.out, grown_trans (World.grownBy_alloc _ _ _) HG1.out⟩
section
variable {P : Program} (w : World)
/-- append onto a row of one's own: where the new one lies, and the old one is there still -/
theorem run_append_keep (t ty : TypeId) (base : Nat) (e : TypeId) (i : TypeInfo) (z : Value) (size bytes : Nat) (ht : P.underlying t = some (.slice e)) (hi : P.info? e = some i) (hz : i.zero = some z)
    (hsize : i.size = size) (hby : i.bytes = bytes) (hzs : z.cells.size = size) (hsz : 0 < size)
    (v : Value) (n : Nat) (xs : List Value) (hown : w.ownsRow base e size v n xs)
    (a : Addr) (m c : Nat) (news : List Value) (hl : news.length = m * size) (hnews : ∀ j u, news[j]? = some u → w.cell? (a.add j) = some u) (h1 : ∀ u ∈ news, u.oneCell' = true)
    (hm : 0 < m) (h63 : n + m ≤ maxLen) (hbytes : (n + m) * bytes ≤ 140737488355328) (hbase : base ≤ w.heap.size) :
    ∃ v' w', (Builtin.append_ #[t, t] ty #[v, .slice (some a) m c]).run P w = .ok v' w' ∧ w'.ownsRow base e size v' (n + m) (xs ++ news) ∧ w.grownBy w' v.ownBlock ∧ w'.ownsRow base e size v n xs := by
  obtain ⟨v', w', hr, h2, h3, h4, h5⟩ := run_append_own_at (P := P) w base t ty e i z size bytes ht hi hz hsize hby hzs hsz v n xs hown a m c news hl hnews h1 h63 hbytes hbase
  refine ⟨v', w', hr, h2, h3, ?_⟩
  subst hsize
  subst hby
  have hsmall : n + m ≤ 9223372036854775807 := by simp only [maxLen] at h63; omega
  have hlen : (xs ++ news).length = (n + m) * i.size := by rw [List.length_append, hown.1, hl, Nat.add_mul]
  have hown' := hown
  rcases hown.2 with ⟨rfl, rfl⟩ | ⟨g, cap, cur, rfl, hbg, hg, hnc, hcm, hcs, htake⟩
  · have hx : xs = [] := List.eq_nil_of_length_eq_zero (by simpa using hown.1)
    subst hx
    exact World.ownsRow_nil _ _ _ _
  · by_cases hroom : n + m ≤ cap
    · have hfit : n * i.size + news.length ≤ cur.size := by rw [hl, hcs, ← Nat.add_mul]; exact Nat.mul_le_mul_right _ hroom
      have hr2 := run_append_room (P := P) w t ty e i ht hi g n cap cur hg a m c news hl hnews h1 hroom hfit
      rw [hr2] at hr
      cases hr
      refine ⟨hown.1, .inr ⟨g, cap, _, rfl, hbg, setRow_heap w g cur _ e _ hg, hnc, hcm, ?_, ?_⟩⟩
      · simp only [List.size_toArray, List.length_append, List.length_take, List.length_drop, Array.length_toList]
        omega
      · rw [htake, List.append_assoc, ← hown.1]
        exact List.take_left
    · have holds : ∀ j u, xs[j]? = some u → w.cell? ((⟨g, 0, none⟩ : Addr).add j) = some u := hown.cells (g := g) rfl
      have hr2 := run_append_grow (P := P) w t ty e i z ht hi hz ⟨g, 0, none⟩ n cap xs hown.1 holds a m c news hl hnews (by omega) (by omega) (growslice_fits (by omega) hbytes)
      rw [hr2] at hr
      cases hr
      exact hown'.kept (row := none) ⟨rfl, rfl, rfl, by simp, fun k hk _ => Below.heap_alloc w.drew _ k hk⟩ (.inr (by simp [Value.ownBlock]))
theorem wp_append_keep {o : Oper} {a : Act} {K : Act → World → Prop} {Q : Exit → Act → World → Prop} (s x : Operand) (t : TypeId)
    (ho : o.op = .call { callee := .builtin .append, args := #[s, x], argTypes := #[t, t] })
    (base : Nat) (e : TypeId) (i : TypeInfo) (z : Value) (size bytes : Nat) (ht : P.underlying t = some (.slice e)) (hi : P.info? e = some i) (hz : i.zero = some z)
    (hsize : i.size = size) (hby : i.bytes = bytes) (hzs : z.cells.size = size) (hsz : 0 < size)
    (v : Value) (n : Nat) (xs : List Value) (hs : a.eval s = v) (hown : w.ownsRow base e size v n xs)
    (ad : Addr) (m c : Nat) (news : List Value) (hx : a.eval x = .slice (some ad) m c) (hl : news.length = m * size) (hnews : ∀ j u, news[j]? = some u → w.cell? (ad.add j) = some u) (h1 : ∀ u ∈ news, u.oneCell' = true)
    (hm : 0 < m) (h63 : n + m ≤ maxLen) (hbytes : (n + m) * bytes ≤ 140737488355328) (hbase : base ≤ w.heap.size)
    (h : ∀ v' w', w'.ownsRow base e size v' (n + m) (xs ++ news) → w.grownBy w' v.ownBlock → w'.ownsRow base e size v n xs → K (a.put o.dst v') w') : o.wp P a w K Q := by
  obtain ⟨v', w', hr, h2, h3, h4⟩ := run_append_keep (P := P) w t o.type base e i z size bytes ht hi hz hsize hby hzs hsz v n xs hown ad m c news hl hnews h1 hm h63 hbytes hbase
  unfold Oper.wp execOp
  simp only [ho, resolve, invoke, builtin, Sem.run_bind, Sem.run_pure, Result.andThen_ok, List.map_toArray, List.map_cons, List.map_nil, hs, hx, hr]
  exact h v' w' h2 h3 h4
end
theorem info_Step : (Try.prog.info? 55).map (fun i => (i.zero, i.size, i.bytes)) = some (some (.agg #[.string ⟨#[]⟩, .string ⟨#[]⟩, .string ⟨#[]⟩, .int .i64 0, .int .i64 0, .int .i64 0]), 6, 72) := by kernel_rfl
theorem cells_len (l : List StepD) : (l.flatMap StepD.cells).length = l.length * 6 := by
  induction l with
  | nil => rfl
  | cons s l ih => rw [List.flatMap_cons, List.length_append, ih]; simp [StepD.cells]; omega
theorem cells_at (l : List StepD) : ∀ (i : Nat) (s : StepD), l[i]? = some s → ∀ j u, s.cells[j]? = some u → (l.flatMap StepD.cells)[i * 6 + j]? = some u := by
  induction l with
  | nil => intro i s h; cases h
  | cons x l ih =>
    intro i s h j u hu
    rw [List.flatMap_cons]
    cases i with
    | zero =>
      simp at h
      subst h
      rw [List.getElem?_append_left]
      · simpa using hu
      · simp; exact (List.getElem?_eq_some_iff.1 hu).1
    | succ i =>
      rw [List.getElem?_append_right (by simp [StepD.cells]; omega)]
      rw [show (i + 1) * 6 + j - x.cells.length = i * 6 + j from by simp [StepD.cells]; omega]
      exact ih i s (by simpa using h) j u hu
theorem rowAt_own {W : World} {base : Nat} {e : TypeId} {b n cap : Nat} {l : List StepD} (h : W.ownsRow base e 6 (.slice (some ⟨b, 0, none⟩) n cap) l.length (l.flatMap StepD.cells)) : RowAt W (some ⟨b, 0, none⟩) 6 StepD.cells l := by
  intro i s hs
  refine ⟨b, 0, rfl, fun j u hu => ?_⟩
  have := h.cells (g := b) rfl _ _ (cells_at l i s hs j u hu)
  rw [show (⟨b, 0, none⟩ : Addr).add (i * 6 + j) = ⟨b, 0 + i * 6 + j, none⟩ from by unfold Addr.add; split <;> simp_all] at this
  exact this
end Go.Proofs.Ytlbiocfpkpcdhaa
