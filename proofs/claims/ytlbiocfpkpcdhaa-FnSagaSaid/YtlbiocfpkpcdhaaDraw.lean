import Derived.Test.YtlbiocfpkpcdhaaBlock
import Derived.Test.YtlbiocfpkpcdhaaDefs
import Derived.RegionTactic
import Derived.BigRegion
namespace Go.Proofs.Ytlbiocfpkpcdhaa
open Go.RowKit
set_option linter.unusedSimpArgs false
set_option linter.unusedVariables false
/-- Block g is a source of draws. -/
structure SrcIn (w : World) (g : Nat) (A : Option Addr) (cap : Nat) (bs : List UInt8) (a m z : Int) : Prop where
  blk : w.heap[g]? = some (.cells #[.slice A bs.length cap, .int .i64 a, .int .u64 m, .int .i64 z] 147)
  row : RowAt w A 1 byteC bs
  len : bs.length ≤ 1048576
  cap : bs.length ≤ cap
  a0 : 0 ≤ a
  a1 : a ≤ bs.length
  apart : ∀ x, A = some x → x.block < g
def SrcAt (w : World) (g : Nat) : Prop := ∃ A cap bs a m z, SrcIn w g A cap bs a m z
theorem SrcIn.facts {w : World} {g : Nat} {A : Option Addr} {cap : Nat} {bs : List UInt8} {a m z : Int} (h : SrcIn w g A cap bs a m z) :
    g < w.heap.size ∧ (∀ j, w.frozen? ⟨g, j, none⟩ = false) ∧ w.cell? ⟨g, 0, none⟩ = some (.slice A bs.length cap) ∧ w.cell? ⟨g, 1, none⟩ = some (.int .i64 a) ∧ w.cell? ⟨g, 2, none⟩ = some (.int .u64 m) ∧ w.cell? ⟨g, 3, none⟩ = some (.int .i64 z) := by
  have hc : ∀ j, w.cell? ⟨g, j, none⟩ = (#[.slice A bs.length cap, .int .i64 a, .int .u64 m, .int .i64 z] : Array Value)[j]? := fun j => by
    unfold World.cell?
    simp only [h.blk]
    rfl
  refine ⟨blk_lt h.blk, fun j => ?_, hc 0, hc 1, hc 2, hc 3⟩
  unfold World.frozen?
  simp only [h.blk]
  simp
theorem SrcIn.setCell {w : World} {g j : Nat} {A : Option Addr} {cap : Nat} {bs : List UInt8} {a m z a' m' z' : Int} {v : Value} (h : SrcIn w g A cap bs a m z) (h0 : 0 ≤ a') (h1 : a' ≤ bs.length)
    (hv : (#[.slice A bs.length cap, .int .i64 a, .int .u64 m, .int .i64 z] : Array Value).setIfInBounds j v = #[.slice A bs.length cap, .int .i64 a', .int .u64 m', .int .i64 z']) : SrcIn (w.setCell ⟨g, j, none⟩ v) g A cap bs a' m' z' := by
  rw [setCell_known h.blk, hv]
  refine ⟨withBlock_heap (blk_lt h.blk), ?_, h.len, h.cap, h0, h1, h.apart⟩
  intro i x hx
  obtain ⟨b, o, hA, hc⟩ := h.row i x hx
  refine ⟨b, o, hA, fun j u hu => ?_⟩
  rw [withBlock_cell_ne (Nat.ne_of_lt (h.apart _ hA))]
  exact hc j u hu
theorem SrcIn.drew {w : World} {g : Nat} {A : Option Addr} {cap : Nat} {bs : List UInt8} {a m z : Int} (h : SrcIn w g A cap bs a m z) : SrcIn w.drew g A cap bs a m z := ⟨h.blk, h.row, h.len, h.cap, h.a0, h.a1, h.apart⟩
theorem SrcIn.drewN {w : World} {g : Nat} {A : Option Addr} {cap : Nat} {bs : List UInt8} {a m z : Int} (h : SrcIn w g A cap bs a m z) (n : Nat) : SrcIn (w.drewN n) g A cap bs a m z := ⟨h.blk, h.row, h.len, h.cap, h.a0, h.a1, h.apart⟩
theorem u64_wrap_ge (x : Int) : 0 ≤ IntKind.u64.wrap x := by unfold IntKind.wrap; simp [IntKind.signed, IntKind.bits]; omega
theorem draw_bound {x most : Int} (h : 0 ≤ x) (h1 : 1 < most) (h2 : most ≤ 9223372036854775807) : 0 ≤ wrap64 (x.tmod most) ∧ wrap64 (x.tmod most) < most := by
  rw [Int.tmod_eq_emod_of_nonneg h]
  have a := Int.emod_nonneg x (show most ≠ 0 by omega)
  have b := Int.emod_lt_of_pos x (show 0 < most by omega)
  rw [IntWalk.wrap64_in _ ⟨by omega, by omega⟩]
  exact ⟨a, b⟩
/-- what a draw of a number says: the number meets p, the source is one still, and nothing else has turned -/
def DrewInt (p : Int → Prop) (g : Nat) (w : World) (e : Ending) (w' : World) : Prop := ∃ r : Int, p r ∧ e = .returned (.int .i64 r) ∧ SrcAt w' g ∧ w.grownBy w' (some g)
set_option maxRecDepth 100000 in
set_option maxHeartbeats 2000000 in
theorem n_any (g : Nat) (most : Int) (w : World) (h : SrcAt w g) (hm : most ≤ 9223372036854775807) :
    Calls Try.prog 61 #[.pointer (some ⟨g, 0, none⟩), .int .i64 most] w (DrewInt (fun r => 0 ≤ r ∧ (1 ≤ most → r < most)) g w) := by
  have HS := Lib.hid h
  obtain ⟨A, cap, bs, a, m, z, hs⟩ := h
  obtain ⟨hgl, hfr, g0, g1, g2, g3⟩ := hs.facts
  have hlen := hs.len
  have ha0 := hs.a0
  have ha1 := hs.a1
  have HI := Lib.hid hs
  clear hs
  by_cases hm1 : most ≤ 1
  · go_enter Try.func61, Try.ntmps61
    go_wp2
    go_ret
    exact ⟨0, ⟨by omega, by omega⟩, rfl, HS.out, ⟨rfl, rfl, rfl, Nat.le_refl _, fun _ _ _ => rfl⟩⟩
  · by_cases hlt : a < bs.length
    · obtain ⟨k, rfl⟩ := Int.eq_ofNat_of_zero_le ha0
      have hk : k < bs.length := by omega
      obtain ⟨b, o, rfl, hc⟩ := HI.out.row k bs[k] (List.getElem?_eq_getElem hk)
      have c0 := hc 0 _ rfl
      simp only [Nat.mul_one, Nat.add_zero] at c0
      have hbl : b < w.heap.size := World.block_lt_of_cell? w _ c0
      have hbg : b ≠ g := Nat.ne_of_lt (HI.out.apart _ rfl)
      clear hc
      go_enter Try.func61, Try.ntmps61
      go_wp2
      go_quiet (fail)
      go_wp2
      go_quiet (fail)
      go_wp2
      refine wpNamed (fun W => (∃ m', SrcIn W g (some ⟨b, o, none⟩) cap bs (k + 1) m' z) ∧ w.grownBy W (some g)) ⟨⟨m, (HI.out.drewN _).setCell (by omega) (by omega) rfl⟩, grown_set (grown_drewN (grown_refl _ _) _)⟩ ?_
      rintro W ⟨⟨m1, hs1⟩, hg1⟩
      have HS1 := Lib.hid hs1
      have HG1 := Lib.hid hg1
      obtain ⟨hgl1, hfr1, -, -, q1, -⟩ := hs1.facts
      clear hs1 hg1 c0 hfr g0 g1 g2 g3
      go_region
      refine wpNamedK (fun W' => (∃ m', SrcIn W' g (some ⟨b, o, none⟩) cap bs (k + 1) m' z) ∧ w.grownBy W' (some g)) ⟨⟨_, (HS1.out.setCell (by omega) (by omega) rfl).drew⟩, grown_drew (grown_set HG1.out)⟩ ?_
      rintro W2 ⟨⟨m2, hs2⟩, hg2⟩
      have HS2 := Lib.hid hs2
      have HG2 := Lib.hid hg2
      obtain ⟨hgl2, hfr2, -, -, q2, -⟩ := hs2.facts
      clear hs2 hg2
      clear  hfr1 hgl1
      go_wp2
      go_region
      refine wpNamedK (fun W' => (∃ m', SrcIn W' g (some ⟨b, o, none⟩) cap bs (k + 1) m' z) ∧ w.grownBy W' (some g)) ⟨⟨_, (HS2.out.setCell (by omega) (by omega) rfl).drew⟩, grown_drew (grown_set HG2.out)⟩ ?_
      rintro W3 ⟨⟨m3, hs3⟩, hg3⟩
      have HS3 := Lib.hid hs3
      have HG3 := Lib.hid hg3
      obtain ⟨hgl3, hfr3, -, -, q3, -⟩ := hs3.facts
      clear hs3 hg3
      go_wp2
      go_region
      refine wpNamedK (fun W' => (∃ m', SrcIn W' g (some ⟨b, o, none⟩) cap bs (k + 1) m' z) ∧ w.grownBy W' (some g)) ⟨⟨_, (HS3.out.setCell (by omega) (by omega) rfl).drew⟩, grown_drew (grown_set HG3.out)⟩ ?_
      rintro W4 ⟨⟨m4, hs4⟩, hg4⟩
      have HS4 := Lib.hid hs4
      have HG4 := Lib.hid hg4
      obtain ⟨hgl4, hfr4, -, -, q4, -⟩ := hs4.facts
      clear hs4 hg4
      go_wp2
      go_ret
      have hb4 := draw_bound (u64_wrap_ge (IntKind.u64.wrap bs[k].toNat + m4 / 1048576)) (show 1 < most by omega) hm
      exact ⟨_, ⟨hb4.1, fun _ => hb4.2⟩, rfl, ⟨_, _, _, _, _, _, HS4.out⟩, HG4.out⟩
    · go_enter Try.func61, Try.ntmps61
      go_wp2
      go_quiet (fail)
      go_wp2
      refine wpNamed (fun W => (∃ m', SrcIn W g A cap bs a m' z) ∧ w.grownBy W (some g)) ⟨⟨m, HI.out.drewN _⟩, grown_drewN (grown_refl _ _) _⟩ ?_
      rintro W ⟨⟨m1, hs1⟩, hg1⟩
      have HS1 := Lib.hid hs1
      have HG1 := Lib.hid hg1
      obtain ⟨hgl1, hfr1, -, -, q1, -⟩ := hs1.facts
      clear hs1 hg1 hfr g0 g1 g2 g3
      go_region
      refine wpNamedK (fun W' => (∃ m', SrcIn W' g A cap bs a m' z) ∧ w.grownBy W' (some g)) ⟨⟨_, (HS1.out.setCell (by omega) (by omega) rfl).drew⟩, grown_drew (grown_set HG1.out)⟩ ?_
      rintro W2 ⟨⟨m2, hs2⟩, hg2⟩
      have HS2 := Lib.hid hs2
      have HG2 := Lib.hid hg2
      obtain ⟨hgl2, hfr2, -, -, q2, -⟩ := hs2.facts
      clear hs2 hg2
      clear  hfr1 hgl1
      go_wp2
      go_region
      refine wpNamedK (fun W' => (∃ m', SrcIn W' g A cap bs a m' z) ∧ w.grownBy W' (some g)) ⟨⟨_, (HS2.out.setCell (by omega) (by omega) rfl).drew⟩, grown_drew (grown_set HG2.out)⟩ ?_
      rintro W3 ⟨⟨m3, hs3⟩, hg3⟩
      have HS3 := Lib.hid hs3
      have HG3 := Lib.hid hg3
      obtain ⟨hgl3, hfr3, -, -, q3, -⟩ := hs3.facts
      clear hs3 hg3
      go_wp2
      go_region
      refine wpNamedK (fun W' => (∃ m', SrcIn W' g A cap bs a m' z) ∧ w.grownBy W' (some g)) ⟨⟨_, (HS3.out.setCell (by omega) (by omega) rfl).drew⟩, grown_drew (grown_set HG3.out)⟩ ?_
      rintro W4 ⟨⟨m4, hs4⟩, hg4⟩
      have HS4 := Lib.hid hs4
      have HG4 := Lib.hid hg4
      obtain ⟨hgl4, hfr4, -, -, q4, -⟩ := hs4.facts
      clear hs4 hg4
      go_wp2
      go_ret
      have hb4 := draw_bound (u64_wrap_ge (m4 / 1048576)) (show 1 < most by omega) hm
      exact ⟨_, ⟨hb4.1, fun _ => hb4.2⟩, rfl, ⟨_, _, _, _, _, _, HS4.out⟩, HG4.out⟩

def DrewBool (g : Nat) (w : World) (e : Ending) (w' : World) : Prop := ∃ r : Bool, e = .returned (.bool r) ∧ SrcAt w' g ∧ w.grownBy w' (some g)
def DrewStr (p : ByteArray → Prop) (g : Nat) (w : World) (e : Ending) (w' : World) : Prop := ∃ r : ByteArray, p r ∧ e = .returned (.string r) ∧ SrcAt w' g ∧ w.grownBy w' (some g)
theorem one_any (g : Nat) (n : Int) (w : World) (h : SrcAt w g) (hm : n ≤ 9223372036854775807) :
    Calls Try.prog 59 #[.pointer (some ⟨g, 0, none⟩), .int .i64 n] w (DrewBool g w) := by
  have HS := Lib.hid h
  clear h
  go_enter Try.func59, Try.ntmps59
  go_wp2_with fail
  refine (n_any g n w HS.out hm).mono ?_
  rintro e w1 ⟨r, hp, rfl, hs, hg⟩
  have HS1 := Lib.hid hs
  have HG1 := Lib.hid hg
  clear hs hg hp
  go_wp2
  go_ret
  exact ⟨_, rfl, HS1.out, HG1.out⟩
/-- A row of strings is handed in; one of them comes back. -/
theorem pick_any (g : Nat) (l : List ByteArray) (A : Option Addr) (cap : Nat) (w : World) (h : SrcAt w g) (hl : 1 ≤ l.length) (hl2 : l.length ≤ 1000) (hA : RowAt w A 1 (fun s => [.string s]) l) (hne : ∀ x, A = some x → x.block ≠ g) :
    Calls Try.prog 124 #[.pointer (some ⟨g, 0, none⟩), .slice A l.length cap] w (DrewStr (fun s => s ∈ l) g w) := by
  have HS := Lib.hid h
  have HA := Lib.hid hA
  have HN := Lib.hid hne
  clear h hA hne
  go_enter Try.func124, Try.ntmps124
  go_wp2_with fail
  refine (n_any g l.length w HS.out (by omega)).mono ?_
  rintro e w1 ⟨r, ⟨hr0, hr1⟩, rfl, hs, hg⟩
  have HS1 := Lib.hid hs
  have HG1 := Lib.hid hg
  have hr2 := hr1 (by omega)
  clear hs hg hr1
  obtain ⟨k, rfl⟩ := Int.eq_ofNat_of_zero_le hr0
  have hk : k < l.length := by omega
  obtain ⟨b, o, rfl, hc⟩ := (HA.out.grown HG1.out (fun x hx => by simpa using HN.out x hx)) k l[k] (List.getElem?_eq_getElem hk)
  have c0 := hc 0 _ rfl
  simp only [Nat.mul_one, Nat.add_zero] at c0
  clear hc
  go_wp2
  go_ret
  exact ⟨_, List.getElem_mem hk, rfl, HS1.out, HG1.out⟩
end Go.Proofs.Ytlbiocfpkpcdhaa
