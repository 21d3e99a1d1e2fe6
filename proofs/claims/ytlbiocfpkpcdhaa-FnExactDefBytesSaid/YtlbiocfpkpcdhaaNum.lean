import Derived.Test.YtlbiocfpkpcdhaaGen
import Derived.Maps.AppendAt
import Derived.Lib.Strings
import Derived.Laws.Bits64
import Derived.Laws.BitsLemmas
namespace Go.Proofs.Ytlbiocfpkpcdhaa
open Go.RowKit
set_option linter.unusedSimpArgs false
set_option linter.unusedVariables false
/-! numbers and texts in bytes -/
def fold (n : Int) : Nat := if n < 0 then (2 * -(n + 1) + 1).toNat else (2 * n).toNat
def numB (u : Nat) : List Int := if h : u < 128 then [(u : Int)] else ((u % 128 + 128 : Nat) : Int) :: numB (u / 128)
termination_by u
decreasing_by omega
theorem numB_lt {u : Nat} (h : u < 128) : numB u = [(u : Int)] := by rw [numB, dif_pos h]
theorem numB_ge {u : Nat} (h : ¬ u < 128) : numB u = ((u % 128 + 128 : Nat) : Int) :: numB (u / 128) := by rw [numB, dif_neg h]
theorem numB_len : ∀ (k u : Nat), u < 128 ^ (k + 1) → (numB u).length ≤ k + 1
  | 0, u, h => by rw [numB_lt (by simpa using h)]; simp
  | k + 1, u, h => by
    by_cases hu : u < 128
    · rw [numB_lt hu]; simp
    · rw [numB_ge hu]
      have := numB_len k (u / 128) (by rw [Nat.div_lt_iff_lt_mul (by omega)]; rw [Nat.pow_succ] at h; exact h)
      simp only [List.length_cons]; omega
theorem numB_len10 {u : Nat} (h : u < 18446744073709551616) : (numB u).length ≤ 10 := numB_len 9 u (by omega)
theorem numB_ne (u : Nat) : numB u ≠ [] := by
  by_cases h : u < 128
  · rw [numB_lt h]; simp
  · rw [numB_ge h]; simp
theorem fold_lt {n : Int} (h0 : -9223372036854775808 ≤ n) (h1 : n ≤ 9223372036854775807) : fold n < 18446744073709551616 := by unfold fold; split <;> omega
/-- the bytes of a number -/
def putNum (n : Int) : ByteArray := strOfNums (numB (fold n))
/-- the bytes of a text -/
def putText (t : ByteArray) : ByteArray := if 20000 < t.size then ⟨#[]⟩ else putNum t.size ++ t
theorem putNum_size {n : Int} (h0 : -9223372036854775808 ≤ n) (h1 : n ≤ 9223372036854775807) : (putNum n).size ≤ 10 := by
  unfold putNum
  rw [strOfNums_size]
  exact numB_len10 (fold_lt h0 h1)
theorem putText_size {t : ByteArray} : (putText t).size ≤ 20010 := by
  unfold putText
  split
  · exact Nat.zero_le _
  · rename_i h
    have := putNum_size (n := (t.size : Int)) (by omega) (by omega)
    rw [ByteArray.size_append]; omega
theorem info_byte' : (Try.prog.info? 5).map (fun i => (i.zero, i.size, i.bytes)) = some (some (.int .u8 0), 1, 1) := by kernel_rfl
theorem conv_row {W : World} {base : Nat} {v : Value} {l : List Int} (h : W.ownsRow base 5 1 v l.length (l.map (Value.int .u8))) (hl : l ≠ []) : (convert 33 9 v).run Try.prog W = .ok (.string (strOfNums l)) W := by
  rcases h.2 with ⟨_, h0⟩ | ⟨b, cap, cur, rfl, hb, hh, hc, _⟩
  · exact absurd (List.eq_nil_of_length_eq_zero h0) hl
  · refine run_convert_bytes_arg (P := Try.prog) W 33 5 Try.underlying33 Try.underlying5 b 0 l.length cap l rfl (fun k hk => ?_) 9 Try.underlying9
    have := h.cells (g := b) rfl k (.int .u8 l[k]) (by simp [hk])
    rw [show (⟨b, 0, none⟩ : Addr).add k = ⟨b, 0 + k, none⟩ from by unfold Addr.add; split <;> simp_all] at this
    rw [this]
    simp [hk]
set_option maxRecDepth 100000 in
theorem foldS_any (n : Int) (w : World) (h0 : -9223372036854775808 ≤ n) (h1 : n ≤ 9223372036854775807) :
    Calls Try.prog 120 #[.int .i64 n] w fun e w' => e = .returned (.int .u64 (fold n)) ∧ w = w' := by
  by_cases hn : n < 0
  · go_enter Try.func120, Try.ntmps120
    go_wp2
    go_ret
    exact ⟨ret_int (by unfold fold; rw [if_pos hn]; omega), rfl⟩
  · go_enter Try.func120, Try.ntmps120
    go_wp2
    go_ret
    exact ⟨ret_int (by unfold fold; rw [if_neg (by omega)]; omega), rfl⟩
/-- one byte's cell, new -/
theorem byte_new {W : World} (c : Int) (j : Nat) (u : Value) (hj : ([Value.int .u8 c])[j]? = some u) : (W.alloc (.cells #[.int .u8 c] 5)).cell? ((⟨W.heap.size, 0, none⟩ : Addr).add j) = some u := by
  match j, hj with
  | 0, hj =>
    simp only [List.getElem?_cons_zero, Option.some.injEq] at hj
    subst hj
    go_simp
  | j + 1, hj => simp at hj
def Num (l : List Int) (w : World) (x : Nat) (v : Value) (wr : World) : Prop := ∃ acc : List Int, acc ++ numB x = l ∧ x < 18446744073709551616 ∧ wr.ownsRow w.heap.size 5 1 v acc.length (acc.map (Value.int .u8)) ∧ Below w.heap.size w wr
theorem grown_own {w wr W' : World} {v : Value} {l : List Value} {n : Nat} {o : Obj} (hb : Below w.heap.size w wr) (ho : wr.ownsRow w.heap.size 5 1 v n l) (hg : (wr.alloc o).grownBy W' v.ownBlock) : Below w.heap.size w W' := by
  refine grown_below ?_
  refine ⟨hg.os.trans hb.os, hg.tape.trans hb.tape, hg.output.trans hb.output, ?_, fun k hk _ => ?_⟩
  · have := hg.size; have := hb.size; simp at *; omega
  · have hs := hb.size
    refine (hg.block k (by simp; omega) ?_).trans ((Below.heap_alloc wr o k (by omega)).trans (hb.block k hk))
    intro he
    have := (ho.lt k he.symm).1
    omega
set_option maxRecDepth 100000 in
set_option maxHeartbeats 1000000 in
theorem putNumS_any (n : Int) (w : World) (h0 : -9223372036854775808 ≤ n) (h1 : n ≤ 9223372036854775807) :
    Calls Try.prog 50 #[.int .i64 n] w fun e w' => e = .returned (.string (putNum n)) ∧ Below w.heap.size w w' := by
  obtain ⟨i0, hi, hz0, hz1, hz2⟩ := info_parts info_byte'
  have hfl := fold_lt h0 h1
  have hlen := numB_len10 hfl
  obtain ⟨l, hl⟩ : ∃ l, numB (fold n) = l := ⟨_, rfl⟩
  have HPN := Lib.hid (show putNum n = strOfNums l from by unfold putNum; rw [hl])
  have hne : l ≠ [] := by rw [← hl]; exact numB_ne _
  rw [hl] at hlen
  have HL := Lib.hid hl
  clear hl
  go_enter Try.func50, Try.ntmps50
  go_wp2_with (go_at_call 120; refine (foldS_any _ _ (by omega) (by omega)).mono ?_; rintro e w' ⟨rfl, rfl⟩)
  obtain ⟨x0, hx0⟩ : ∃ x, fold n = x := ⟨_, rfl⟩
  rw [hx0] at HL hfl ⊢
  have HN := Lib.hid (show Num l w x0 (.slice (some ⟨w.heap.size, 0, none⟩) 0 0) (w.alloc (.cells #[] 5)) from ⟨[], HL.out, hfl, by simpa using World.ownsRow_made (base := w.heap.size) (e := 5) (size := 1) w #[] 0 (Nat.le_refl _) (by simp [maxLen]) rfl, bel1 _⟩)
  clear hfl HL hx0
  go_loopw [3, 4] (fun u v wr => ∃ x : Nat, u = .int .u64 x ∧ Num l w x v wr) (fun u v wr => (intOf u).toNat)
  case atStart => exact ⟨x0, rfl, HN.out⟩
  case round =>
    obtain ⟨x, rfl, acc, hacc, hx, hown, hb⟩ := hrel
    have HB := Lib.hid hb
    have HO := Lib.hid hown
    have HA := Lib.hid hacc
    have hal : acc.length ≤ 10 := by rw [← hacc] at hlen; simp at hlen; omega
    clear hacc hown hb HN
    by_cases hlt : x < 128
    · have HA2 := Lib.hid (show acc ++ [(x : Int)] = l from by rw [← HA.out, numB_lt hlt])
      have hs := HB.out.size
      go_wp2_with ((at_builtin; refine wpList_append_own _ rfl _ _ 33 rfl w.heap.size 5 i0 (.int .u8 0) 1 1 Try.underlying33 hi hz0 hz1 hz2 rfl (by decide) _ _ _ rfl (HO.out.alloc _) ⟨wr.heap.size, 0, none⟩ 1 1 [.int .u8 x] rfl rfl ?c1 ?c2 ?c3 ?c4 ?c5 ?_))
      case c1 => exact byte_new _
      case c2 => intro u hu; simp only [List.mem_singleton] at hu; subst hu; rfl
      case c3 => simp only [maxLen]; omega
      case c4 => omega
      case c5 => simp; omega
      intro v' wn hown' hgrow _
      have hB2 := grown_own HB.out HO.out hgrow
      have hcv := conv_row (W := wn) (v := v') (l := acc ++ [(x : Int)]) (by simpa using hown') (by simp)
      rw [HA2.out] at hcv
      have HBN := Lib.hid hB2
      clear hown' hgrow hB2
      go_wp2_with fail
      go_ret
      refine ⟨?_, HBN.out⟩
      rw [HPN.out]
      rfl
    · have HA2 := Lib.hid (show (acc ++ [((x % 128 + 128 : Nat) : Int)]) ++ numB (x / 128) = l from by rw [← HA.out, numB_ge hlt]; simp)
      have hs := HB.out.size
      have hsum : IntKind.u64.wrap ((x : Int) % 128 + 128) = (x : Int) % 128 + 128 := by simp [IntKind.wrap, IntKind.bits, IntKind.signed]; omega
      have hby : IntKind.u8.wrap ((x : Int) % 128 + 128) = (x : Int) % 128 + 128 := by simp [IntKind.wrap, IntKind.bits, IntKind.signed]; omega
      have hq : IntKind.u64.wrap ((x : Int).tdiv 128) = ((x / 128 : Nat) : Int) := by rw [Int.tdiv_eq_ediv_of_nonneg (by omega)]; simp [IntKind.wrap, IntKind.bits, IntKind.signed]; omega
      go_wp2_with ((at_builtin; refine wpList_append_own _ rfl _ _ 33 rfl w.heap.size 5 i0 (.int .u8 0) 1 1 Try.underlying33 hi hz0 hz1 hz2 rfl (by decide) _ _ _ rfl (HO.out.alloc _) ⟨wr.heap.size, 0, none⟩ 1 1 [.int .u8 ((x : Int) % 128 + 128)] rfl rfl ?c1 ?c2 ?c3 ?c4 ?c5 ?_))
      case c1 => exact byte_new _
      case c2 => intro u hu; simp only [List.mem_singleton] at hu; subst hu; rfl
      case c3 => simp only [maxLen]; omega
      case c4 => omega
      case c5 => simp; omega
      intro v' wn hown' hgrow _
      have hB2 := grown_own HB.out HO.out hgrow
      have HN := Lib.hid (show Num l w (x / 128) v' wn from ⟨acc ++ [((x % 128 + 128 : Nat) : Int)], HA2.out, by omega, by simpa using hown', hB2⟩)
      clear hown' hgrow hB2
      go_wp2_with fail
      go_roundw
      case rel => exact ⟨x / 128, rfl, HN.out⟩
      case measure => simp [intOf] <;> omega
theorem xor_ones {a : Nat} (h : a < 18446744073709551616) : a ^^^ 18446744073709551615 = 18446744073709551615 - a := by
  apply Nat.eq_of_testBit_eq
  intro i
  rw [Nat.testBit_xor]
  have h1 : (18446744073709551615 : Nat).testBit i = decide (i < 64) := by
    have := Nat.testBit_two_pow_sub_one 64 i
    simpa using this
  have h2 : (18446744073709551615 - a).testBit i = (decide (i < 64) && !a.testBit i) := by
    have := Nat.testBit_two_pow_sub_succ (n := 64) (x := a) (by simpa using h) i
    rw [← this]
    congr 1
    omega
  rw [h1, h2]
  by_cases hi : i < 64
  · simp [hi]
  · have : a.testBit i = false := Nat.testBit_lt_two_pow (Nat.lt_of_lt_of_le h (by have := Nat.pow_le_pow_right (n := 2) (by omega) (show 64 ≤ i by omega); simpa using this))
    simp [hi, this]
theorem foldI {n : Int} (h0 : -9223372036854775808 ≤ n) (h1 : n ≤ 9223372036854775807) : bits .xor .u64 (IntKind.u64.wrap (IntKind.u64.wrap n * 2)) (IntKind.u64.wrap (n / 9223372036854775808)) = (fold n : Int) := by
  have hw : ∀ m : Int, IntKind.u64.wrap m = m % 18446744073709551616 := fun m => by simp [IntKind.wrap, IntKind.bits, IntKind.signed]
  unfold fold
  by_cases hn : n < 0
  · rw [if_pos hn, hw, hw, hw]
    have e1 : (n % 18446744073709551616 * 2) % 18446744073709551616 = (((2 * n + 18446744073709551616).toNat : Nat) : Int) := by omega
    have e2 : (n / 9223372036854775808) % 18446744073709551616 = ((18446744073709551615 : Nat) : Int) := by omega
    rw [e1, e2, bits_xor_u64_nat _ _ (by omega) (by omega), xor_ones (by omega)]
    omega
  · rw [if_neg hn, hw, hw, hw]
    have e1 : (n % 18446744073709551616 * 2) % 18446744073709551616 = (((2 * n).toNat : Nat) : Int) := by omega
    have e2 : (n / 9223372036854775808) % 18446744073709551616 = ((0 : Nat) : Int) := by omega
    rw [e1, e2, bits_xor_u64_nat _ _ (by omega) (by omega), Nat.xor_zero]
set_option maxRecDepth 100000 in
theorem or128_nat : ∀ a : Fin 256, a.val ||| 128 = a.val % 128 + 128 := by decide
theorem or128 (x : Nat) : bits .or .u8 ((x : Int) % 256) 128 = ((x % 128 + 128 : Nat) : Int) := by
  have hw : (x : Int) % 256 = ((x % 256 : Nat) : Int) := by omega
  rw [hw]
  have := (bits_nat .u8 8 (by decide) wraps_u8 (x % 256) 128 (by omega) (by omega))
  have h2 := or128_nat ⟨x % 256, by omega⟩
  simp only at h2
  first
    | (rw [show (128 : Int) = ((128 : Nat) : Int) from rfl, this.2.1]; rw [h2]; omega)
    | (rw [show (128 : Int) = ((128 : Nat) : Int) from rfl, this.1]; rw [h2]; omega)
    | (rw [show (128 : Int) = ((128 : Nat) : Int) from rfl, this.2]; rw [h2]; omega)
set_option maxRecDepth 100000 in
set_option maxHeartbeats 1000000 in
theorem putNumI_any (n : Int) (w : World) (h0 : -9223372036854775808 ≤ n) (h1 : n ≤ 9223372036854775807) :
    Calls Try.prog 54 #[.int .i64 n] w fun e w' => e = .returned (.string (putNum n)) ∧ Below w.heap.size w w' := by
  obtain ⟨i0, hi, hz0, hz1, hz2⟩ := info_parts info_byte'
  have hfl := fold_lt h0 h1
  have hlen := numB_len10 hfl
  obtain ⟨l, hl⟩ : ∃ l, numB (fold n) = l := ⟨_, rfl⟩
  have HPN := Lib.hid (show putNum n = strOfNums l from by unfold putNum; rw [hl])
  have hne : l ≠ [] := by rw [← hl]; exact numB_ne _
  rw [hl] at hlen
  have HL := Lib.hid hl
  clear hl
  go_enter Try.func54, Try.ntmps54
  have hfi := foldI h0 h1
  go_wp2
  obtain ⟨x0, hx0⟩ : ∃ x, fold n = x := ⟨_, rfl⟩
  rw [hx0] at HL hfl ⊢
  have HN := Lib.hid (show Num l w x0 (.slice (some ⟨w.heap.size, 0, none⟩) 0 0) (w.alloc (.cells #[] 5)) from ⟨[], HL.out, hfl, by simpa using World.ownsRow_made (base := w.heap.size) (e := 5) (size := 1) w #[] 0 (Nat.le_refl _) (by simp [maxLen]) rfl, bel1 _⟩)
  clear hfl HL hx0
  go_loopw [3, 4] (fun u v wr => ∃ x : Nat, u = .int .u64 x ∧ Num l w x v wr) (fun u v wr => (intOf u).toNat)
  case atStart => exact ⟨x0, rfl, HN.out⟩
  case round =>
    obtain ⟨x, rfl, acc, hacc, hx, hown, hb⟩ := hrel
    have HB := Lib.hid hb
    have HO := Lib.hid hown
    have HA := Lib.hid hacc
    have hal : acc.length ≤ 10 := by rw [← hacc] at hlen; simp at hlen; omega
    clear hacc hown hb HN
    by_cases hlt : x < 128
    · have HA2 := Lib.hid (show acc ++ [(x : Int)] = l from by rw [← HA.out, numB_lt hlt])
      have hs := HB.out.size
      have hcx : IntKind.u8.wrap (x : Int) = (x : Int) := by simp [IntKind.wrap, IntKind.bits, IntKind.signed]; omega
      go_wp2_with ((at_builtin; refine wpList_append_own _ rfl _ _ 33 rfl w.heap.size 5 i0 (.int .u8 0) 1 1 Try.underlying33 hi hz0 hz1 hz2 rfl (by decide) _ _ _ rfl (HO.out.alloc _) ⟨wr.heap.size, 0, none⟩ 1 1 [.int .u8 x] rfl rfl ?c1 ?c2 ?c3 ?c4 ?c5 ?_))
      case c1 => exact byte_new _
      case c2 => intro u hu; simp only [List.mem_singleton] at hu; subst hu; rfl
      case c3 => simp only [maxLen]; omega
      case c4 => omega
      case c5 => simp; omega
      intro v' wn hown' hgrow _
      have hB2 := grown_own HB.out HO.out hgrow
      have hcv := conv_row (W := wn) (v := v') (l := acc ++ [(x : Int)]) (by simpa using hown') (by simp)
      rw [HA2.out] at hcv
      have HBN := Lib.hid hB2
      clear hown' hgrow hB2
      go_wp2_with fail
      go_ret
      refine ⟨?_, HBN.out⟩
      rw [HPN.out]
      rfl
    · have HA2 := Lib.hid (show (acc ++ [((x % 128 + 128 : Nat) : Int)]) ++ numB (x / 128) = l from by rw [← HA.out, numB_ge hlt]; simp)
      have hs := HB.out.size
      have hor : bits .or .u8 ((x : Int) % 256) 128 = ((x % 128 + 128 : Nat) : Int) := or128 x
      have hq : (x : Int).fdiv (2 ^ min (Int.toNat 7) IntKind.u64.bits) = ((x / 128 : Nat) : Int) := by
        rw [show (2 : Int) ^ min (Int.toNat 7) IntKind.u64.bits = 128 from by decide, Int.fdiv_eq_ediv_of_nonneg _ (by omega)]
        omega
      go_wp2_with ((at_builtin; refine wpList_append_own _ rfl _ _ 33 rfl w.heap.size 5 i0 (.int .u8 0) 1 1 Try.underlying33 hi hz0 hz1 hz2 rfl (by decide) _ _ _ rfl (HO.out.alloc _) ⟨wr.heap.size, 0, none⟩ 1 1 [.int .u8 ((x % 128 + 128 : Nat) : Int)] rfl rfl ?c1 ?c2 ?c3 ?c4 ?c5 ?_))
      case c1 => exact byte_new _
      case c2 => intro u hu; simp only [List.mem_singleton] at hu; subst hu; rfl
      case c3 => simp only [maxLen]; omega
      case c4 => omega
      case c5 => simp; omega
      intro v' wn hown' hgrow _
      have hB2 := grown_own HB.out HO.out hgrow
      have HN := Lib.hid (show Num l w (x / 128) v' wn from ⟨acc ++ [((x % 128 + 128 : Nat) : Int)], HA2.out, by omega, by simpa using hown', hB2⟩)
      clear hown' hgrow hB2
      go_wp2_with fail
      go_roundw
      case rel => exact ⟨x / 128, rfl, HN.out⟩
      case measure => simp [intOf] <;> omega
end Go.Proofs.Ytlbiocfpkpcdhaa
