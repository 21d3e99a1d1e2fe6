import Derived.Test.YtlbiocfpkpcdhaaNumB
import Derived.Test.YtlbiocfpkpcdhaaDefs
import Derived.Test.YtlbiocfpkpcdhaaSagaB
import Derived.Deep.RegionHeld3
import Derived.Outline
namespace Go.Proofs.Ytlbiocfpkpcdhaa
open Go.RowKit
set_option linter.unusedSimpArgs false
set_option linter.unusedVariables false
/-! a def's bytes -/
def stepB (s : StepD) : ByteArray := putText s.nm ++ putText s.dd ++ putText s.ud ++ putNum s.tr ++ putNum s.bo ++ putNum s.ti
def stepsB : List StepD → ByteArray
  | [] => ⟨#[]⟩
  | s :: l => stepB s ++ stepsB l
def defB (d : DefD) : ByteArray := if d.ok = false then ⟨#[]⟩ else putText d.nm ++ putNum d.st.length ++ stepsB d.st ++ putNum d.pv
theorem ba_assoc (a b c : ByteArray) : a ++ b ++ c = a ++ (b ++ c) := ByteArray.append_assoc
theorem ba_nil (a : ByteArray) : a ++ (⟨#[]⟩ : ByteArray) = a := ByteArray.append_empty
def stepO (s : StepD) : Obj := .cells #[.string s.nm, .string s.dd, .string s.ud, .int .i64 s.tr, .int .i64 s.bo, .int .i64 s.ti] 55
def defO' (d : DefD) (A : Option Addr) (cap : Nat) : Obj := .cells #[.string d.nm, .slice A d.st.length cap, .int .i64 d.pv] 29
theorem stepCells {r : Option Nat} {w W : World} {b : Nat} {s : StepD} {bs : List (Nat × Obj)} (h : Fr r w ((b, stepO s) :: bs) W) : W.cell? ⟨b, 0, none⟩ = some (.string s.nm) ∧ W.cell? ⟨b, 1, none⟩ = some (.string s.dd) ∧ W.cell? ⟨b, 2, none⟩ = some (.string s.ud) ∧ W.cell? ⟨b, 3, none⟩ = some (.int .i64 s.tr) ∧ W.cell? ⟨b, 4, none⟩ = some (.int .i64 s.bo) ∧ W.cell? ⟨b, 5, none⟩ = some (.int .i64 s.ti) := by
  obtain ⟨-, -, h⟩ := cells6 (h.at 0 rfl)
  exact h
theorem defCells {r : Option Nat} {w W : World} {b : Nat} {d : DefD} {A : Option Addr} {cap : Nat} {bs : List (Nat × Obj)} (h : Fr r w ((b, defO' d A cap) :: bs) W) : W.cell? ⟨b, 0, none⟩ = some (.string d.nm) ∧ W.cell? ⟨b, 1, none⟩ = some (.slice A d.st.length cap) ∧ W.cell? ⟨b, 2, none⟩ = some (.int .i64 d.pv) := by
  obtain ⟨-, -, h⟩ := cells3 (h.at 0 rfl)
  exact h
theorem step_sizes {d : DefD} (hd : d.ok = true) {k : Nat} (h : k < d.st.length) : (-9223372036854775808 ≤ d.st[k].tr ∧ d.st[k].tr ≤ 9223372036854775807) ∧ (-9223372036854775808 ≤ d.st[k].bo ∧ d.st[k].bo ≤ 9223372036854775807) ∧ (-9223372036854775808 ≤ d.st[k].ti ∧ d.st[k].ti ≤ 9223372036854775807) := by
  have := DefD.ok_nums hd k (by omega) (by omega)
  rw [stAt_eq h] at this
  omega
set_option maxRecDepth 100000 in
set_option maxHeartbeats 4000000 in
theorem defBytesS_any (d : DefD) (A : Option Addr) (cap : Nat) (w : World) (h : DefAt w d A cap) :
    Calls Try.prog 9 #[defV d A cap] w fun e w' => e = .returned (.string (defB d)) ∧ Below w.heap.size w w' := by
  have HD := Lib.hid h
  have hl := h.fit.1
  have hnm := h.nm
  have HFIT := Lib.hid h.fit.2
  clear h
  obtain ⟨u, hu⟩ : ∃ u, defB d = u := ⟨_, rfl⟩
  rw [hu]
  have HU := Lib.hid hu
  clear hu
  unfold defV
  go_enter Try.func9, Try.ntmps9
  go_wp2_with fail
  refine (specDefRight_any d A cap _ HD.out.nm HD.out.fit (HD.out.alloc _).row).mono ?_
  rintro e w1 ⟨rfl, hb⟩
  have HF := Lib.hid (((Fr.start none w).alloc (defO' d A cap) rfl).below hb)
  clear hb
  cases hd : d.ok
  · have HX := Lib.hid (show u = ⟨#[]⟩ from by rw [← HU.out]; unfold defB; rw [if_pos hd])
    clear hd
    go_wp2
    go_ret
    exact ⟨ret_val (by rw [HX.out]; rfl), HF.out.bel⟩
  · obtain ⟨-, ⟨hn1, hn2⟩, ⟨hp1, hp2⟩, -⟩ := DefD.ok_steps hd
    have HX := Lib.hid (show putText d.nm ++ putNum d.st.length ++ stepsB d.st ++ putNum d.pv = u from by rw [← HU.out]; unfold defB; rw [if_neg (by simp [hd])])
    have HSZ := Lib.hid (fun k (h : k < d.st.length) => step_sizes hd h)
    clear hd HU
    have HS := Lib.hid (defCells (HF.out.drew))
    have HFd := Lib.hid HF.out.drew
    go_wp2_with fail
    go_cut [3] (fun s3 wx => s3 = .string (putText d.nm ++ putNum d.st.length) ∧ Fr none w [(w.heap.size, defO' d A cap)] wx)
    case first =>
      have HF := HFd
      have z1 := putText_size (t := d.nm)
      have z2 := putNum_size (n := (d.st.length : Int)) (by omega) (by omega)
      have a1 := add_small (P := Try.prog) (putText d.nm) (putNum d.st.length) (by omega)
      clear z1 z2
      go_region_held3 (fun W => W.cell? ⟨w.heap.size, 0, none⟩ = some (.string d.nm) ∧ W.cell? ⟨w.heap.size, 1, none⟩ = some (.slice A d.st.length cap) ∧ W.cell? ⟨w.heap.size, 2, none⟩ = some (.int .i64 d.pv))
        (with_reducible exact HS.out)
        (first
          | (go_at_call 49; refine (putTextS_any _ _ (by assumption)).mono ?_; rintro e wn ⟨rfl, hb⟩; have HF := Lib.hid (HF.out.below hb); have HS := Lib.hid (defCells HF.out); clear hb)
          | (go_at_call 50; refine (putNumS_any _ _ (by omega) (by omega)).mono ?_; rintro e wn ⟨rfl, hb⟩; have HF := Lib.hid (HF.out.below hb); have HS := Lib.hid (defCells HF.out); clear hb))
      go_wp2_with fail
      go_meet
      exact ⟨rfl, HF.out⟩
    case rest =>
    obtain ⟨rfl, hcut⟩ := hcut
    have HF1 := Lib.hid hcut
    clear hcut HF HFd HS
    have z1 := putText_size (t := d.nm)
    have z2 := putNum_size (n := (d.st.length : Int)) (by omega) (by omega)
    go_wp2_with fail
    have h00 : (putText d.nm ++ putNum d.st.length).size ≤ 30000 + 0 * 70000 := by rw [ByteArray.size_append]; omega
    obtain ⟨a0, ha0⟩ : ∃ a, putText d.nm ++ putNum d.st.length = a := ⟨_, rfl⟩
    rw [ha0] at HX h00 ⊢
    have HX0 := Lib.hid (show a0 ++ (stepsB (d.st.drop 0) ++ putNum d.pv) = u from by rw [List.drop_zero, ← HX.out]; simp only [ByteArray.append_assoc])
    clear z1 z2 ha0 HX
    go_loopw [3, 4] (fun t i wr => ∃ (k : Nat) (acc : ByteArray), k ≤ d.st.length ∧ i = .int .i64 k ∧ t = .string acc ∧ acc ++ (stepsB (d.st.drop k) ++ putNum d.pv) = u ∧ acc.size ≤ 30000 + k * 70000 ∧ Fr none w [(w.heap.size, defO' d A cap)] wr) (fun t i wr => d.st.length - (intOf i).toNat)
    case atStart => exact ⟨0, a0, Nat.zero_le _, rfl, rfl, HX0.out, h00, HF1.out⟩
    case round =>
      obtain ⟨k, acc, hk, rfl, rfl, hacc, hsz, hfr⟩ := hrel
      have HA := Lib.hid hacc
      have HF := Lib.hid hfr
      clear hacc hfr HX0 HF1 h00
      obtain ⟨d0, df, d1, d2, d3⟩ := cells3 (HF.out.at 0 rfl)
      by_cases hlt : k < d.st.length
      · obtain ⟨b, o, rfl, hc⟩ := (HD.out.below HF.out.bel).row k d.st[k] (List.getElem?_eq_getElem hlt)
        have c0 := hc 0 _ rfl
        simp only [Nat.add_zero] at c0
        have c1 := hc 1 _ rfl
        have c2 := hc 2 _ rfl
        have c3 := hc 3 _ rfl
        have c4 := hc 4 _ rfl
        have c5 := hc 5 _ rfl
        clear hc
        obtain ⟨⟨n1, n2⟩, ⟨n3, n4⟩, n5, n6⟩ := HSZ.out k hlt
        obtain ⟨f1, f2, f3⟩ := HFIT.out d.st[k] (List.getElem_mem hlt)
        have HA2 := Lib.hid (show (acc ++ putText d.st[k].nm ++ putText d.st[k].dd ++ putText d.st[k].ud ++ putNum d.st[k].tr ++ putNum d.st[k].bo ++ putNum d.st[k].ti) ++ (stepsB (d.st.drop (k + 1)) ++ putNum d.pv) = u from by
          rw [← HA.out, List.drop_eq_getElem_cons hlt, stepsB]
          unfold stepB
          simp only [ByteArray.append_assoc])
        obtain ⟨s, hs⟩ : ∃ s, d.st[k] = s := ⟨_, rfl⟩
        rw [hs] at c0 c1 c2 c3 c4 c5 n1 n2 n3 n4 n5 n6 f1 f2 f3 HA2
        clear hs
        go_upto_region 8 with fail
        obtain ⟨bx, hbx⟩ : ∃ bx, bx = wr.heap.size := ⟨_, rfl⟩
        rw [← hbx]
        refine wpNamed (fun W => Fr none w [(bx, stepO s), (w.heap.size, defO' d (some ⟨b, o, none⟩) cap)] W) (HF.out.alloc _ hbx) ?_
        clear HF hbx c0 c1 c2 c3 c4 c5 d0 df d1 d2 d3 wr
        intro W hW
        have HF := Lib.hid hW
        clear hW
        have z1 := putText_size (t := s.nm)
        have z2 := putText_size (t := s.dd)
        have z3 := putText_size (t := s.ud)
        have z4 := putNum_size n1 n2
        have z5 := putNum_size n3 n4
        have z6 := putNum_size n5 n6
        have hak : acc.size ≤ 700000 := by omega
        have a1 := add_small (P := Try.prog) (acc) (putText s.nm) (by (try simp only [ByteArray.size_append]); omega)
        have a2 := add_small (P := Try.prog) (acc ++ putText s.nm) (putText s.dd) (by (try simp only [ByteArray.size_append]); omega)
        have a3 := add_small (P := Try.prog) (acc ++ putText s.nm ++ putText s.dd) (putText s.ud) (by (try simp only [ByteArray.size_append]); omega)
        have a4 := add_small (P := Try.prog) (acc ++ putText s.nm ++ putText s.dd ++ putText s.ud) (putNum s.tr) (by (try simp only [ByteArray.size_append]); omega)
        have a5 := add_small (P := Try.prog) (acc ++ putText s.nm ++ putText s.dd ++ putText s.ud ++ putNum s.tr) (putNum s.bo) (by (try simp only [ByteArray.size_append]); omega)
        have a6 := add_small (P := Try.prog) (acc ++ putText s.nm ++ putText s.dd ++ putText s.ud ++ putNum s.tr ++ putNum s.bo) (putNum s.ti) (by (try simp only [ByteArray.size_append]); omega)
        have hs2 : (acc ++ putText s.nm ++ putText s.dd ++ putText s.ud ++ putNum s.tr ++ putNum s.bo ++ putNum s.ti).size ≤ 30000 + (k + 1) * 70000 := by
          simp only [ByteArray.size_append]
          omega
        clear z1 z2 z3 z4 z5 z6 hsz hak
        have HF := Lib.hid HF.out.drew
        have HS := Lib.hid (stepCells HF.out)
        go_region_held3 (fun W => W.cell? ⟨bx, 0, none⟩ = some (.string s.nm) ∧ W.cell? ⟨bx, 1, none⟩ = some (.string s.dd) ∧ W.cell? ⟨bx, 2, none⟩ = some (.string s.ud) ∧ W.cell? ⟨bx, 3, none⟩ = some (.int .i64 s.tr) ∧ W.cell? ⟨bx, 4, none⟩ = some (.int .i64 s.bo) ∧ W.cell? ⟨bx, 5, none⟩ = some (.int .i64 s.ti))
          (with_reducible exact HS.out)
          (first
            | (go_at_call 49; refine (putTextS_any _ _ (by assumption)).mono ?_; rintro e wn ⟨rfl, hb⟩; have HF := Lib.hid (HF.out.below hb); have HS := Lib.hid (stepCells HF.out); clear hb)
            | (go_at_call 50; refine (putNumS_any _ _ (by assumption) (by assumption)).mono ?_; rintro e wn ⟨rfl, hb⟩; have HF := Lib.hid (HF.out.below hb); have HS := Lib.hid (stepCells HF.out); clear hb))
        have HF2 := Lib.hid (HF.out.drop [(w.heap.size, defO' d (some ⟨b, o, none⟩) cap)] (List.sublist_cons_self _ _))
        clear a1 a2 a3 a4 a5 a6
        go_wp2_with fail
        go_roundw
        case rel => exact ⟨k + 1, _, by omega, by go_num, rfl, HA2.out, hs2, HF2.out⟩
        case measure => simp [intOf]; omega
      · obtain rfl : k = d.st.length := by omega
        have HA2 := Lib.hid (show acc ++ putNum d.pv = u from by
          rw [← HA.out, List.drop_of_length_le (Nat.le_refl _), stepsB]
          congr 1)
        have z6 := putNum_size (n := d.pv) (by omega) (by omega)
        have hak : acc.size ≤ 700000 := by omega
        go_wp2_with fail
        refine (putNumS_any d.pv _ (by omega) (by omega)).mono ?_
        rintro e wn ⟨rfl, hb⟩
        have HF := Lib.hid (HF.out.below hb)
        clear hb
        go_wp2_with fail
        go_ret
        exact ⟨ret_val (by rw [← HA2.out]; rfl), HF.out.bel⟩
end Go.Proofs.Ytlbiocfpkpcdhaa
