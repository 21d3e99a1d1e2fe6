import Derived.Test.YtlbiocfpkpcdhaaDefB
import Derived.Test.YtlbiocfpkpcdhaaStrB
import Derived.Test.YtlbiocfpkpcdhaaShelf
import Derived.Deep.RegionHeld3
import Derived.Deep.DeepCutAuto
namespace Go.Proofs.Ytlbiocfpkpcdhaa
open Go.RowKit
set_option linter.unusedSimpArgs false
set_option linter.unusedVariables false
/-- memory in impl.DefBytes: known blocks, and the builder in block b holding the bytes of t -/
structure DB (w0 : World) (b : Nat) (t : ByteArray) (bs : List (Nat × Obj)) (W : World) : Prop where
  fr : Fr none w0 bs W
  bd : Lib.IsBuilder 88 5 b b (Lib.strCells t) W
  lo : w0.heap.size ≤ b
  kn : ∀ p ∈ bs, p.1 ≠ b ∧ ∃ cs ty, p.2 = .cells cs ty ∧ ty ≠ 5
theorem isB_below {B b : Nat} {bs : List Value} {W W' : World} (h : Lib.IsBuilder 88 5 B b bs W) (hb : Below W.heap.size W W') : Lib.IsBuilder 88 5 B b bs W' := by
  have key : ∀ p, Lib.BuilderAt 88 5 B b p bs W → Lib.BuilderAt 88 5 B b p bs W' := by
    rintro p ⟨hB, v, hk, hown, hne⟩
    exact ⟨hB, v, blk_below hk hb, hown.kept (below_grown hb) (by cases v.ownBlock <;> simp), hne⟩
  exact h.imp (key _) (key _)
section
variable {w0 W W' : World} {b : Nat} {t : ByteArray} {bs : List (Nat × Obj)}
theorem DB.below (h : DB w0 b t bs W) (hb : Below W.heap.size W W') : DB w0 b t bs W' := ⟨h.fr.below hb, isB_below h.bd hb, h.lo, h.kn⟩
theorem DB.drew (h : DB w0 b t bs W) : DB w0 b t bs W.drew := h.below ⟨rfl, rfl, rfl, Nat.le_refl _, fun _ _ => rfl⟩
theorem DB.lt (h : DB w0 b t bs W) : b < W.heap.size := by
  rcases h.bd with h | h <;> exact h.lt
theorem DB.alloc (h : DB w0 b t bs W) (cs : Array Value) (ty : TypeId) (hty : ty ≠ 5) {g : Nat} (hg : g = W.heap.size) : DB w0 b t ((g, .cells cs ty) :: bs) (W.alloc (.cells cs ty)) :=
  ⟨h.fr.alloc _ hg, isB_below h.bd (bel1 _), h.lo, fun p hp => by
    rcases List.mem_cons.1 hp with rfl | hp
    · have := h.lt; exact ⟨by simp only; omega, cs, ty, rfl, hty⟩
    · exact h.kn p hp⟩
theorem DB.drop (h : DB w0 b t bs W) (bs' : List (Nat × Obj)) (hs : bs'.Sublist bs) : DB w0 b t bs' W := ⟨h.fr.drop bs' hs, h.bd, h.lo, fun p hp => h.kn p (hs.mem hp)⟩
theorem strCells_add (s t : ByteArray) : Lib.strCells (s ++ t) = Lib.strCells s ++ Lib.strCells t := by
  unfold Lib.strCells
  rw [ByteArray.data_append]
  simp
theorem DB.write (h : DB w0 b t bs W) {s : ByteArray} (hb : Lib.IsBuilder 88 5 b b (Lib.strCells t ++ Lib.strCells s) W') (hB : Below b W W') (hk : KeepB b W W') : DB w0 b (t ++ s) bs W' := by
  refine ⟨⟨?_, h.fr.lo, h.fr.ne, fun p hp => ?_⟩, by rw [strCells_add]; exact hb, h.lo, h.kn⟩
  · have hlo := h.lo
    have hg := h.fr.gr
    exact ⟨hB.os.trans hg.os, hB.tape.trans hg.tape, hB.output.trans hg.output, Nat.le_trans hg.size hB.size, fun k hk2 hne => (hB.block k (by omega)).trans (hg.block k hk2 hne)⟩
  · obtain ⟨h1, cs, ty, h2, h3⟩ := h.kn p hp
    have h4 := h.fr.has p hp
    rw [h2] at h4 ⊢
    exact hk p.1 cs ty (0, 0) h4 h3 h1
theorem DB.start {w0 W : World} {bs : List (Nat × Obj)} (h : Fr none w0 bs W) (hk : ∀ p ∈ bs, ∃ cs ty, p.2 = .cells cs ty ∧ ty ≠ 5) {b : Nat} (hb : b = W.heap.size) : DB w0 b ⟨#[]⟩ bs (W.alloc (.cells #[.pointer none, .slice none 0 0] 88)) := by
  subst hb
  exact ⟨h.below (bel1 _), Lib.fresh_isBuilder _ _ W, h.gr.size, fun p hp => ⟨by have := h.lt hp; omega, hk p hp⟩⟩
end
theorem write_any {w0 W : World} {b : Nat} {t : ByteArray} {bs : List (Nat × Obj)} (h : DB w0 b t bs W) (s : ByteArray) (hl : t.size + s.size ≤ 140737488355328) :
    Calls Try.prog 52 #[.pointer (some ⟨b, 0, none⟩), .string s] W fun e w' => e = .returned (.tuple #[.int .i64 s.size, .nilIface]) ∧ DB w0 b (t ++ s) bs w' := by
  refine (writeString_any b b (Lib.strCells t) s W h.bd (by rw [Lib.strCells_length]; exact hl) (Nat.le_of_lt h.lt)).mono ?_
  rintro e w' ⟨rfl, hb, hB, hk⟩
  exact ⟨rfl, h.write hb hB hk⟩
theorem string_any {w0 W : World} {b : Nat} {t : ByteArray} {bs : List (Nat × Obj)} (h : DB w0 b t bs W) :
    Calls Try.prog 55 #[.pointer (some ⟨b, 0, none⟩)] W fun e w' => e = .returned (.string t) ∧ Below b W w' := by
  have hb := h.bd
  rw [show Lib.strCells t = Lib.byteCells t.data.toList from rfl] at hb
  refine (Try.Builder_String_any b b _ W hb (Nat.le_of_lt h.lt)).mono ?_
  rintro e w' ⟨rfl, hB⟩
  exact ⟨rfl, hB⟩
theorem Fr.belowB {w0 W W' : World} {bs : List (Nat × Obj)} {b : Nat} (h : Fr none w0 bs W) (hB : Below b W W') (hlo : w0.heap.size ≤ b) (hk : ∀ p ∈ bs, p.1 < b) : Fr none w0 bs W' :=
  ⟨⟨hB.os.trans h.gr.os, hB.tape.trans h.gr.tape, hB.output.trans h.gr.output, Nat.le_trans h.gr.size hB.size, fun k hk2 hne => (hB.block k (by omega)).trans (h.gr.block k hk2 hne)⟩, h.lo, h.ne, fun p hp => (hB.block p.1 (hk p hp)).trans (h.has p hp)⟩
set_option maxRecDepth 100000 in
set_option maxHeartbeats 4000000 in
theorem defBytesI_any (d : DefD) (A : Option Addr) (cap : Nat) (w : World) (h : DefAt w d A cap) :
    Calls Try.prog 11 #[defV d A cap] w fun e w' => e = .returned (.string (defB d)) ∧ Below w.heap.size w w' := by
  have HD := Lib.hid h
  have hl := h.fit.1
  have hnm := h.nm
  have HFIT := Lib.hid h.fit.2
  clear h
  obtain ⟨u, hu⟩ : ∃ u, defB d = u := ⟨_, rfl⟩
  rw [hu]
  have HU := Lib.hid hu
  clear hu
  unfold defV
  go_enter Try.func11, Try.ntmps11
  go_wp2_with fail
  refine (implDefRight_any d A cap _ HD.out.nm HD.out.fit (HD.out.alloc _).row HD.out.cap).mono ?_
  rintro e w1 ⟨rfl, hb⟩
  have HF := Lib.hid (((Fr.start none w).alloc (defO' d A cap) rfl).below hb)
  clear hb
  cases hd : d.ok
  · have HX := Lib.hid (show u = ⟨#[]⟩ from by rw [← HU.out]; unfold defB; rw [if_pos hd])
    clear hd
    go_wp2
    go_ret
    exact ⟨ret_val (by rw [HX.out]; rfl), HF.out.bel⟩
  · obtain ⟨-, ⟨hn1, hn2⟩, ⟨hp1, hp2⟩, -⟩ := DefD.ok_steps hd
    have HX := Lib.hid (show putText d.nm ++ putNum d.st.length ++ stepsB d.st ++ putNum d.pv = u from by rw [← HU.out]; unfold defB; rw [if_neg (by simp [hd])])
    have HSZ := Lib.hid (fun k (h : k < d.st.length) => step_sizes hd h)
    clear hd HU
    go_upto_region 4 with fail
    have hbb : w.heap.size < w1.heap.size := HF.out.lt (List.mem_cons_self ..)
    obtain ⟨b, hb⟩ : ∃ b, b = w1.heap.size := ⟨_, rfl⟩
    rw [← hb] at hbb ⊢
    refine wpNamed (DB w b ⟨#[]⟩ [(w.heap.size, defO' d A cap)]) (DB.start HF.out (by simp only [List.mem_singleton, forall_eq]; exact ⟨_, _, rfl, by decide⟩) hb) ?_
    clear HF hb
    clear w1
    intro W hW
    have HF := Lib.hid hW
    clear hW
    go_cut [] (fun wx => DB w b (putText d.nm ++ putNum d.st.length) [(w.heap.size, defO' d A cap)] wx)
    case first =>
      have HF := Lib.hid HF.out.drew
      have HS := Lib.hid (defCells (HF.out.fr))
      have z1 := putText_size (t := d.nm)
      have z2 := putNum_size (n := (d.st.length : Int)) (by omega) (by omega)
      have hz : ((⟨#[]⟩ : ByteArray)).size + (putText d.nm ++ putNum d.st.length).size ≤ 140737488355328 := by rw [ByteArray.size_append]; show 0 + _ ≤ _; omega
      have a1 := add_small (P := Try.prog) (putText d.nm) (putNum d.st.length) (by omega)
      have HZ := Lib.hid hz
      clear hz z1 z2
      go_region_held3 (fun W => W.cell? ⟨w.heap.size, 0, none⟩ = some (.string d.nm) ∧ W.cell? ⟨w.heap.size, 1, none⟩ = some (.slice A d.st.length cap) ∧ W.cell? ⟨w.heap.size, 2, none⟩ = some (.int .i64 d.pv))
        (with_reducible exact HS.out)
        (first
          | (go_at_call 53; refine (putTextI_any _ _ (by assumption)).mono ?_; rintro e wn ⟨rfl, hb⟩; have HF := Lib.hid (HF.out.below hb); have HS := Lib.hid (defCells HF.out.fr); clear hb)
          | (go_at_call 54; refine (putNumI_any _ _ (by omega) (by omega)).mono ?_; rintro e wn ⟨rfl, hb⟩; have HF := Lib.hid (HF.out.below hb); have HS := Lib.hid (defCells HF.out.fr); clear hb)
          | (go_at_call 52; refine (write_any HF.out _ HZ.out).mono ?_; rintro e wn ⟨rfl, hb⟩; have HF := Lib.hid hb; have HS := Lib.hid (defCells HF.out.fr); clear hb))
      go_wp2_with fail
      go_meet
      have := HF.out
      rw [show (⟨#[]⟩ : ByteArray) ++ (putText d.nm ++ putNum d.st.length) = putText d.nm ++ putNum d.st.length from ByteArray.empty_append] at this
      exact this
    case rest =>
    have HF1 := Lib.hid hcut
    clear hcut HF W
    have z1 := putText_size (t := d.nm)
    have z2 := putNum_size (n := (d.st.length : Int)) (by omega) (by omega)
    have h00 : (putText d.nm ++ putNum d.st.length).size ≤ 30000 + 0 * 70000 := by rw [ByteArray.size_append]; omega
    obtain ⟨a0, ha0⟩ : ∃ a, putText d.nm ++ putNum d.st.length = a := ⟨_, rfl⟩
    rw [ha0] at HX h00 HF1
    have HX0 := Lib.hid (show a0 ++ (stepsB (d.st.drop 0) ++ putNum d.pv) = u from by rw [List.drop_zero, ← HX.out]; simp only [ByteArray.append_assoc])
    clear z1 z2 ha0 HX
    obtain ⟨d0, df, d1, d2, d3⟩ := cells3 (HF1.out.fr.at 0 rfl)
    go_wp2_with fail
    clear d0 df d1 d2 d3
    go_loopw [21] (fun i wr => ∃ (k : Nat) (acc : ByteArray), k ≤ d.st.length ∧ i = .int .i64 k ∧ acc ++ (stepsB (d.st.drop k) ++ putNum d.pv) = u ∧ acc.size ≤ 30000 + k * 70000 ∧ DB w b acc [(w.heap.size, defO' d A cap)] wr) (fun i wr => d.st.length - (intOf i).toNat)
    case atStart => exact ⟨0, a0, Nat.zero_le _, rfl, HX0.out, h00, HF1.out⟩
    case round =>
      obtain ⟨k, acc, hk, rfl, hacc, hsz, hfr⟩ := hrel
      have HA := Lib.hid hacc
      have HF := Lib.hid hfr
      clear hacc hfr HX0 HF1 h00
      by_cases hlt : k < d.st.length
      · obtain ⟨q, o, rfl, hc⟩ := (HD.out.below HF.out.fr.bel).row k d.st[k] (List.getElem?_eq_getElem hlt)
        have c0 := hc 0 _ rfl
        simp only [Nat.add_zero] at c0
        have c1 := hc 1 _ rfl
        have c2 := hc 2 _ rfl
        have c3 := hc 3 _ rfl
        have c4 := hc 4 _ rfl
        have c5 := hc 5 _ rfl
        clear hc
        obtain ⟨⟨n1, n2⟩, ⟨n3, n4⟩, n5, n6⟩ := HSZ.out k hlt
        obtain ⟨f1, f2, f3⟩ := HFIT.out d.st[k] (List.getElem_mem hlt)
        have HA2 := Lib.hid (show (acc ++ (putText d.st[k].nm ++ putText d.st[k].dd ++ putText d.st[k].ud) ++ (putNum d.st[k].tr ++ putNum d.st[k].bo ++ putNum d.st[k].ti)) ++ (stepsB (d.st.drop (k + 1)) ++ putNum d.pv) = u from by
          rw [← HA.out, List.drop_eq_getElem_cons hlt, stepsB]
          unfold stepB
          simp only [ByteArray.append_assoc])
        obtain ⟨s, hs⟩ : ∃ s, d.st[k] = s := ⟨_, rfl⟩
        rw [hs] at c0 c1 c2 c3 c4 c5 n1 n2 n3 n4 n5 n6 f1 f2 f3 HA2
        clear hs
        go_upto_region 8 with fail
        obtain ⟨bx, hbx⟩ : ∃ bx, bx = wr.heap.size := ⟨_, rfl⟩
        rw [← hbx]
        refine wpNamed (DB w b acc [(bx, stepO s), (w.heap.size, defO' d (some ⟨q, o, none⟩) cap)]) (HF.out.alloc _ _ (by decide) hbx) ?_
        clear HF hbx c0 c1 c2 c3 c4 c5 wr
        intro W hW
        have HF := Lib.hid hW
        clear hW
        have z1 := putText_size (t := s.nm)
        have z2 := putText_size (t := s.dd)
        have z3 := putText_size (t := s.ud)
        have z4 := putNum_size n1 n2
        have z5 := putNum_size n3 n4
        have z6 := putNum_size n5 n6
        have hak : acc.size ≤ 700000 := by omega
        have a1 := add_small (P := Try.prog) (putText s.nm) (putText s.dd) (by omega)
        have a2 := add_small (P := Try.prog) (putText s.nm ++ putText s.dd) (putText s.ud) (by rw [ByteArray.size_append]; omega)
        have a3 := add_small (P := Try.prog) (putNum s.tr) (putNum s.bo) (by omega)
        have a4 := add_small (P := Try.prog) (putNum s.tr ++ putNum s.bo) (putNum s.ti) (by rw [ByteArray.size_append]; omega)
        have HZ1 := Lib.hid (show acc.size + (putText s.nm ++ putText s.dd ++ putText s.ud).size ≤ 140737488355328 from by simp only [ByteArray.size_append]; omega)
        have HZ2 := Lib.hid (show (acc ++ (putText s.nm ++ putText s.dd ++ putText s.ud)).size + (putNum s.tr ++ putNum s.bo ++ putNum s.ti).size ≤ 140737488355328 from by simp only [ByteArray.size_append]; omega)
        have hs2 : (acc ++ (putText s.nm ++ putText s.dd ++ putText s.ud) ++ (putNum s.tr ++ putNum s.bo ++ putNum s.ti)).size ≤ 30000 + (k + 1) * 70000 := by simp only [ByteArray.size_append]; omega
        have HS2 := Lib.hid hs2
        clear z1 z2 z3 z4 z5 z6 hak hs2 hsz
        go_cut [] (fun wx => DB w b (acc ++ (putText s.nm ++ putText s.dd ++ putText s.ud)) [(bx, stepO s), (w.heap.size, defO' d (some ⟨q, o, none⟩) cap)] wx)
        case first =>
          have HF := Lib.hid HF.out.drew
          have HS := Lib.hid (stepCells HF.out.fr)
          go_region_held3 (fun W => W.cell? ⟨bx, 0, none⟩ = some (.string s.nm) ∧ W.cell? ⟨bx, 1, none⟩ = some (.string s.dd) ∧ W.cell? ⟨bx, 2, none⟩ = some (.string s.ud) ∧ W.cell? ⟨bx, 3, none⟩ = some (.int .i64 s.tr) ∧ W.cell? ⟨bx, 4, none⟩ = some (.int .i64 s.bo) ∧ W.cell? ⟨bx, 5, none⟩ = some (.int .i64 s.ti))
            (with_reducible exact HS.out)
            (first
              | (go_at_call 53; refine (putTextI_any _ _ (by assumption)).mono ?_; rintro e wn ⟨rfl, hb⟩; have HF := Lib.hid (HF.out.below hb); have HS := Lib.hid (stepCells HF.out.fr); clear hb)
              | (go_at_call 52; refine (write_any HF.out _ HZ1.out).mono ?_; rintro e wn ⟨rfl, hb⟩; have HF := Lib.hid hb; have HS := Lib.hid (stepCells HF.out.fr); clear hb))
          go_wp2_with fail
          go_meet
          exact HF.out
        case rest =>
        have HF1 := Lib.hid hcut
        clear hcut HF W
        go_wp2_with fail
        have HF := Lib.hid HF1.out.drew
        have HS := Lib.hid (stepCells HF.out.fr)
        go_region_held3 (fun W => W.cell? ⟨bx, 0, none⟩ = some (.string s.nm) ∧ W.cell? ⟨bx, 1, none⟩ = some (.string s.dd) ∧ W.cell? ⟨bx, 2, none⟩ = some (.string s.ud) ∧ W.cell? ⟨bx, 3, none⟩ = some (.int .i64 s.tr) ∧ W.cell? ⟨bx, 4, none⟩ = some (.int .i64 s.bo) ∧ W.cell? ⟨bx, 5, none⟩ = some (.int .i64 s.ti))
          (with_reducible exact HS.out)
          (first
            | (go_at_call 54; refine (putNumI_any _ _ (by assumption) (by assumption)).mono ?_; rintro e wn ⟨rfl, hb⟩; have HF := Lib.hid (HF.out.below hb); have HS := Lib.hid (stepCells HF.out.fr); clear hb)
            | (go_at_call 52; refine (write_any HF.out _ HZ2.out).mono ?_; rintro e wn ⟨rfl, hb⟩; have HF := Lib.hid hb; have HS := Lib.hid (stepCells HF.out.fr); clear hb))
        have HF2 := Lib.hid (HF.out.drop [(w.heap.size, defO' d (some ⟨q, o, none⟩) cap)] (List.sublist_cons_self _ _))
        clear a1 a2 a3 a4
        go_wp2_with fail
        go_roundw
        case rel => exact ⟨k + 1, _, by omega, by go_num, HA2.out, HS2.out, HF2.out⟩
        case measure => simp [intOf]; omega
      · obtain rfl : k = d.st.length := by omega
        have HA2 := Lib.hid (show acc ++ putNum d.pv = u from by
          rw [← HA.out, List.drop_of_length_le (Nat.le_refl _), stepsB]
          congr 1)
        have z6 := putNum_size (n := d.pv) (by omega) (by omega)
        have a1 := add_small (P := Try.prog) acc (putNum d.pv) (by omega)
        clear z6 hsz
        go_wp2_with fail
        have HF := Lib.hid HF.out.drew
        have HS := Lib.hid (defCells (HF.out.fr))
        go_region_held3 (fun W => W.cell? ⟨w.heap.size, 0, none⟩ = some (.string d.nm) ∧ W.cell? ⟨w.heap.size, 1, none⟩ = some (.slice A d.st.length cap) ∧ W.cell? ⟨w.heap.size, 2, none⟩ = some (.int .i64 d.pv))
          (with_reducible exact HS.out)
          (first
            | (go_at_call 54; refine (putNumI_any _ _ (by omega) (by omega)).mono ?_; rintro e wn ⟨rfl, hb⟩; have HG := Lib.hid (HG.out.below hb); have HS := Lib.hid (defCells HG.out); clear hb)
            | (go_at_call 55; refine (string_any HF.out).mono ?_; rintro e wn ⟨rfl, hb⟩; have HG := Lib.hid (HF.out.fr.belowB hb HF.out.lo (by simpa using hbb)); have HS := Lib.hid (defCells HG.out); clear hb))
        go_wp2_with fail
        go_ret
        exact ⟨ret_val (by rw [← HA2.out]; rfl), HG.out.bel⟩
end Go.Proofs.Ytlbiocfpkpcdhaa
