import Derived.Test.YtlbiocfpkpcdhaaSagaB
namespace Go.Proofs.Ytlbiocfpkpcdhaa
open Go.RowKit
set_option linter.unusedSimpArgs false
set_option linter.unusedVariables false
def noCmd : CmdD := ⟨0, false, 0⟩
def codeS (c : Int) : OutD := ⟨⟨0, 0, 0, 0, false, 0⟩, noCmd, false, c⟩
def backS (d : DefD) (s : SagaD) (n now : Int) : OutD := if undoB d n.toNat < 0 then endS s 4 else sendS d ⟨2, s.dn, undoB d n.toNat, 1, false, 0⟩ now
def waitS (p : StepD) (tries : Int) : Int := if (p.nums && inB tries 1 10) = true then p.bo * 2 ^ (tries - 1).toNat else 0
def failS (d : DefD) (s : SagaD) (now : Int) : OutD :=
  if s.tr < (stAt d s.at_).tr then ⟨{ s with sn := false, du := now + (stAt d s.at_).bo * 2 ^ (s.tr - 1).toNat }, noCmd, false, 0⟩
  else if s.ph = 2 ∨ (0 ≤ d.pv ∧ d.pv < s.at_) then endS s 5
  else backS d s s.dn now
def cmdEq (a b : CmdD) : Bool := decide (a.st = b.st) && (a.un == b.un) && decide (a.ty = b.ty)
def askedS (d : DefD) (s : SagaD) (now : Int) : Bool := sagaRt d s && inB now 0 1000000000
def replyS (d : DefD) (s : SagaD) (c : CmdD) (good : Bool) (now : Int) : OutD :=
  if askedS d s now = false then codeS 1
  else if (!s.sn || !cmdEq c (cmdOf s)) = true then codeS 12
  else if good = false then failS d s now
  else if s.ph = 2 then backS d s s.at_ now
  else if s.dn + 1 = d.st.length then ⟨⟨3, s.dn + 1, 0, 0, false, 0⟩, noCmd, false, 0⟩
  else sendS d ⟨1, s.dn + 1, s.dn + 1, 1, false, 0⟩ now
def tickS (d : DefD) (s : SagaD) (now : Int) : OutD :=
  if askedS d s now = false then codeS 1
  else if (inB s.ph 3 5 || decide (now < s.du)) = true then codeS 12
  else if s.sn = true then failS d s now
  else sendS d { s with tr := s.tr + 1 } now
def cancelS (d : DefD) (s : SagaD) (now : Int) : OutD :=
  if askedS d s now = false then codeS 1
  else if s.ph ≠ 1 ∨ (0 ≤ d.pv ∧ (d.pv < s.at_ ∨ (s.at_ = d.pv ∧ s.sn = true))) then codeS 12
  else backS d s s.dn now
def startS (d : DefD) (now : Int) : OutD := if (d.ok && inB now 0 1000000000) = false then codeS 1 else sendS d ⟨1, 0, 0, 1, false, 0⟩ now

set_option maxRecDepth 100000 in
set_option maxHeartbeats 1000000 in
theorem back_any (d : DefD) (A : Option Addr) (cap : Nat) (s : SagaD) (n now : Int) (w : World) (h : DefAt w d A cap) (hd : d.ok = true) (h0 : 0 ≤ n) (h1 : n ≤ d.st.length) (ht : inB now 0 1000000000 = true) :
    Calls Try.prog 70 #[defV d A cap, sagaV s, .int .i64 n, .int .i64 now] w fun e w' => e = .returned (outV (backS d s n now)) ∧ Below w.heap.size w w' := by
  have H := Lib.hid h
  have ht' := inB_true.1 ht
  have hul := undoB_lt (d := d) n.toNat
  have HNUM := Lib.hid (DefD.ok_nums hd)
  clear h hd ht
  obtain ⟨u, hu⟩ : ∃ u, undoB d n.toNat = u := ⟨_, rfl⟩
  rw [hu] at hul
  have HU := Lib.hid hu
  clear hu
  unfold defV sagaV
  by_cases hneg : u < 0
  · go_enter Try.func70, Try.ntmps70
    go_wp2_with fail
    refine (undoBelow_any d A cap n _ (((H.out.alloc _).alloc _).alloc _) h0 h1).mono ?_
    rintro e w1 ⟨rfl, hb1⟩
    rw [HU.out]
    obtain ⟨hc1, hf1⟩ := bcell hb1
    have hz1 : w.heap.size + 2 < w1.heap.size := by have := hb1.size; simp at this; omega
    go_wp2_with fail
    refine (ends_any s 4 _).mono ?_
    rintro e w2 ⟨rfl, hb2⟩
    obtain ⟨hc2, hf2⟩ := bcell hb2
    go_wp2_with fail
    have HX := Lib.hid (show backS d s n now = endS s 4 from by unfold backS; rw [HU.out, if_pos hneg])
    have hz : w2.heap[w.heap.size + 1 + 1]? = some (.cells #[.int .i64 0, .int .i64 0, .int .i64 0, .int .i64 0, .bool false, .int .i64 0, .int .i64 0, .bool false, .int .i64 0, .bool false, .int .i64 0] 41) := blk_below (blk_below (blk3 _ _ _) hb1) hb2
    clear hc1 hf1 hc2 hf2
    rw [set11 hz]
    refine bodyPost_ret (results_c Try.results70 _ _ _ _ _ _ _ rfl (withBlock_heap (Array.getElem?_eq_some_iff.1 hz).1) Try.underlying41 rfl size_Out) rfl ⟨?_, ?_⟩
    · rw [HX.out]; rfl
    · exact Below_withBlock (belt (bel3t hb1) hb2) (by omega)
  · go_enter Try.func70, Try.ntmps70
    go_wp2_with fail
    refine (undoBelow_any d A cap n _ (((H.out.alloc _).alloc _).alloc _) h0 h1).mono ?_
    rintro e w1 ⟨rfl, hb1⟩
    rw [HU.out]
    obtain ⟨hc1, hf1⟩ := bcell hb1
    have hz1 : w.heap.size + 2 < w1.heap.size := by have := hb1.size; simp at this; omega
    have hun : u < d.st.length := by omega
    have ⟨_, _, _, _, q1, q2⟩ := HNUM.out u (by omega) (by omega)
    go_wp2_with fail
    refine (send_any d A cap ⟨2, s.dn, u, 1, false, 0⟩ now _ ((((H.out.alloc _).alloc _).alloc _).below hb1) (by show 0 ≤ u; omega) hun (by show _ ≤ now + (stAt d u).ti; omega) (by show now + (stAt d u).ti ≤ _; omega)).mono ?_
    rintro e w2 ⟨rfl, hb2⟩
    obtain ⟨hc2, hf2⟩ := bcell hb2
    go_wp2_with fail
    have HX := Lib.hid (show backS d s n now = sendS d ⟨2, s.dn, u, 1, false, 0⟩ now from by unfold backS; rw [HU.out, if_neg (by omega)])
    have hz : w2.heap[w.heap.size + 1 + 1]? = some (.cells #[.int .i64 0, .int .i64 0, .int .i64 0, .int .i64 0, .bool false, .int .i64 0, .int .i64 0, .bool false, .int .i64 0, .bool false, .int .i64 0] 41) := blk_below (blk_below (blk3 _ _ _) hb1) hb2
    clear hc1 hf1 hc2 hf2
    rw [set11 hz]
    refine bodyPost_ret (results_c Try.results70 _ _ _ _ _ _ _ rfl (withBlock_heap (Array.getElem?_eq_some_iff.1 hz).1) Try.underlying41 rfl size_Out) rfl ⟨?_, ?_⟩
    · rw [HX.out]; rfl
    · exact Below_withBlock (belt (bel3t hb1) hb2) (by omega)

def zOut : Obj := .cells #[.int .i64 0, .int .i64 0, .int .i64 0, .int .i64 0, .bool false, .int .i64 0, .int .i64 0, .bool false, .int .i64 0, .bool false, .int .i64 0] 41
/-- The end of a call whose result lies in a cell of its own, all eleven written. -/
theorem endOut {fn : Func} {p : Tmp} (hres : fn.results = #[.cell p 41]) {R : Ending → World → Prop} {a : Act} {wx : World} {g : Nat} (o : OutD) (hp : a.tmps.getD p undef = .pointer (some ⟨g, 0, none⟩)) (hd : a.defers = [])
    (hz : wx.heap[g]? = some zOut) (hR : ∀ wy, (∀ B a', B ≤ g → Below B a' wx → Below B a' wy) → R (.returned (outV o)) wy) : bodyPost Try.prog fn R .ret a (World.setCell (World.setCell (World.setCell (World.setCell (World.setCell (World.setCell (World.setCell (World.setCell (World.setCell (World.setCell (World.setCell wx ⟨g, 0, none⟩ (.int .i64 o.sg.ph)) ⟨g, 1, none⟩ (.int .i64 o.sg.dn)) ⟨g, 2, none⟩ (.int .i64 o.sg.at_)) ⟨g, 3, none⟩ (.int .i64 o.sg.tr)) ⟨g, 4, none⟩ (.bool o.sg.sn)) ⟨g, 5, none⟩ (.int .i64 o.sg.du)) ⟨g, 6, none⟩ (.int .i64 o.cm.st)) ⟨g, 7, none⟩ (.bool o.cm.un)) ⟨g, 8, none⟩ (.int .i64 o.cm.ty)) ⟨g, 9, none⟩ (.bool o.ow)) ⟨g, 10, none⟩ (.int .i64 o.cd)) := by
  have hz' : wx.heap[g]? = some (.cells #[.int .i64 0, .int .i64 0, .int .i64 0, .int .i64 0, .bool false, .int .i64 0, .int .i64 0, .bool false, .int .i64 0, .bool false, .int .i64 0] 41) := hz
  rw [set11 hz']
  exact bodyPost_ret (results_c hres _ _ g _ #[.int .i64 o.sg.ph, .int .i64 o.sg.dn, .int .i64 o.sg.at_, .int .i64 o.sg.tr, .bool o.sg.sn, .int .i64 o.sg.du, .int .i64 o.cm.st, .bool o.cm.un, .int .i64 o.cm.ty, .bool o.ow, .int .i64 o.cd] _ _ hp (withBlock_heap (blk_lt hz)) Try.underlying41 rfl size_Out) hd (hR _ (fun _ _ h1 h2 => Below_withBlock h2 h1))

theorem shl_small {b n : Int} (h0 : 0 ≤ b) (h1 : b ≤ 1000) (hn1 : 1 ≤ n) (hn2 : n ≤ 10) : wrap64 (b * 2 ^ (n.toNat - 1)) = b * 2 ^ (n - 1).toNat := by
  obtain ⟨k, hk⟩ : ∃ k, k = n.toNat - 1 := ⟨_, rfl⟩
  rw [show (n - 1).toNat = k from by omega, ← hk]
  have : k = 0 ∨ k = 1 ∨ k = 2 ∨ k = 3 ∨ k = 4 ∨ k = 5 ∨ k = 6 ∨ k = 7 ∨ k = 8 ∨ k = 9 := by omega
  rcases this with rfl | rfl | rfl | rfl | rfl | rfl | rfl | rfl | rfl | rfl <;> unfold wrap64 <;> simp <;> omega
theorem wait_any (p : StepD) (n : Int) (w : World) :
    Calls Try.prog 25 #[stepV p, .int .i64 n] w fun e w' => e = .returned (.int .i64 (waitS p n)) ∧ Below w.heap.size w w' := by
  unfold stepV
  cases hp : p.nums
  · have HW := Lib.hid (show waitS p n = 0 from by unfold waitS; rw [hp]; rfl)
    have HP := Lib.hid hp
    clear hp
    go_enter Try.func25, Try.ntmps25
    go_wp2_with (first
      | (go_at_call 82; refine (numbersRight_any p _).mono ?_; rintro e w1 ⟨rfl, hb1⟩; rw [HP.out]))
    go_ret
    exact ⟨ret_int HW.out.symm, bel1t hb1⟩
  · cases hn : inB n 1 10
    · have HW := Lib.hid (show waitS p n = 0 from by unfold waitS; rw [hp, hn]; rfl)
      have HP := Lib.hid hp
      have HN := Lib.hid hn
      clear hp hn
      go_enter Try.func25, Try.ntmps25
      go_wp2_with (first
        | (go_at_call 82; refine (numbersRight_any p _).mono ?_; rintro e w1 ⟨rfl, hb1⟩; rw [HP.out])
        | (go_at_call 66; refine (within_any _ _ _ _).mono ?_; rintro e w' ⟨rfl, rfl⟩; rw [HN.out]))
      go_ret
      exact ⟨ret_int HW.out.symm, bel1t hb1⟩
    · have HW := Lib.hid (show waitS p n = p.bo * 2 ^ (n - 1).toNat from by unfold waitS; rw [hp, hn]; rfl)
      obtain ⟨hn1, hn2⟩ := inB_true.1 hn
      have hpp := hp
      unfold StepD.nums at hpp
      simp only [Bool.and_eq_true, inB_true] at hpp
      obtain ⟨⟨-, hbo1, hbo2⟩, -⟩ := hpp
      have HP := Lib.hid hp
      have HN := Lib.hid hn
      clear hp hn
      go_enter Try.func25, Try.ntmps25
      go_wp2_with (first
        | (go_at_call 82; refine (numbersRight_any p _).mono ?_; rintro e w1 ⟨rfl, hb1⟩; rw [HP.out]; obtain ⟨hc1, hf1⟩ := bcell hb1)
        | (go_at_call 66; refine (within_any _ _ _ _).mono ?_; rintro e w' ⟨rfl, rfl⟩; rw [HN.out]))
      go_ret
      exact ⟨ret_int (by rw [HW.out]; exact shl_small hbo1 hbo2 hn1 hn2), bel1t hb1⟩
/-- of a right step, and that many tries -/
theorem waitS_ok {p : StepD} {n : Int} (hp : p.nums = true) (h1 : 1 ≤ n) (h2 : n ≤ 10) : waitS p n = p.bo * 2 ^ (n - 1).toNat := by
  unfold waitS; rw [hp, inB_true.2 ⟨h1, h2⟩]; rfl
theorem waitS_bound {p : StepD} {n : Int} : 0 ≤ waitS p n ∧ waitS p n ≤ 512000 := by
  unfold waitS
  split
  · rename_i h
    simp only [Bool.and_eq_true] at h
    obtain ⟨hp, hn⟩ := h
    obtain ⟨hn1, hn2⟩ := inB_true.1 hn
    unfold StepD.nums at hp
    simp only [Bool.and_eq_true, inB_true] at hp
    obtain ⟨⟨-, hbo1, hbo2⟩, -⟩ := hp
    obtain ⟨k, hk⟩ : ∃ k, k = (n - 1).toNat := ⟨_, rfl⟩
    rw [← hk]
    have : k = 0 ∨ k = 1 ∨ k = 2 ∨ k = 3 ∨ k = 4 ∨ k = 5 ∨ k = 6 ∨ k = 7 ∨ k = 8 ∨ k = 9 := by omega
    rcases this with rfl | rfl | rfl | rfl | rfl | rfl | rfl | rfl | rfl | rfl <;> simp <;> omega
  · omega
theorem stAt_nums {d : DefD} (h : d.ok = true) (i : Int) (h0 : 0 ≤ i) (h1 : i < d.st.length) : (stAt d i).nums = true := by
  obtain ⟨k, rfl⟩ := Int.eq_ofNat_of_zero_le h0
  have hk : k < d.st.length := by omega
  have := (DefD.ok_steps h).2.2.2 k hk
  rw [stAt_eq hk]
  unfold stepAtOk StepD.ok at this
  simp only [Bool.and_eq_true] at this
  exact this.1.2
end Go.Proofs.Ytlbiocfpkpcdhaa
