import Derived.Test.YtlbiocfpkpcdhaaDrawJ
import Derived.Test.YtlbiocfpkpcdhaaSagaP
import Derived.Outline
namespace Go.Proofs.Ytlbiocfpkpcdhaa
open Go.RowKit
set_option linter.unusedSimpArgs false
set_option linter.unusedVariables false
def SagaTrue (w : World) (e : Ending) (w' : World) : Prop := e = .returned (.bool true) ∧ w.grownBy w' none
set_option maxRecDepth 100000 in
theorem neq_out (o : OutD) (W : World) : (binOp .neq 41 (.agg #[.int .i64 o.sg.ph, .int .i64 o.sg.dn, .int .i64 o.sg.at_, .int .i64 o.sg.tr, .bool o.sg.sn, .int .i64 o.sg.du, .int .i64 o.cm.st, .bool o.cm.un, .int .i64 o.cm.ty, .bool o.ow, .int .i64 o.cd]) (.agg #[.int .i64 o.sg.ph, .int .i64 o.sg.dn, .int .i64 o.sg.at_, .int .i64 o.sg.tr, .bool o.sg.sn, .int .i64 o.sg.du, .int .i64 o.cm.st, .bool o.cm.un, .int .i64 o.cm.ty, .bool o.ow, .int .i64 o.cd])).run Try.prog W = .ok (.bool false) W := by
  go_simp
/-- two defs lie in memory; some new blocks are known -/
structure SG (w0 : World) (d : DefD) (A1 : Option Addr) (cap1 : Nat) (e : DefD) (A2 : Option Addr) (cap2 : Nat) (bs : List (Nat × Obj)) (W : World) : Prop where
  fr : Fr none w0 bs W
  d1 : DefAt W d A1 cap1
  d2 : DefAt W e A2 cap2
section
variable {w0 W W' : World} {d : DefD} {A1 : Option Addr} {cap1 : Nat} {e : DefD} {A2 : Option Addr} {cap2 : Nat} {bs : List (Nat × Obj)}
theorem SG.below (h : SG w0 d A1 cap1 e A2 cap2 bs W) (hb : Below W.heap.size W W') : SG w0 d A1 cap1 e A2 cap2 bs W' := ⟨h.fr.below hb, h.d1.below hb, h.d2.below hb⟩
theorem SG.alloc (h : SG w0 d A1 cap1 e A2 cap2 bs W) (o : Obj) {b : Nat} (hb : b = W.heap.size) : SG w0 d A1 cap1 e A2 cap2 ((b, o) :: bs) (W.alloc o) := ⟨h.fr.alloc o hb, h.d1.alloc o, h.d2.alloc o⟩
theorem SG.drop (h : SG w0 d A1 cap1 e A2 cap2 bs W) (bs' : List (Nat × Obj)) (hs : bs'.Sublist bs) : SG w0 d A1 cap1 e A2 cap2 bs' W := ⟨h.fr.drop bs' hs, h.d1, h.d2⟩
theorem SG.at (h : SG w0 d A1 cap1 e A2 cap2 bs W) (i : Nat) {b : Nat} {o : Obj} (hi : bs[i]? = some (b, o)) : W.heap[b]? = some o := h.fr.at i hi
theorem below_drew (W : World) : Below W.heap.size W W.drew := ⟨rfl, rfl, rfl, Nat.le_refl _, fun _ _ => rfl⟩
end
theorem sagaAll {w0 w' : World} {d e : DefD} {A1 A2 : Option Addr} {cap1 cap2 : Nat} {s r : SagaD} {c : CmdD} {o1 o2 o3 : OutD} {bz by2 bx br be bc bs bd : Nat} (h : SG w0 d A1 cap1 e A2 cap2 [(bz, outO o3), (by2, outO o2), (bx, outO o1), (br, sagaO r), (be, defO e A2 cap2), (bc, cmdO c), (bs, sagaO s), (bd, defO d A1 cap1)] w') : ((w'.cell? ⟨bz, 0, none⟩ = some (.int .i64 o3.sg.ph) ∧ w'.cell? ⟨bz, 1, none⟩ = some (.int .i64 o3.sg.dn) ∧ w'.cell? ⟨bz, 2, none⟩ = some (.int .i64 o3.sg.at_) ∧ w'.cell? ⟨bz, 3, none⟩ = some (.int .i64 o3.sg.tr) ∧ w'.cell? ⟨bz, 4, none⟩ = some (.bool o3.sg.sn) ∧ w'.cell? ⟨bz, 5, none⟩ = some (.int .i64 o3.sg.du) ∧ w'.cell? ⟨bz, 6, none⟩ = some (.int .i64 o3.cm.st) ∧ w'.cell? ⟨bz, 7, none⟩ = some (.bool o3.cm.un) ∧ w'.cell? ⟨bz, 8, none⟩ = some (.int .i64 o3.cm.ty) ∧ w'.cell? ⟨bz, 9, none⟩ = some (.bool o3.ow) ∧ w'.cell? ⟨bz, 10, none⟩ = some (.int .i64 o3.cd)) ∧ (w'.cell? ⟨by2, 0, none⟩ = some (.int .i64 o2.sg.ph) ∧ w'.cell? ⟨by2, 1, none⟩ = some (.int .i64 o2.sg.dn) ∧ w'.cell? ⟨by2, 2, none⟩ = some (.int .i64 o2.sg.at_) ∧ w'.cell? ⟨by2, 3, none⟩ = some (.int .i64 o2.sg.tr) ∧ w'.cell? ⟨by2, 4, none⟩ = some (.bool o2.sg.sn) ∧ w'.cell? ⟨by2, 5, none⟩ = some (.int .i64 o2.sg.du) ∧ w'.cell? ⟨by2, 6, none⟩ = some (.int .i64 o2.cm.st) ∧ w'.cell? ⟨by2, 7, none⟩ = some (.bool o2.cm.un) ∧ w'.cell? ⟨by2, 8, none⟩ = some (.int .i64 o2.cm.ty) ∧ w'.cell? ⟨by2, 9, none⟩ = some (.bool o2.ow) ∧ w'.cell? ⟨by2, 10, none⟩ = some (.int .i64 o2.cd)) ∧ (w'.cell? ⟨bx, 0, none⟩ = some (.int .i64 o1.sg.ph) ∧ w'.cell? ⟨bx, 1, none⟩ = some (.int .i64 o1.sg.dn) ∧ w'.cell? ⟨bx, 2, none⟩ = some (.int .i64 o1.sg.at_) ∧ w'.cell? ⟨bx, 3, none⟩ = some (.int .i64 o1.sg.tr) ∧ w'.cell? ⟨bx, 4, none⟩ = some (.bool o1.sg.sn) ∧ w'.cell? ⟨bx, 5, none⟩ = some (.int .i64 o1.sg.du) ∧ w'.cell? ⟨bx, 6, none⟩ = some (.int .i64 o1.cm.st) ∧ w'.cell? ⟨bx, 7, none⟩ = some (.bool o1.cm.un) ∧ w'.cell? ⟨bx, 8, none⟩ = some (.int .i64 o1.cm.ty) ∧ w'.cell? ⟨bx, 9, none⟩ = some (.bool o1.ow) ∧ w'.cell? ⟨bx, 10, none⟩ = some (.int .i64 o1.cd)) ∧ (w'.cell? ⟨br, 0, none⟩ = some (.int .i64 r.ph) ∧ w'.cell? ⟨br, 1, none⟩ = some (.int .i64 r.dn) ∧ w'.cell? ⟨br, 2, none⟩ = some (.int .i64 r.at_) ∧ w'.cell? ⟨br, 3, none⟩ = some (.int .i64 r.tr) ∧ w'.cell? ⟨br, 4, none⟩ = some (.bool r.sn) ∧ w'.cell? ⟨br, 5, none⟩ = some (.int .i64 r.du)) ∧ (w'.cell? ⟨be, 0, none⟩ = some (.string e.nm) ∧ w'.cell? ⟨be, 1, none⟩ = some (.slice A2 e.st.length cap2) ∧ w'.cell? ⟨be, 2, none⟩ = some (.int .i64 e.pv)) ∧ (w'.cell? ⟨bc, 0, none⟩ = some (.int .i64 c.st) ∧ w'.cell? ⟨bc, 1, none⟩ = some (.bool c.un) ∧ w'.cell? ⟨bc, 2, none⟩ = some (.int .i64 c.ty)) ∧ (w'.cell? ⟨bs, 0, none⟩ = some (.int .i64 s.ph) ∧ w'.cell? ⟨bs, 1, none⟩ = some (.int .i64 s.dn) ∧ w'.cell? ⟨bs, 2, none⟩ = some (.int .i64 s.at_) ∧ w'.cell? ⟨bs, 3, none⟩ = some (.int .i64 s.tr) ∧ w'.cell? ⟨bs, 4, none⟩ = some (.bool s.sn) ∧ w'.cell? ⟨bs, 5, none⟩ = some (.int .i64 s.du)) ∧ (w'.cell? ⟨bd, 0, none⟩ = some (.string d.nm) ∧ w'.cell? ⟨bd, 1, none⟩ = some (.slice A1 d.st.length cap1) ∧ w'.cell? ⟨bd, 2, none⟩ = some (.int .i64 d.pv))) := by
  obtain ⟨-, -, z0, z1, z2, z3, z4, z5, z6, z7, z8, z9, z10⟩ := cells11 (h.at 0 rfl)
  obtain ⟨-, -, y0, y1, y2, y3, y4, y5, y6, y7, y8, y9, y10⟩ := cells11 (h.at 1 rfl)
  obtain ⟨-, -, x0, x1, x2, x3, x4, x5, x6, x7, x8, x9, x10⟩ := cells11 (h.at 2 rfl)
  obtain ⟨-, -, r0, r1, r2, r3, r4, r5⟩ := cells6 (h.at 3 rfl)
  obtain ⟨-, -, k0, k1, k2⟩ := cells3 (h.at 4 rfl)
  obtain ⟨-, -, c0, c1, c2⟩ := cells3 (h.at 5 rfl)
  obtain ⟨-, -, s0, s1, s2, s3, s4, s5⟩ := cells6 (h.at 6 rfl)
  obtain ⟨-, -, d0, d1, d2⟩ := cells3 (h.at 7 rfl)
  exact ⟨⟨z0, z1, z2, z3, z4, z5, z6, z7, z8, z9, z10⟩, ⟨y0, y1, y2, y3, y4, y5, y6, y7, y8, y9, y10⟩, ⟨x0, x1, x2, x3, x4, x5, x6, x7, x8, x9, x10⟩, ⟨r0, r1, r2, r3, r4, r5⟩, ⟨k0, k1, k2⟩, ⟨c0, c1, c2⟩, ⟨s0, s1, s2, s3, s4, s5⟩, ⟨d0, d1, d2⟩⟩
def listO (o1 o2 o3 : OutD) : Obj := .cells #[.int .i64 o1.sg.ph, .int .i64 o1.sg.dn, .int .i64 o1.sg.at_, .int .i64 o1.sg.tr, .bool o1.sg.sn, .int .i64 o1.sg.du, .int .i64 o1.cm.st, .bool o1.cm.un, .int .i64 o1.cm.ty, .bool o1.ow, .int .i64 o1.cd, .int .i64 o2.sg.ph, .int .i64 o2.sg.dn, .int .i64 o2.sg.at_, .int .i64 o2.sg.tr, .bool o2.sg.sn, .int .i64 o2.sg.du, .int .i64 o2.cm.st, .bool o2.cm.un, .int .i64 o2.cm.ty, .bool o2.ow, .int .i64 o2.cd, .int .i64 o3.sg.ph, .int .i64 o3.sg.dn, .int .i64 o3.sg.at_, .int .i64 o3.sg.tr, .bool o3.sg.sn, .int .i64 o3.sg.du, .int .i64 o3.cm.st, .bool o3.cm.un, .int .i64 o3.cm.ty, .bool o3.ow, .int .i64 o3.cd] 41
theorem Fr.swap {r : Option Nat} {w W : World} {p q : Nat × Obj} (h : Fr r w [p, q] W) : Fr r w [q, p] W := by
  have h1 := h.ne
  simp only [List.pairwise_cons, List.mem_singleton, forall_eq] at h1
  exact ⟨h.gr, fun x hx => h.lo x (by simp only [List.mem_cons, List.not_mem_nil, or_false] at hx ⊢; exact hx.symm), by simp; exact fun e => h1.1 e.symm, fun x hx => h.has x (by simp only [List.mem_cons, List.not_mem_nil, or_false] at hx ⊢; exact hx.symm)⟩
theorem Fr.putTwo {w W : World} {b18 b19 : Nat} {d e : DefD} {A B : Option Addr} {cap cap2 : Nat} {r s : SagaD} (h : Fr none w [(b18, defO e B cap2), (b19, sagaO r)] W) :
    Fr none w [(b18, defO d A cap), (b19, sagaO s)] (stores (stores W b18 0 [.string d.nm, .slice A d.st.length cap, .int .i64 d.pv]) b19 0 [.int .i64 s.ph, .int .i64 s.dn, .int .i64 s.at_, .int .i64 s.tr, .bool s.sn, .int .i64 s.du]) ∧ Fr none w [(b18, defO d A cap), (b19, sagaO s)] (stores (stores W b19 0 [.int .i64 s.ph, .int .i64 s.dn, .int .i64 s.at_, .int .i64 s.tr, .bool s.sn, .int .i64 s.du]) b18 0 [.string d.nm, .slice A d.st.length cap, .int .i64 d.pv]) := by
  have h1 := h.put 0 (defO d A cap) rfl
  have h2 := h.put 1 (sagaO s) rfl
  have h12 := h1.put 1 (sagaO s) rfl
  have h21 := h2.put 0 (defO d A cap) rfl
  have e1 := stores_all [.string d.nm, .slice A d.st.length cap, .int .i64 d.pv] (h.at 0 rfl) rfl
  have e2 := stores_all [.int .i64 s.ph, .int .i64 s.dn, .int .i64 s.at_, .int .i64 s.tr, .bool s.sn, .int .i64 s.du] (h.at 1 rfl) rfl
  have e12 := stores_all [.int .i64 s.ph, .int .i64 s.dn, .int .i64 s.at_, .int .i64 s.tr, .bool s.sn, .int .i64 s.du] (h1.at 1 rfl) rfl
  have e21 := stores_all [.string d.nm, .slice A d.st.length cap, .int .i64 d.pv] (h2.at 0 rfl) rfl
  unfold defO at h12 e12
  unfold sagaO at h21 e21
  rw [e1, e2, e12, e21]
  exact ⟨h12, h21⟩
def PickAt (W : World) (bl k : Nat) (D : DefD) (A : Option Addr) (cap : Nat) (S : SagaD) (O : OutD) : Prop :=
  DefAt W D A cap ∧ (O.cd = 0 → Goes D S O) ∧ W.cell? ⟨bl, k * 11, none⟩ = some (.int .i64 O.sg.ph) ∧ W.cell? ⟨bl, k * 11 + 1, none⟩ = some (.int .i64 O.sg.dn) ∧ W.cell? ⟨bl, k * 11 + 2, none⟩ = some (.int .i64 O.sg.at_) ∧ W.cell? ⟨bl, k * 11 + 3, none⟩ = some (.int .i64 O.sg.tr) ∧
  W.cell? ⟨bl, k * 11 + 4, none⟩ = some (.bool O.sg.sn) ∧ W.cell? ⟨bl, k * 11 + 5, none⟩ = some (.int .i64 O.sg.du) ∧ W.cell? ⟨bl, k * 11 + 6, none⟩ = some (.int .i64 O.cm.st) ∧ W.cell? ⟨bl, k * 11 + 7, none⟩ = some (.bool O.cm.un) ∧ W.cell? ⟨bl, k * 11 + 8, none⟩ = some (.int .i64 O.cm.ty) ∧
  W.cell? ⟨bl, k * 11 + 9, none⟩ = some (.bool O.ow) ∧ W.cell? ⟨bl, k * 11 + 10, none⟩ = some (.int .i64 O.cd)
theorem pick0 {w W : World} {d e : DefD} {A1 A2 : Option Addr} {cap1 cap2 : Nat} {s : SagaD} {o1 o2 o3 : OutD} {bl k : Nat} {bs : List (Nat × Obj)} (h : SG w d A1 cap1 e A2 cap2 ((bl, listO o1 o2 o3) :: bs) W) (hk : k = 0) (hg : o1.cd = 0 → Goes d s o1) : PickAt W bl k d A1 cap1 s o1 := by
  subst hk
  have hb := blk_cell (h.at 0 rfl)
  exact ⟨h.d1, hg, (hb _).trans rfl, (hb _).trans rfl, (hb _).trans rfl, (hb _).trans rfl, (hb _).trans rfl, (hb _).trans rfl, (hb _).trans rfl, (hb _).trans rfl, (hb _).trans rfl, (hb _).trans rfl, (hb _).trans rfl⟩
theorem pick1 {w W : World} {d e : DefD} {A1 A2 : Option Addr} {cap1 cap2 : Nat} {r : SagaD} {o1 o2 o3 : OutD} {bl k : Nat} {bs : List (Nat × Obj)} (h : SG w d A1 cap1 e A2 cap2 ((bl, listO o1 o2 o3) :: bs) W) (h0 : ¬ k = 0) (hk : k < 3) (hg2 : o2.cd = 0 → Goes e r o2) (hg3 : o3.cd = 0 → Goes e r o3) : ∃ O, PickAt W bl k e A2 cap2 r O := by
  have hb := blk_cell (h.at 0 rfl)
  rcases (show k = 1 ∨ k = 2 by omega) with rfl | rfl
  · exact ⟨o2, h.d2, hg2, (hb _).trans rfl, (hb _).trans rfl, (hb _).trans rfl, (hb _).trans rfl, (hb _).trans rfl, (hb _).trans rfl, (hb _).trans rfl, (hb _).trans rfl, (hb _).trans rfl, (hb _).trans rfl, (hb _).trans rfl⟩
  · exact ⟨o3, h.d2, hg3, (hb _).trans rfl, (hb _).trans rfl, (hb _).trans rfl, (hb _).trans rfl, (hb _).trans rfl, (hb _).trans rfl, (hb _).trans rfl, (hb _).trans rfl, (hb _).trans rfl, (hb _).trans rfl, (hb _).trans rfl⟩
set_option maxRecDepth 100000 in
set_option maxHeartbeats 20000000 in
theorem fnSaga_any (bs1 bs2 : List UInt8) (P1 P2 : Option Addr) (q1 q2 : Nat) (w : World) (hr1 : RowAt w P1 1 byteC bs1) (hr2 : RowAt w P2 1 byteC bs2) (hc1 : bs1.length ≤ q1) (hc2 : bs2.length ≤ q2) (hb1 : ∀ x, P1 = some x → x.block < w.heap.size) (hb2 : ∀ x, P2 = some x → x.block < w.heap.size) (hl1 : bs1.length ≤ 9223372036854775807) (hl2 : bs2.length ≤ 9223372036854775807) :
    Calls Try.prog 6 #[.slice P1 bs1.length q1, .slice P2 bs2.length q2] w (SagaTrue w) := by
  have HR1 := Lib.hid hr1
  have HR2 := Lib.hid hr2
  have HB1 := Lib.hid hb1
  have HB2 := Lib.hid hb2
  clear hr1 hr2 hb1 hb2
  by_cases h1 : bs1.length ≤ 1048576
  · by_cases h2 : bs2.length ≤ 1048576
    · go_enter Try.func6, Try.ntmps6
      go_wp2_with fail
      refine (drawReply_any bs1 P1 q1 w HR1.out h1 hc1 HB1.out).mono ?_
      rintro ee w1 ⟨d, A1, cap1, s, c, good, now, hdf, rfl, hgr⟩
      have hbw := grown_below hgr
      have HBW := Lib.hid hbw
      have HD := Lib.hid hdf
      clear hdf hgr hbw
      go_upto_region 4 with fail
      obtain ⟨bc, hbc⟩ : ∃ b, b = w1.heap.size + 1 + 1 := ⟨_, rfl⟩
      obtain ⟨bs, hbs⟩ : ∃ b, b = w1.heap.size + 1 := ⟨_, rfl⟩
      obtain ⟨bd, hbd⟩ : ∃ b, b = w1.heap.size := ⟨_, rfl⟩
      have HF := Lib.hid (((((Fr.start none w).below HBW.out).alloc (defO d A1 cap1) hbd).alloc (sagaO s) (by simp; omega)).alloc (cmdO c) (by simp; omega) : Fr none w [(bc, cmdO c), (bs, sagaO s), (bd, defO d A1 cap1)] _)
      rw [← hbc, ← hbs, ← hbd]
      refine wpNamed (fun W => Fr none w [(bc, cmdO c), (bs, sagaO s), (bd, defO d A1 cap1)] W ∧ DefAt W d A1 cap1) ⟨HF.out, ((HD.out.alloc _).alloc _).alloc _⟩ ?_
      clear HF HBW HD hbc hbs hbd
      clear w1
      rintro W ⟨hF, hD⟩
      have HF := Lib.hid hF
      have HD := Lib.hid hD
      clear hF hD
      go_wp2_with fail
      refine (drawTick_any bs2 P2 q2 W (HR2.out.below HF.out.bel) h2 hc2 (fun x hx => Nat.lt_of_lt_of_le (HB2.out x hx) HF.out.gr.size)).mono ?_
      rintro ee w1 ⟨e, A2, cap2, r, late, hdf, rfl, hgr⟩
      have hbw := grown_below hgr
      have HF1 := Lib.hid (HF.out.below hbw)
      have HD1 := Lib.hid (HD.out.below hbw)
      have HE1 := Lib.hid hdf
      clear hdf hgr hbw HF HD W HR1 HR2 HB1 HB2
      go_upto_region 5 with fail
      obtain ⟨br, hbr⟩ : ∃ b, b = w1.heap.size + 1 := ⟨_, rfl⟩
      obtain ⟨be, hbe⟩ : ∃ b, b = w1.heap.size := ⟨_, rfl⟩
      rw [← hbr, ← hbe]
      have HF := Lib.hid (SG.alloc (SG.alloc (SG.mk HF1.out HD1.out HE1.out) (defO e A2 cap2) hbe) (sagaO r) (by simp; omega) : SG w d A1 cap1 e A2 cap2 [(br, sagaO r), (be, defO e A2 cap2), (bc, cmdO c), (bs, sagaO s), (bd, defO d A1 cap1)] _)
      refine wpNamed (SG w d A1 cap1 e A2 cap2 [(br, sagaO r), (be, defO e A2 cap2), (bc, cmdO c), (bs, sagaO s), (bd, defO d A1 cap1)]) HF.out ?_
      clear HF HF1 HD1 HE1 hbr hbe
      clear w1
      intro W hW
      have HW := Lib.hid hW
      clear hW
      obtain ⟨-, -, c0, c1, c2⟩ := cells3 (HW.out.at 2 rfl)
      obtain ⟨-, -, s0, s1, s2, s3, s4, s5⟩ := cells6 (HW.out.at 3 rfl)
      obtain ⟨-, -, d0, d1, d2⟩ := cells3 (HW.out.at 4 rfl)
      go_wp2_with fail
      refine (replyImpl_any d A1 cap1 s c good now _ HW.out.d1).mono ?_
      rintro ee w1 ⟨rfl, hb⟩
      have HW1 := Lib.hid (HW.out.below hb)
      obtain ⟨o1, ho1⟩ : ∃ o, replyS d s c good now = o := ⟨_, rfl⟩
      rw [ho1]
      have HO1 := Lib.hid ho1
      clear hb HW c0 c1 c2 s0 s1 s2 s3 s4 s5 d0 d1 d2 ho1 W
      go_upto_region 6 with fail
      obtain ⟨bx, hbx⟩ : ∃ b, b = w1.heap.size := ⟨_, rfl⟩
      rw [← hbx]
      refine wpNamed (SG w d A1 cap1 e A2 cap2 [(bx, outO o1), (br, sagaO r), (be, defO e A2 cap2), (bc, cmdO c), (bs, sagaO s), (bd, defO d A1 cap1)]) (HW1.out.alloc (outO o1) hbx) ?_
      clear HW1 hbx
      clear w1
      intro W hW
      have HW := Lib.hid hW
      clear hW
      obtain ⟨-, -, r0, r1, r2, r3, r4, r5⟩ := cells6 (HW.out.at 1 rfl)
      obtain ⟨-, -, k0, k1, k2⟩ := cells3 (HW.out.at 2 rfl)
      go_wp2_with fail
      refine (tickImpl_any e A2 cap2 r late _ HW.out.d2).mono ?_
      rintro ee w1 ⟨rfl, hb⟩
      have HW1 := Lib.hid (HW.out.below hb)
      obtain ⟨o2, ho2⟩ : ∃ o, tickS e r late = o := ⟨_, rfl⟩
      rw [ho2]
      have HO2 := Lib.hid ho2
      clear hb HW r0 r1 r2 r3 r4 r5 k0 k1 k2 ho2 W
      go_upto_region 7 with fail
      obtain ⟨by2, hby2⟩ : ∃ b, b = w1.heap.size := ⟨_, rfl⟩
      rw [← hby2]
      refine wpNamed (SG w d A1 cap1 e A2 cap2 [(by2, outO o2), (bx, outO o1), (br, sagaO r), (be, defO e A2 cap2), (bc, cmdO c), (bs, sagaO s), (bd, defO d A1 cap1)]) (HW1.out.alloc (outO o2) hby2) ?_
      clear HW1 hby2
      clear w1
      intro W hW
      have HW := Lib.hid hW
      clear hW
      obtain ⟨-, -, r0, r1, r2, r3, r4, r5⟩ := cells6 (HW.out.at 2 rfl)
      obtain ⟨-, -, k0, k1, k2⟩ := cells3 (HW.out.at 3 rfl)
      go_wp2_with fail
      refine (cancelImpl_any e A2 cap2 r late _ HW.out.d2).mono ?_
      rintro ee w1 ⟨rfl, hb⟩
      have HW1 := Lib.hid (HW.out.below hb)
      obtain ⟨o3, ho3⟩ : ∃ o, cancelS e r late = o := ⟨_, rfl⟩
      rw [ho3]
      have HO3 := Lib.hid ho3
      clear hb HW r0 r1 r2 r3 r4 r5 k0 k1 k2 ho3 W
      go_upto_region 8 with fail
      obtain ⟨bz, hbz⟩ : ∃ b, b = w1.heap.size := ⟨_, rfl⟩
      rw [← hbz]
      refine wpNamed (SG w d A1 cap1 e A2 cap2 [(bz, outO o3), (by2, outO o2), (bx, outO o1), (br, sagaO r), (be, defO e A2 cap2), (bc, cmdO c), (bs, sagaO s), (bd, defO d A1 cap1)]) (HW1.out.alloc (outO o3) hbz) ?_
      clear HW1 hbz
      clear w1
      intro W hW
      have HW := Lib.hid hW
      clear hW
      go_cut [80] (fun s80 wx => s80 = .bool false ∧ SG w d A1 cap1 e A2 cap2 [(bz, outO o3), (by2, outO o2), (bx, outO o1), (br, sagaO r), (be, defO e A2 cap2), (bc, cmdO c), (bs, sagaO s), (bd, defO d A1 cap1)] wx)
      case first =>
        have hq1 := neq_out o1
        have hq2 := neq_out o2
        have hq3 := neq_out o3
        have HWd := Lib.hid (HW.out.below (below_drew W))
        have HSD := Lib.hid (sagaAll HWd.out)
        go_region_held3 (fun w' => ((w'.cell? ⟨bz, 0, none⟩ = some (.int .i64 o3.sg.ph) ∧ w'.cell? ⟨bz, 1, none⟩ = some (.int .i64 o3.sg.dn) ∧ w'.cell? ⟨bz, 2, none⟩ = some (.int .i64 o3.sg.at_) ∧ w'.cell? ⟨bz, 3, none⟩ = some (.int .i64 o3.sg.tr) ∧ w'.cell? ⟨bz, 4, none⟩ = some (.bool o3.sg.sn) ∧ w'.cell? ⟨bz, 5, none⟩ = some (.int .i64 o3.sg.du) ∧ w'.cell? ⟨bz, 6, none⟩ = some (.int .i64 o3.cm.st) ∧ w'.cell? ⟨bz, 7, none⟩ = some (.bool o3.cm.un) ∧ w'.cell? ⟨bz, 8, none⟩ = some (.int .i64 o3.cm.ty) ∧ w'.cell? ⟨bz, 9, none⟩ = some (.bool o3.ow) ∧ w'.cell? ⟨bz, 10, none⟩ = some (.int .i64 o3.cd)) ∧ (w'.cell? ⟨by2, 0, none⟩ = some (.int .i64 o2.sg.ph) ∧ w'.cell? ⟨by2, 1, none⟩ = some (.int .i64 o2.sg.dn) ∧ w'.cell? ⟨by2, 2, none⟩ = some (.int .i64 o2.sg.at_) ∧ w'.cell? ⟨by2, 3, none⟩ = some (.int .i64 o2.sg.tr) ∧ w'.cell? ⟨by2, 4, none⟩ = some (.bool o2.sg.sn) ∧ w'.cell? ⟨by2, 5, none⟩ = some (.int .i64 o2.sg.du) ∧ w'.cell? ⟨by2, 6, none⟩ = some (.int .i64 o2.cm.st) ∧ w'.cell? ⟨by2, 7, none⟩ = some (.bool o2.cm.un) ∧ w'.cell? ⟨by2, 8, none⟩ = some (.int .i64 o2.cm.ty) ∧ w'.cell? ⟨by2, 9, none⟩ = some (.bool o2.ow) ∧ w'.cell? ⟨by2, 10, none⟩ = some (.int .i64 o2.cd)) ∧ (w'.cell? ⟨bx, 0, none⟩ = some (.int .i64 o1.sg.ph) ∧ w'.cell? ⟨bx, 1, none⟩ = some (.int .i64 o1.sg.dn) ∧ w'.cell? ⟨bx, 2, none⟩ = some (.int .i64 o1.sg.at_) ∧ w'.cell? ⟨bx, 3, none⟩ = some (.int .i64 o1.sg.tr) ∧ w'.cell? ⟨bx, 4, none⟩ = some (.bool o1.sg.sn) ∧ w'.cell? ⟨bx, 5, none⟩ = some (.int .i64 o1.sg.du) ∧ w'.cell? ⟨bx, 6, none⟩ = some (.int .i64 o1.cm.st) ∧ w'.cell? ⟨bx, 7, none⟩ = some (.bool o1.cm.un) ∧ w'.cell? ⟨bx, 8, none⟩ = some (.int .i64 o1.cm.ty) ∧ w'.cell? ⟨bx, 9, none⟩ = some (.bool o1.ow) ∧ w'.cell? ⟨bx, 10, none⟩ = some (.int .i64 o1.cd)) ∧ (w'.cell? ⟨br, 0, none⟩ = some (.int .i64 r.ph) ∧ w'.cell? ⟨br, 1, none⟩ = some (.int .i64 r.dn) ∧ w'.cell? ⟨br, 2, none⟩ = some (.int .i64 r.at_) ∧ w'.cell? ⟨br, 3, none⟩ = some (.int .i64 r.tr) ∧ w'.cell? ⟨br, 4, none⟩ = some (.bool r.sn) ∧ w'.cell? ⟨br, 5, none⟩ = some (.int .i64 r.du)) ∧ (w'.cell? ⟨be, 0, none⟩ = some (.string e.nm) ∧ w'.cell? ⟨be, 1, none⟩ = some (.slice A2 e.st.length cap2) ∧ w'.cell? ⟨be, 2, none⟩ = some (.int .i64 e.pv)) ∧ (w'.cell? ⟨bc, 0, none⟩ = some (.int .i64 c.st) ∧ w'.cell? ⟨bc, 1, none⟩ = some (.bool c.un) ∧ w'.cell? ⟨bc, 2, none⟩ = some (.int .i64 c.ty)) ∧ (w'.cell? ⟨bs, 0, none⟩ = some (.int .i64 s.ph) ∧ w'.cell? ⟨bs, 1, none⟩ = some (.int .i64 s.dn) ∧ w'.cell? ⟨bs, 2, none⟩ = some (.int .i64 s.at_) ∧ w'.cell? ⟨bs, 3, none⟩ = some (.int .i64 s.tr) ∧ w'.cell? ⟨bs, 4, none⟩ = some (.bool s.sn) ∧ w'.cell? ⟨bs, 5, none⟩ = some (.int .i64 s.du)) ∧ (w'.cell? ⟨bd, 0, none⟩ = some (.string d.nm) ∧ w'.cell? ⟨bd, 1, none⟩ = some (.slice A1 d.st.length cap1) ∧ w'.cell? ⟨bd, 2, none⟩ = some (.int .i64 d.pv))))
          (first | with_reducible exact HS3.out | with_reducible exact HS2.out | with_reducible exact HS1.out | with_reducible exact HSD.out)
          (first
            | (go_at_call 32; refine (replySpec_any d A1 cap1 s c good now _ HWd.out.d1).mono ?_; rintro ee w3 ⟨rfl, hb⟩; rw [HO1.out]; have HW1 := Lib.hid (HWd.out.below hb); clear hb; have HS1 := Lib.hid (sagaAll HW1.out))
            | (go_at_call 33; refine (tickSpec_any e A2 cap2 r late _ HW1.out.d2).mono ?_; rintro ee w4 ⟨rfl, hb⟩; rw [HO2.out]; have HW2 := Lib.hid (HW1.out.below hb); clear hb; have HS2 := Lib.hid (sagaAll HW2.out))
            | (go_at_call 34; refine (cancelSpec_any e A2 cap2 r late _ HW2.out.d2).mono ?_; rintro ee w5 ⟨rfl, hb⟩; rw [HO3.out]; have HW3 := Lib.hid (HW2.out.below hb); clear hb; have HS3 := Lib.hid (sagaAll HW3.out)))
        go_wp2_with fail
        go_meet
        exact ⟨rfl, HW3.out⟩
      case rest =>
      obtain ⟨rfl, hcut⟩ := hcut
      have HW1 := Lib.hid hcut
      clear hcut HW
      obtain ⟨-, -, z0, z1, z2, z3, z4, z5, z6, z7, z8, z9, z10⟩ := cells11 (HW1.out.at 0 rfl)
      obtain ⟨-, -, y0, y1, y2, y3, y4, y5, y6, y7, y8, y9, y10⟩ := cells11 (HW1.out.at 1 rfl)
      obtain ⟨-, -, x0, x1, x2, x3, x4, x5, x6, x7, x8, x9, x10⟩ := cells11 (HW1.out.at 2 rfl)
      go_upto_region 11 with fail
      obtain ⟨bl, hbl⟩ : ∃ b, b = wc.heap.size := ⟨_, rfl⟩
      rw [← hbl]
      refine wpNamed (SG w d A1 cap1 e A2 cap2 ((bl, listO o1 o2 o3) :: [(bz, outO o3), (by2, outO o2), (bx, outO o1), (br, sagaO r), (be, defO e A2 cap2), (bc, cmdO c), (bs, sagaO s), (bd, defO d A1 cap1)])) (HW1.out.alloc (listO o1 o2 o3) hbl) ?_
      clear HW1 hbl z0 z1 z2 z3 z4 z5 z6 z7 z8 z9 z10 y0 y1 y2 y3 y4 y5 y6 y7 y8 y9 y10 x0 x1 x2 x3 x4 x5 x6 x7 x8 x9 x10 W
      clear wc
      intro W hW
      have HW := Lib.hid hW
      clear hW
      go_wp2_with fail
      have HG1 := Lib.hid (show o1.cd = 0 → Goes d s o1 from fun h => by have hgo := goes_reply (d := d) (s := s) (c := c) (good := good) (now := now) (by rw [HO1.out]; exact h); rwa [HO1.out] at hgo)
      have HG2 := Lib.hid (show o2.cd = 0 → Goes e r o2 from fun h => by have hgo := goes_tick (d := e) (s := r) (now := late) (by rw [HO2.out]; exact h); rwa [HO2.out] at hgo)
      have HG3 := Lib.hid (show o3.cd = 0 → Goes e r o3 from fun h => by have hgo := goes_cancel (d := e) (s := r) (now := late) (by rw [HO3.out]; exact h); rwa [HO3.out] at hgo)
      go_loopw [17] (fun v wr => ∃ k : Nat, k ≤ 3 ∧ v = .int .i64 k ∧ SG w d A1 cap1 e A2 cap2 ((bl, listO o1 o2 o3) :: [(bz, outO o3), (by2, outO o2), (bx, outO o1), (br, sagaO r), (be, defO e A2 cap2), (bc, cmdO c), (bs, sagaO s), (bd, defO d A1 cap1)]) wr) (fun v wr => (3 - intOf v).toNat)
      case atStart => exact ⟨0, by omega, rfl, HW.out⟩
      case round =>
        obtain ⟨k, hk, rfl, hsg⟩ := hrel
        have HL := Lib.hid hsg
        clear hsg HW W
        by_cases hk3 : k < 3
        · have hki : (0 : Int) ≤ (k : Int) := by omega
          have hkl : (k : Int) < 3 := by omega
          obtain ⟨r0, rf, r1, r2, r3, r4, r5, r6⟩ := cells6 (HL.out.at 4 rfl)
          obtain ⟨k0, kf, k1, k2, k3⟩ := cells3 (HL.out.at 5 rfl)
          go_wp2_with fail
          go_cut [18, 19] (fun s18 s19 wx => ∃ b18 b19, s18 = .pointer (some ⟨b18, 0, none⟩) ∧ s19 = .pointer (some ⟨b19, 0, none⟩) ∧ Fr none wr [(b18, defO e A2 cap2), (b19, sagaO r)] wx)
          case first =>
            go_region
            all_goals go_wp2_with fail
            all_goals go_meet
            · exact ⟨_, _, rfl, rfl, (((Fr.start none wr).alloc (defO e A2 cap2) rfl).alloc (sagaO r) (by simp)).swap.drew⟩
            · exact ⟨_, _, rfl, rfl, (((Fr.start none wr).alloc (sagaO r) rfl).alloc (defO e A2 cap2) (by simp)).drew⟩
          case rest =>
          obtain ⟨b18, b19, rfl, rfl, hcut⟩ := hcut
          have HF := Lib.hid hcut
          have HLc := Lib.hid (HL.out.below hcut.bel)
          clear hcut r0 rf r1 r2 r3 r4 r5 r6 k0 kf k1 k2 k3
          obtain ⟨wq, rfl⟩ : ∃ wq, wq = wc := ⟨_, rfl⟩
          go_upto_if 92 with fail
          go_cut [] (fun wx => ∃ D A cap S O, Fr none wr [(b18, defO D A cap), (b19, sagaO S)] wx ∧ PickAt wx bl k D A cap S O)
          case first =>
            by_cases hk0 : k = 0
            · have hqe : ((k : Int) == 0) = true := by simp [hk0]
              have hqd : decide ((k : Int) = 0) = true := by simp [hk0]
              simp only [hqe, hqd]
              obtain ⟨-, -, s1, s2, s3, s4, s5, s6⟩ := cells6 (HLc.out.at 7 rfl)
              obtain ⟨-, -, d1, d2, d3⟩ := cells3 (HLc.out.at 8 rfl)
              obtain ⟨y0, yf, y1, y2, y3, y4, y5, y6⟩ := cells6 (HF.out.at 1 rfl)
              obtain ⟨z0, zf, z1, z2, z3⟩ := cells3 (HF.out.at 0 rfl)
              have hlo := HF.out.lo
              simp only [List.mem_cons, List.not_mem_nil, or_false, forall_eq_or_imp, forall_eq] at hlo
              have hbsw : bs < wr.heap.size := (cells6 (HL.out.at 7 rfl)).1
              have hbdw : bd < wr.heap.size := (cells3 (HL.out.at 8 rfl)).1
              have hne := HF.out.ne
              simp only [List.pairwise_cons, List.mem_cons, List.not_mem_nil, or_false, forall_eq_or_imp, forall_eq] at hne
              obtain ⟨m1, m1', m2, m2', m3, m3', m4, m4', m5, m5'⟩ : bs ≠ b18 ∧ b18 ≠ bs ∧ bs ≠ b19 ∧ b19 ≠ bs ∧ bd ≠ b18 ∧ b18 ≠ bd ∧ bd ≠ b19 ∧ b19 ≠ bd ∧ b18 ≠ b19 ∧ b19 ≠ b18 := by omega
              clear hlo hbsw hbdw hne
              have hp := HF.out.putTwo (d := d) (A := A1) (cap := cap1) (s := s)
              simp only [stores, Nat.zero_add, Nat.reduceAdd] at hp
              have HP1 := Lib.hid hp.1.drew
              have HP2 := Lib.hid hp.2.drew
              have PK1 := Lib.hid (pick0 (HL.out.below HP1.out.bel) hk0 HG1.out)
              have PK2 := Lib.hid (pick0 (HL.out.below HP2.out.bel) hk0 HG1.out)
              clear hp
              go_wp2_with fail
              go_region
              all_goals go_wp2_with fail
              all_goals go_meet
              all_goals first | with_reducible exact ⟨_, _, _, _, _, HP1.out, PK1.out⟩ | with_reducible exact ⟨_, _, _, _, _, HP2.out, PK2.out⟩
            · have hqe : ((k : Int) == 0) = false := by simp; omega
              have hqd : decide ((k : Int) = 0) = false := by simp; omega
              simp only [hqe, hqd]
              obtain ⟨O, hpk⟩ := pick1 HLc.out hk0 hk3 HG2.out HG3.out
              have PK := Lib.hid hpk
              clear hpk
              go_wp2_with fail
              go_meet
              exact ⟨_, _, _, _, _, HF.out, PK.out⟩
          case rest =>
          obtain ⟨D, A, cap, S, O, hF, hpk⟩ := hcut
          have HF2 := Lib.hid hF
          have HLd := Lib.hid (HL.out.below hF.bel)
          obtain ⟨hdf, hgs, c0, c1, c2, c3, c4, c5, c6, c7, c8, c9, c10⟩ := hpk
          have HDF := Lib.hid hdf
          have HGS := Lib.hid hgs
          clear hF hdf hgs HF HLc
          have hz0 := (HL.out.fr.lt (List.mem_cons_self ..))
          by_cases hcd : O.cd = 0
          · have hgo := HGS.out hcd
            have hov := hgo.ow
            have hcm := hgo.cm
            have HON := Lib.hid hgo.on
            clear hgo
            have HC := Lib.hid (And.intro c6 (And.intro c7 (And.intro c8 c9)))
            have HOW := Lib.hid hov
            have HCM := Lib.hid hcm
            clear hov hcm c6 c7 c8 c9
            obtain ⟨⟨p1, p2, p3, p4, p5, p6⟩, ⟨m1, m2, m3⟩, ow, cd⟩ := O
            dsimp only at HON HOW HCM HC c0 c1 c2 c3 c4 c5 c10 hcd
            obtain rfl : ow = p5 := HOW.out
            subst hcd
            clear HOW
            go_upto_region 19 with fail
            obtain ⟨bn, hbn⟩ : ∃ b, b = wc.heap.size := ⟨_, rfl⟩
            rw [← hbn]
            refine wpNamed (fun W => Fr none wr [(bn, sagaO ⟨p1, p2, p3, p4, ow, p6⟩), (b18, defO D A cap), (b19, sagaO S)] W ∧ DefAt W D A cap ∧ (W.cell? ⟨bl, k * 11 + 6, none⟩ = some (.int .i64 m1) ∧ W.cell? ⟨bl, k * 11 + 7, none⟩ = some (.bool m2) ∧ W.cell? ⟨bl, k * 11 + 8, none⟩ = some (.int .i64 m3) ∧ W.cell? ⟨bl, k * 11 + 9, none⟩ = some (.bool ow)))
              ⟨HF2.out.alloc (sagaO ⟨p1, p2, p3, p4, ow, p6⟩) hbn, HDF.out.alloc _, cell_later (bel1 _) HC.out.1, cell_later (bel1 _) HC.out.2.1, cell_later (bel1 _) HC.out.2.2.1, cell_later (bel1 _) HC.out.2.2.2⟩ ?_
            clear HC HDF HF2 HLd hbn c0 c1 c2 c3 c4 c5 c10
            rintro W ⟨hF, hD, hC⟩
            have HF := Lib.hid hF
            have HD := Lib.hid hD
            have HC := Lib.hid hC
            clear hF hD hC
            cases ow
            · have HSD := Lib.hid (show ((W.drew.cell? ⟨b18, 0, none⟩ = some (.string D.nm) ∧ W.drew.cell? ⟨b18, 1, none⟩ = some (.slice A D.st.length cap) ∧ W.drew.cell? ⟨b18, 2, none⟩ = some (.int .i64 D.pv)) ∧ (W.drew.cell? ⟨b19, 0, none⟩ = some (.int .i64 S.ph) ∧ W.drew.cell? ⟨b19, 1, none⟩ = some (.int .i64 S.dn) ∧ W.drew.cell? ⟨b19, 2, none⟩ = some (.int .i64 S.at_) ∧ W.drew.cell? ⟨b19, 3, none⟩ = some (.int .i64 S.tr) ∧ W.drew.cell? ⟨b19, 4, none⟩ = some (.bool S.sn) ∧ W.drew.cell? ⟨b19, 5, none⟩ = some (.int .i64 S.du)) ∧ (W.drew.cell? ⟨bn, 0, none⟩ = some (.int .i64 p1) ∧ W.drew.cell? ⟨bn, 1, none⟩ = some (.int .i64 p2) ∧ W.drew.cell? ⟨bn, 2, none⟩ = some (.int .i64 p3) ∧ W.drew.cell? ⟨bn, 3, none⟩ = some (.int .i64 p4) ∧ W.drew.cell? ⟨bn, 4, none⟩ = some (.bool false) ∧ W.drew.cell? ⟨bn, 5, none⟩ = some (.int .i64 p6)) ∧ (W.drew.cell? ⟨bl, k * 11 + 6, none⟩ = some (.int .i64 m1) ∧ W.drew.cell? ⟨bl, k * 11 + 7, none⟩ = some (.bool m2) ∧ W.drew.cell? ⟨bl, k * 11 + 8, none⟩ = some (.int .i64 m3) ∧ W.drew.cell? ⟨bl, k * 11 + 9, none⟩ = some (.bool false))) from by
                obtain ⟨-, -, n0, n1, n2, n3, n4, n5⟩ := cells6 ((HF.out.drew).at 0 rfl)
                obtain ⟨-, -, d0, d1, d2⟩ := cells3 ((HF.out.drew).at 1 rfl)
                obtain ⟨-, -, s0, s1, s2, s3, s4, s5⟩ := cells6 ((HF.out.drew).at 2 rfl)
                have hc := HC.out
                exact ⟨⟨d0, d1, d2⟩, ⟨s0, s1, s2, s3, s4, s5⟩, ⟨n0, n1, n2, n3, n4, n5⟩, ⟨cell_later (below_drew W) hc.1, cell_later (below_drew W) hc.2.1, cell_later (below_drew W) hc.2.2.1, cell_later (below_drew W) hc.2.2.2⟩⟩)
              go_cut [143] (fun s143 wx => s143 = .bool false ∧ Below W.heap.size W wx)
              case first =>
                refine wp_region_noPanic ?_
                refine wp_region_held_drew (S := fun w' => ((w'.cell? ⟨b18, 0, none⟩ = some (.string D.nm) ∧ w'.cell? ⟨b18, 1, none⟩ = some (.slice A D.st.length cap) ∧ w'.cell? ⟨b18, 2, none⟩ = some (.int .i64 D.pv)) ∧ (w'.cell? ⟨b19, 0, none⟩ = some (.int .i64 S.ph) ∧ w'.cell? ⟨b19, 1, none⟩ = some (.int .i64 S.dn) ∧ w'.cell? ⟨b19, 2, none⟩ = some (.int .i64 S.at_) ∧ w'.cell? ⟨b19, 3, none⟩ = some (.int .i64 S.tr) ∧ w'.cell? ⟨b19, 4, none⟩ = some (.bool S.sn) ∧ w'.cell? ⟨b19, 5, none⟩ = some (.int .i64 S.du)) ∧ (w'.cell? ⟨bn, 0, none⟩ = some (.int .i64 p1) ∧ w'.cell? ⟨bn, 1, none⟩ = some (.int .i64 p2) ∧ w'.cell? ⟨bn, 2, none⟩ = some (.int .i64 p3) ∧ w'.cell? ⟨bn, 3, none⟩ = some (.int .i64 p4) ∧ w'.cell? ⟨bn, 4, none⟩ = some (.bool false) ∧ w'.cell? ⟨bn, 5, none⟩ = some (.int .i64 p6)) ∧ (w'.cell? ⟨bl, k * 11 + 6, none⟩ = some (.int .i64 m1) ∧ w'.cell? ⟨bl, k * 11 + 7, none⟩ = some (.bool m2) ∧ w'.cell? ⟨bl, k * 11 + 8, none⟩ = some (.int .i64 m3) ∧ w'.cell? ⟨bl, k * 11 + 9, none⟩ = some (.bool false)))) (by kernel_rfl) ?_ (fun hHeld => ?_)
                · exact HSD.out
                try dsimp only at hHeld
                refine wpAnyH_take (i := 0) (oi := { dst := some 106, op := Go.Op.load 29 (Go.Operand.tmp 18), type := 29, pos := "laws.go:743", after := #[], guard := none }) (v := ?v0) rfl (by kernel_rfl) (by kernel_rfl) (by kernel_rfl) (fun _ _ _ h => h) (Or.inl ⟨by rfl, ?hy0⟩) (by assumption) ?rest0
                case hy0 => (intro w hSw; (try dsimp only at hSw); go_simp; all_goals with_reducible rfl)
                case rest0 =>
                try simp only [Act.put, List.setIfInBounds_toArray, List.set_cons_zero, List.set_cons_succ]
                refine wpAnyH_take (i := 1) (oi := { dst := some 107, op := Go.Op.load 37 (Go.Operand.tmp 19), type := 37, pos := "laws.go:743", after := #[], guard := none }) (v := ?v1) rfl (by kernel_rfl) (by kernel_rfl) (by kernel_rfl) (fun _ _ _ h => h) (Or.inl ⟨by rfl, ?hy1⟩) (by assumption) ?rest1
                case hy1 => (intro w hSw; (try dsimp only at hSw); go_simp; all_goals with_reducible rfl)
                case rest1 =>
                try simp only [Act.put, List.setIfInBounds_toArray, List.set_cons_zero, List.set_cons_succ]
                refine wpAnyH_take (i := 2) (oi := { dst := some 108, op := Go.Op.load 37 (Go.Operand.tmp 20), type := 37, pos := "laws.go:743", after := #[], guard := none }) (v := ?v2) rfl (by kernel_rfl) (by kernel_rfl) (by kernel_rfl) (fun _ _ _ h => h) (Or.inl ⟨by rfl, ?hy2⟩) (by assumption) ?rest2
                case hy2 => (intro w hSw; (try dsimp only at hSw); go_simp; all_goals with_reducible rfl)
                case rest2 =>
                try simp only [Act.put, List.setIfInBounds_toArray, List.set_cons_zero, List.set_cons_succ]
                refine wpAnyH_ready (rs := [3]) (by kernel_rfl) (by simp) (AllReadyH.cons (o := { dst := some 109, op := Go.Op.call { callee := Go.Callee.value (Go.Operand.func 35), args := #[Go.Operand.tmp 106, Go.Operand.tmp 107, Go.Operand.tmp 108], argTypes := #[29, 37, 37] }, type := 4, pos := "laws.go:743", after := #[{ on := 0, ground := Go.Ground.data }, { on := 1, ground := Go.Ground.data }, { on := 2, ground := Go.Ground.data }], guard := none }) rfl (fun K hK => ?_) AllReadyH.nil)
                go_simp
                go_at_call 35
                refine (lwOn_any D A cap S ⟨p1, p2, p3, p4, false, p6⟩ _ (HD.out.below (below_drew W)) HON.out).mono ?_
                rintro ee w3 ⟨rfl, hb⟩
                have HB3 := Lib.hid (belt (below_drew W) hb)
                have hs := HSD.out
                have HS1 := Lib.hid (show ((w3.cell? ⟨b18, 0, none⟩ = some (.string D.nm) ∧ w3.cell? ⟨b18, 1, none⟩ = some (.slice A D.st.length cap) ∧ w3.cell? ⟨b18, 2, none⟩ = some (.int .i64 D.pv)) ∧ (w3.cell? ⟨b19, 0, none⟩ = some (.int .i64 S.ph) ∧ w3.cell? ⟨b19, 1, none⟩ = some (.int .i64 S.dn) ∧ w3.cell? ⟨b19, 2, none⟩ = some (.int .i64 S.at_) ∧ w3.cell? ⟨b19, 3, none⟩ = some (.int .i64 S.tr) ∧ w3.cell? ⟨b19, 4, none⟩ = some (.bool S.sn) ∧ w3.cell? ⟨b19, 5, none⟩ = some (.int .i64 S.du)) ∧ (w3.cell? ⟨bn, 0, none⟩ = some (.int .i64 p1) ∧ w3.cell? ⟨bn, 1, none⟩ = some (.int .i64 p2) ∧ w3.cell? ⟨bn, 2, none⟩ = some (.int .i64 p3) ∧ w3.cell? ⟨bn, 3, none⟩ = some (.int .i64 p4) ∧ w3.cell? ⟨bn, 4, none⟩ = some (.bool false) ∧ w3.cell? ⟨bn, 5, none⟩ = some (.int .i64 p6)) ∧ (w3.cell? ⟨bl, k * 11 + 6, none⟩ = some (.int .i64 m1) ∧ w3.cell? ⟨bl, k * 11 + 7, none⟩ = some (.bool m2) ∧ w3.cell? ⟨bl, k * 11 + 8, none⟩ = some (.int .i64 m3) ∧ w3.cell? ⟨bl, k * 11 + 9, none⟩ = some (.bool false))) from ⟨⟨cell_later hb hs.1.1, cell_later hb hs.1.2.1, cell_later hb hs.1.2.2⟩, ⟨cell_later hb hs.2.1.1, cell_later hb hs.2.1.2.1, cell_later hb hs.2.1.2.2.1, cell_later hb hs.2.1.2.2.2.1, cell_later hb hs.2.1.2.2.2.2.1, cell_later hb hs.2.1.2.2.2.2.2⟩, ⟨cell_later hb hs.2.2.1.1, cell_later hb hs.2.2.1.2.1, cell_later hb hs.2.2.1.2.2.1, cell_later hb hs.2.2.1.2.2.2.1, cell_later hb hs.2.2.1.2.2.2.2.1, cell_later hb hs.2.2.1.2.2.2.2.2⟩, ⟨cell_later hb hs.2.2.2.1, cell_later hb hs.2.2.2.2.1, cell_later hb hs.2.2.2.2.2.1, cell_later hb hs.2.2.2.2.2.2⟩⟩)
                clear hb hs
                go_wp2_with fail
                refine hK.out _ _ HS1.out (fun hHeld => ?_)
                try dsimp only at hHeld
                clear hK K
                try simp only [Act.put, List.setIfInBounds_toArray, List.set_cons_zero, List.set_cons_succ]
                refine wpAnyH_take (i := 4) (oi := { dst := some 110, op := Go.Op.unOp Go.UnOp.not 4 (Go.Operand.tmp 109), type := 4, pos := "laws.go:743", after := #[{ on := 3, ground := Go.Ground.data }], guard := none }) (v := ?v4) rfl (by kernel_rfl) (by kernel_rfl) (by kernel_rfl) (fun _ _ _ h => h) (Or.inl ⟨by rfl, ?hy4⟩) (by assumption) ?rest4
                case hy4 => (intro w hSw; (try dsimp only at hSw); go_simp; all_goals with_reducible rfl)
                case rest4 =>
                try simp only [Act.put, List.setIfInBounds_toArray, List.set_cons_zero, List.set_cons_succ]
                refine wpAnyH_take (i := 5) (oi := { dst := some 111, op := Go.Op.move (Go.Operand.tmp 110), type := 4, pos := "laws.go:743", after := #[{ on := 4, ground := Go.Ground.data }, { on := 3, ground := Go.Ground.chain }], guard := none }) (v := ?v5) rfl (by kernel_rfl) (by kernel_rfl) (by kernel_rfl) (fun _ _ _ h => h) (Or.inl ⟨by rfl, ?hy5⟩) (by assumption) ?rest5
                case hy5 => (intro w hSw; (try dsimp only at hSw); go_simp; all_goals with_reducible rfl)
                case rest5 =>
                try simp only [Act.put, List.setIfInBounds_toArray, List.set_cons_zero, List.set_cons_succ]
                refine wpAnyH_take (i := 6) (oi := { dst := some 112, op := Go.Op.move (Go.Operand.tmp 16), type := 64, pos := "laws.go:743", after := #[{ on := 5, ground := Go.Ground.guard }], guard := some (5, false) }) (v := ?v6) rfl (by kernel_rfl) (by kernel_rfl) (by kernel_rfl) (fun _ _ _ h => h) (Or.inl ⟨by rfl, ?hy6⟩) (by assumption) ?rest6
                case hy6 => (intro w hSw; (try dsimp only at hSw); go_simp; all_goals with_reducible rfl)
                case rest6 =>
                try simp only [Act.put, List.setIfInBounds_toArray, List.set_cons_zero, List.set_cons_succ]
                refine wpAnyH_take (i := 7) (oi := { dst := some 113, op := Go.Op.move (Go.Operand.tmp 17), type := 3, pos := "laws.go:743", after := #[{ on := 5, ground := Go.Ground.guard }], guard := some (5, false) }) (v := ?v7) rfl (by kernel_rfl) (by kernel_rfl) (by kernel_rfl) (fun _ _ _ h => h) (Or.inl ⟨by rfl, ?hy7⟩) (by assumption) ?rest7
                case hy7 => (intro w hSw; (try dsimp only at hSw); go_simp; all_goals with_reducible rfl)
                case rest7 =>
                try simp only [Act.put, List.setIfInBounds_toArray, List.set_cons_zero, List.set_cons_succ]
                refine wpAnyH_take (i := 8) (oi := { dst := some 114, op := Go.Op.indexAddr 64 (Go.Operand.tmp 112) (Go.Operand.tmp 113), type := 0, pos := "laws.go:743", after := #[{ on := 6, ground := Go.Ground.data }, { on := 7, ground := Go.Ground.data }, { on := 5, ground := Go.Ground.guard }], guard := some (5, false) }) (v := ?v8) rfl (by kernel_rfl) (by kernel_rfl) (by kernel_rfl) (fun _ _ _ h => h) (Or.inl ⟨by rfl, ?hy8⟩) (by assumption) ?rest8
                case hy8 => (intro w hSw; (try dsimp only at hSw); go_simp; all_goals with_reducible rfl)
                case rest8 =>
                try simp only [Act.put, List.setIfInBounds_toArray, List.set_cons_zero, List.set_cons_succ]
                refine wpAnyH_take (i := 9) (oi := { dst := some 115, op := Go.Op.fieldAddr 41 (Go.Operand.tmp 114) 2, type := 0, pos := "laws.go:743", after := #[{ on := 8, ground := Go.Ground.data }, { on := 5, ground := Go.Ground.guard }], guard := some (5, false) }) (v := ?v9) rfl (by kernel_rfl) (by kernel_rfl) (by kernel_rfl) (fun _ _ _ h => h) (Or.inl ⟨by rfl, ?hy9⟩) (by assumption) ?rest9
                case hy9 => (intro w hSw; (try dsimp only at hSw); go_simp; all_goals with_reducible rfl)
                case rest9 =>
                try simp only [Act.put, List.setIfInBounds_toArray, List.set_cons_zero, List.set_cons_succ]
                refine wpAnyH_take (i := 10) (oi := { dst := some 116, op := Go.Op.load 4 (Go.Operand.tmp 115), type := 4, pos := "laws.go:743", after := #[{ on := 9, ground := Go.Ground.data }, { on := 5, ground := Go.Ground.guard }], guard := some (5, false) }) (v := ?v10) rfl (by kernel_rfl) (by kernel_rfl) (by kernel_rfl) (fun _ _ _ h => h) (Or.inl ⟨by rfl, ?hy10⟩) (by assumption) ?rest10
                case hy10 => (intro w hSw; (try dsimp only at hSw); go_simp; all_goals with_reducible rfl)
                case rest10 =>
                try simp only [Act.put, List.setIfInBounds_toArray, List.set_cons_zero, List.set_cons_succ]
                refine wpAnyH_take (i := 11) (oi := { dst := some 117, op := Go.Op.fieldAddr 37 (Go.Operand.tmp 20) 4, type := 0, pos := "laws.go:743", after := #[{ on := 5, ground := Go.Ground.guard }], guard := some (5, false) }) (v := ?v11) rfl (by kernel_rfl) (by kernel_rfl) (by kernel_rfl) (fun _ _ _ h => h) (Or.inl ⟨by rfl, ?hy11⟩) (by assumption) ?rest11
                case hy11 => (intro w hSw; (try dsimp only at hSw); go_simp; all_goals with_reducible rfl)
                case rest11 =>
                try simp only [Act.put, List.setIfInBounds_toArray, List.set_cons_zero, List.set_cons_succ]
                refine wpAnyH_take (i := 12) (oi := { dst := some 118, op := Go.Op.load 4 (Go.Operand.tmp 117), type := 4, pos := "laws.go:743", after := #[{ on := 11, ground := Go.Ground.data }, { on := 5, ground := Go.Ground.guard }], guard := some (5, false) }) (v := ?v12) rfl (by kernel_rfl) (by kernel_rfl) (by kernel_rfl) (fun _ _ _ h => h) (Or.inl ⟨by rfl, ?hy12⟩) (by assumption) ?rest12
                case hy12 => (intro w hSw; (try dsimp only at hSw); go_simp; all_goals with_reducible rfl)
                case rest12 =>
                try simp only [Act.put, List.setIfInBounds_toArray, List.set_cons_zero, List.set_cons_succ]
                refine wpAnyH_take (i := 13) (oi := { dst := some 119, op := Go.Op.binOp Go.BinOp.neq 4 (Go.Operand.tmp 116) (Go.Operand.tmp 118) 4, type := 4, pos := "laws.go:743", after := #[{ on := 10, ground := Go.Ground.data }, { on := 12, ground := Go.Ground.data }, { on := 5, ground := Go.Ground.guard }], guard := some (5, false) }) (v := ?v13) rfl (by kernel_rfl) (by kernel_rfl) (by kernel_rfl) (fun _ _ _ h => h) (Or.inl ⟨by rfl, ?hy13⟩) (by assumption) ?rest13
                case hy13 => (intro w hSw; (try dsimp only at hSw); go_simp; all_goals with_reducible rfl)
                case rest13 =>
                try simp only [Act.put, List.setIfInBounds_toArray, List.set_cons_zero, List.set_cons_succ]
                refine wpAnyH_take (i := 14) (oi := { dst := some 120, op := Go.Op.pick (Go.Operand.tmp 111) (Go.Operand.const (Go.Value.bool true)) (Go.Operand.tmp 119), type := 4, pos := "laws.go:743", after := #[{ on := 5, ground := Go.Ground.data }, { on := 13, ground := Go.Ground.data }], guard := none }) (v := ?v14) rfl (by kernel_rfl) (by kernel_rfl) (by kernel_rfl) (fun _ _ _ h => h) (Or.inl ⟨by rfl, ?hy14⟩) (by assumption) ?rest14
                case hy14 => (intro w hSw; (try dsimp only at hSw); go_simp; all_goals with_reducible rfl)
                case rest14 =>
                try simp only [Act.put, List.setIfInBounds_toArray, List.set_cons_zero, List.set_cons_succ]
                refine wpAnyH_take (i := 15) (oi := { dst := some 121, op := Go.Op.move (Go.Operand.tmp 120), type := 4, pos := "laws.go:743", after := #[{ on := 14, ground := Go.Ground.data }, { on := 5, ground := Go.Ground.chain }], guard := none }) (v := ?v15) rfl (by kernel_rfl) (by kernel_rfl) (by kernel_rfl) (fun _ _ _ h => h) (Or.inl ⟨by rfl, ?hy15⟩) (by assumption) ?rest15
                case hy15 => (intro w hSw; (try dsimp only at hSw); go_simp; all_goals with_reducible rfl)
                case rest15 =>
                try simp only [Act.put, List.setIfInBounds_toArray, List.set_cons_zero, List.set_cons_succ]
                refine wpAnyH_take (i := 16) (oi := { dst := some 122, op := Go.Op.move (Go.Operand.tmp 16), type := 64, pos := "laws.go:743", after := #[{ on := 15, ground := Go.Ground.guard }], guard := some (15, false) }) (v := ?v16) rfl (by kernel_rfl) (by kernel_rfl) (by kernel_rfl) (fun _ _ _ h => h) (Or.inl ⟨by rfl, ?hy16⟩) (by assumption) ?rest16
                case hy16 => (intro w hSw; (try dsimp only at hSw); go_simp; all_goals with_reducible rfl)
                case rest16 =>
                try simp only [Act.put, List.setIfInBounds_toArray, List.set_cons_zero, List.set_cons_succ]
                refine wpAnyH_take (i := 17) (oi := { dst := some 123, op := Go.Op.move (Go.Operand.tmp 17), type := 3, pos := "laws.go:743", after := #[{ on := 15, ground := Go.Ground.guard }], guard := some (15, false) }) (v := ?v17) rfl (by kernel_rfl) (by kernel_rfl) (by kernel_rfl) (fun _ _ _ h => h) (Or.inl ⟨by rfl, ?hy17⟩) (by assumption) ?rest17
                case hy17 => (intro w hSw; (try dsimp only at hSw); go_simp; all_goals with_reducible rfl)
                case rest17 =>
                try simp only [Act.put, List.setIfInBounds_toArray, List.set_cons_zero, List.set_cons_succ]
                refine wpAnyH_take (i := 18) (oi := { dst := some 124, op := Go.Op.indexAddr 64 (Go.Operand.tmp 122) (Go.Operand.tmp 123), type := 0, pos := "laws.go:743", after := #[{ on := 16, ground := Go.Ground.data }, { on := 17, ground := Go.Ground.data }, { on := 15, ground := Go.Ground.guard }], guard := some (15, false) }) (v := ?v18) rfl (by kernel_rfl) (by kernel_rfl) (by kernel_rfl) (fun _ _ _ h => h) (Or.inl ⟨by rfl, ?hy18⟩) (by assumption) ?rest18
                case hy18 => (intro w hSw; (try dsimp only at hSw); go_simp; all_goals with_reducible rfl)
                case rest18 =>
                try simp only [Act.put, List.setIfInBounds_toArray, List.set_cons_zero, List.set_cons_succ]
                refine wpAnyH_take (i := 19) (oi := { dst := some 125, op := Go.Op.fieldAddr 41 (Go.Operand.tmp 124) 2, type := 0, pos := "laws.go:743", after := #[{ on := 18, ground := Go.Ground.data }, { on := 15, ground := Go.Ground.guard }], guard := some (15, false) }) (v := ?v19) rfl (by kernel_rfl) (by kernel_rfl) (by kernel_rfl) (fun _ _ _ h => h) (Or.inl ⟨by rfl, ?hy19⟩) (by assumption) ?rest19
                case hy19 => (intro w hSw; (try dsimp only at hSw); go_simp; all_goals with_reducible rfl)
                case rest19 =>
                try simp only [Act.put, List.setIfInBounds_toArray, List.set_cons_zero, List.set_cons_succ]
                refine wpAnyH_take (i := 20) (oi := { dst := some 126, op := Go.Op.load 4 (Go.Operand.tmp 125), type := 4, pos := "laws.go:743", after := #[{ on := 19, ground := Go.Ground.data }, { on := 15, ground := Go.Ground.guard }], guard := some (15, false) }) (v := ?v20) rfl (by kernel_rfl) (by kernel_rfl) (by kernel_rfl) (fun _ _ _ h => h) (Or.inl ⟨by rfl, ?hy20⟩) (by assumption) ?rest20
                case hy20 => (intro w hSw; (try dsimp only at hSw); go_simp; all_goals with_reducible rfl)
                case rest20 =>
                try simp only [Act.put, List.setIfInBounds_toArray, List.set_cons_zero, List.set_cons_succ]
                refine wpAnyH_take (i := 21) (oi := { dst := some 127, op := Go.Op.move (Go.Operand.tmp 126), type := 4, pos := "laws.go:743", after := #[{ on := 20, ground := Go.Ground.data }, { on := 15, ground := Go.Ground.chain }, { on := 15, ground := Go.Ground.guard }], guard := some (15, false) }) (v := ?v21) rfl (by kernel_rfl) (by kernel_rfl) (by kernel_rfl) (fun _ _ _ h => h) (Or.inl ⟨by rfl, ?hy21⟩) (by assumption) ?rest21
                case hy21 => (intro w hSw; (try dsimp only at hSw); go_simp; all_goals with_reducible rfl)
                case rest21 =>
                try simp only [Act.put, List.setIfInBounds_toArray, List.set_cons_zero, List.set_cons_succ]
                refine wpAnyH_take (i := 22) (oi := { dst := some 128, op := Go.Op.move (Go.Operand.tmp 16), type := 64, pos := "laws.go:743", after := #[{ on := 21, ground := Go.Ground.guard }], guard := some (21, true) }) (v := undef) rfl (by kernel_rfl) (by kernel_rfl) (by kernel_rfl) (fun _ _ _ h => h) (Or.inr ⟨by rfl, rfl⟩) (by assumption) ?rest22
                case rest22 =>
                try simp only [Act.put, List.setIfInBounds_toArray, List.set_cons_zero, List.set_cons_succ]
                refine wpAnyH_take (i := 23) (oi := { dst := some 129, op := Go.Op.move (Go.Operand.tmp 17), type := 3, pos := "laws.go:743", after := #[{ on := 21, ground := Go.Ground.guard }], guard := some (21, true) }) (v := undef) rfl (by kernel_rfl) (by kernel_rfl) (by kernel_rfl) (fun _ _ _ h => h) (Or.inr ⟨by rfl, rfl⟩) (by assumption) ?rest23
                case rest23 =>
                try simp only [Act.put, List.setIfInBounds_toArray, List.set_cons_zero, List.set_cons_succ]
                refine wpAnyH_take (i := 24) (oi := { dst := some 130, op := Go.Op.indexAddr 64 (Go.Operand.tmp 128) (Go.Operand.tmp 129), type := 0, pos := "laws.go:743", after := #[{ on := 22, ground := Go.Ground.data }, { on := 23, ground := Go.Ground.data }, { on := 21, ground := Go.Ground.guard }], guard := some (21, true) }) (v := undef) rfl (by kernel_rfl) (by kernel_rfl) (by kernel_rfl) (fun _ _ _ h => h) (Or.inr ⟨by rfl, rfl⟩) (by assumption) ?rest24
                case rest24 =>
                try simp only [Act.put, List.setIfInBounds_toArray, List.set_cons_zero, List.set_cons_succ]
                refine wpAnyH_take (i := 25) (oi := { dst := some 131, op := Go.Op.fieldAddr 41 (Go.Operand.tmp 130) 1, type := 0, pos := "laws.go:743", after := #[{ on := 24, ground := Go.Ground.data }, { on := 21, ground := Go.Ground.guard }], guard := some (21, true) }) (v := undef) rfl (by kernel_rfl) (by kernel_rfl) (by kernel_rfl) (fun _ _ _ h => h) (Or.inr ⟨by rfl, rfl⟩) (by assumption) ?rest25
                case rest25 =>
                try simp only [Act.put, List.setIfInBounds_toArray, List.set_cons_zero, List.set_cons_succ]
                refine wpAnyH_take (i := 26) (oi := { dst := some 132, op := Go.Op.load 39 (Go.Operand.tmp 131), type := 39, pos := "laws.go:743", after := #[{ on := 25, ground := Go.Ground.data }, { on := 21, ground := Go.Ground.guard }], guard := some (21, true) }) (v := undef) rfl (by kernel_rfl) (by kernel_rfl) (by kernel_rfl) (fun _ _ _ h => h) (Or.inr ⟨by rfl, rfl⟩) (by assumption) ?rest26
                case rest26 =>
                try simp only [Act.put, List.setIfInBounds_toArray, List.set_cons_zero, List.set_cons_succ]
                refine wpAnyH_take (i := 27) (oi := { dst := some 133, op := Go.Op.fieldAddr 37 (Go.Operand.tmp 20) 2, type := 0, pos := "laws.go:743", after := #[{ on := 21, ground := Go.Ground.guard }], guard := some (21, true) }) (v := undef) rfl (by kernel_rfl) (by kernel_rfl) (by kernel_rfl) (fun _ _ _ h => h) (Or.inr ⟨by rfl, rfl⟩) (by assumption) ?rest27
                case rest27 =>
                try simp only [Act.put, List.setIfInBounds_toArray, List.set_cons_zero, List.set_cons_succ]
                refine wpAnyH_take (i := 28) (oi := { dst := some 134, op := Go.Op.load 2 (Go.Operand.tmp 133), type := 2, pos := "laws.go:743", after := #[{ on := 27, ground := Go.Ground.data }, { on := 21, ground := Go.Ground.guard }], guard := some (21, true) }) (v := undef) rfl (by kernel_rfl) (by kernel_rfl) (by kernel_rfl) (fun _ _ _ h => h) (Or.inr ⟨by rfl, rfl⟩) (by assumption) ?rest28
                case rest28 =>
                try simp only [Act.put, List.setIfInBounds_toArray, List.set_cons_zero, List.set_cons_succ]
                refine wpAnyH_take (i := 29) (oi := { dst := some 135, op := Go.Op.fieldAddr 37 (Go.Operand.tmp 20) 0, type := 0, pos := "laws.go:743", after := #[{ on := 21, ground := Go.Ground.guard }], guard := some (21, true) }) (v := undef) rfl (by kernel_rfl) (by kernel_rfl) (by kernel_rfl) (fun _ _ _ h => h) (Or.inr ⟨by rfl, rfl⟩) (by assumption) ?rest29
                case rest29 =>
                try simp only [Act.put, List.setIfInBounds_toArray, List.set_cons_zero, List.set_cons_succ]
                refine wpAnyH_take (i := 30) (oi := { dst := some 136, op := Go.Op.load 2 (Go.Operand.tmp 135), type := 2, pos := "laws.go:743", after := #[{ on := 29, ground := Go.Ground.data }, { on := 21, ground := Go.Ground.guard }], guard := some (21, true) }) (v := undef) rfl (by kernel_rfl) (by kernel_rfl) (by kernel_rfl) (fun _ _ _ h => h) (Or.inr ⟨by rfl, rfl⟩) (by assumption) ?rest30
                case rest30 =>
                try simp only [Act.put, List.setIfInBounds_toArray, List.set_cons_zero, List.set_cons_succ]
                refine wpAnyH_take (i := 31) (oi := { dst := some 137, op := Go.Op.binOp Go.BinOp.eql 2 (Go.Operand.tmp 136) (Go.Operand.const (Go.Value.int Go.IntKind.i64 2)) 2, type := 4, pos := "laws.go:743", after := #[{ on := 30, ground := Go.Ground.data }, { on := 21, ground := Go.Ground.guard }], guard := some (21, true) }) (v := undef) rfl (by kernel_rfl) (by kernel_rfl) (by kernel_rfl) (fun _ _ _ h => h) (Or.inr ⟨by rfl, rfl⟩) (by assumption) ?rest31
                case rest31 =>
                try simp only [Act.put, List.setIfInBounds_toArray, List.set_cons_zero, List.set_cons_succ]
                refine wpAnyH_take (i := 32) (oi := { dst := some 138, op := Go.Op.fieldAddr 37 (Go.Operand.tmp 20) 3, type := 0, pos := "laws.go:743", after := #[{ on := 21, ground := Go.Ground.guard }], guard := some (21, true) }) (v := undef) rfl (by kernel_rfl) (by kernel_rfl) (by kernel_rfl) (fun _ _ _ h => h) (Or.inr ⟨by rfl, rfl⟩) (by assumption) ?rest32
                case rest32 =>
                try simp only [Act.put, List.setIfInBounds_toArray, List.set_cons_zero, List.set_cons_succ]
                refine wpAnyH_take (i := 33) (oi := { dst := some 139, op := Go.Op.load 2 (Go.Operand.tmp 138), type := 2, pos := "laws.go:743", after := #[{ on := 32, ground := Go.Ground.data }, { on := 21, ground := Go.Ground.guard }], guard := some (21, true) }) (v := undef) rfl (by kernel_rfl) (by kernel_rfl) (by kernel_rfl) (fun _ _ _ h => h) (Or.inr ⟨by rfl, rfl⟩) (by assumption) ?rest33
                case rest33 =>
                try simp only [Act.put, List.setIfInBounds_toArray, List.set_cons_zero, List.set_cons_succ]
                refine wpAnyH_take (i := 34) (oi := { dst := some 140, op := Go.Op.build 39 #[(0, Go.Operand.tmp 134), (1, Go.Operand.tmp 137), (2, Go.Operand.tmp 139)], type := 39, pos := "laws.go:743", after := #[{ on := 28, ground := Go.Ground.data }, { on := 31, ground := Go.Ground.data }, { on := 33, ground := Go.Ground.data }, { on := 21, ground := Go.Ground.guard }], guard := some (21, true) }) (v := undef) rfl (by kernel_rfl) (by kernel_rfl) (by kernel_rfl) (fun _ _ _ h => h) (Or.inr ⟨by rfl, rfl⟩) (by assumption) ?rest34
                case rest34 =>
                try simp only [Act.put, List.setIfInBounds_toArray, List.set_cons_zero, List.set_cons_succ]
                refine wpAnyH_take (i := 35) (oi := { dst := some 141, op := Go.Op.binOp Go.BinOp.neq 39 (Go.Operand.tmp 132) (Go.Operand.tmp 140) 39, type := 4, pos := "laws.go:743", after := #[{ on := 26, ground := Go.Ground.data }, { on := 34, ground := Go.Ground.data }, { on := 21, ground := Go.Ground.guard }], guard := some (21, true) }) (v := undef) rfl (by kernel_rfl) (by kernel_rfl) (by kernel_rfl) (fun _ _ _ h => h) (Or.inr ⟨by rfl, rfl⟩) (by assumption) ?rest35
                case rest35 =>
                try simp only [Act.put, List.setIfInBounds_toArray, List.set_cons_zero, List.set_cons_succ]
                refine wpAnyH_take (i := 36) (oi := { dst := some 142, op := Go.Op.pick (Go.Operand.tmp 127) (Go.Operand.tmp 141) (Go.Operand.const (Go.Value.bool false)), type := 4, pos := "laws.go:743", after := #[{ on := 21, ground := Go.Ground.data }, { on := 35, ground := Go.Ground.data }, { on := 15, ground := Go.Ground.guard }], guard := some (15, false) }) (v := ?v36) rfl (by kernel_rfl) (by kernel_rfl) (by kernel_rfl) (fun _ _ _ h => h) (Or.inl ⟨by rfl, ?hy36⟩) (by assumption) ?rest36
                case hy36 => (intro w hSw; (try dsimp only at hSw); go_simp; all_goals with_reducible rfl)
                case rest36 =>
                try simp only [Act.put, List.setIfInBounds_toArray, List.set_cons_zero, List.set_cons_succ]
                refine wpAnyH_take (i := 37) (oi := { dst := some 143, op := Go.Op.pick (Go.Operand.tmp 121) (Go.Operand.const (Go.Value.bool true)) (Go.Operand.tmp 142), type := 4, pos := "laws.go:743", after := #[{ on := 15, ground := Go.Ground.data }, { on := 36, ground := Go.Ground.data }], guard := none }) (v := ?v37) rfl (by kernel_rfl) (by kernel_rfl) (by kernel_rfl) (fun _ _ _ h => h) (Or.inl ⟨by rfl, ?hy37⟩) (by assumption) ?rest37
                case hy37 => (intro w hSw; (try dsimp only at hSw); go_simp; all_goals with_reducible rfl)
                case rest37 =>
                try simp only [Act.put, List.setIfInBounds_toArray, List.set_cons_zero, List.set_cons_succ]
                refine wpAnyH_done (by kernel_rfl) ?_ _
                refine NoPanic.normal ?_
                go_wp2_with fail
                go_meet
                exact ⟨by first | rfl | (simp; done), HB3.out⟩
              case rest =>
              obtain ⟨rfl, hcut⟩ := hcut
              have HLe := Lib.hid (HL.out.below (belt HF.out.bel hcut))
              clear hcut
              go_wp2_with fail
              go_roundw
              case rel => first | exact HLe.out | exact ⟨k + 1, by omega, by go_num, HLe.out⟩
              case measure => simp [intOf] <;> omega
            · have hcm := HCM.out rfl
              unfold cmdOf at hcm
              injection hcm with hc1 hc2 hc3
              dsimp only at hc1 hc2 hc3
              subst hc1
              subst hc3
              have hu : (p1 == 2) = m2 := by rw [hc2, int_beq]
              clear hc2
              have hneq : ∀ W, (binOp .neq 39 (.agg #[.int .i64 m1, .bool m2, .int .i64 m3]) (.agg #[.int .i64 m1, .bool m2, .int .i64 m3])).run Try.prog W = .ok (.bool false) W := by
                intro W
                rw [neq_cmd]
                simp
              have HSD := Lib.hid (show ((W.drew.cell? ⟨b18, 0, none⟩ = some (.string D.nm) ∧ W.drew.cell? ⟨b18, 1, none⟩ = some (.slice A D.st.length cap) ∧ W.drew.cell? ⟨b18, 2, none⟩ = some (.int .i64 D.pv)) ∧ (W.drew.cell? ⟨b19, 0, none⟩ = some (.int .i64 S.ph) ∧ W.drew.cell? ⟨b19, 1, none⟩ = some (.int .i64 S.dn) ∧ W.drew.cell? ⟨b19, 2, none⟩ = some (.int .i64 S.at_) ∧ W.drew.cell? ⟨b19, 3, none⟩ = some (.int .i64 S.tr) ∧ W.drew.cell? ⟨b19, 4, none⟩ = some (.bool S.sn) ∧ W.drew.cell? ⟨b19, 5, none⟩ = some (.int .i64 S.du)) ∧ (W.drew.cell? ⟨bn, 0, none⟩ = some (.int .i64 p1) ∧ W.drew.cell? ⟨bn, 1, none⟩ = some (.int .i64 p2) ∧ W.drew.cell? ⟨bn, 2, none⟩ = some (.int .i64 m1) ∧ W.drew.cell? ⟨bn, 3, none⟩ = some (.int .i64 m3) ∧ W.drew.cell? ⟨bn, 4, none⟩ = some (.bool true) ∧ W.drew.cell? ⟨bn, 5, none⟩ = some (.int .i64 p6)) ∧ (W.drew.cell? ⟨bl, k * 11 + 6, none⟩ = some (.int .i64 m1) ∧ W.drew.cell? ⟨bl, k * 11 + 7, none⟩ = some (.bool m2) ∧ W.drew.cell? ⟨bl, k * 11 + 8, none⟩ = some (.int .i64 m3) ∧ W.drew.cell? ⟨bl, k * 11 + 9, none⟩ = some (.bool true))) from by
                obtain ⟨-, -, n0, n1, n2, n3, n4, n5⟩ := cells6 ((HF.out.drew).at 0 rfl)
                obtain ⟨-, -, d0, d1, d2⟩ := cells3 ((HF.out.drew).at 1 rfl)
                obtain ⟨-, -, s0, s1, s2, s3, s4, s5⟩ := cells6 ((HF.out.drew).at 2 rfl)
                have hc := HC.out
                exact ⟨⟨d0, d1, d2⟩, ⟨s0, s1, s2, s3, s4, s5⟩, ⟨n0, n1, n2, n3, n4, n5⟩, ⟨cell_later (below_drew W) hc.1, cell_later (below_drew W) hc.2.1, cell_later (below_drew W) hc.2.2.1, cell_later (below_drew W) hc.2.2.2⟩⟩)
              go_cut [143] (fun s143 wx => s143 = .bool false ∧ Below W.heap.size W wx)
              case first =>
                go_region_held3 (fun w' => ((w'.cell? ⟨b18, 0, none⟩ = some (.string D.nm) ∧ w'.cell? ⟨b18, 1, none⟩ = some (.slice A D.st.length cap) ∧ w'.cell? ⟨b18, 2, none⟩ = some (.int .i64 D.pv)) ∧ (w'.cell? ⟨b19, 0, none⟩ = some (.int .i64 S.ph) ∧ w'.cell? ⟨b19, 1, none⟩ = some (.int .i64 S.dn) ∧ w'.cell? ⟨b19, 2, none⟩ = some (.int .i64 S.at_) ∧ w'.cell? ⟨b19, 3, none⟩ = some (.int .i64 S.tr) ∧ w'.cell? ⟨b19, 4, none⟩ = some (.bool S.sn) ∧ w'.cell? ⟨b19, 5, none⟩ = some (.int .i64 S.du)) ∧ (w'.cell? ⟨bn, 0, none⟩ = some (.int .i64 p1) ∧ w'.cell? ⟨bn, 1, none⟩ = some (.int .i64 p2) ∧ w'.cell? ⟨bn, 2, none⟩ = some (.int .i64 m1) ∧ w'.cell? ⟨bn, 3, none⟩ = some (.int .i64 m3) ∧ w'.cell? ⟨bn, 4, none⟩ = some (.bool true) ∧ w'.cell? ⟨bn, 5, none⟩ = some (.int .i64 p6)) ∧ (w'.cell? ⟨bl, k * 11 + 6, none⟩ = some (.int .i64 m1) ∧ w'.cell? ⟨bl, k * 11 + 7, none⟩ = some (.bool m2) ∧ w'.cell? ⟨bl, k * 11 + 8, none⟩ = some (.int .i64 m3) ∧ w'.cell? ⟨bl, k * 11 + 9, none⟩ = some (.bool true))))
                  (first | with_reducible exact HS1.out | with_reducible exact HSD.out)
                  (first | (go_at_call 35; refine (lwOn_any D A cap S ⟨p1, p2, m1, m3, true, p6⟩ _ (HD.out.below (below_drew W)) HON.out).mono ?_; rintro ee w3 ⟨rfl, hb⟩; have HB3 := Lib.hid (belt (below_drew W) hb); have hs := HSD.out; have HS1 := Lib.hid (show ((w3.cell? ⟨b18, 0, none⟩ = some (.string D.nm) ∧ w3.cell? ⟨b18, 1, none⟩ = some (.slice A D.st.length cap) ∧ w3.cell? ⟨b18, 2, none⟩ = some (.int .i64 D.pv)) ∧ (w3.cell? ⟨b19, 0, none⟩ = some (.int .i64 S.ph) ∧ w3.cell? ⟨b19, 1, none⟩ = some (.int .i64 S.dn) ∧ w3.cell? ⟨b19, 2, none⟩ = some (.int .i64 S.at_) ∧ w3.cell? ⟨b19, 3, none⟩ = some (.int .i64 S.tr) ∧ w3.cell? ⟨b19, 4, none⟩ = some (.bool S.sn) ∧ w3.cell? ⟨b19, 5, none⟩ = some (.int .i64 S.du)) ∧ (w3.cell? ⟨bn, 0, none⟩ = some (.int .i64 p1) ∧ w3.cell? ⟨bn, 1, none⟩ = some (.int .i64 p2) ∧ w3.cell? ⟨bn, 2, none⟩ = some (.int .i64 m1) ∧ w3.cell? ⟨bn, 3, none⟩ = some (.int .i64 m3) ∧ w3.cell? ⟨bn, 4, none⟩ = some (.bool true) ∧ w3.cell? ⟨bn, 5, none⟩ = some (.int .i64 p6)) ∧ (w3.cell? ⟨bl, k * 11 + 6, none⟩ = some (.int .i64 m1) ∧ w3.cell? ⟨bl, k * 11 + 7, none⟩ = some (.bool m2) ∧ w3.cell? ⟨bl, k * 11 + 8, none⟩ = some (.int .i64 m3) ∧ w3.cell? ⟨bl, k * 11 + 9, none⟩ = some (.bool true))) from ⟨⟨cell_later hb hs.1.1, cell_later hb hs.1.2.1, cell_later hb hs.1.2.2⟩, ⟨cell_later hb hs.2.1.1, cell_later hb hs.2.1.2.1, cell_later hb hs.2.1.2.2.1, cell_later hb hs.2.1.2.2.2.1, cell_later hb hs.2.1.2.2.2.2.1, cell_later hb hs.2.1.2.2.2.2.2⟩, ⟨cell_later hb hs.2.2.1.1, cell_later hb hs.2.2.1.2.1, cell_later hb hs.2.2.1.2.2.1, cell_later hb hs.2.2.1.2.2.2.1, cell_later hb hs.2.2.1.2.2.2.2.1, cell_later hb hs.2.2.1.2.2.2.2.2⟩, ⟨cell_later hb hs.2.2.2.1, cell_later hb hs.2.2.2.2.1, cell_later hb hs.2.2.2.2.2.1, cell_later hb hs.2.2.2.2.2.2⟩⟩); clear hb hs))
                go_wp2_with fail
                go_meet
                exact ⟨by first | rfl | (simp; done), HB3.out⟩
              case rest =>
              obtain ⟨rfl, hcut⟩ := hcut
              have HLe := Lib.hid (HL.out.below (belt HF.out.bel hcut))
              clear hcut
              go_wp2_with fail
              go_roundw
              case rel => first | exact HLe.out | exact ⟨k + 1, by omega, by go_num, HLe.out⟩
              case measure => simp [intOf] <;> omega
          · have hcd2 : (O.cd == 0) = false := by simpa using hcd
            go_wp2_with fail
            go_roundw
            case rel => first | exact HLd.out | exact ⟨k + 1, by omega, by go_num, HLd.out⟩
            case measure => simp [intOf] <;> omega
        · go_wp2_with fail
          go_ret
          exact ⟨rfl, HL.out.fr.gr⟩
    · go_enter Try.func6, Try.ntmps6
      go_wp2
      go_ret
      exact ⟨rfl, grown_refl _ _⟩
  · go_enter Try.func6, Try.ntmps6
    go_wp2
    go_ret
    exact ⟨rfl, grown_refl _ _⟩
end Go.Proofs.Ytlbiocfpkpcdhaa
