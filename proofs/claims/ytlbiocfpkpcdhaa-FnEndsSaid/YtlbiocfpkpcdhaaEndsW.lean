import Derived.Test.YtlbiocfpkpcdhaaEnds
import Derived.Test.YtlbiocfpkpcdhaaLwAt
import Derived.Test.YtlbiocfpkpcdhaaDrawG
import Derived.Test.YtlbiocfpkpcdhaaSagaG
import Derived.Deep.DeepCutAuto
namespace Go.Proofs.Ytlbiocfpkpcdhaa
open Go.RowKit
set_option linter.unusedSimpArgs false
set_option linter.unusedVariables false
theorem below_grown {w w' : World} (h : Below w.heap.size w w') : w.grownBy w' none := ⟨h.os, h.tape, h.output, h.size, fun k hk _ => h.block k hk⟩
theorem RowAt.keep {α : Type} {w w' : World} {A : Option Addr} {sz : Nat} {f : α → List Value} {l : List α} {r : Option Nat} (h : RowAt w A sz f l) (hb : w.grownBy w' r) (hne : l ≠ [] → ∀ x, A = some x → some x.block ≠ r) : RowAt w' A sz f l := by
  cases l with
  | nil => intro i x hx; simp at hx
  | cons a l => exact h.grown hb (hne (by simp))
theorem RowAt.lt {α : Type} {w : World} {A : Option Addr} {sz : Nat} {f : α → List Value} {l : List α} (h : RowAt w A sz f l) (hf : ∀ x, f x ≠ []) (hl : l ≠ []) (x : Addr) (hx : A = some x) : x.block < w.heap.size := by
  cases l with
  | nil => exact absurd rfl hl
  | cons a l =>
    obtain ⟨b, o, hA, hc⟩ := h 0 a rfl
    rw [hA] at hx
    cases hx
    cases hfa : f a with
    | nil => exact absurd hfa (hf a)
    | cons u us => exact World.block_lt_of_cell? w ⟨b, o + 0 * sz + 0, none⟩ (hc 0 u (by rw [hfa]; rfl))
def outCells (x : OutD) : Array Value := #[.int .i64 x.sg.ph, .int .i64 x.sg.dn, .int .i64 x.sg.at_, .int .i64 x.sg.tr, .bool x.sg.sn, .int .i64 x.sg.du, .int .i64 x.cm.st, .bool x.cm.un, .int .i64 x.cm.ty, .bool x.ow, .int .i64 x.cd]
/-- memory in the law: the def, its head's copy in bd, the last answer in bx, the second argument's bytes -/
structure EndsAt (w0 : World) (d : DefD) (A : Option Addr) (cap bd bx : Nat) (bs : List UInt8) (A2 : Option Addr) (x : OutD) (W : World) : Prop where
  df : DefAt W d A cap
  row2 : RowAt W A2 1 byteC bs
  dbox : W.heap[bd]? = some (.cells #[.string d.nm, .slice A d.st.length cap, .int .i64 d.pv] 29)
  xbox : W.heap[bx]? = some (.cells (outCells x) 41)
  grown : w0.grownBy W none
  lo : w0.heap.size ≤ bd ∧ bd < bx
  ap1 : d.st ≠ [] → ∀ y, A = some y → y.block < bx
  ap2 : bs ≠ [] → ∀ y, A2 = some y → y.block < bx
theorem EndsAt.below {w0 W W' : World} {d : DefD} {A : Option Addr} {cap bd bx : Nat} {bs : List UInt8} {A2 : Option Addr} {x : OutD} (h : EndsAt w0 d A cap bd bx bs A2 x W) (hb : Below W.heap.size W W') : EndsAt w0 d A cap bd bx bs A2 x W' :=
  ⟨h.df.below hb, h.row2.below hb, blk_below h.dbox hb, blk_below h.xbox hb, grown_trans h.grown (below_grown hb), h.lo, h.ap1, h.ap2⟩
theorem EndsAt.alloc {w0 W : World} {d : DefD} {A : Option Addr} {cap bd bx : Nat} {bs : List UInt8} {A2 : Option Addr} {x : OutD} (h : EndsAt w0 d A cap bd bx bs A2 x W) (o : Obj) : EndsAt w0 d A cap bd bx bs A2 x (W.alloc o) := h.below (bel1 o)
theorem EndsAt.drew {w0 W : World} {d : DefD} {A : Option Addr} {cap bd bx : Nat} {bs : List UInt8} {A2 : Option Addr} {x : OutD} (h : EndsAt w0 d A cap bd bx bs A2 x W) : EndsAt w0 d A cap bd bx bs A2 x W.drew := h.below ⟨rfl, rfl, rfl, Nat.le_refl _, fun _ _ => rfl⟩
theorem EndsAt.put {w0 W : World} {d : DefD} {A : Option Addr} {cap bd bx : Nat} {bs : List UInt8} {A2 : Option Addr} {x : OutD} (h : EndsAt w0 d A cap bd bx bs A2 x W) (y : OutD) : EndsAt w0 d A cap bd bx bs A2 y (withBlock W bx (.cells (outCells y) 41)) := by
  have hlo := h.lo
  exact ⟨⟨h.df.nm, h.df.fit, h.df.row.keep grown_withBlock (fun hn z hz => by have := h.ap1 hn z hz; simp; omega), h.df.cap⟩, h.row2.keep grown_withBlock (fun hn z hz => by have := h.ap2 hn z hz; simp; omega), (withBlock_other (by omega)).trans h.dbox, withBlock_heap (blk_lt h.xbox), grown_new h.grown grown_withBlock (by omega), h.lo, h.ap1, h.ap2⟩
theorem EndsAt.facts {w0 W : World} {d : DefD} {A : Option Addr} {cap bd bx : Nat} {bs : List UInt8} {A2 : Option Addr} {x : OutD} (h : EndsAt w0 d A cap bd bx bs A2 x W) :
    bd < W.heap.size ∧ W.cell? ⟨bd, 0, none⟩ = some (.string d.nm) ∧ W.cell? ⟨bd, 1, none⟩ = some (.slice A d.st.length cap) ∧ W.cell? ⟨bd, 2, none⟩ = some (.int .i64 d.pv) := by
  have hc : ∀ j, W.cell? ⟨bd, j, none⟩ = (#[.string d.nm, .slice A d.st.length cap, .int .i64 d.pv] : Array Value)[j]? := fun j => by
    unfold World.cell?
    simp only [h.dbox]
    rfl
  exact ⟨blk_lt h.dbox, hc 0, hc 1, hc 2⟩
theorem out_facts {w : World} {g : Nat} {x : OutD} (h : w.heap[g]? = some (.cells (outCells x) 41)) : g < w.heap.size ∧ (∀ j, w.frozen? ⟨g, j, none⟩ = false) ∧ w.cell? ⟨g, 0, none⟩ = some (.int .i64 x.sg.ph) ∧ w.cell? ⟨g, 1, none⟩ = some (.int .i64 x.sg.dn) ∧ w.cell? ⟨g, 2, none⟩ = some (.int .i64 x.sg.at_) ∧ w.cell? ⟨g, 3, none⟩ = some (.int .i64 x.sg.tr) ∧ w.cell? ⟨g, 4, none⟩ = some (.bool x.sg.sn) ∧ w.cell? ⟨g, 5, none⟩ = some (.int .i64 x.sg.du) ∧
    w.cell? ⟨g, 6, none⟩ = some (.int .i64 x.cm.st) ∧ w.cell? ⟨g, 7, none⟩ = some (.bool x.cm.un) ∧ w.cell? ⟨g, 8, none⟩ = some (.int .i64 x.cm.ty) ∧ w.cell? ⟨g, 9, none⟩ = some (.bool x.ow) ∧ w.cell? ⟨g, 10, none⟩ = some (.int .i64 x.cd) := by
  have hc : ∀ j, w.cell? ⟨g, j, none⟩ = (outCells x)[j]? := fun j => by
    unfold World.cell?
    simp only [h]
    rfl
  refine ⟨blk_lt h, fun j => ?_, hc 0, hc 1, hc 2, hc 3, hc 4, hc 5, hc 6, hc 7, hc 8, hc 9, hc 10⟩
  unfold World.frozen?
  simp only [h]
  simp
theorem field_cd (v0 v1 v2 v3 v4 v5 v6 v7 v8 v9 v10 : Value) (W : World) : (Instr.field 41 (.agg #[v0, v1, v2, v3, v4, v5, v6, v7, v8, v9, v10]) 3).run Try.prog W = .ok v10 W := by kernel_rfl
def answerD (w : World) (d : DefD) (A : Option Addr) (cap bd bx : Nat) (t : Int) (i : Nat) (s : SagaD) (c : CmdD) (n2 cap2 : Nat) (A2 : Option Addr) (j : Nat) (u : Value) (W : World) : Prop := match j with
  | 0 => u = .agg #[.string d.nm, .slice A d.st.length cap, .int .i64 d.pv]
  | 1 => u = .agg #[.int .i64 s.ph, .int .i64 s.dn, .int .i64 s.at_, .int .i64 s.tr, .bool s.sn, .int .i64 s.du]
  | 2 => u = .pointer (some ⟨bx, 6, none⟩)
  | 3 => u = .agg #[.int .i64 c.st, .bool c.un, .int .i64 c.ty]
  | 4 => u = .slice A2 n2 cap2
  | 5 => u = .int .i64 i
  | 6 => ∃ r : Int, u = .int .i64 r
  | 7 => ∃ b : Bool, u = .bool b
  | 8 => u = .int .i64 t
  | 9 => ∃ good : Bool, u = outV (replyS d s c good t)
  | _ => True
theorem saga_facts {w : World} {g : Nat} {x0 x1 x2 x3 x4 x5 : Value} (h : w.heap[g]? = some (.cells #[x0, x1, x2, x3, x4, x5] 37)) : g < w.heap.size ∧ w.cell? ⟨g, 0, none⟩ = some x0 ∧ w.cell? ⟨g, 1, none⟩ = some x1 ∧ w.cell? ⟨g, 2, none⟩ = some x2 ∧ w.cell? ⟨g, 3, none⟩ = some x3 ∧ w.cell? ⟨g, 4, none⟩ = some x4 ∧ w.cell? ⟨g, 5, none⟩ = some x5 := by
  have hc : ∀ j, w.cell? ⟨g, j, none⟩ = (#[x0, x1, x2, x3, x4, x5] : Array Value)[j]? := fun j => by
    unfold World.cell?
    simp only [h]
    rfl
  exact ⟨blk_lt h, hc 0, hc 1, hc 2, hc 3, hc 4, hc 5⟩
def FinTrue (w : World) (e : Ending) (w' : World) : Prop := e = .returned (.bool true) ∧ w.grownBy w' none
set_option maxRecDepth 100000 in
set_option maxHeartbeats 4000000 in
theorem fnEnds_any (bs1 bs2 : List UInt8) (A1 A2 : Option Addr) (cap1 cap2 : Nat) (w : World) (hr1 : RowAt w A1 1 byteC bs1) (hr2 : RowAt w A2 1 byteC bs2) (hc1 : bs1.length ≤ cap1) (hb1 : ∀ x, A1 = some x → x.block < w.heap.size) (hl1 : bs1.length ≤ 9223372036854775807) (hl2 : bs2.length ≤ 9223372036854775807) :
    Calls Try.prog 4 #[.slice A1 bs1.length cap1, .slice A2 bs2.length cap2] w (FinTrue w) := by
  have HR1 := Lib.hid hr1
  have HR2 := Lib.hid hr2
  have HB1 := Lib.hid hb1
  clear hr1 hr2 hb1
  by_cases h1 : bs1.length ≤ 1048576
  · by_cases h2 : bs2.length ≤ 1048576
    · go_enter Try.func4, Try.ntmps4
      go_wp2_with fail
      refine (drawStart_any bs1 A1 cap1 w HR1.out h1 hc1 HB1.out).mono ?_
      rintro e w1 ⟨d, A, cap, t, hdf, hlen, rfl, hgr⟩
      have HDF := Lib.hid hdf
      have HG1 := Lib.hid hgr
      have HR2' := Lib.hid (HR2.out.keep hgr (fun _ _ _ => by simp))
      have hsz := hgr.size
      clear hdf hgr
      go_wp2_with fail
      refine (startImpl_any d A cap t _ (HDF.out.alloc _)).mono ?_
      rintro e w2 ⟨rfl, hb2⟩
      have hs2 := hb2.size
      simp at hs2
      obtain ⟨x, hx⟩ : ∃ x, startS d t = x := ⟨_, rfl⟩
      rw [hx]
      have HX := Lib.hid hx
      have hE : EndsAt w d A cap w1.heap.size w2.heap.size bs2 A2 x (w2.alloc (.cells (outCells x) 41)) := by
        have hdb := bel1t hb2
        refine ⟨(HDF.out.below hdb).alloc _, (HR2'.out.below hdb).below (bel1 _), blk_old (blk_below (heap_alloc_new w1 (.cells #[.string d.nm, .slice A d.st.length cap, .int .i64 d.pv] 29)) hb2) _, heap_alloc_new _ _, grown_alloc (grown_trans HG1.out (below_grown hdb)) _, ⟨hsz, by omega⟩, fun hn y hy => ?_, fun hn y hy => ?_⟩
        · have := HDF.out.row.lt (fun s => by simp [StepD.cells]) hn y hy; omega
        · have := HR2'.out.lt (fun s => by simp [byteC]) hn y hy; omega
      have HE := Lib.hid hE
      clear hE hb2 hx
      go_wp2_with fail
      refine wpNamed (fun W => EndsAt w d A cap w1.heap.size w2.heap.size bs2 A2 x W) HE.out ?_
      intro W hW
      have HE1 := Lib.hid hW
      clear hW HE HDF HG1 HR2' hsz hs2
      have hfd := field_cd
      generalize w1.heap.size = bd at *
      generalize w2.heap.size = bx at *
      have HEd := Lib.hid HE1.out.drew
      obtain ⟨n0, n1, n2, n3⟩ := HE1.out.facts
      obtain ⟨p0, pf, p1, p2, p3, p4, p5, p6, p7, p8, p9, p10, p11⟩ := out_facts HE1.out.xbox
      by_cases hok : (d.ok && inB t 0 1000000000) = true
      · have hcd : x.cd = 0 := by rw [← HX.out]; unfold startS; rw [if_neg (by rw [hok]; simp)]; rfl
        go_cut [38] (fun s38 wx => s38 = .bool false ∧ EndsAt w d A cap bd bx bs2 A2 x wx)
        case first =>
          go_region_with (refine (startSpec_any d A cap t _ HEd.out.df).mono ?_; rintro e w3 ⟨rfl, hb3⟩; rw [HX.out]; have HE3 := Lib.hid (HEd.out.below hb3); clear hb3; obtain ⟨k0, k1, k2, k3⟩ := HE3.out.facts; obtain ⟨m0, mf, m1, m2, m3, m4, m5, m6, m7, m8, m9, m10, m11⟩ := out_facts HE3.out.xbox)
          all_goals (go_wp2_with fail; go_meet; exact ⟨by simp [hcd], HE3.out⟩)
        case rest =>
        obtain ⟨rfl, hcut⟩ := hcut
        have HEc := Lib.hid hcut
        clear hcut HE1 HEd n0 n1 n2 n3 p0 pf p1 p2 p3 p4 p5 p6 p7 p8 p9 p10 p11
        clear hcd
        have hst : Ends d t 0 0 x := by rw [← HX.out]; simp only [Bool.and_eq_true] at hok; exact Ends.start hok.1 hok.2
        have HST := Lib.hid hst
        clear hst
        go_wp2_with fail
        go_loopw [8, 9] (fun s8 s9 wr => ∃ (n i : Nat) (y : OutD), s8 = .int .i64 n ∧ s9 = .int .i64 i ∧ Ends d t i n y ∧ EndsAt w d A cap bd bx bs2 A2 y wr) (fun s8 s9 _ => 400 - (intOf s9).toNat)
        case atStart => exact ⟨0, 0, x, rfl, rfl, HST.out, HEc.out⟩
        case round =>
          obtain ⟨n, i, ⟨⟨ph, dn, at_, tr, sn, du⟩, ⟨cst, cun, cty⟩, ow, cd⟩, rfl, rfl, he, hE⟩ := hrel
          have hi := he.rounds
          have hn := he.over
          have how : ow = sn := he.ow
          have HN := Lib.hid he
          have HE := Lib.hid hE
          clear hE he HEc HST HX
          subst how
          obtain ⟨p0, pf, p1, p2, p3, p4, p5, p6, p7, p8, p9, p10, p11⟩ := out_facts HE.out.xbox
          dsimp only at p1 p2 p3 p4 p5 p6 p7 p8 p9 p10 p11
          cases hov : inB ph 3 5
          · have HOV := Lib.hid hov
            clear hov
            go_wp2_with fail
            refine (overImpl_any ⟨ph, dn, at_, tr, ow, du⟩ _).mono ?_
            rintro e w3 ⟨rfl, hb3⟩
            dsimp only
            rw [HOV.out]
            have HE3 := Lib.hid (HE.out.below hb3)
            clear hb3 p0 pf p1 p2 p3 p4 p5 p6 p7 p8 p9 p10 p11 HE
            obtain ⟨n0, n1, n2, n3⟩ := HE3.out.facts
            obtain ⟨p0, pf, p1, p2, p3, p4, p5, p6, p7, p8, p9, p10, p11⟩ := out_facts HE3.out.xbox
            dsimp only at p1 p2 p3 p4 p5 p6 p7 p8 p9 p10 p11
            cases ow
            · have HE4 := Lib.hid (HE3.out.alloc (.cells #[.int .i64 ph, .int .i64 dn, .int .i64 at_, .int .i64 tr, .bool false, .int .i64 du] 37))
              have SB4 := Lib.hid (heap_alloc_new w3 (.cells #[.int .i64 ph, .int .i64 dn, .int .i64 at_, .int .i64 tr, .bool false, .int .i64 du] 37))
              go_wp2_with fail
              refine (tickImpl_any d A cap ⟨ph, dn, at_, tr, false, du⟩ du _ HE4.out.df).mono ?_
              rintro e w5 ⟨rfl, hb5⟩
              obtain ⟨o, ho⟩ : ∃ o, tickS d ⟨ph, dn, at_, tr, false, du⟩ du = o := ⟨_, rfl⟩
              rw [ho]
              have HE5 := Lib.hid (HE4.out.below hb5)
              have SB5 := Lib.hid (blk_below SB4.out hb5)
              clear hb5
              obtain ⟨q0, qf, q1, q2, q3, q4, q5, q6, q7, q8, q9, q10, q11⟩ := out_facts HE5.out.xbox
              go_upto_region 19 with fail
              refine wpNamed (fun W => EndsAt w d A cap bd bx bs2 A2 o W ∧ W.heap[w3.heap.size]? = some (.cells #[.int .i64 ph, .int .i64 dn, .int .i64 at_, .int .i64 tr, .bool false, .int .i64 du] 37)) ?_ ?_
              · rw [set11 HE5.out.xbox]
                exact ⟨HE5.out.put o, (withBlock_other (by omega)).trans SB5.out⟩
              rintro W6 ⟨hE6, hS6⟩
              have HE6 := Lib.hid hE6
              have HS6 := Lib.hid hS6
              clear hE6 hS6 HE5 SB5 HE3 HE4 q0 qf q1 q2 q3 q4 q5 q6 q7 q8 q9 q10 q11
              obtain ⟨q0, qf, q1, q2, q3, q4, q5, q6, q7, q8, q9, q10, q11⟩ := out_facts HE6.out.xbox
              obtain ⟨n0, n1, n2, n3⟩ := HE6.out.facts
              by_cases hdu : du ≤ 1000000000
              · have HNX := Lib.hid (show Ends d t ((i : Int) + 1) (n : Int) o from by have := Ends.tick HN.out HOV.out hdu; rw [← ho]; simpa using this)
                rw [HNX.out.cd] at q11
                go_wp2_with fail
                refine (SagaRightSpec_any d A cap o.sg _ HE6.out.df).mono ?_
                rintro e w7 ⟨rfl, hb7⟩
                rw [HNX.out.rt]
                have HE7 := Lib.hid (HE6.out.below hb7)
                clear hb7
                go_wp2_with fail
                go_roundw
                case rel => exact ⟨n, i + 1, o, by go_num, by go_num, (by have := HNX.out; simpa using this), HE7.out⟩
                case measure => simp [intOf]; omega
              · have hcd1 : o.cd = 1 := by rw [← ho, tick_late (x := ⟨⟨ph, dn, at_, tr, false, du⟩, ⟨cst, cun, cty⟩, false, cd⟩) (by show (1000000000 : Int) < du; omega)]; rfl
                rw [hcd1] at q11
                have hsl := blk_lt HS6.out
                have hs5 : W6.cell? ⟨w3.heap.size, 5, none⟩ = some (.int .i64 du) := by
                  unfold World.cell?
                  simp only [HS6.out]
                  rfl
                have hdu2 : decide ((1000000000 : Int) < du) = true := by simpa using hdu
                go_wp2_with fail
                go_ret
                exact ⟨by first | rfl | (simp [Act.put]; done), HE6.out.grown⟩

            · have HE4 := Lib.hid (HE3.out.alloc (.cells #[.int .i64 ph, .int .i64 dn, .int .i64 at_, .int .i64 tr, .bool true, .int .i64 du] 37))
              have SB4 := Lib.hid (heap_alloc_new w3 (.cells #[.int .i64 ph, .int .i64 dn, .int .i64 at_, .int .i64 tr, .bool true, .int .i64 du] 37))
              go_wp2_with fail
              refine (lwAt_any bs2 A2 cap2 i _ HE4.out.row2 h2 (by omega)).mono ?_
              rintro e w4 ⟨r, rfl, rfl⟩
              by_cases hr : r = 0
              · subst hr
                go_wp2_with fail
                refine (tickImpl_any d A cap ⟨ph, dn, at_, tr, true, du⟩ du _ HE4.out.df).mono ?_
                rintro e w5 ⟨rfl, hb5⟩
                obtain ⟨o, ho⟩ : ∃ o, tickS d ⟨ph, dn, at_, tr, true, du⟩ du = o := ⟨_, rfl⟩
                rw [ho]
                have HE5 := Lib.hid (HE4.out.below hb5)
                have SB5 := Lib.hid (blk_below SB4.out hb5)
                clear hb5
                obtain ⟨q0, qf, q1, q2, q3, q4, q5, q6, q7, q8, q9, q10, q11⟩ := out_facts HE5.out.xbox
                go_upto_region 19 with fail
                refine wpNamed (fun W => EndsAt w d A cap bd bx bs2 A2 o W ∧ W.heap[w3.heap.size]? = some (.cells #[.int .i64 ph, .int .i64 dn, .int .i64 at_, .int .i64 tr, .bool true, .int .i64 du] 37)) ?_ ?_
                · rw [set11 HE5.out.xbox]
                  exact ⟨HE5.out.put o, (withBlock_other (by omega)).trans SB5.out⟩
                rintro W6 ⟨hE6, hS6⟩
                have HE6 := Lib.hid hE6
                have HS6 := Lib.hid hS6
                clear hE6 hS6 HE5 SB5 HE3 HE4 q0 qf q1 q2 q3 q4 q5 q6 q7 q8 q9 q10 q11
                obtain ⟨q0, qf, q1, q2, q3, q4, q5, q6, q7, q8, q9, q10, q11⟩ := out_facts HE6.out.xbox
                obtain ⟨n0, n1, n2, n3⟩ := HE6.out.facts
                by_cases hdu : du ≤ 1000000000
                · have HNX := Lib.hid (show Ends d t ((i : Int) + 1) ((n : Int) + 1) o from by have := Ends.tick HN.out HOV.out hdu; rw [← ho]; simpa using this)
                  rw [HNX.out.cd] at q11
                  go_wp2_with fail
                  refine (SagaRightSpec_any d A cap o.sg _ HE6.out.df).mono ?_
                  rintro e w7 ⟨rfl, hb7⟩
                  rw [HNX.out.rt]
                  have HE7 := Lib.hid (HE6.out.below hb7)
                  clear hb7
                  go_wp2_with fail
                  go_roundw
                  case rel => exact ⟨n + 1, i + 1, o, by go_num, by go_num, (by have := HNX.out; simpa using this), HE7.out⟩
                  case measure => simp [intOf]; omega
                · have hcd1 : o.cd = 1 := by rw [← ho, tick_late (x := ⟨⟨ph, dn, at_, tr, true, du⟩, ⟨cst, cun, cty⟩, true, cd⟩) (by show (1000000000 : Int) < du; omega)]; rfl
                  rw [hcd1] at q11
                  have hsl := blk_lt HS6.out
                  have hs5 : W6.cell? ⟨w3.heap.size, 5, none⟩ = some (.int .i64 du) := by
                    unfold World.cell?
                    simp only [HS6.out]
                    rfl
                  have hdu2 : decide ((1000000000 : Int) < du) = true := by simpa using hdu
                  go_wp2_with fail
                  go_ret
                  exact ⟨by first | rfl | (simp [Act.put]; done), HE6.out.grown⟩

              · have hr2 : (r == 0) = false := by simpa using hr
                go_wp2_with fail
                have hbxl : bx < w3.heap.size := p0
                refine wp_region_facts rfl 10 111 rfl (answerD w d A cap bd bx t i ⟨ph, dn, at_, tr, true, du⟩ ⟨cst, cun, cty⟩ bs2.length cap2 A2) (fun W => EndsAt w d A cap bd bx bs2 A2 ⟨⟨ph, dn, at_, tr, true, du⟩, ⟨cst, cun, cty⟩, true, cd⟩ W ∧ W.heap[w3.heap.size]? = some (.cells #[.int .i64 ph, .int .i64 dn, .int .i64 at_, .int .i64 tr, .bool true, .int .i64 du] 37)) (fun _ W W' => True) (by decide) (by decide) (by decide) (fun k j u W W' _ _ h => h) ?hG ?hstep ?hend
                case hG => exact ⟨HE4.out.drew, SB4.out⟩
                case hstep =>
                  intro Q' j hj vs W hG hd
                  have HG := Lib.hid hG.1
                  have SB := Lib.hid hG.2
                  obtain ⟨n0, n1, n2, n3⟩ := hG.1.facts
                  obtain ⟨p0, pf, p1, p2, p3, p4, p5, p6, p7, p8, p9, p10, p11⟩ := out_facts hG.1.xbox
                  obtain ⟨s0, s1, s2, s3, s4, s5, s6⟩ := saga_facts hG.2
                  clear hG
                  dsimp only at p1 p2 p3 p4 p5 p6 p7 p8 p9 p10 p11
                  match j, hj with
                  | 0, _ =>
                    refine wpOp_of_list rfl ?_
                    simp only [putL]
                    go_wp2
                    exact behind 62 _ rfl (by simp [Act.put] <;> omega) rfl ⟨HG.out, SB.out⟩ trivial
                  | 1, _ =>
                    refine wpOp_of_list rfl ?_
                    simp only [putL]
                    go_wp2
                    exact behind 63 _ rfl (by simp [Act.put] <;> omega) rfl ⟨HG.out, SB.out⟩ trivial
                  | 2, _ =>
                    refine wpOp_of_list rfl ?_
                    simp only [putL]
                    go_wp2
                    exact behind 64 _ rfl (by simp [Act.put] <;> omega) rfl ⟨HG.out, SB.out⟩ trivial
                  | 3, _ =>
                    have e1 : vs 2 = .pointer (some ⟨bx, 6, none⟩) := hd 2 (by simp [depsOf, Region.binds])
                    refine wpOp_of_list rfl ?_
                    simp only [putL, e1]
                    go_wp2
                    exact behind 65 _ rfl (by simp [Act.put] <;> omega) rfl ⟨HG.out, SB.out⟩ trivial
                  | 4, _ =>
                    refine wpOp_of_list rfl ?_
                    simp only [putL]
                    go_wp2
                    exact behind 66 _ rfl (by simp [Act.put] <;> omega) rfl ⟨HG.out, SB.out⟩ trivial
                  | 5, _ =>
                    refine wpOp_of_list rfl ?_
                    simp only [putL]
                    go_wp2
                    exact behind 67 _ rfl (by simp [Act.put] <;> omega) rfl ⟨HG.out, SB.out⟩ trivial
                  | 6, _ =>
                    have e1 : vs 4 = .slice A2 bs2.length cap2 := hd 4 (by simp [depsOf, Region.binds])
                    have e2 : vs 5 = .int .i64 i := hd 5 (by simp [depsOf, Region.binds])
                    refine wpOp_of_list rfl ?_
                    simp only [putL, e1, e2]
                    go_wp2_with fail
                    refine (lwAt_any bs2 A2 cap2 i W HG.out.row2 h2 (by omega)).mono ?_
                    rintro e w9 ⟨r9, rfl, rfl⟩
                    go_wp2
                    exact behind 68 _ rfl (by simp [Act.put] <;> omega) ⟨r9, rfl⟩ ⟨HG.out, SB.out⟩ trivial
                  | 7, _ =>
                    obtain ⟨r9, e1⟩ : ∃ r : Int, vs 6 = .int .i64 r := hd 6 (by simp [depsOf, Region.binds])
                    refine wpOp_of_list rfl ?_
                    simp only [putL, e1]
                    go_wp2
                    exact behind 69 (.bool (r9 == 1)) rfl (by simp [Act.put] <;> omega) ⟨_, rfl⟩ ⟨HG.out, SB.out⟩ trivial
                  | 8, _ =>
                    refine wpOp_of_list rfl ?_
                    simp only [putL]
                    go_wp2
                    exact behind 70 _ rfl (by simp [Act.put] <;> omega) rfl ⟨HG.out, SB.out⟩ trivial
                  | 9, _ =>
                    have e0 : vs 0 = .agg #[.string d.nm, .slice A d.st.length cap, .int .i64 d.pv] := hd 0 (by simp [depsOf, Region.binds])
                    have e1 : vs 1 = .agg #[.int .i64 ph, .int .i64 dn, .int .i64 at_, .int .i64 tr, .bool true, .int .i64 du] := hd 1 (by simp [depsOf, Region.binds])
                    have e3 : vs 3 = .agg #[.int .i64 cst, .bool cun, .int .i64 cty] := hd 3 (by simp [depsOf, Region.binds])
                    obtain ⟨good, e7⟩ : ∃ b : Bool, vs 7 = .bool b := hd 7 (by simp [depsOf, Region.binds])
                    have e8 : vs 8 = .int .i64 t := hd 8 (by simp [depsOf, Region.binds])
                    refine wpOp_of_list rfl ?_
                    simp only [putL, e0, e1, e3, e7, e8]
                    go_wp2_with fail
                    refine (replyImpl_any d A cap ⟨ph, dn, at_, tr, true, du⟩ ⟨cst, cun, cty⟩ good t W HG.out.df).mono ?_
                    rintro e w9 ⟨rfl, hb9⟩
                    have HG9 := Lib.hid (HG.out.below hb9)
                    have SB9 := Lib.hid (blk_below SB.out hb9)
                    clear hb9
                    go_wp2
                    exact behind 71 (outV (replyS d ⟨ph, dn, at_, tr, true, du⟩ ⟨cst, cun, cty⟩ good t)) rfl (by simp [Act.put, outV] <;> omega) ⟨good, rfl⟩ ⟨HG9.out, SB9.out⟩ trivial
                  | k + 10, hn => exact absurd hn (by omega)
                case hend =>
                  intro vs W hG hd
                  have HE5 := Lib.hid hG.1
                  have SB5 := Lib.hid hG.2
                  clear hG
                  obtain ⟨good, e9⟩ : ∃ good : Bool, vs 9 = outV (replyS d ⟨ph, dn, at_, tr, true, du⟩ ⟨cst, cun, cty⟩ good t) := hd 9 (by omega)
                  obtain ⟨o, ho⟩ : ∃ o, replyS d ⟨ph, dn, at_, tr, true, du⟩ ⟨cst, cun, cty⟩ good t = o := ⟨_, rfl⟩
                  rw [ho] at e9
                  unfold outV at e9
                  clear hd
                  refine wpOp_of_list rfl ?_
                  simp only [putL, e9]
                  obtain ⟨q0, qf, q1, q2, q3, q4, q5, q6, q7, q8, q9, q10, q11⟩ := out_facts HE5.out.xbox
                  go_upto_region 19 with fail
                  refine wpNamed (fun W => EndsAt w d A cap bd bx bs2 A2 o W ∧ W.heap[w3.heap.size]? = some (.cells #[.int .i64 ph, .int .i64 dn, .int .i64 at_, .int .i64 tr, .bool true, .int .i64 du] 37)) ?_ ?_
                  · rw [set11 HE5.out.xbox]
                    exact ⟨HE5.out.put o, (withBlock_other (by omega)).trans SB5.out⟩
                  rintro W6 ⟨hE6, hS6⟩
                  have HE6 := Lib.hid hE6
                  have HS6 := Lib.hid hS6
                  clear hE6 hS6 HE5 SB5 HE3 HE4 q0 qf q1 q2 q3 q4 q5 q6 q7 q8 q9 q10 q11
                  obtain ⟨q0, qf, q1, q2, q3, q4, q5, q6, q7, q8, q9, q10, q11⟩ := out_facts HE6.out.xbox
                  obtain ⟨n0, n1, n2, n3⟩ := HE6.out.facts
                  have HNX := Lib.hid (show Ends d t ((i : Int) + 1) ((n : Int) + 1) o from by have := Ends.reply HN.out HOV.out rfl good; rw [← ho]; simpa using this)
                  rw [HNX.out.cd] at q11
                  go_wp2_with fail
                  refine (SagaRightSpec_any d A cap o.sg _ HE6.out.df).mono ?_
                  rintro e w7 ⟨rfl, hb7⟩
                  rw [HNX.out.rt]
                  have HE7 := Lib.hid (HE6.out.below hb7)
                  clear hb7
                  go_wp2_with fail
                  go_roundw
                  case rel => exact ⟨n + 1, i + 1, o, by go_num, by go_num, (by have := HNX.out; simpa using this), HE7.out⟩
                  case measure => simp [intOf]; omega

          · have HOV := Lib.hid hov
            clear hov
            go_wp2_with fail
            refine (overImpl_any ⟨ph, dn, at_, tr, ow, du⟩ _).mono ?_
            rintro e w3 ⟨rfl, hb3⟩
            dsimp only
            rw [HOV.out]
            have HE3 := Lib.hid (HE.out.below hb3)
            clear hb3 p0 pf p1 p2 p3 p4 p5 p6 p7 p8 p9 p10 p11
            obtain ⟨p0, pf, p1, p2, p3, p4, p5, p6, p7, p8, p9, p10, p11⟩ := out_facts HE3.out.xbox
            dsimp only at p1 p2 p3 p4 p5 p6 p7 p8 p9 p10 p11
            go_wp2_with fail
            refine (overImpl_any ⟨ph, dn, at_, tr, ow, du⟩ _).mono ?_
            rintro e w4 ⟨rfl, hb4⟩
            dsimp only
            rw [HOV.out]
            have HE4 := Lib.hid (HE3.out.below hb4)
            clear hb4
            have hd160 : decide ((n : Int) ≤ 160) = true := by simpa using hn
            go_wp2_with fail
            go_ret
            exact ⟨by first | rfl | (simp [Act.put]; done), HE4.out.grown⟩

      · have hcd : x.cd = 1 := by rw [← HX.out]; unfold startS; rw [if_pos (by simpa using hok)]; rfl
        go_cut [38] (fun s38 wx => s38 = .bool true ∧ EndsAt w d A cap bd bx bs2 A2 x wx)
        case first =>
          go_region_with (refine (startSpec_any d A cap t _ HEd.out.df).mono ?_; rintro e w3 ⟨rfl, hb3⟩; rw [HX.out]; have HE3 := Lib.hid (HEd.out.below hb3); clear hb3; obtain ⟨k0, k1, k2, k3⟩ := HE3.out.facts; obtain ⟨m0, mf, m1, m2, m3, m4, m5, m6, m7, m8, m9, m10, m11⟩ := out_facts HE3.out.xbox)
          all_goals (go_wp2_with fail; go_meet; exact ⟨by simp [hcd], HE3.out⟩)
        case rest =>
        obtain ⟨rfl, hcut⟩ := hcut
        have HEc := Lib.hid hcut
        clear hcut HE1 HEd n0 n1 n2 n3 p0 pf p1 p2 p3 p4 p5 p6 p7 p8 p9 p10 p11
        have HEd := Lib.hid HEc.out.drew
        obtain ⟨n0, n1, n2, n3⟩ := HEc.out.facts
        obtain ⟨p0, pf, p1, p2, p3, p4, p5, p6, p7, p8, p9, p10, p11⟩ := out_facts HEc.out.xbox
        go_wp2_with fail
        go_region_with (refine (startSpec_any d A cap t _ HEd.out.df).mono ?_; rintro e w3 ⟨rfl, hb3⟩; rw [HX.out]; have HE3 := Lib.hid (HEd.out.below hb3); clear hb3; obtain ⟨k0, k1, k2, k3⟩ := HE3.out.facts; obtain ⟨m0, mf, m1, m2, m3, m4, m5, m6, m7, m8, m9, m10, m11⟩ := out_facts HE3.out.xbox)
        all_goals go_wp2_with fail
        all_goals go_ret
        all_goals exact ⟨by first | rfl | (simp [hcd, Act.put]; done), HE3.out.grown⟩
    · go_enter Try.func4, Try.ntmps4
      go_wp2_with fail
      all_goals go_ret
      all_goals exact ⟨rfl, grown_refl _ _⟩
  · go_enter Try.func4, Try.ntmps4
    go_wp2_with fail
    all_goals go_ret
    all_goals exact ⟨rfl, grown_refl _ _⟩
end Go.Proofs.Ytlbiocfpkpcdhaa
