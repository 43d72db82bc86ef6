/- The law FnExactNewerSave: the walk. -/
import Derived.Test.YtbgepefdfioljaaTp
import Derived.Deep.RegionHeld3
namespace Go.Proofs.Ytbgepefdfioljaa
open Go.RowKit
theorem int_tab : (3 : Nat) ≠ 39 := by decide
theorem ints_tab : (22 : Nat) ≠ 39 := by decide
set_option maxRecDepth 100000 in
set_option maxHeartbeats 4000000 in
theorem FnExactNewerSave_any (v : Value) (x : SvA) (u : Value) (y : SvA) (w : World) (hx : SavIn w v x) (hy : SavIn w u y) :
    Calls Try.prog 8 #[v, u] w fun e w' => e = .returned (.bool true) ∧ Chg NoB w w' := by
  obtain ⟨n1, A1, c1, xs1, s1⟩ := x
  obtain ⟨n2, A2, c2, xs2, s2⟩ := y
  obtain ⟨rfl, h1, hlc1, hcm1⟩ := hx
  obtain ⟨rfl, h2, hlc2, hcm2⟩ := hy
  simp only at h1 hlc1 hcm1 h2 hlc2 hcm2
  have HM := Lib.hid (And.intro (Nat.le_trans hlc1 hcm1) (Nat.le_trans hlc2 hcm2))
  clear hlc1 hcm1 hlc2 hcm2
  go_enter Try.func8, Try.ntmps8
  go_wp2_with fail
  have HCH := Lib.hid (Chg.refl NoB w)
  have HX := Lib.hid h1
  have HY := Lib.hid h2
  clear h1 h2
  obtain ⟨w1, hw1⟩ : ∃ w1, w.alloc (.cells #[.int .i64 n1, .slice A1 xs1.length c1, .int .i64 s1] 46) = w1 := ⟨_, rfl⟩
  try rw [hw1]
  have q2 : Chg NoB w w1 := by rw [← hw1]; exact (Chg.refl _ _).alloc _
  have bq2 : Blk w1 w.heap.size 46 #[.int .i64 n1, .slice A1 xs1.length c1, .int .i64 s1] := by rw [← hw1]; exact Blk.new _ _ _
  have sq2 : w1.heap.size = w.heap.size + 1 := by rw [← hw1]; exact World.size_alloc ..
  clear hw1
  replace HCH := Lib.hid (HCH.out.trans q2)
  replace HX := Lib.hid (HX.out.new q2)
  replace HY := Lib.hid (HY.out.new q2)
  have S3 := Lib.hid q2.size
  have S4 := Lib.hid sq2
  have HB_a := Lib.hid bq2
  have z_a_0 : w1.cell? ⟨w.heap.size, 0, none⟩ = some (.int .i64 n1) := (HB_a.out.cell _).trans rfl
  have z_a_1 : w1.cell? ⟨w.heap.size, 1, none⟩ = some (.slice A1 xs1.length c1) := (HB_a.out.cell _).trans rfl
  have z_a_2 : w1.cell? ⟨w.heap.size, 2, none⟩ = some (.int .i64 s1) := (HB_a.out.cell _).trans rfl
  clear q2 sq2 bq2
  obtain ⟨w5, hw5⟩ : ∃ w5, w1.alloc (.cells #[.int .i64 n2, .slice A2 xs2.length c2, .int .i64 s2] 46) = w5 := ⟨_, rfl⟩
  try rw [hw5]
  have q6 : Chg NoB w1 w5 := by rw [← hw5]; exact (Chg.refl _ _).alloc _
  have bq6 : Blk w5 (w.heap.size + 1) 46 #[.int .i64 n2, .slice A2 xs2.length c2, .int .i64 s2] := by have hz : w1.heap.size = w.heap.size + 1 := (by have := S3.out; have := S4.out; omega); rw [← hz, ← hw5]; exact Blk.new _ _ _
  have sq6 : w5.heap.size = w1.heap.size + 1 := by rw [← hw5]; exact World.size_alloc ..
  clear hw5
  replace HCH := Lib.hid (HCH.out.trans q6)
  replace HB_a := Lib.hid (HB_a.out.chg q6 (fun x => x))
  replace z_a_0 := Chg.cell q6 z_a_0 (fun x => x)
  replace z_a_1 := Chg.cell q6 z_a_1 (fun x => x)
  replace z_a_2 := Chg.cell q6 z_a_2 (fun x => x)
  replace HX := Lib.hid (HX.out.new q6)
  replace HY := Lib.hid (HY.out.new q6)
  have S7 := Lib.hid q6.size
  have S8 := Lib.hid sq6
  have HB_b := Lib.hid bq6
  have z_b_0 : w5.cell? ⟨w.heap.size + 1, 0, none⟩ = some (.int .i64 n2) := (HB_b.out.cell _).trans rfl
  have z_b_1 : w5.cell? ⟨w.heap.size + 1, 1, none⟩ = some (.slice A2 xs2.length c2) := (HB_b.out.cell _).trans rfl
  have z_b_2 : w5.cell? ⟨w.heap.size + 1, 2, none⟩ = some (.int .i64 s2) := (HB_b.out.cell _).trans rfl
  clear q6 sq6 bq6
  refine (szSave_g n1 s1 A1 xs1.length c1 1048576 _ HM.out.1 (by omega) (by omega)).mono ?_
  rintro e w9 ⟨rfl, hc10⟩
  replace HCH := Lib.hid (HCH.out.trans hc10)
  replace HB_a := Lib.hid (HB_a.out.chg hc10 (fun x => x))
  replace z_a_0 := Chg.cell hc10 z_a_0 (fun x => x)
  replace z_a_1 := Chg.cell hc10 z_a_1 (fun x => x)
  replace z_a_2 := Chg.cell hc10 z_a_2 (fun x => x)
  replace HB_b := Lib.hid (HB_b.out.chg hc10 (fun x => x))
  replace z_b_0 := Chg.cell hc10 z_b_0 (fun x => x)
  replace z_b_1 := Chg.cell hc10 z_b_1 (fun x => x)
  replace z_b_2 := Chg.cell hc10 z_b_2 (fun x => x)
  replace HX := Lib.hid (HX.out.new hc10)
  replace HY := Lib.hid (HY.out.new hc10)
  have S11 := Lib.hid hc10.size
  by_cases hl : 1048576 < xs1.length
  · have hs : szOf 1048576 xs1.length = -1 := by unfold szOf; rw [if_pos (by omega)]
    rw [hs]
    go_wp2
    go_ret
    exact ⟨rfl, HCH.out⟩
  have hs : szOf 1048576 xs1.length = 1048576 - (xs1.length : Int) := by unfold szOf; rw [if_neg (by omega)]
  rw [hs]
  have hnn : ¬ (1048576 - (xs1.length : Int) < 0) := by omega
  have HL1 := Lib.hid (show xs1.length ≤ 1048576 by omega)
  clear hs hl
  go_wp2_with fail
  refine (szSave_g n2 s2 A2 xs2.length c2 (1048576 - (xs1.length : Int)) _ HM.out.2 (by have := HL1.out; omega) (by omega)).mono ?_
  rintro e w12 ⟨rfl, hc13⟩
  replace HCH := Lib.hid (HCH.out.trans hc13)
  replace HB_a := Lib.hid (HB_a.out.chg hc13 (fun x => x))
  replace z_a_0 := Chg.cell hc13 z_a_0 (fun x => x)
  replace z_a_1 := Chg.cell hc13 z_a_1 (fun x => x)
  replace z_a_2 := Chg.cell hc13 z_a_2 (fun x => x)
  replace HB_b := Lib.hid (HB_b.out.chg hc13 (fun x => x))
  replace z_b_0 := Chg.cell hc13 z_b_0 (fun x => x)
  replace z_b_1 := Chg.cell hc13 z_b_1 (fun x => x)
  replace z_b_2 := Chg.cell hc13 z_b_2 (fun x => x)
  replace HX := Lib.hid (HX.out.new hc13)
  replace HY := Lib.hid (HY.out.new hc13)
  have S14 := Lib.hid hc13.size
  clear hnn
  by_cases hl : 1048576 - (xs1.length : Int) < xs2.length
  · have hs : szOf (1048576 - (xs1.length : Int)) xs2.length = -1 := by unfold szOf; rw [if_pos (by omega)]
    rw [hs]
    go_wp2
    go_ret
    exact ⟨rfl, HCH.out⟩
  have hs : szOf (1048576 - (xs1.length : Int)) xs2.length = 1048576 - (xs1.length : Int) - (xs2.length : Int) := by unfold szOf; rw [if_neg (by omega)]
  rw [hs]
  have hnn : ¬ (1048576 - (xs1.length : Int) - (xs2.length : Int) < 0) := by omega
  have HL2 := Lib.hid (show xs2.length ≤ 1048576 by omega)
  obtain ⟨X, N0, b0, hI0⟩ := NewerIs.ex ⟨n1, xs1, s1⟩ ⟨n2, xs2, s2⟩
  have HI0 := Lib.hid hI0
  have HTT := Lib.hid hI0.small
  clear hs hl hI0 HM
  go_wp2_with fail
  refine wp_region_rg (WInv := fun _ m w5 => Chg NoB w12 w5 ∧ BoxI w12.heap.size 39 #[.slice none 0 0] 9 10 6 m w5) (R := RBox NoB w12.heap.size 39) (Post := pairPost3 (PSav w12.heap.size n1 xs1 s1) (PSav w12.heap.size n2 xs2 s2) (PTab w12.heap.size X (fun t => .tuple #[t, .int .i64 N0, .bool b0])) (PTab w12.heap.size X (fun t => t)) (.agg #[.int .i64 n1, .slice A1 xs1.length c1, .int .i64 s1]) (.agg #[.int .i64 n2, .slice A2 xs2.length c2, .int .i64 s2]) (.int .i64 N0) (.bool b0)) (by kernel_rfl) (by kernel_rfl) (fun _ _ _ _ h _ _ => h) (pairPost3_stab (fun _ _ _ h hr => PSav.box h hr int_tab) (fun _ _ _ h hr => PSav.box h hr int_tab) (fun _ _ _ h hr => PTab.box h hr ints_tab int_tab) (fun _ _ _ h hr => PTab.box h hr ints_tab int_tab)) ⟨(Chg.refl _ _).drew, BoxI.start⟩ ⟨?_, ?_, ?_, ?_, ?_, ?_, ?_, ?_, ?_, ?_, ?_, ?_, ?_, trivial⟩ ?_
  · rintro kc m a w5 hkc ⟨hch, hbx⟩ hm hn
    have e1 : a.tmps[2]?.getD undef = .pointer (some ⟨w.heap.size, 0, none⟩) := hn.1
    have y0 := Chg.cell hch z_a_0 (fun x => x)
    have y1 := Chg.cell hch z_a_1 (fun x => x)
    have y2 := Chg.cell hch z_a_2 (fun x => x)
    exact rg_val (v := .agg #[.int .i64 n1, .slice A1 xs1.length c1, .int .i64 s1]) (by simp [execOp, go_sem, e1, y0, y1, y2]) rfl ⟨hch, hbx.keep (by decide) (by decide) hm (Chg.refl NoB _) (fun _ _ x => x)⟩ (Chg.refl _ _) rfl
  · rintro kc m a w5 hkc ⟨hch, hbx⟩ hm hn
    obtain ⟨⟨_, e1, _, rfl⟩, -⟩ := hn
    refine rg_call (f := 30) (args := #[.agg #[.int .i64 n1, .slice A1 xs1.length c1, .int .i64 s1]]) (by simp [go_sem, e1]) rfl ?_
    refine (toSave_any _ n1 s1 A1 c1 xs1 _ (HX.out.new hch) HL1.out).mono ?_
    rintro e w6 ⟨gx, rfl, hO, hc6⟩
    exact ⟨_, rfl, ⟨hch.trans hc6, hbx.keep (by decide) (by decide) hm hc6 (fun _ _ x => x)⟩, RBox.of hc6 (fun _ x => x), ⟨gx, rfl, hO.more hch.size (Nat.le_refl _)⟩⟩
  · rintro kc m a w5 hkc ⟨hch, hbx⟩ hm hn
    have e1 : a.tmps[3]?.getD undef = .pointer (some ⟨w.heap.size + 1, 0, none⟩) := hn.1
    have y0 := Chg.cell hch z_b_0 (fun x => x)
    have y1 := Chg.cell hch z_b_1 (fun x => x)
    have y2 := Chg.cell hch z_b_2 (fun x => x)
    exact rg_val (v := .agg #[.int .i64 n2, .slice A2 xs2.length c2, .int .i64 s2]) (by simp [execOp, go_sem, e1, y0, y1, y2]) rfl ⟨hch, hbx.keep (by decide) (by decide) hm (Chg.refl NoB _) (fun _ _ x => x)⟩ (Chg.refl _ _) rfl
  · rintro kc m a w5 hkc ⟨hch, hbx⟩ hm hn
    obtain ⟨⟨_, e1, _, rfl⟩, -⟩ := hn
    refine rg_call (f := 30) (args := #[.agg #[.int .i64 n2, .slice A2 xs2.length c2, .int .i64 s2]]) (by simp [go_sem, e1]) rfl ?_
    refine (toSave_any _ n2 s2 A2 c2 xs2 _ (HY.out.new hch) HL2.out).mono ?_
    rintro e w6 ⟨gx, rfl, hO, hc6⟩
    exact ⟨_, rfl, ⟨hch.trans hc6, hbx.keep (by decide) (by decide) hm hc6 (fun _ _ x => x)⟩, RBox.of hc6 (fun _ x => x), ⟨gx, rfl, hO.more hch.size (Nat.le_refl _)⟩⟩
  · rintro kc m a w5 hkc ⟨hch, hbx⟩ hm hn
    obtain ⟨⟨_, e1, _, gx1, rfl, ho1⟩, ⟨_, e2, _, gx2, rfl, ho2⟩, -⟩ := hn
    refine rg_call (f := 36) (args := #[.agg #[.int .i64 n1, .slice (some ⟨gx1, 0, none⟩) xs1.length xs1.length, .int .i64 s1], .agg #[.int .i64 n2, .slice (some ⟨gx2, 0, none⟩) xs2.length xs2.length, .int .i64 s2]]) (by simp [go_sem, e1, e2]) rfl ?_
    refine (sNewerSave_any _ _ ⟨n1, xs1, s1⟩ ⟨n2, xs2, s2⟩ _ _ xs1.length xs2.length _ ho1.rd (Nat.le_refl _) (by have := HL1.out; omega) ho2.rd (Nat.le_refl _) (by have := HL2.out; omega)).mono ?_
    rintro e w6 ⟨Ar, cr, Tr, N', b', rfl, hO, hI, hc6⟩
    obtain ⟨hXX, hN', hb'⟩ := hI.out.det HI0.out
    have hTl : Tr.length = X.length := by rw [← hXX, listsOf_length]
    rw [hTl, hN', hb']
    exact ⟨_, rfl, ⟨hch.trans hc6, hbx.keep (by decide) (by decide) hm hc6 (fun _ _ x => x)⟩, RBox.of hc6 (fun _ x => x), ⟨Ar, cr, Tr, rfl, hO.more hch.size (Nat.le_refl _), Lib.hid hXX⟩⟩
  · rintro kc m a w5 hkc ⟨hch, hbx⟩ hm hn
    obtain ⟨⟨_, e1, _, Ar, cr, Tr, rfl, hO, hX⟩, -⟩ := hn
    exact rg_val (v := .tuple #[.agg #[.slice Ar X.length cr], .int .i64 N0, .bool b0]) (by simp [execOp, go_sem, e1]) rfl ⟨hch, hbx.keep (by decide) (by decide) hm (Chg.refl NoB _) (fun _ _ x => x)⟩ (Chg.refl _ _) ⟨Ar, cr, Tr, rfl, hO, hX⟩
  · rintro kc m a w5 hkc ⟨hch, hbx⟩ hm hn
    obtain ⟨⟨_, e1, _, Ar, cr, Tr, rfl, hO, hX⟩, -⟩ := hn
    exact rg_val (v := .agg #[.slice Ar X.length cr]) (by simp [execOp, go_sem, e1]) rfl ⟨hch, hbx.keep (by decide) (by decide) hm (Chg.refl NoB _) (fun _ _ x => x)⟩ (Chg.refl _ _) ⟨Ar, cr, Tr, rfl, hO, hX⟩
  · rintro kc m a w5 hkc ⟨hch, hbx⟩ hm hn
    obtain ⟨⟨_, e1, _, Ar, cr, Tr, rfl, hO, hX⟩, -⟩ := hn
    exact rg_val (v := .int .i64 N0) (by simp [execOp, go_sem, e1]) rfl ⟨hch, hbx.keep (by decide) (by decide) hm (Chg.refl NoB _) (fun _ _ x => x)⟩ (Chg.refl _ _) rfl
  · rintro kc m a w5 hkc ⟨hch, hbx⟩ hm hn
    obtain ⟨⟨_, e1, _, Ar, cr, Tr, rfl, hO, hX⟩, -⟩ := hn
    exact rg_val (v := .bool b0) (by simp [execOp, go_sem, e1]) rfl ⟨hch, hbx.keep (by decide) (by decide) hm (Chg.refl NoB _) (fun _ _ x => x)⟩ (Chg.refl _ _) rfl
  · rintro kc m a w5 hkc ⟨hch, hbx⟩ hm hn
    have hca : Chg NoB w5 (w5.alloc (.cells #[.slice none 0 0] 39)) := (Chg.refl _ _).alloc _
    exact rg_val (v := .pointer (some ⟨w5.heap.size, 0, none⟩)) (w' := w5.alloc (.cells #[.slice none 0 0] 39)) (by simp [execOp, go_sem]) rfl ⟨hch.alloc _, hbx.alloc (by decide) hm hch.size⟩ (RBox.of hca (fun _ x => x.elim)) trivial
  · rintro kc m a w5 hkc ⟨hch, hbx⟩ hm hn
    obtain ⟨⟨p, e1, hma, _⟩, ⟨_, e2, hmv, Ar, cr, Tr, rfl, hO, hX⟩, -⟩ := hn
    obtain ⟨bx, rfl, hB, hb⟩ := hbx.ready hm hma
    have f0 := hb.frozen 0
    have x0 : w5.cell? ⟨bx, 0, none⟩ = some (.slice none 0 0) := (hb.cell _).trans rfl
    have hst : Chg (· = bx) w5 (w5.setCell ⟨bx, 0, none⟩ (.slice Ar X.length cr)) := ((Chg.refl (· = bx) w5).setCell (p := ⟨bx, 0, none⟩) (.inl rfl) _)
    have hb' : Blk (w5.setCell ⟨bx, 0, none⟩ (.slice Ar X.length cr)) bx 39 #[.slice Ar X.length cr] := (hb.set_ 0 _)
    exact rg_skip (w' := (w5.setCell ⟨bx, 0, none⟩ (.slice Ar X.length cr))) (by simp [execOp, go_sem, e1, e2, x0, f0]) rfl ⟨hch.own hst hB, BoxI.store (by decide) (by decide) hma hB hmv hb'⟩ (RBox.box hst hB hb) trivial
  · rintro kc m a w5 hkc ⟨hch, hbx⟩ hm hn
    obtain ⟨⟨_, e1, _, rfl⟩, -⟩ := hn
    exact rg_val (v := .int .i64 N0) (by simp [execOp, go_sem, e1]) rfl ⟨hch, hbx.keep (by decide) (by decide) hm (Chg.refl NoB _) (fun _ _ x => x)⟩ (Chg.refl _ _) rfl
  · rintro kc m a w5 hkc ⟨hch, hbx⟩ hm hn
    obtain ⟨⟨_, e1, _, rfl⟩, -⟩ := hn
    exact rg_val (v := .bool b0) (by simp [execOp, go_sem, e1]) rfl ⟨hch, hbx.keep (by decide) (by decide) hm (Chg.refl NoB _) (fun _ _ x => x)⟩ (Chg.refl _ _) rfl
  rintro m w15 ⟨hc16, hbx⟩
  simp only [AllVals]
  rintro rv0 m0 p0 rv1 m1 p1 rv2 m2 p2 rv3 m3 p3 rv4 m4 p4 rv5 m5 p5 rv6 m6 p6 rv7 m7 p7 rv8 m8 p8 rv9 m9 p9 rv10 m10 p10 rv11 m11 p11 rv12 m12 p12
  obtain ⟨Arw0, crw0, Trw0, rfl, hOw0, hXw0⟩ := p6
  obtain rfl := p11
  obtain rfl := p12
  obtain ⟨bx1, rfl, hB1, hb1⟩ := hbx.done m9 m10 m6
  have HBX1 := Lib.hid hB1
  have hbb1 : Blk w15 bx1 39 #[.slice Arw0 X.length crw0] := hb1
  clear hB1 hb1 hbx p0 p1 p2 p3 p4 p5 p7 p8 p9 p10
  simp only [Act.put, List.setIfInBounds_toArray, List.set_cons_succ, List.set_cons_zero]
  replace HCH := Lib.hid (HCH.out.trans hc16)
  replace HB_a := Lib.hid (HB_a.out.chg hc16 (fun x => x))
  replace z_a_0 := Chg.cell hc16 z_a_0 (fun x => x)
  replace z_a_1 := Chg.cell hc16 z_a_1 (fun x => x)
  replace z_a_2 := Chg.cell hc16 z_a_2 (fun x => x)
  replace HB_b := Lib.hid (HB_b.out.chg hc16 (fun x => x))
  replace z_b_0 := Chg.cell hc16 z_b_0 (fun x => x)
  replace z_b_1 := Chg.cell hc16 z_b_1 (fun x => x)
  replace z_b_2 := Chg.cell hc16 z_b_2 (fun x => x)
  replace HX := Lib.hid (HX.out.new hc16)
  replace HY := Lib.hid (HY.out.new hc16)
  have S17 := Lib.hid hc16.size
  have S18 := Lib.hid hbb1.lt
  have HB_w0 := Lib.hid hbb1
  have z_w0_0 : w15.cell? ⟨bx1, 0, none⟩ = some (.slice Arw0 X.length crw0) := (HB_w0.out.cell _).trans rfl
  clear hbb1 hc16
  have hRw0 := hOw0.reads
  rw [hXw0.out] at hRw0
  have Rw0 := Lib.hid hRw0
  clear hRw0 hOw0
  go_wp2_with fail
  refine (toSave_any _ n1 s1 A1 c1 xs1 _ HX.out HL1.out).mono ?_
  rintro e w19 ⟨g1, rfl, hO1, hc20⟩
  replace HCH := Lib.hid (HCH.out.trans hc20)
  replace HB_a := Lib.hid (HB_a.out.chg hc20 (fun x => x))
  replace z_a_0 := Chg.cell hc20 z_a_0 (fun x => x)
  replace z_a_1 := Chg.cell hc20 z_a_1 (fun x => x)
  replace z_a_2 := Chg.cell hc20 z_a_2 (fun x => x)
  replace HB_b := Lib.hid (HB_b.out.chg hc20 (fun x => x))
  replace z_b_0 := Chg.cell hc20 z_b_0 (fun x => x)
  replace z_b_1 := Chg.cell hc20 z_b_1 (fun x => x)
  replace z_b_2 := Chg.cell hc20 z_b_2 (fun x => x)
  replace HB_w0 := Lib.hid (HB_w0.out.chg hc20 (fun x => x))
  replace z_w0_0 := Chg.cell hc20 z_w0_0 (fun x => x)
  replace HX := Lib.hid (HX.out.new hc20)
  replace HY := Lib.hid (HY.out.new hc20)
  replace Rw0 := Lib.hid (Rw0.out.new hc20)
  have S21 := Lib.hid hc20.size
  have O1 := Lib.hid hO1
  clear hO1 hc20
  have zz_a_0 := Chg.cell ((Chg.refl NoB w19).alloc (.cells #[.int .i64 n1, .slice (some ⟨g1, 0, none⟩) xs1.length xs1.length, .int .i64 s1] 37)) z_a_0 (fun x => x)
  have zz_a_1 := Chg.cell ((Chg.refl NoB w19).alloc (.cells #[.int .i64 n1, .slice (some ⟨g1, 0, none⟩) xs1.length xs1.length, .int .i64 s1] 37)) z_a_1 (fun x => x)
  have zz_a_2 := Chg.cell ((Chg.refl NoB w19).alloc (.cells #[.int .i64 n1, .slice (some ⟨g1, 0, none⟩) xs1.length xs1.length, .int .i64 s1] 37)) z_a_2 (fun x => x)
  have zz_b_0 := Chg.cell ((Chg.refl NoB w19).alloc (.cells #[.int .i64 n1, .slice (some ⟨g1, 0, none⟩) xs1.length xs1.length, .int .i64 s1] 37)) z_b_0 (fun x => x)
  have zz_b_1 := Chg.cell ((Chg.refl NoB w19).alloc (.cells #[.int .i64 n1, .slice (some ⟨g1, 0, none⟩) xs1.length xs1.length, .int .i64 s1] 37)) z_b_1 (fun x => x)
  have zz_b_2 := Chg.cell ((Chg.refl NoB w19).alloc (.cells #[.int .i64 n1, .slice (some ⟨g1, 0, none⟩) xs1.length xs1.length, .int .i64 s1] 37)) z_b_2 (fun x => x)
  have zz_w0_0 := Chg.cell ((Chg.refl NoB w19).alloc (.cells #[.int .i64 n1, .slice (some ⟨g1, 0, none⟩) xs1.length xs1.length, .int .i64 s1] 37)) z_w0_0 (fun x => x)
  go_wp2_with fail
  clear zz_a_0 zz_a_1 zz_a_2 zz_b_0 zz_b_1 zz_b_2 zz_w0_0
  obtain ⟨w22, hw22⟩ : ∃ w22, w19.alloc (.cells #[.int .i64 n1, .slice (some ⟨g1, 0, none⟩) xs1.length xs1.length, .int .i64 s1] 37) = w22 := ⟨_, rfl⟩
  try rw [hw22]
  have q23 : Chg NoB w19 w22 := by rw [← hw22]; exact (Chg.refl _ _).alloc _
  have bq23 : Blk w22 w19.heap.size 37 #[.int .i64 n1, .slice (some ⟨g1, 0, none⟩) xs1.length xs1.length, .int .i64 s1] := by rw [← hw22]; exact Blk.new _ _ _
  have sq23 : w22.heap.size = w19.heap.size + 1 := by rw [← hw22]; exact World.size_alloc ..
  clear hw22
  replace HCH := Lib.hid (HCH.out.trans q23)
  replace HB_a := Lib.hid (HB_a.out.chg q23 (fun x => x))
  replace z_a_0 := Chg.cell q23 z_a_0 (fun x => x)
  replace z_a_1 := Chg.cell q23 z_a_1 (fun x => x)
  replace z_a_2 := Chg.cell q23 z_a_2 (fun x => x)
  replace HB_b := Lib.hid (HB_b.out.chg q23 (fun x => x))
  replace z_b_0 := Chg.cell q23 z_b_0 (fun x => x)
  replace z_b_1 := Chg.cell q23 z_b_1 (fun x => x)
  replace z_b_2 := Chg.cell q23 z_b_2 (fun x => x)
  replace HB_w0 := Lib.hid (HB_w0.out.chg q23 (fun x => x))
  replace z_w0_0 := Chg.cell q23 z_w0_0 (fun x => x)
  replace HX := Lib.hid (HX.out.new q23)
  replace HY := Lib.hid (HY.out.new q23)
  replace Rw0 := Lib.hid (Rw0.out.new q23)
  replace O1 := Lib.hid (O1.out.new q23)
  have S24 := Lib.hid q23.size
  have S25 := Lib.hid sq23
  have HB_x0 := Lib.hid bq23
  have z_x0_0 : w22.cell? ⟨w19.heap.size, 0, none⟩ = some (.int .i64 n1) := (HB_x0.out.cell _).trans rfl
  have z_x0_1 : w22.cell? ⟨w19.heap.size, 1, none⟩ = some (.slice (some ⟨g1, 0, none⟩) xs1.length xs1.length) := (HB_x0.out.cell _).trans rfl
  have z_x0_2 : w22.cell? ⟨w19.heap.size, 2, none⟩ = some (.int .i64 s1) := (HB_x0.out.cell _).trans rfl
  clear q23 sq23 bq23
  refine (toSave_any _ n2 s2 A2 c2 xs2 _ HY.out HL2.out).mono ?_
  rintro e w26 ⟨g2, rfl, hO2, hc27⟩
  replace HCH := Lib.hid (HCH.out.trans hc27)
  replace HB_a := Lib.hid (HB_a.out.chg hc27 (fun x => x))
  replace z_a_0 := Chg.cell hc27 z_a_0 (fun x => x)
  replace z_a_1 := Chg.cell hc27 z_a_1 (fun x => x)
  replace z_a_2 := Chg.cell hc27 z_a_2 (fun x => x)
  replace HB_b := Lib.hid (HB_b.out.chg hc27 (fun x => x))
  replace z_b_0 := Chg.cell hc27 z_b_0 (fun x => x)
  replace z_b_1 := Chg.cell hc27 z_b_1 (fun x => x)
  replace z_b_2 := Chg.cell hc27 z_b_2 (fun x => x)
  replace HB_w0 := Lib.hid (HB_w0.out.chg hc27 (fun x => x))
  replace z_w0_0 := Chg.cell hc27 z_w0_0 (fun x => x)
  replace HB_x0 := Lib.hid (HB_x0.out.chg hc27 (fun x => x))
  replace z_x0_0 := Chg.cell hc27 z_x0_0 (fun x => x)
  replace z_x0_1 := Chg.cell hc27 z_x0_1 (fun x => x)
  replace z_x0_2 := Chg.cell hc27 z_x0_2 (fun x => x)
  replace HX := Lib.hid (HX.out.new hc27)
  replace HY := Lib.hid (HY.out.new hc27)
  replace Rw0 := Lib.hid (Rw0.out.new hc27)
  replace O1 := Lib.hid (O1.out.new hc27)
  have S28 := Lib.hid hc27.size
  have O2 := Lib.hid hO2
  clear hO2 hc27
  have zz_a_0 := Chg.cell ((Chg.refl NoB w26).alloc (.cells #[.int .i64 n2, .slice (some ⟨g2, 0, none⟩) xs2.length xs2.length, .int .i64 s2] 37)) z_a_0 (fun x => x)
  have zz_a_1 := Chg.cell ((Chg.refl NoB w26).alloc (.cells #[.int .i64 n2, .slice (some ⟨g2, 0, none⟩) xs2.length xs2.length, .int .i64 s2] 37)) z_a_1 (fun x => x)
  have zz_a_2 := Chg.cell ((Chg.refl NoB w26).alloc (.cells #[.int .i64 n2, .slice (some ⟨g2, 0, none⟩) xs2.length xs2.length, .int .i64 s2] 37)) z_a_2 (fun x => x)
  have zz_b_0 := Chg.cell ((Chg.refl NoB w26).alloc (.cells #[.int .i64 n2, .slice (some ⟨g2, 0, none⟩) xs2.length xs2.length, .int .i64 s2] 37)) z_b_0 (fun x => x)
  have zz_b_1 := Chg.cell ((Chg.refl NoB w26).alloc (.cells #[.int .i64 n2, .slice (some ⟨g2, 0, none⟩) xs2.length xs2.length, .int .i64 s2] 37)) z_b_1 (fun x => x)
  have zz_b_2 := Chg.cell ((Chg.refl NoB w26).alloc (.cells #[.int .i64 n2, .slice (some ⟨g2, 0, none⟩) xs2.length xs2.length, .int .i64 s2] 37)) z_b_2 (fun x => x)
  have zz_w0_0 := Chg.cell ((Chg.refl NoB w26).alloc (.cells #[.int .i64 n2, .slice (some ⟨g2, 0, none⟩) xs2.length xs2.length, .int .i64 s2] 37)) z_w0_0 (fun x => x)
  have zz_x0_0 := Chg.cell ((Chg.refl NoB w26).alloc (.cells #[.int .i64 n2, .slice (some ⟨g2, 0, none⟩) xs2.length xs2.length, .int .i64 s2] 37)) z_x0_0 (fun x => x)
  have zz_x0_1 := Chg.cell ((Chg.refl NoB w26).alloc (.cells #[.int .i64 n2, .slice (some ⟨g2, 0, none⟩) xs2.length xs2.length, .int .i64 s2] 37)) z_x0_1 (fun x => x)
  have zz_x0_2 := Chg.cell ((Chg.refl NoB w26).alloc (.cells #[.int .i64 n2, .slice (some ⟨g2, 0, none⟩) xs2.length xs2.length, .int .i64 s2] 37)) z_x0_2 (fun x => x)
  go_wp2_with fail
  clear zz_a_0 zz_a_1 zz_a_2 zz_b_0 zz_b_1 zz_b_2 zz_w0_0 zz_x0_0 zz_x0_1 zz_x0_2
  obtain ⟨w29, hw29⟩ : ∃ w29, w26.alloc (.cells #[.int .i64 n2, .slice (some ⟨g2, 0, none⟩) xs2.length xs2.length, .int .i64 s2] 37) = w29 := ⟨_, rfl⟩
  try rw [hw29]
  have q30 : Chg NoB w26 w29 := by rw [← hw29]; exact (Chg.refl _ _).alloc _
  have bq30 : Blk w29 w26.heap.size 37 #[.int .i64 n2, .slice (some ⟨g2, 0, none⟩) xs2.length xs2.length, .int .i64 s2] := by rw [← hw29]; exact Blk.new _ _ _
  have sq30 : w29.heap.size = w26.heap.size + 1 := by rw [← hw29]; exact World.size_alloc ..
  clear hw29
  replace HCH := Lib.hid (HCH.out.trans q30)
  replace HB_a := Lib.hid (HB_a.out.chg q30 (fun x => x))
  replace z_a_0 := Chg.cell q30 z_a_0 (fun x => x)
  replace z_a_1 := Chg.cell q30 z_a_1 (fun x => x)
  replace z_a_2 := Chg.cell q30 z_a_2 (fun x => x)
  replace HB_b := Lib.hid (HB_b.out.chg q30 (fun x => x))
  replace z_b_0 := Chg.cell q30 z_b_0 (fun x => x)
  replace z_b_1 := Chg.cell q30 z_b_1 (fun x => x)
  replace z_b_2 := Chg.cell q30 z_b_2 (fun x => x)
  replace HB_w0 := Lib.hid (HB_w0.out.chg q30 (fun x => x))
  replace z_w0_0 := Chg.cell q30 z_w0_0 (fun x => x)
  replace HB_x0 := Lib.hid (HB_x0.out.chg q30 (fun x => x))
  replace z_x0_0 := Chg.cell q30 z_x0_0 (fun x => x)
  replace z_x0_1 := Chg.cell q30 z_x0_1 (fun x => x)
  replace z_x0_2 := Chg.cell q30 z_x0_2 (fun x => x)
  replace HX := Lib.hid (HX.out.new q30)
  replace HY := Lib.hid (HY.out.new q30)
  replace Rw0 := Lib.hid (Rw0.out.new q30)
  replace O1 := Lib.hid (O1.out.new q30)
  replace O2 := Lib.hid (O2.out.new q30)
  have S31 := Lib.hid q30.size
  have S32 := Lib.hid sq30
  have HB_x1 := Lib.hid bq30
  have z_x1_0 : w29.cell? ⟨w26.heap.size, 0, none⟩ = some (.int .i64 n2) := (HB_x1.out.cell _).trans rfl
  have z_x1_1 : w29.cell? ⟨w26.heap.size, 1, none⟩ = some (.slice (some ⟨g2, 0, none⟩) xs2.length xs2.length) := (HB_x1.out.cell _).trans rfl
  have z_x1_2 : w29.cell? ⟨w26.heap.size, 2, none⟩ = some (.int .i64 s2) := (HB_x1.out.cell _).trans rfl
  clear q30 sq30 bq30
  refine (iNewerSave_any _ _ ⟨n1, xs1, s1⟩ ⟨n2, xs2, s2⟩ _ _ xs1.length xs2.length _ O1.out.rd (Nat.le_refl _) (by have := HL1.out; omega) O2.out.rd (Nat.le_refl _) (by have := HL2.out; omega)).mono ?_
  rintro e w33 ⟨Ag, cg, Tg, Ng, bg, rfl, hOg, hIg, hc34⟩
  replace HCH := Lib.hid (HCH.out.trans hc34)
  replace HB_a := Lib.hid (HB_a.out.chg hc34 (fun x => x))
  replace z_a_0 := Chg.cell hc34 z_a_0 (fun x => x)
  replace z_a_1 := Chg.cell hc34 z_a_1 (fun x => x)
  replace z_a_2 := Chg.cell hc34 z_a_2 (fun x => x)
  replace HB_b := Lib.hid (HB_b.out.chg hc34 (fun x => x))
  replace z_b_0 := Chg.cell hc34 z_b_0 (fun x => x)
  replace z_b_1 := Chg.cell hc34 z_b_1 (fun x => x)
  replace z_b_2 := Chg.cell hc34 z_b_2 (fun x => x)
  replace HB_w0 := Lib.hid (HB_w0.out.chg hc34 (fun x => x))
  replace z_w0_0 := Chg.cell hc34 z_w0_0 (fun x => x)
  replace HB_x0 := Lib.hid (HB_x0.out.chg hc34 (fun x => x))
  replace z_x0_0 := Chg.cell hc34 z_x0_0 (fun x => x)
  replace z_x0_1 := Chg.cell hc34 z_x0_1 (fun x => x)
  replace z_x0_2 := Chg.cell hc34 z_x0_2 (fun x => x)
  replace HB_x1 := Lib.hid (HB_x1.out.chg hc34 (fun x => x))
  replace z_x1_0 := Chg.cell hc34 z_x1_0 (fun x => x)
  replace z_x1_1 := Chg.cell hc34 z_x1_1 (fun x => x)
  replace z_x1_2 := Chg.cell hc34 z_x1_2 (fun x => x)
  replace HX := Lib.hid (HX.out.new hc34)
  replace HY := Lib.hid (HY.out.new hc34)
  replace Rw0 := Lib.hid (Rw0.out.new hc34)
  replace O1 := Lib.hid (O1.out.new hc34)
  replace O2 := Lib.hid (O2.out.new hc34)
  have S35 := Lib.hid hc34.size
  obtain ⟨hXg, hNg, hbg⟩ := hIg.out.det HI0.out
  have hlg : Tg.length = X.length := by rw [← hXg, listsOf_length]
  subst hNg hbg
  rw [hlg]
  have HLG := Lib.hid hlg
  have HXG := Lib.hid hXg
  have hRg := hOg.reads
  rw [hXg] at hRg
  have RG := Lib.hid hRg
  have OG := Lib.hid hOg
  clear hRg hOg hc34 hlg hXg
  have hbn : (bg != bg) = false := by cases bg <;> rfl
  have hNn : (Ng != Ng) = false := by simp
  have zz_a_0 := Chg.cell ((Chg.refl NoB w33).alloc (.cells #[.slice Ag X.length cg] 39)) z_a_0 (fun x => x)
  have zz_a_1 := Chg.cell ((Chg.refl NoB w33).alloc (.cells #[.slice Ag X.length cg] 39)) z_a_1 (fun x => x)
  have zz_a_2 := Chg.cell ((Chg.refl NoB w33).alloc (.cells #[.slice Ag X.length cg] 39)) z_a_2 (fun x => x)
  have zz_b_0 := Chg.cell ((Chg.refl NoB w33).alloc (.cells #[.slice Ag X.length cg] 39)) z_b_0 (fun x => x)
  have zz_b_1 := Chg.cell ((Chg.refl NoB w33).alloc (.cells #[.slice Ag X.length cg] 39)) z_b_1 (fun x => x)
  have zz_b_2 := Chg.cell ((Chg.refl NoB w33).alloc (.cells #[.slice Ag X.length cg] 39)) z_b_2 (fun x => x)
  have zz_w0_0 := Chg.cell ((Chg.refl NoB w33).alloc (.cells #[.slice Ag X.length cg] 39)) z_w0_0 (fun x => x)
  have zz_x0_0 := Chg.cell ((Chg.refl NoB w33).alloc (.cells #[.slice Ag X.length cg] 39)) z_x0_0 (fun x => x)
  have zz_x0_1 := Chg.cell ((Chg.refl NoB w33).alloc (.cells #[.slice Ag X.length cg] 39)) z_x0_1 (fun x => x)
  have zz_x0_2 := Chg.cell ((Chg.refl NoB w33).alloc (.cells #[.slice Ag X.length cg] 39)) z_x0_2 (fun x => x)
  have zz_x1_0 := Chg.cell ((Chg.refl NoB w33).alloc (.cells #[.slice Ag X.length cg] 39)) z_x1_0 (fun x => x)
  have zz_x1_1 := Chg.cell ((Chg.refl NoB w33).alloc (.cells #[.slice Ag X.length cg] 39)) z_x1_1 (fun x => x)
  have zz_x1_2 := Chg.cell ((Chg.refl NoB w33).alloc (.cells #[.slice Ag X.length cg] 39)) z_x1_2 (fun x => x)
  go_wp2_with fail
  clear zz_a_0 zz_a_1 zz_a_2 zz_b_0 zz_b_1 zz_b_2 zz_w0_0 zz_x0_0 zz_x0_1 zz_x0_2 zz_x1_0 zz_x1_1 zz_x1_2
  obtain ⟨w36, hw36⟩ : ∃ w36, w33.alloc (.cells #[.slice Ag X.length cg] 39) = w36 := ⟨_, rfl⟩
  try rw [hw36]
  have q37 : Chg NoB w33 w36 := by rw [← hw36]; exact (Chg.refl _ _).alloc _
  have bq37 : Blk w36 w33.heap.size 39 #[.slice Ag X.length cg] := by rw [← hw36]; exact Blk.new _ _ _
  have sq37 : w36.heap.size = w33.heap.size + 1 := by rw [← hw36]; exact World.size_alloc ..
  clear hw36
  replace HCH := Lib.hid (HCH.out.trans q37)
  replace HB_a := Lib.hid (HB_a.out.chg q37 (fun x => x))
  replace z_a_0 := Chg.cell q37 z_a_0 (fun x => x)
  replace z_a_1 := Chg.cell q37 z_a_1 (fun x => x)
  replace z_a_2 := Chg.cell q37 z_a_2 (fun x => x)
  replace HB_b := Lib.hid (HB_b.out.chg q37 (fun x => x))
  replace z_b_0 := Chg.cell q37 z_b_0 (fun x => x)
  replace z_b_1 := Chg.cell q37 z_b_1 (fun x => x)
  replace z_b_2 := Chg.cell q37 z_b_2 (fun x => x)
  replace HB_w0 := Lib.hid (HB_w0.out.chg q37 (fun x => x))
  replace z_w0_0 := Chg.cell q37 z_w0_0 (fun x => x)
  replace HB_x0 := Lib.hid (HB_x0.out.chg q37 (fun x => x))
  replace z_x0_0 := Chg.cell q37 z_x0_0 (fun x => x)
  replace z_x0_1 := Chg.cell q37 z_x0_1 (fun x => x)
  replace z_x0_2 := Chg.cell q37 z_x0_2 (fun x => x)
  replace HB_x1 := Lib.hid (HB_x1.out.chg q37 (fun x => x))
  replace z_x1_0 := Chg.cell q37 z_x1_0 (fun x => x)
  replace z_x1_1 := Chg.cell q37 z_x1_1 (fun x => x)
  replace z_x1_2 := Chg.cell q37 z_x1_2 (fun x => x)
  replace HX := Lib.hid (HX.out.new q37)
  replace HY := Lib.hid (HY.out.new q37)
  replace Rw0 := Lib.hid (Rw0.out.new q37)
  replace O1 := Lib.hid (O1.out.new q37)
  replace O2 := Lib.hid (O2.out.new q37)
  replace RG := Lib.hid (RG.out.new q37)
  replace OG := Lib.hid (OG.out.new q37)
  have S38 := Lib.hid q37.size
  have S39 := Lib.hid sq37
  have HB_g0 := Lib.hid bq37
  have z_g0_0 : w36.cell? ⟨w33.heap.size, 0, none⟩ = some (.slice Ag X.length cg) := (HB_g0.out.cell _).trans rfl
  clear q37 sq37 bq37
  refine (eqTable_t _ _ _ _ _ _ X _ RG.out Rw0.out HTT.out.2.1 HTT.out.2.2).mono ?_
  rintro e w40 ⟨rfl, hc41⟩
  replace HCH := Lib.hid (HCH.out.trans hc41)
  replace HB_a := Lib.hid (HB_a.out.chg hc41 (fun x => x))
  replace z_a_0 := Chg.cell hc41 z_a_0 (fun x => x)
  replace z_a_1 := Chg.cell hc41 z_a_1 (fun x => x)
  replace z_a_2 := Chg.cell hc41 z_a_2 (fun x => x)
  replace HB_b := Lib.hid (HB_b.out.chg hc41 (fun x => x))
  replace z_b_0 := Chg.cell hc41 z_b_0 (fun x => x)
  replace z_b_1 := Chg.cell hc41 z_b_1 (fun x => x)
  replace z_b_2 := Chg.cell hc41 z_b_2 (fun x => x)
  replace HB_w0 := Lib.hid (HB_w0.out.chg hc41 (fun x => x))
  replace z_w0_0 := Chg.cell hc41 z_w0_0 (fun x => x)
  replace HB_x0 := Lib.hid (HB_x0.out.chg hc41 (fun x => x))
  replace z_x0_0 := Chg.cell hc41 z_x0_0 (fun x => x)
  replace z_x0_1 := Chg.cell hc41 z_x0_1 (fun x => x)
  replace z_x0_2 := Chg.cell hc41 z_x0_2 (fun x => x)
  replace HB_x1 := Lib.hid (HB_x1.out.chg hc41 (fun x => x))
  replace z_x1_0 := Chg.cell hc41 z_x1_0 (fun x => x)
  replace z_x1_1 := Chg.cell hc41 z_x1_1 (fun x => x)
  replace z_x1_2 := Chg.cell hc41 z_x1_2 (fun x => x)
  replace HB_g0 := Lib.hid (HB_g0.out.chg hc41 (fun x => x))
  replace z_g0_0 := Chg.cell hc41 z_g0_0 (fun x => x)
  replace HX := Lib.hid (HX.out.new hc41)
  replace HY := Lib.hid (HY.out.new hc41)
  replace Rw0 := Lib.hid (Rw0.out.new hc41)
  replace O1 := Lib.hid (O1.out.new hc41)
  replace O2 := Lib.hid (O2.out.new hc41)
  replace RG := Lib.hid (RG.out.new hc41)
  replace OG := Lib.hid (OG.out.new hc41)
  have S42 := Lib.hid hc41.size
  clear hc41
  go_wp2_with fail
  go_region_held3 (fun w' => w'.cell? ⟨w.heap.size, 0, none⟩ = some (.int .i64 n1) ∧ w'.cell? ⟨w.heap.size, 1, none⟩ = some (.slice A1 xs1.length c1) ∧ w'.cell? ⟨w.heap.size, 2, none⟩ = some (.int .i64 s1) ∧ w'.cell? ⟨w19.heap.size, 0, none⟩ = some (.int .i64 n1) ∧ w'.cell? ⟨w19.heap.size, 1, none⟩ = some (.slice (some ⟨g1, 0, none⟩) xs1.length xs1.length) ∧ w'.cell? ⟨w19.heap.size, 2, none⟩ = some (.int .i64 s1))
    (first | go_keep | exact ⟨hcc.cell (by assumption) (fun x => x), hcc.cell (by assumption) (fun x => x), hcc.cell (by assumption) (fun x => x), hcc.cell (by assumption) (fun x => x), hcc.cell (by assumption) (fun x => x), hcc.cell (by assumption) (fun x => x)⟩ | exact ⟨(HK.out.trans hcc).cell (by assumption) (fun x => x), (HK.out.trans hcc).cell (by assumption) (fun x => x), (HK.out.trans hcc).cell (by assumption) (fun x => x), (HK.out.trans hcc).cell (by assumption) (fun x => x), (HK.out.trans hcc).cell (by assumption) (fun x => x), (HK.out.trans hcc).cell (by assumption) (fun x => x)⟩)
    (first
      | (go_at_call 30; refine (toSave_any _ n1 s1 A1 c1 xs1 _ (HX.out.new (Chg.refl NoB w40).drew) HL1.out).mono ?_; rintro e' wt1 ⟨gt1, rfl, hOt, hcc⟩; have HK := Lib.hid hcc; have HOt := Lib.hid hOt)
      | (go_at_call 23; refine (eqSave_t _ _ n1 s1 _ _ _ _ xs1 _ ((O1.out.new (Chg.refl NoB w40).drew).new HK.out).rd HOt.out.rd (by have := HL1.out; omega)).mono ?_; rintro e' we1 ⟨rfl, hcc⟩))
  have hrg : Chg NoB w40 we1 := ((Chg.refl NoB w40).drew.trans HK.out).trans hcc
  replace HCH := Lib.hid (HCH.out.trans hrg)
  replace HB_a := Lib.hid (HB_a.out.chg hrg (fun x => x))
  replace z_a_0 := Chg.cell hrg z_a_0 (fun x => x)
  replace z_a_1 := Chg.cell hrg z_a_1 (fun x => x)
  replace z_a_2 := Chg.cell hrg z_a_2 (fun x => x)
  replace HB_b := Lib.hid (HB_b.out.chg hrg (fun x => x))
  replace z_b_0 := Chg.cell hrg z_b_0 (fun x => x)
  replace z_b_1 := Chg.cell hrg z_b_1 (fun x => x)
  replace z_b_2 := Chg.cell hrg z_b_2 (fun x => x)
  replace HB_w0 := Lib.hid (HB_w0.out.chg hrg (fun x => x))
  replace z_w0_0 := Chg.cell hrg z_w0_0 (fun x => x)
  replace HB_x0 := Lib.hid (HB_x0.out.chg hrg (fun x => x))
  replace z_x0_0 := Chg.cell hrg z_x0_0 (fun x => x)
  replace z_x0_1 := Chg.cell hrg z_x0_1 (fun x => x)
  replace z_x0_2 := Chg.cell hrg z_x0_2 (fun x => x)
  replace HB_x1 := Lib.hid (HB_x1.out.chg hrg (fun x => x))
  replace z_x1_0 := Chg.cell hrg z_x1_0 (fun x => x)
  replace z_x1_1 := Chg.cell hrg z_x1_1 (fun x => x)
  replace z_x1_2 := Chg.cell hrg z_x1_2 (fun x => x)
  replace HB_g0 := Lib.hid (HB_g0.out.chg hrg (fun x => x))
  replace z_g0_0 := Chg.cell hrg z_g0_0 (fun x => x)
  replace HX := Lib.hid (HX.out.new hrg)
  replace HY := Lib.hid (HY.out.new hrg)
  replace Rw0 := Lib.hid (Rw0.out.new hrg)
  replace O1 := Lib.hid (O1.out.new hrg)
  replace O2 := Lib.hid (O2.out.new hrg)
  replace RG := Lib.hid (RG.out.new hrg)
  replace OG := Lib.hid (OG.out.new hrg)
  have S43 := Lib.hid hrg.size
  clear hrg hcc HK HOt
  go_wp2_with fail
  go_region_held3 (fun w' => w'.cell? ⟨w.heap.size + 1, 0, none⟩ = some (.int .i64 n2) ∧ w'.cell? ⟨w.heap.size + 1, 1, none⟩ = some (.slice A2 xs2.length c2) ∧ w'.cell? ⟨w.heap.size + 1, 2, none⟩ = some (.int .i64 s2) ∧ w'.cell? ⟨w26.heap.size, 0, none⟩ = some (.int .i64 n2) ∧ w'.cell? ⟨w26.heap.size, 1, none⟩ = some (.slice (some ⟨g2, 0, none⟩) xs2.length xs2.length) ∧ w'.cell? ⟨w26.heap.size, 2, none⟩ = some (.int .i64 s2))
    (first | go_keep | exact ⟨hcc.cell (by assumption) (fun x => x), hcc.cell (by assumption) (fun x => x), hcc.cell (by assumption) (fun x => x), hcc.cell (by assumption) (fun x => x), hcc.cell (by assumption) (fun x => x), hcc.cell (by assumption) (fun x => x)⟩ | exact ⟨(HK.out.trans hcc).cell (by assumption) (fun x => x), (HK.out.trans hcc).cell (by assumption) (fun x => x), (HK.out.trans hcc).cell (by assumption) (fun x => x), (HK.out.trans hcc).cell (by assumption) (fun x => x), (HK.out.trans hcc).cell (by assumption) (fun x => x), (HK.out.trans hcc).cell (by assumption) (fun x => x)⟩)
    (first
      | (go_at_call 30; refine (toSave_any _ n2 s2 A2 c2 xs2 _ (HY.out.new (Chg.refl NoB we1).drew) HL2.out).mono ?_; rintro e' wt2 ⟨gt2, rfl, hOt, hcc⟩; have HK := Lib.hid hcc; have HOt := Lib.hid hOt)
      | (go_at_call 23; refine (eqSave_t _ _ n2 s2 _ _ _ _ xs2 _ ((O2.out.new (Chg.refl NoB we1).drew).new HK.out).rd HOt.out.rd (by have := HL2.out; omega)).mono ?_; rintro e' we2 ⟨rfl, hcc⟩))
  have hrg : Chg NoB we1 we2 := ((Chg.refl NoB we1).drew.trans HK.out).trans hcc
  replace HCH := Lib.hid (HCH.out.trans hrg)
  replace HB_a := Lib.hid (HB_a.out.chg hrg (fun x => x))
  replace z_a_0 := Chg.cell hrg z_a_0 (fun x => x)
  replace z_a_1 := Chg.cell hrg z_a_1 (fun x => x)
  replace z_a_2 := Chg.cell hrg z_a_2 (fun x => x)
  replace HB_b := Lib.hid (HB_b.out.chg hrg (fun x => x))
  replace z_b_0 := Chg.cell hrg z_b_0 (fun x => x)
  replace z_b_1 := Chg.cell hrg z_b_1 (fun x => x)
  replace z_b_2 := Chg.cell hrg z_b_2 (fun x => x)
  replace HB_w0 := Lib.hid (HB_w0.out.chg hrg (fun x => x))
  replace z_w0_0 := Chg.cell hrg z_w0_0 (fun x => x)
  replace HB_x0 := Lib.hid (HB_x0.out.chg hrg (fun x => x))
  replace z_x0_0 := Chg.cell hrg z_x0_0 (fun x => x)
  replace z_x0_1 := Chg.cell hrg z_x0_1 (fun x => x)
  replace z_x0_2 := Chg.cell hrg z_x0_2 (fun x => x)
  replace HB_x1 := Lib.hid (HB_x1.out.chg hrg (fun x => x))
  replace z_x1_0 := Chg.cell hrg z_x1_0 (fun x => x)
  replace z_x1_1 := Chg.cell hrg z_x1_1 (fun x => x)
  replace z_x1_2 := Chg.cell hrg z_x1_2 (fun x => x)
  replace HB_g0 := Lib.hid (HB_g0.out.chg hrg (fun x => x))
  replace z_g0_0 := Chg.cell hrg z_g0_0 (fun x => x)
  replace HX := Lib.hid (HX.out.new hrg)
  replace HY := Lib.hid (HY.out.new hrg)
  replace Rw0 := Lib.hid (Rw0.out.new hrg)
  replace O1 := Lib.hid (O1.out.new hrg)
  replace O2 := Lib.hid (O2.out.new hrg)
  replace RG := Lib.hid (RG.out.new hrg)
  replace OG := Lib.hid (OG.out.new hrg)
  have S44 := Lib.hid hrg.size
  clear hrg hcc HK HOt
  go_wp2_with fail
  refine (markSave_any _ _ n1 s1 _ _ xs1 1 _ O1.out (by have := HL1.out; omega) (by omega) (by omega)).mono ?_
  rintro e w45 ⟨rfl, hc46, -⟩
  replace HCH := Lib.hid (HCH.out.trans' hc46 (fun i hi => .inr (by have := S3.out; have := S4.out; have := S7.out; have := S8.out; have := S11.out; have := S14.out; have := S17.out; have := HBX1.out; have := S18.out; have := S21.out; have := S24.out; have := S25.out; have := S28.out; have := S31.out; have := S32.out; have := S35.out; have := S38.out; have := S39.out; have := S42.out; have := S43.out; have := S44.out; omega)))
  replace HB_a := Lib.hid (HB_a.out.chg hc46 (by have := S3.out; have := S4.out; have := S7.out; have := S8.out; have := S11.out; have := S14.out; have := S17.out; have := HBX1.out; have := S18.out; have := S21.out; have := S24.out; have := S25.out; have := S28.out; have := S31.out; have := S32.out; have := S35.out; have := S38.out; have := S39.out; have := S42.out; have := S43.out; have := S44.out; omega))
  replace z_a_0 := Chg.cell hc46 z_a_0 (by simp only; have := S3.out; have := S4.out; have := S7.out; have := S8.out; have := S11.out; have := S14.out; have := S17.out; have := HBX1.out; have := S18.out; have := S21.out; have := S24.out; have := S25.out; have := S28.out; have := S31.out; have := S32.out; have := S35.out; have := S38.out; have := S39.out; have := S42.out; have := S43.out; have := S44.out; omega)
  replace z_a_1 := Chg.cell hc46 z_a_1 (by simp only; have := S3.out; have := S4.out; have := S7.out; have := S8.out; have := S11.out; have := S14.out; have := S17.out; have := HBX1.out; have := S18.out; have := S21.out; have := S24.out; have := S25.out; have := S28.out; have := S31.out; have := S32.out; have := S35.out; have := S38.out; have := S39.out; have := S42.out; have := S43.out; have := S44.out; omega)
  replace z_a_2 := Chg.cell hc46 z_a_2 (by simp only; have := S3.out; have := S4.out; have := S7.out; have := S8.out; have := S11.out; have := S14.out; have := S17.out; have := HBX1.out; have := S18.out; have := S21.out; have := S24.out; have := S25.out; have := S28.out; have := S31.out; have := S32.out; have := S35.out; have := S38.out; have := S39.out; have := S42.out; have := S43.out; have := S44.out; omega)
  replace HB_b := Lib.hid (HB_b.out.chg hc46 (by have := S3.out; have := S4.out; have := S7.out; have := S8.out; have := S11.out; have := S14.out; have := S17.out; have := HBX1.out; have := S18.out; have := S21.out; have := S24.out; have := S25.out; have := S28.out; have := S31.out; have := S32.out; have := S35.out; have := S38.out; have := S39.out; have := S42.out; have := S43.out; have := S44.out; omega))
  replace z_b_0 := Chg.cell hc46 z_b_0 (by simp only; have := S3.out; have := S4.out; have := S7.out; have := S8.out; have := S11.out; have := S14.out; have := S17.out; have := HBX1.out; have := S18.out; have := S21.out; have := S24.out; have := S25.out; have := S28.out; have := S31.out; have := S32.out; have := S35.out; have := S38.out; have := S39.out; have := S42.out; have := S43.out; have := S44.out; omega)
  replace z_b_1 := Chg.cell hc46 z_b_1 (by simp only; have := S3.out; have := S4.out; have := S7.out; have := S8.out; have := S11.out; have := S14.out; have := S17.out; have := HBX1.out; have := S18.out; have := S21.out; have := S24.out; have := S25.out; have := S28.out; have := S31.out; have := S32.out; have := S35.out; have := S38.out; have := S39.out; have := S42.out; have := S43.out; have := S44.out; omega)
  replace z_b_2 := Chg.cell hc46 z_b_2 (by simp only; have := S3.out; have := S4.out; have := S7.out; have := S8.out; have := S11.out; have := S14.out; have := S17.out; have := HBX1.out; have := S18.out; have := S21.out; have := S24.out; have := S25.out; have := S28.out; have := S31.out; have := S32.out; have := S35.out; have := S38.out; have := S39.out; have := S42.out; have := S43.out; have := S44.out; omega)
  replace HB_w0 := Lib.hid (HB_w0.out.chg hc46 (by have := S3.out; have := S4.out; have := S7.out; have := S8.out; have := S11.out; have := S14.out; have := S17.out; have := HBX1.out; have := S18.out; have := S21.out; have := S24.out; have := S25.out; have := S28.out; have := S31.out; have := S32.out; have := S35.out; have := S38.out; have := S39.out; have := S42.out; have := S43.out; have := S44.out; omega))
  replace z_w0_0 := Chg.cell hc46 z_w0_0 (by simp only; have := S3.out; have := S4.out; have := S7.out; have := S8.out; have := S11.out; have := S14.out; have := S17.out; have := HBX1.out; have := S18.out; have := S21.out; have := S24.out; have := S25.out; have := S28.out; have := S31.out; have := S32.out; have := S35.out; have := S38.out; have := S39.out; have := S42.out; have := S43.out; have := S44.out; omega)
  replace HB_x0 := Lib.hid (HB_x0.out.chg hc46 (by have := S3.out; have := S4.out; have := S7.out; have := S8.out; have := S11.out; have := S14.out; have := S17.out; have := HBX1.out; have := S18.out; have := S21.out; have := S24.out; have := S25.out; have := S28.out; have := S31.out; have := S32.out; have := S35.out; have := S38.out; have := S39.out; have := S42.out; have := S43.out; have := S44.out; omega))
  replace z_x0_0 := Chg.cell hc46 z_x0_0 (by simp only; have := S3.out; have := S4.out; have := S7.out; have := S8.out; have := S11.out; have := S14.out; have := S17.out; have := HBX1.out; have := S18.out; have := S21.out; have := S24.out; have := S25.out; have := S28.out; have := S31.out; have := S32.out; have := S35.out; have := S38.out; have := S39.out; have := S42.out; have := S43.out; have := S44.out; omega)
  replace z_x0_1 := Chg.cell hc46 z_x0_1 (by simp only; have := S3.out; have := S4.out; have := S7.out; have := S8.out; have := S11.out; have := S14.out; have := S17.out; have := HBX1.out; have := S18.out; have := S21.out; have := S24.out; have := S25.out; have := S28.out; have := S31.out; have := S32.out; have := S35.out; have := S38.out; have := S39.out; have := S42.out; have := S43.out; have := S44.out; omega)
  replace z_x0_2 := Chg.cell hc46 z_x0_2 (by simp only; have := S3.out; have := S4.out; have := S7.out; have := S8.out; have := S11.out; have := S14.out; have := S17.out; have := HBX1.out; have := S18.out; have := S21.out; have := S24.out; have := S25.out; have := S28.out; have := S31.out; have := S32.out; have := S35.out; have := S38.out; have := S39.out; have := S42.out; have := S43.out; have := S44.out; omega)
  replace HB_x1 := Lib.hid (HB_x1.out.chg hc46 (by have := S3.out; have := S4.out; have := S7.out; have := S8.out; have := S11.out; have := S14.out; have := S17.out; have := HBX1.out; have := S18.out; have := S21.out; have := S24.out; have := S25.out; have := S28.out; have := S31.out; have := S32.out; have := S35.out; have := S38.out; have := S39.out; have := S42.out; have := S43.out; have := S44.out; omega))
  replace z_x1_0 := Chg.cell hc46 z_x1_0 (by simp only; have := S3.out; have := S4.out; have := S7.out; have := S8.out; have := S11.out; have := S14.out; have := S17.out; have := HBX1.out; have := S18.out; have := S21.out; have := S24.out; have := S25.out; have := S28.out; have := S31.out; have := S32.out; have := S35.out; have := S38.out; have := S39.out; have := S42.out; have := S43.out; have := S44.out; omega)
  replace z_x1_1 := Chg.cell hc46 z_x1_1 (by simp only; have := S3.out; have := S4.out; have := S7.out; have := S8.out; have := S11.out; have := S14.out; have := S17.out; have := HBX1.out; have := S18.out; have := S21.out; have := S24.out; have := S25.out; have := S28.out; have := S31.out; have := S32.out; have := S35.out; have := S38.out; have := S39.out; have := S42.out; have := S43.out; have := S44.out; omega)
  replace z_x1_2 := Chg.cell hc46 z_x1_2 (by simp only; have := S3.out; have := S4.out; have := S7.out; have := S8.out; have := S11.out; have := S14.out; have := S17.out; have := HBX1.out; have := S18.out; have := S21.out; have := S24.out; have := S25.out; have := S28.out; have := S31.out; have := S32.out; have := S35.out; have := S38.out; have := S39.out; have := S42.out; have := S43.out; have := S44.out; omega)
  replace HB_g0 := Lib.hid (HB_g0.out.chg hc46 (by have := S3.out; have := S4.out; have := S7.out; have := S8.out; have := S11.out; have := S14.out; have := S17.out; have := HBX1.out; have := S18.out; have := S21.out; have := S24.out; have := S25.out; have := S28.out; have := S31.out; have := S32.out; have := S35.out; have := S38.out; have := S39.out; have := S42.out; have := S43.out; have := S44.out; omega))
  replace z_g0_0 := Chg.cell hc46 z_g0_0 (by simp only; have := S3.out; have := S4.out; have := S7.out; have := S8.out; have := S11.out; have := S14.out; have := S17.out; have := HBX1.out; have := S18.out; have := S21.out; have := S24.out; have := S25.out; have := S28.out; have := S31.out; have := S32.out; have := S35.out; have := S38.out; have := S39.out; have := S42.out; have := S43.out; have := S44.out; omega)
  replace HX := Lib.hid (HX.out.chg hc46 (fun i h1 h2 => by have := S3.out; have := S4.out; have := S7.out; have := S8.out; have := S11.out; have := S14.out; have := S17.out; have := HBX1.out; have := S18.out; have := S21.out; have := S24.out; have := S25.out; have := S28.out; have := S31.out; have := S32.out; have := S35.out; have := S38.out; have := S39.out; have := S42.out; have := S43.out; have := S44.out; omega))
  replace HY := Lib.hid (HY.out.chg hc46 (fun i h1 h2 => by have := S3.out; have := S4.out; have := S7.out; have := S8.out; have := S11.out; have := S14.out; have := S17.out; have := HBX1.out; have := S18.out; have := S21.out; have := S24.out; have := S25.out; have := S28.out; have := S31.out; have := S32.out; have := S35.out; have := S38.out; have := S39.out; have := S42.out; have := S43.out; have := S44.out; omega))
  replace Rw0 := Lib.hid (Rw0.out.chg hc46 (fun i h1 h2 => by have := S3.out; have := S4.out; have := S7.out; have := S8.out; have := S11.out; have := S14.out; have := S17.out; have := HBX1.out; have := S18.out; have := S21.out; have := S24.out; have := S25.out; have := S28.out; have := S31.out; have := S32.out; have := S35.out; have := S38.out; have := S39.out; have := S42.out; have := S43.out; have := S44.out; omega))
  replace O2 := Lib.hid (O2.out.chg hc46 (fun i h1 h2 h3 => by have := S3.out; have := S4.out; have := S7.out; have := S8.out; have := S11.out; have := S14.out; have := S17.out; have := HBX1.out; have := S18.out; have := S21.out; have := S24.out; have := S25.out; have := S28.out; have := S31.out; have := S32.out; have := S35.out; have := S38.out; have := S39.out; have := S42.out; have := S43.out; have := S44.out; omega))
  replace RG := Lib.hid (RG.out.chg hc46 (fun i h1 h2 => by have := S3.out; have := S4.out; have := S7.out; have := S8.out; have := S11.out; have := S14.out; have := S17.out; have := HBX1.out; have := S18.out; have := S21.out; have := S24.out; have := S25.out; have := S28.out; have := S31.out; have := S32.out; have := S35.out; have := S38.out; have := S39.out; have := S42.out; have := S43.out; have := S44.out; omega))
  replace OG := Lib.hid (OG.out.chg hc46 (fun i h1 h2 h3 => by have := S3.out; have := S4.out; have := S7.out; have := S8.out; have := S11.out; have := S14.out; have := S17.out; have := HBX1.out; have := S18.out; have := S21.out; have := S24.out; have := S25.out; have := S28.out; have := S31.out; have := S32.out; have := S35.out; have := S38.out; have := S39.out; have := S42.out; have := S43.out; have := S44.out; omega))
  have S47 := Lib.hid hc46.size
  clear O1 hc46
  go_wp2_with fail
  refine (markSave_any _ _ n2 s2 _ _ xs2 (1 + (xs1.length : Int)) _ O2.out (by have := HL2.out; omega) (by omega) (by have := HL1.out; omega)).mono ?_
  rintro e w48 ⟨rfl, hc49, -⟩
  replace HCH := Lib.hid (HCH.out.trans' hc49 (fun i hi => .inr (by have := S3.out; have := S4.out; have := S7.out; have := S8.out; have := S11.out; have := S14.out; have := S17.out; have := HBX1.out; have := S18.out; have := S21.out; have := S24.out; have := S25.out; have := S28.out; have := S31.out; have := S32.out; have := S35.out; have := S38.out; have := S39.out; have := S42.out; have := S43.out; have := S44.out; have := S47.out; omega)))
  replace HB_a := Lib.hid (HB_a.out.chg hc49 (by have := S3.out; have := S4.out; have := S7.out; have := S8.out; have := S11.out; have := S14.out; have := S17.out; have := HBX1.out; have := S18.out; have := S21.out; have := S24.out; have := S25.out; have := S28.out; have := S31.out; have := S32.out; have := S35.out; have := S38.out; have := S39.out; have := S42.out; have := S43.out; have := S44.out; have := S47.out; omega))
  replace z_a_0 := Chg.cell hc49 z_a_0 (by simp only; have := S3.out; have := S4.out; have := S7.out; have := S8.out; have := S11.out; have := S14.out; have := S17.out; have := HBX1.out; have := S18.out; have := S21.out; have := S24.out; have := S25.out; have := S28.out; have := S31.out; have := S32.out; have := S35.out; have := S38.out; have := S39.out; have := S42.out; have := S43.out; have := S44.out; have := S47.out; omega)
  replace z_a_1 := Chg.cell hc49 z_a_1 (by simp only; have := S3.out; have := S4.out; have := S7.out; have := S8.out; have := S11.out; have := S14.out; have := S17.out; have := HBX1.out; have := S18.out; have := S21.out; have := S24.out; have := S25.out; have := S28.out; have := S31.out; have := S32.out; have := S35.out; have := S38.out; have := S39.out; have := S42.out; have := S43.out; have := S44.out; have := S47.out; omega)
  replace z_a_2 := Chg.cell hc49 z_a_2 (by simp only; have := S3.out; have := S4.out; have := S7.out; have := S8.out; have := S11.out; have := S14.out; have := S17.out; have := HBX1.out; have := S18.out; have := S21.out; have := S24.out; have := S25.out; have := S28.out; have := S31.out; have := S32.out; have := S35.out; have := S38.out; have := S39.out; have := S42.out; have := S43.out; have := S44.out; have := S47.out; omega)
  replace HB_b := Lib.hid (HB_b.out.chg hc49 (by have := S3.out; have := S4.out; have := S7.out; have := S8.out; have := S11.out; have := S14.out; have := S17.out; have := HBX1.out; have := S18.out; have := S21.out; have := S24.out; have := S25.out; have := S28.out; have := S31.out; have := S32.out; have := S35.out; have := S38.out; have := S39.out; have := S42.out; have := S43.out; have := S44.out; have := S47.out; omega))
  replace z_b_0 := Chg.cell hc49 z_b_0 (by simp only; have := S3.out; have := S4.out; have := S7.out; have := S8.out; have := S11.out; have := S14.out; have := S17.out; have := HBX1.out; have := S18.out; have := S21.out; have := S24.out; have := S25.out; have := S28.out; have := S31.out; have := S32.out; have := S35.out; have := S38.out; have := S39.out; have := S42.out; have := S43.out; have := S44.out; have := S47.out; omega)
  replace z_b_1 := Chg.cell hc49 z_b_1 (by simp only; have := S3.out; have := S4.out; have := S7.out; have := S8.out; have := S11.out; have := S14.out; have := S17.out; have := HBX1.out; have := S18.out; have := S21.out; have := S24.out; have := S25.out; have := S28.out; have := S31.out; have := S32.out; have := S35.out; have := S38.out; have := S39.out; have := S42.out; have := S43.out; have := S44.out; have := S47.out; omega)
  replace z_b_2 := Chg.cell hc49 z_b_2 (by simp only; have := S3.out; have := S4.out; have := S7.out; have := S8.out; have := S11.out; have := S14.out; have := S17.out; have := HBX1.out; have := S18.out; have := S21.out; have := S24.out; have := S25.out; have := S28.out; have := S31.out; have := S32.out; have := S35.out; have := S38.out; have := S39.out; have := S42.out; have := S43.out; have := S44.out; have := S47.out; omega)
  replace HB_w0 := Lib.hid (HB_w0.out.chg hc49 (by have := S3.out; have := S4.out; have := S7.out; have := S8.out; have := S11.out; have := S14.out; have := S17.out; have := HBX1.out; have := S18.out; have := S21.out; have := S24.out; have := S25.out; have := S28.out; have := S31.out; have := S32.out; have := S35.out; have := S38.out; have := S39.out; have := S42.out; have := S43.out; have := S44.out; have := S47.out; omega))
  replace z_w0_0 := Chg.cell hc49 z_w0_0 (by simp only; have := S3.out; have := S4.out; have := S7.out; have := S8.out; have := S11.out; have := S14.out; have := S17.out; have := HBX1.out; have := S18.out; have := S21.out; have := S24.out; have := S25.out; have := S28.out; have := S31.out; have := S32.out; have := S35.out; have := S38.out; have := S39.out; have := S42.out; have := S43.out; have := S44.out; have := S47.out; omega)
  replace HB_x0 := Lib.hid (HB_x0.out.chg hc49 (by have := S3.out; have := S4.out; have := S7.out; have := S8.out; have := S11.out; have := S14.out; have := S17.out; have := HBX1.out; have := S18.out; have := S21.out; have := S24.out; have := S25.out; have := S28.out; have := S31.out; have := S32.out; have := S35.out; have := S38.out; have := S39.out; have := S42.out; have := S43.out; have := S44.out; have := S47.out; omega))
  replace z_x0_0 := Chg.cell hc49 z_x0_0 (by simp only; have := S3.out; have := S4.out; have := S7.out; have := S8.out; have := S11.out; have := S14.out; have := S17.out; have := HBX1.out; have := S18.out; have := S21.out; have := S24.out; have := S25.out; have := S28.out; have := S31.out; have := S32.out; have := S35.out; have := S38.out; have := S39.out; have := S42.out; have := S43.out; have := S44.out; have := S47.out; omega)
  replace z_x0_1 := Chg.cell hc49 z_x0_1 (by simp only; have := S3.out; have := S4.out; have := S7.out; have := S8.out; have := S11.out; have := S14.out; have := S17.out; have := HBX1.out; have := S18.out; have := S21.out; have := S24.out; have := S25.out; have := S28.out; have := S31.out; have := S32.out; have := S35.out; have := S38.out; have := S39.out; have := S42.out; have := S43.out; have := S44.out; have := S47.out; omega)
  replace z_x0_2 := Chg.cell hc49 z_x0_2 (by simp only; have := S3.out; have := S4.out; have := S7.out; have := S8.out; have := S11.out; have := S14.out; have := S17.out; have := HBX1.out; have := S18.out; have := S21.out; have := S24.out; have := S25.out; have := S28.out; have := S31.out; have := S32.out; have := S35.out; have := S38.out; have := S39.out; have := S42.out; have := S43.out; have := S44.out; have := S47.out; omega)
  replace HB_x1 := Lib.hid (HB_x1.out.chg hc49 (by have := S3.out; have := S4.out; have := S7.out; have := S8.out; have := S11.out; have := S14.out; have := S17.out; have := HBX1.out; have := S18.out; have := S21.out; have := S24.out; have := S25.out; have := S28.out; have := S31.out; have := S32.out; have := S35.out; have := S38.out; have := S39.out; have := S42.out; have := S43.out; have := S44.out; have := S47.out; omega))
  replace z_x1_0 := Chg.cell hc49 z_x1_0 (by simp only; have := S3.out; have := S4.out; have := S7.out; have := S8.out; have := S11.out; have := S14.out; have := S17.out; have := HBX1.out; have := S18.out; have := S21.out; have := S24.out; have := S25.out; have := S28.out; have := S31.out; have := S32.out; have := S35.out; have := S38.out; have := S39.out; have := S42.out; have := S43.out; have := S44.out; have := S47.out; omega)
  replace z_x1_1 := Chg.cell hc49 z_x1_1 (by simp only; have := S3.out; have := S4.out; have := S7.out; have := S8.out; have := S11.out; have := S14.out; have := S17.out; have := HBX1.out; have := S18.out; have := S21.out; have := S24.out; have := S25.out; have := S28.out; have := S31.out; have := S32.out; have := S35.out; have := S38.out; have := S39.out; have := S42.out; have := S43.out; have := S44.out; have := S47.out; omega)
  replace z_x1_2 := Chg.cell hc49 z_x1_2 (by simp only; have := S3.out; have := S4.out; have := S7.out; have := S8.out; have := S11.out; have := S14.out; have := S17.out; have := HBX1.out; have := S18.out; have := S21.out; have := S24.out; have := S25.out; have := S28.out; have := S31.out; have := S32.out; have := S35.out; have := S38.out; have := S39.out; have := S42.out; have := S43.out; have := S44.out; have := S47.out; omega)
  replace HB_g0 := Lib.hid (HB_g0.out.chg hc49 (by have := S3.out; have := S4.out; have := S7.out; have := S8.out; have := S11.out; have := S14.out; have := S17.out; have := HBX1.out; have := S18.out; have := S21.out; have := S24.out; have := S25.out; have := S28.out; have := S31.out; have := S32.out; have := S35.out; have := S38.out; have := S39.out; have := S42.out; have := S43.out; have := S44.out; have := S47.out; omega))
  replace z_g0_0 := Chg.cell hc49 z_g0_0 (by simp only; have := S3.out; have := S4.out; have := S7.out; have := S8.out; have := S11.out; have := S14.out; have := S17.out; have := HBX1.out; have := S18.out; have := S21.out; have := S24.out; have := S25.out; have := S28.out; have := S31.out; have := S32.out; have := S35.out; have := S38.out; have := S39.out; have := S42.out; have := S43.out; have := S44.out; have := S47.out; omega)
  replace HX := Lib.hid (HX.out.chg hc49 (fun i h1 h2 => by have := S3.out; have := S4.out; have := S7.out; have := S8.out; have := S11.out; have := S14.out; have := S17.out; have := HBX1.out; have := S18.out; have := S21.out; have := S24.out; have := S25.out; have := S28.out; have := S31.out; have := S32.out; have := S35.out; have := S38.out; have := S39.out; have := S42.out; have := S43.out; have := S44.out; have := S47.out; omega))
  replace HY := Lib.hid (HY.out.chg hc49 (fun i h1 h2 => by have := S3.out; have := S4.out; have := S7.out; have := S8.out; have := S11.out; have := S14.out; have := S17.out; have := HBX1.out; have := S18.out; have := S21.out; have := S24.out; have := S25.out; have := S28.out; have := S31.out; have := S32.out; have := S35.out; have := S38.out; have := S39.out; have := S42.out; have := S43.out; have := S44.out; have := S47.out; omega))
  replace Rw0 := Lib.hid (Rw0.out.chg hc49 (fun i h1 h2 => by have := S3.out; have := S4.out; have := S7.out; have := S8.out; have := S11.out; have := S14.out; have := S17.out; have := HBX1.out; have := S18.out; have := S21.out; have := S24.out; have := S25.out; have := S28.out; have := S31.out; have := S32.out; have := S35.out; have := S38.out; have := S39.out; have := S42.out; have := S43.out; have := S44.out; have := S47.out; omega))
  replace RG := Lib.hid (RG.out.chg hc49 (fun i h1 h2 => by have := S3.out; have := S4.out; have := S7.out; have := S8.out; have := S11.out; have := S14.out; have := S17.out; have := HBX1.out; have := S18.out; have := S21.out; have := S24.out; have := S25.out; have := S28.out; have := S31.out; have := S32.out; have := S35.out; have := S38.out; have := S39.out; have := S42.out; have := S43.out; have := S44.out; have := S47.out; omega))
  replace OG := Lib.hid (OG.out.chg hc49 (fun i h1 h2 h3 => by have := S3.out; have := S4.out; have := S7.out; have := S8.out; have := S11.out; have := S14.out; have := S17.out; have := HBX1.out; have := S18.out; have := S21.out; have := S24.out; have := S25.out; have := S28.out; have := S31.out; have := S32.out; have := S35.out; have := S38.out; have := S39.out; have := S42.out; have := S43.out; have := S44.out; have := S47.out; omega))
  have S50 := Lib.hid hc49.size
  clear O2 hc49
  have hk0 : ¬ ((1 : Int) + (xs1.length : Int) + (xs2.length : Int) < 0) := by omega
  go_wp2_with fail
  refine (eqTable_t _ _ _ _ _ _ X _ RG.out Rw0.out HTT.out.2.1 HTT.out.2.2).mono ?_
  rintro e w51 ⟨rfl, hc52⟩
  replace HCH := Lib.hid (HCH.out.trans hc52)
  replace HB_a := Lib.hid (HB_a.out.chg hc52 (fun x => x))
  replace z_a_0 := Chg.cell hc52 z_a_0 (fun x => x)
  replace z_a_1 := Chg.cell hc52 z_a_1 (fun x => x)
  replace z_a_2 := Chg.cell hc52 z_a_2 (fun x => x)
  replace HB_b := Lib.hid (HB_b.out.chg hc52 (fun x => x))
  replace z_b_0 := Chg.cell hc52 z_b_0 (fun x => x)
  replace z_b_1 := Chg.cell hc52 z_b_1 (fun x => x)
  replace z_b_2 := Chg.cell hc52 z_b_2 (fun x => x)
  replace HB_w0 := Lib.hid (HB_w0.out.chg hc52 (fun x => x))
  replace z_w0_0 := Chg.cell hc52 z_w0_0 (fun x => x)
  replace HB_x0 := Lib.hid (HB_x0.out.chg hc52 (fun x => x))
  replace z_x0_0 := Chg.cell hc52 z_x0_0 (fun x => x)
  replace z_x0_1 := Chg.cell hc52 z_x0_1 (fun x => x)
  replace z_x0_2 := Chg.cell hc52 z_x0_2 (fun x => x)
  replace HB_x1 := Lib.hid (HB_x1.out.chg hc52 (fun x => x))
  replace z_x1_0 := Chg.cell hc52 z_x1_0 (fun x => x)
  replace z_x1_1 := Chg.cell hc52 z_x1_1 (fun x => x)
  replace z_x1_2 := Chg.cell hc52 z_x1_2 (fun x => x)
  replace HB_g0 := Lib.hid (HB_g0.out.chg hc52 (fun x => x))
  replace z_g0_0 := Chg.cell hc52 z_g0_0 (fun x => x)
  replace HX := Lib.hid (HX.out.new hc52)
  replace HY := Lib.hid (HY.out.new hc52)
  replace Rw0 := Lib.hid (Rw0.out.new hc52)
  replace RG := Lib.hid (RG.out.new hc52)
  replace OG := Lib.hid (OG.out.new hc52)
  have S53 := Lib.hid hc52.size
  clear hc52
  go_wp2_with fail
  have hmk := markTable_any _ _ _ _ Tg 1 w51 OG.out (by rw [HXG.out]; exact HTT.out.1) (by omega) (by omega)
  rw [HLG.out, HXG.out] at hmk
  have HMK := Lib.hid hmk
  clear hmk
  refine (HMK.out).mono ?_
  rintro e w54 ⟨T1m, rfl, hc55, hTm, hTml, hOm⟩
  clear RG
  replace HCH := Lib.hid (HCH.out.trans' hc55 (fun i hi => .inr (by have := S3.out; have := S4.out; have := S7.out; have := S8.out; have := S11.out; have := S14.out; have := S17.out; have := HBX1.out; have := S18.out; have := S21.out; have := S24.out; have := S25.out; have := S28.out; have := S31.out; have := S32.out; have := S35.out; have := S38.out; have := S39.out; have := S42.out; have := S43.out; have := S44.out; have := S47.out; have := S50.out; have := S53.out; omega)))
  replace HB_a := Lib.hid (HB_a.out.chg hc55 (by have := S3.out; have := S4.out; have := S7.out; have := S8.out; have := S11.out; have := S14.out; have := S17.out; have := HBX1.out; have := S18.out; have := S21.out; have := S24.out; have := S25.out; have := S28.out; have := S31.out; have := S32.out; have := S35.out; have := S38.out; have := S39.out; have := S42.out; have := S43.out; have := S44.out; have := S47.out; have := S50.out; have := S53.out; omega))
  replace z_a_0 := Chg.cell hc55 z_a_0 (by simp only; have := S3.out; have := S4.out; have := S7.out; have := S8.out; have := S11.out; have := S14.out; have := S17.out; have := HBX1.out; have := S18.out; have := S21.out; have := S24.out; have := S25.out; have := S28.out; have := S31.out; have := S32.out; have := S35.out; have := S38.out; have := S39.out; have := S42.out; have := S43.out; have := S44.out; have := S47.out; have := S50.out; have := S53.out; omega)
  replace z_a_1 := Chg.cell hc55 z_a_1 (by simp only; have := S3.out; have := S4.out; have := S7.out; have := S8.out; have := S11.out; have := S14.out; have := S17.out; have := HBX1.out; have := S18.out; have := S21.out; have := S24.out; have := S25.out; have := S28.out; have := S31.out; have := S32.out; have := S35.out; have := S38.out; have := S39.out; have := S42.out; have := S43.out; have := S44.out; have := S47.out; have := S50.out; have := S53.out; omega)
  replace z_a_2 := Chg.cell hc55 z_a_2 (by simp only; have := S3.out; have := S4.out; have := S7.out; have := S8.out; have := S11.out; have := S14.out; have := S17.out; have := HBX1.out; have := S18.out; have := S21.out; have := S24.out; have := S25.out; have := S28.out; have := S31.out; have := S32.out; have := S35.out; have := S38.out; have := S39.out; have := S42.out; have := S43.out; have := S44.out; have := S47.out; have := S50.out; have := S53.out; omega)
  replace HB_b := Lib.hid (HB_b.out.chg hc55 (by have := S3.out; have := S4.out; have := S7.out; have := S8.out; have := S11.out; have := S14.out; have := S17.out; have := HBX1.out; have := S18.out; have := S21.out; have := S24.out; have := S25.out; have := S28.out; have := S31.out; have := S32.out; have := S35.out; have := S38.out; have := S39.out; have := S42.out; have := S43.out; have := S44.out; have := S47.out; have := S50.out; have := S53.out; omega))
  replace z_b_0 := Chg.cell hc55 z_b_0 (by simp only; have := S3.out; have := S4.out; have := S7.out; have := S8.out; have := S11.out; have := S14.out; have := S17.out; have := HBX1.out; have := S18.out; have := S21.out; have := S24.out; have := S25.out; have := S28.out; have := S31.out; have := S32.out; have := S35.out; have := S38.out; have := S39.out; have := S42.out; have := S43.out; have := S44.out; have := S47.out; have := S50.out; have := S53.out; omega)
  replace z_b_1 := Chg.cell hc55 z_b_1 (by simp only; have := S3.out; have := S4.out; have := S7.out; have := S8.out; have := S11.out; have := S14.out; have := S17.out; have := HBX1.out; have := S18.out; have := S21.out; have := S24.out; have := S25.out; have := S28.out; have := S31.out; have := S32.out; have := S35.out; have := S38.out; have := S39.out; have := S42.out; have := S43.out; have := S44.out; have := S47.out; have := S50.out; have := S53.out; omega)
  replace z_b_2 := Chg.cell hc55 z_b_2 (by simp only; have := S3.out; have := S4.out; have := S7.out; have := S8.out; have := S11.out; have := S14.out; have := S17.out; have := HBX1.out; have := S18.out; have := S21.out; have := S24.out; have := S25.out; have := S28.out; have := S31.out; have := S32.out; have := S35.out; have := S38.out; have := S39.out; have := S42.out; have := S43.out; have := S44.out; have := S47.out; have := S50.out; have := S53.out; omega)
  replace HB_w0 := Lib.hid (HB_w0.out.chg hc55 (by have := S3.out; have := S4.out; have := S7.out; have := S8.out; have := S11.out; have := S14.out; have := S17.out; have := HBX1.out; have := S18.out; have := S21.out; have := S24.out; have := S25.out; have := S28.out; have := S31.out; have := S32.out; have := S35.out; have := S38.out; have := S39.out; have := S42.out; have := S43.out; have := S44.out; have := S47.out; have := S50.out; have := S53.out; omega))
  replace z_w0_0 := Chg.cell hc55 z_w0_0 (by simp only; have := S3.out; have := S4.out; have := S7.out; have := S8.out; have := S11.out; have := S14.out; have := S17.out; have := HBX1.out; have := S18.out; have := S21.out; have := S24.out; have := S25.out; have := S28.out; have := S31.out; have := S32.out; have := S35.out; have := S38.out; have := S39.out; have := S42.out; have := S43.out; have := S44.out; have := S47.out; have := S50.out; have := S53.out; omega)
  replace HB_x0 := Lib.hid (HB_x0.out.chg hc55 (by have := S3.out; have := S4.out; have := S7.out; have := S8.out; have := S11.out; have := S14.out; have := S17.out; have := HBX1.out; have := S18.out; have := S21.out; have := S24.out; have := S25.out; have := S28.out; have := S31.out; have := S32.out; have := S35.out; have := S38.out; have := S39.out; have := S42.out; have := S43.out; have := S44.out; have := S47.out; have := S50.out; have := S53.out; omega))
  replace z_x0_0 := Chg.cell hc55 z_x0_0 (by simp only; have := S3.out; have := S4.out; have := S7.out; have := S8.out; have := S11.out; have := S14.out; have := S17.out; have := HBX1.out; have := S18.out; have := S21.out; have := S24.out; have := S25.out; have := S28.out; have := S31.out; have := S32.out; have := S35.out; have := S38.out; have := S39.out; have := S42.out; have := S43.out; have := S44.out; have := S47.out; have := S50.out; have := S53.out; omega)
  replace z_x0_1 := Chg.cell hc55 z_x0_1 (by simp only; have := S3.out; have := S4.out; have := S7.out; have := S8.out; have := S11.out; have := S14.out; have := S17.out; have := HBX1.out; have := S18.out; have := S21.out; have := S24.out; have := S25.out; have := S28.out; have := S31.out; have := S32.out; have := S35.out; have := S38.out; have := S39.out; have := S42.out; have := S43.out; have := S44.out; have := S47.out; have := S50.out; have := S53.out; omega)
  replace z_x0_2 := Chg.cell hc55 z_x0_2 (by simp only; have := S3.out; have := S4.out; have := S7.out; have := S8.out; have := S11.out; have := S14.out; have := S17.out; have := HBX1.out; have := S18.out; have := S21.out; have := S24.out; have := S25.out; have := S28.out; have := S31.out; have := S32.out; have := S35.out; have := S38.out; have := S39.out; have := S42.out; have := S43.out; have := S44.out; have := S47.out; have := S50.out; have := S53.out; omega)
  replace HB_x1 := Lib.hid (HB_x1.out.chg hc55 (by have := S3.out; have := S4.out; have := S7.out; have := S8.out; have := S11.out; have := S14.out; have := S17.out; have := HBX1.out; have := S18.out; have := S21.out; have := S24.out; have := S25.out; have := S28.out; have := S31.out; have := S32.out; have := S35.out; have := S38.out; have := S39.out; have := S42.out; have := S43.out; have := S44.out; have := S47.out; have := S50.out; have := S53.out; omega))
  replace z_x1_0 := Chg.cell hc55 z_x1_0 (by simp only; have := S3.out; have := S4.out; have := S7.out; have := S8.out; have := S11.out; have := S14.out; have := S17.out; have := HBX1.out; have := S18.out; have := S21.out; have := S24.out; have := S25.out; have := S28.out; have := S31.out; have := S32.out; have := S35.out; have := S38.out; have := S39.out; have := S42.out; have := S43.out; have := S44.out; have := S47.out; have := S50.out; have := S53.out; omega)
  replace z_x1_1 := Chg.cell hc55 z_x1_1 (by simp only; have := S3.out; have := S4.out; have := S7.out; have := S8.out; have := S11.out; have := S14.out; have := S17.out; have := HBX1.out; have := S18.out; have := S21.out; have := S24.out; have := S25.out; have := S28.out; have := S31.out; have := S32.out; have := S35.out; have := S38.out; have := S39.out; have := S42.out; have := S43.out; have := S44.out; have := S47.out; have := S50.out; have := S53.out; omega)
  replace z_x1_2 := Chg.cell hc55 z_x1_2 (by simp only; have := S3.out; have := S4.out; have := S7.out; have := S8.out; have := S11.out; have := S14.out; have := S17.out; have := HBX1.out; have := S18.out; have := S21.out; have := S24.out; have := S25.out; have := S28.out; have := S31.out; have := S32.out; have := S35.out; have := S38.out; have := S39.out; have := S42.out; have := S43.out; have := S44.out; have := S47.out; have := S50.out; have := S53.out; omega)
  replace HB_g0 := Lib.hid (HB_g0.out.chg hc55 (by have := S3.out; have := S4.out; have := S7.out; have := S8.out; have := S11.out; have := S14.out; have := S17.out; have := HBX1.out; have := S18.out; have := S21.out; have := S24.out; have := S25.out; have := S28.out; have := S31.out; have := S32.out; have := S35.out; have := S38.out; have := S39.out; have := S42.out; have := S43.out; have := S44.out; have := S47.out; have := S50.out; have := S53.out; omega))
  replace z_g0_0 := Chg.cell hc55 z_g0_0 (by simp only; have := S3.out; have := S4.out; have := S7.out; have := S8.out; have := S11.out; have := S14.out; have := S17.out; have := HBX1.out; have := S18.out; have := S21.out; have := S24.out; have := S25.out; have := S28.out; have := S31.out; have := S32.out; have := S35.out; have := S38.out; have := S39.out; have := S42.out; have := S43.out; have := S44.out; have := S47.out; have := S50.out; have := S53.out; omega)
  replace HX := Lib.hid (HX.out.chg hc55 (fun i h1 h2 => by have := S3.out; have := S4.out; have := S7.out; have := S8.out; have := S11.out; have := S14.out; have := S17.out; have := HBX1.out; have := S18.out; have := S21.out; have := S24.out; have := S25.out; have := S28.out; have := S31.out; have := S32.out; have := S35.out; have := S38.out; have := S39.out; have := S42.out; have := S43.out; have := S44.out; have := S47.out; have := S50.out; have := S53.out; omega))
  replace HY := Lib.hid (HY.out.chg hc55 (fun i h1 h2 => by have := S3.out; have := S4.out; have := S7.out; have := S8.out; have := S11.out; have := S14.out; have := S17.out; have := HBX1.out; have := S18.out; have := S21.out; have := S24.out; have := S25.out; have := S28.out; have := S31.out; have := S32.out; have := S35.out; have := S38.out; have := S39.out; have := S42.out; have := S43.out; have := S44.out; have := S47.out; have := S50.out; have := S53.out; omega))
  replace Rw0 := Lib.hid (Rw0.out.chg hc55 (fun i h1 h2 => by have := S3.out; have := S4.out; have := S7.out; have := S8.out; have := S11.out; have := S14.out; have := S17.out; have := HBX1.out; have := S18.out; have := S21.out; have := S24.out; have := S25.out; have := S28.out; have := S31.out; have := S32.out; have := S35.out; have := S38.out; have := S39.out; have := S42.out; have := S43.out; have := S44.out; have := S47.out; have := S50.out; have := S53.out; omega))
  have S56 := Lib.hid hc55.size
  clear hc55
  clear OG
  have hRm := hOm.reads
  rw [hTm] at hRm
  have RM := Lib.hid hRm
  clear hRm hOm hTm hTml
  have hm0 : ¬ ((1 : Int) + ((lens X : Nat) : Int) < 0) := by omega
  have hmm : (((1 : Int) + ((lens X : Nat) : Int)) != ((1 : Int) + ((lens X : Nat) : Int))) = false := by simp
  go_wp2_with fail
  refine (heldTable_any _ _ _ X 1 _ RM.out HTT.out.1 (by omega) (by omega)).mono ?_
  rintro e w57 ⟨rfl, hc58⟩
  replace HCH := Lib.hid (HCH.out.trans hc58)
  replace HB_a := Lib.hid (HB_a.out.chg hc58 (fun x => x))
  replace z_a_0 := Chg.cell hc58 z_a_0 (fun x => x)
  replace z_a_1 := Chg.cell hc58 z_a_1 (fun x => x)
  replace z_a_2 := Chg.cell hc58 z_a_2 (fun x => x)
  replace HB_b := Lib.hid (HB_b.out.chg hc58 (fun x => x))
  replace z_b_0 := Chg.cell hc58 z_b_0 (fun x => x)
  replace z_b_1 := Chg.cell hc58 z_b_1 (fun x => x)
  replace z_b_2 := Chg.cell hc58 z_b_2 (fun x => x)
  replace HB_w0 := Lib.hid (HB_w0.out.chg hc58 (fun x => x))
  replace z_w0_0 := Chg.cell hc58 z_w0_0 (fun x => x)
  replace HB_x0 := Lib.hid (HB_x0.out.chg hc58 (fun x => x))
  replace z_x0_0 := Chg.cell hc58 z_x0_0 (fun x => x)
  replace z_x0_1 := Chg.cell hc58 z_x0_1 (fun x => x)
  replace z_x0_2 := Chg.cell hc58 z_x0_2 (fun x => x)
  replace HB_x1 := Lib.hid (HB_x1.out.chg hc58 (fun x => x))
  replace z_x1_0 := Chg.cell hc58 z_x1_0 (fun x => x)
  replace z_x1_1 := Chg.cell hc58 z_x1_1 (fun x => x)
  replace z_x1_2 := Chg.cell hc58 z_x1_2 (fun x => x)
  replace HB_g0 := Lib.hid (HB_g0.out.chg hc58 (fun x => x))
  replace z_g0_0 := Chg.cell hc58 z_g0_0 (fun x => x)
  replace HX := Lib.hid (HX.out.new hc58)
  replace HY := Lib.hid (HY.out.new hc58)
  replace Rw0 := Lib.hid (Rw0.out.new hc58)
  replace RM := Lib.hid (RM.out.new hc58)
  have S59 := Lib.hid hc58.size
  clear hc58
  go_wp2_with fail
  have HNN := Lib.hid hNn
  have HBN := Lib.hid hbn
  clear hbn hNn
  refine wp_region_rg (WInv := fun _ m w5 => Chg NoB w57 w5 ∧ BoxI w57.heap.size 39 #[.slice none 0 0] 9 10 6 m w5) (R := RBox NoB w57.heap.size 39) (Post := pairPost3 (PSav w57.heap.size n1 xs1 s1) (PSav w57.heap.size n2 xs2 s2) (PTab w57.heap.size X (fun t => .tuple #[t, .int .i64 Ng, .bool bg])) (PTab w57.heap.size X (fun t => t)) (.agg #[.int .i64 n1, .slice A1 xs1.length c1, .int .i64 s1]) (.agg #[.int .i64 n2, .slice A2 xs2.length c2, .int .i64 s2]) (.int .i64 Ng) (.bool bg)) (by kernel_rfl) (by kernel_rfl) (fun _ _ _ _ h _ _ => h) (pairPost3_stab (fun _ _ _ h hr => PSav.box h hr int_tab) (fun _ _ _ h hr => PSav.box h hr int_tab) (fun _ _ _ h hr => PTab.box h hr ints_tab int_tab) (fun _ _ _ h hr => PTab.box h hr ints_tab int_tab)) ⟨(Chg.refl _ _).drew, BoxI.start⟩ ⟨?_, ?_, ?_, ?_, ?_, ?_, ?_, ?_, ?_, ?_, ?_, ?_, ?_, trivial⟩ ?_
  · rintro kc m a w5 hkc ⟨hch, hbx⟩ hm hn
    have e1 : a.tmps[2]?.getD undef = .pointer (some ⟨w.heap.size, 0, none⟩) := hn.1
    have y0 := Chg.cell hch z_a_0 (fun x => x)
    have y1 := Chg.cell hch z_a_1 (fun x => x)
    have y2 := Chg.cell hch z_a_2 (fun x => x)
    exact rg_val (v := .agg #[.int .i64 n1, .slice A1 xs1.length c1, .int .i64 s1]) (by simp [execOp, go_sem, e1, y0, y1, y2]) rfl ⟨hch, hbx.keep (by decide) (by decide) hm (Chg.refl NoB _) (fun _ _ x => x)⟩ (Chg.refl _ _) rfl
  · rintro kc m a w5 hkc ⟨hch, hbx⟩ hm hn
    obtain ⟨⟨_, e1, _, rfl⟩, -⟩ := hn
    refine rg_call (f := 30) (args := #[.agg #[.int .i64 n1, .slice A1 xs1.length c1, .int .i64 s1]]) (by simp [go_sem, e1]) rfl ?_
    refine (toSave_any _ n1 s1 A1 c1 xs1 _ (HX.out.new hch) HL1.out).mono ?_
    rintro e w6 ⟨gx, rfl, hO, hc6⟩
    exact ⟨_, rfl, ⟨hch.trans hc6, hbx.keep (by decide) (by decide) hm hc6 (fun _ _ x => x)⟩, RBox.of hc6 (fun _ x => x), ⟨gx, rfl, hO.more hch.size (Nat.le_refl _)⟩⟩
  · rintro kc m a w5 hkc ⟨hch, hbx⟩ hm hn
    have e1 : a.tmps[3]?.getD undef = .pointer (some ⟨w.heap.size + 1, 0, none⟩) := hn.1
    have y0 := Chg.cell hch z_b_0 (fun x => x)
    have y1 := Chg.cell hch z_b_1 (fun x => x)
    have y2 := Chg.cell hch z_b_2 (fun x => x)
    exact rg_val (v := .agg #[.int .i64 n2, .slice A2 xs2.length c2, .int .i64 s2]) (by simp [execOp, go_sem, e1, y0, y1, y2]) rfl ⟨hch, hbx.keep (by decide) (by decide) hm (Chg.refl NoB _) (fun _ _ x => x)⟩ (Chg.refl _ _) rfl
  · rintro kc m a w5 hkc ⟨hch, hbx⟩ hm hn
    obtain ⟨⟨_, e1, _, rfl⟩, -⟩ := hn
    refine rg_call (f := 30) (args := #[.agg #[.int .i64 n2, .slice A2 xs2.length c2, .int .i64 s2]]) (by simp [go_sem, e1]) rfl ?_
    refine (toSave_any _ n2 s2 A2 c2 xs2 _ (HY.out.new hch) HL2.out).mono ?_
    rintro e w6 ⟨gx, rfl, hO, hc6⟩
    exact ⟨_, rfl, ⟨hch.trans hc6, hbx.keep (by decide) (by decide) hm hc6 (fun _ _ x => x)⟩, RBox.of hc6 (fun _ x => x), ⟨gx, rfl, hO.more hch.size (Nat.le_refl _)⟩⟩
  · rintro kc m a w5 hkc ⟨hch, hbx⟩ hm hn
    obtain ⟨⟨_, e1, _, gx1, rfl, ho1⟩, ⟨_, e2, _, gx2, rfl, ho2⟩, -⟩ := hn
    refine rg_call (f := 37) (args := #[.agg #[.int .i64 n1, .slice (some ⟨gx1, 0, none⟩) xs1.length xs1.length, .int .i64 s1], .agg #[.int .i64 n2, .slice (some ⟨gx2, 0, none⟩) xs2.length xs2.length, .int .i64 s2]]) (by simp [go_sem, e1, e2]) rfl ?_
    refine (iNewerSave_any _ _ ⟨n1, xs1, s1⟩ ⟨n2, xs2, s2⟩ _ _ xs1.length xs2.length _ ho1.rd (Nat.le_refl _) (by have := HL1.out; omega) ho2.rd (Nat.le_refl _) (by have := HL2.out; omega)).mono ?_
    rintro e w6 ⟨Ar, cr, Tr, N', b', rfl, hO, hI, hc6⟩
    obtain ⟨hXX, hN', hb'⟩ := hI.out.det HI0.out
    have hTl : Tr.length = X.length := by rw [← hXX, listsOf_length]
    rw [hTl, hN', hb']
    exact ⟨_, rfl, ⟨hch.trans hc6, hbx.keep (by decide) (by decide) hm hc6 (fun _ _ x => x)⟩, RBox.of hc6 (fun _ x => x), ⟨Ar, cr, Tr, rfl, hO.more hch.size (Nat.le_refl _), Lib.hid hXX⟩⟩
  · rintro kc m a w5 hkc ⟨hch, hbx⟩ hm hn
    obtain ⟨⟨_, e1, _, Ar, cr, Tr, rfl, hO, hX⟩, -⟩ := hn
    exact rg_val (v := .tuple #[.agg #[.slice Ar X.length cr], .int .i64 Ng, .bool bg]) (by simp [execOp, go_sem, e1]) rfl ⟨hch, hbx.keep (by decide) (by decide) hm (Chg.refl NoB _) (fun _ _ x => x)⟩ (Chg.refl _ _) ⟨Ar, cr, Tr, rfl, hO, hX⟩
  · rintro kc m a w5 hkc ⟨hch, hbx⟩ hm hn
    obtain ⟨⟨_, e1, _, Ar, cr, Tr, rfl, hO, hX⟩, -⟩ := hn
    exact rg_val (v := .agg #[.slice Ar X.length cr]) (by simp [execOp, go_sem, e1]) rfl ⟨hch, hbx.keep (by decide) (by decide) hm (Chg.refl NoB _) (fun _ _ x => x)⟩ (Chg.refl _ _) ⟨Ar, cr, Tr, rfl, hO, hX⟩
  · rintro kc m a w5 hkc ⟨hch, hbx⟩ hm hn
    obtain ⟨⟨_, e1, _, Ar, cr, Tr, rfl, hO, hX⟩, -⟩ := hn
    exact rg_val (v := .int .i64 Ng) (by simp [execOp, go_sem, e1]) rfl ⟨hch, hbx.keep (by decide) (by decide) hm (Chg.refl NoB _) (fun _ _ x => x)⟩ (Chg.refl _ _) rfl
  · rintro kc m a w5 hkc ⟨hch, hbx⟩ hm hn
    obtain ⟨⟨_, e1, _, Ar, cr, Tr, rfl, hO, hX⟩, -⟩ := hn
    exact rg_val (v := .bool bg) (by simp [execOp, go_sem, e1]) rfl ⟨hch, hbx.keep (by decide) (by decide) hm (Chg.refl NoB _) (fun _ _ x => x)⟩ (Chg.refl _ _) rfl
  · rintro kc m a w5 hkc ⟨hch, hbx⟩ hm hn
    have hca : Chg NoB w5 (w5.alloc (.cells #[.slice none 0 0] 39)) := (Chg.refl _ _).alloc _
    exact rg_val (v := .pointer (some ⟨w5.heap.size, 0, none⟩)) (w' := w5.alloc (.cells #[.slice none 0 0] 39)) (by simp [execOp, go_sem]) rfl ⟨hch.alloc _, hbx.alloc (by decide) hm hch.size⟩ (RBox.of hca (fun _ x => x.elim)) trivial
  · rintro kc m a w5 hkc ⟨hch, hbx⟩ hm hn
    obtain ⟨⟨p, e1, hma, _⟩, ⟨_, e2, hmv, Ar, cr, Tr, rfl, hO, hX⟩, -⟩ := hn
    obtain ⟨bx, rfl, hB, hb⟩ := hbx.ready hm hma
    have f0 := hb.frozen 0
    have x0 : w5.cell? ⟨bx, 0, none⟩ = some (.slice none 0 0) := (hb.cell _).trans rfl
    have hst : Chg (· = bx) w5 (w5.setCell ⟨bx, 0, none⟩ (.slice Ar X.length cr)) := ((Chg.refl (· = bx) w5).setCell (p := ⟨bx, 0, none⟩) (.inl rfl) _)
    have hb' : Blk (w5.setCell ⟨bx, 0, none⟩ (.slice Ar X.length cr)) bx 39 #[.slice Ar X.length cr] := (hb.set_ 0 _)
    exact rg_skip (w' := (w5.setCell ⟨bx, 0, none⟩ (.slice Ar X.length cr))) (by simp [execOp, go_sem, e1, e2, x0, f0]) rfl ⟨hch.own hst hB, BoxI.store (by decide) (by decide) hma hB hmv hb'⟩ (RBox.box hst hB hb) trivial
  · rintro kc m a w5 hkc ⟨hch, hbx⟩ hm hn
    obtain ⟨⟨_, e1, _, rfl⟩, -⟩ := hn
    exact rg_val (v := .int .i64 Ng) (by simp [execOp, go_sem, e1]) rfl ⟨hch, hbx.keep (by decide) (by decide) hm (Chg.refl NoB _) (fun _ _ x => x)⟩ (Chg.refl _ _) rfl
  · rintro kc m a w5 hkc ⟨hch, hbx⟩ hm hn
    obtain ⟨⟨_, e1, _, rfl⟩, -⟩ := hn
    exact rg_val (v := .bool bg) (by simp [execOp, go_sem, e1]) rfl ⟨hch, hbx.keep (by decide) (by decide) hm (Chg.refl NoB _) (fun _ _ x => x)⟩ (Chg.refl _ _) rfl
  rintro m w60 ⟨hc61, hbx⟩
  simp only [AllVals]
  rintro rv0 m0 p0 rv1 m1 p1 rv2 m2 p2 rv3 m3 p3 rv4 m4 p4 rv5 m5 p5 rv6 m6 p6 rv7 m7 p7 rv8 m8 p8 rv9 m9 p9 rv10 m10 p10 rv11 m11 p11 rv12 m12 p12
  obtain ⟨Arh0, crh0, Trh0, rfl, hOh0, hXh0⟩ := p6
  obtain rfl := p11
  obtain rfl := p12
  obtain ⟨bx2, rfl, hB2, hb2⟩ := hbx.done m9 m10 m6
  have HBX2 := Lib.hid hB2
  have hbb2 : Blk w60 bx2 39 #[.slice Arh0 X.length crh0] := hb2
  clear hB2 hb2 hbx p0 p1 p2 p3 p4 p5 p7 p8 p9 p10
  simp only [Act.put, List.setIfInBounds_toArray, List.set_cons_succ, List.set_cons_zero]
  replace HCH := Lib.hid (HCH.out.trans hc61)
  replace HB_a := Lib.hid (HB_a.out.chg hc61 (fun x => x))
  replace z_a_0 := Chg.cell hc61 z_a_0 (fun x => x)
  replace z_a_1 := Chg.cell hc61 z_a_1 (fun x => x)
  replace z_a_2 := Chg.cell hc61 z_a_2 (fun x => x)
  replace HB_b := Lib.hid (HB_b.out.chg hc61 (fun x => x))
  replace z_b_0 := Chg.cell hc61 z_b_0 (fun x => x)
  replace z_b_1 := Chg.cell hc61 z_b_1 (fun x => x)
  replace z_b_2 := Chg.cell hc61 z_b_2 (fun x => x)
  replace HB_w0 := Lib.hid (HB_w0.out.chg hc61 (fun x => x))
  replace z_w0_0 := Chg.cell hc61 z_w0_0 (fun x => x)
  replace HB_x0 := Lib.hid (HB_x0.out.chg hc61 (fun x => x))
  replace z_x0_0 := Chg.cell hc61 z_x0_0 (fun x => x)
  replace z_x0_1 := Chg.cell hc61 z_x0_1 (fun x => x)
  replace z_x0_2 := Chg.cell hc61 z_x0_2 (fun x => x)
  replace HB_x1 := Lib.hid (HB_x1.out.chg hc61 (fun x => x))
  replace z_x1_0 := Chg.cell hc61 z_x1_0 (fun x => x)
  replace z_x1_1 := Chg.cell hc61 z_x1_1 (fun x => x)
  replace z_x1_2 := Chg.cell hc61 z_x1_2 (fun x => x)
  replace HB_g0 := Lib.hid (HB_g0.out.chg hc61 (fun x => x))
  replace z_g0_0 := Chg.cell hc61 z_g0_0 (fun x => x)
  replace HX := Lib.hid (HX.out.new hc61)
  replace HY := Lib.hid (HY.out.new hc61)
  replace Rw0 := Lib.hid (Rw0.out.new hc61)
  replace RM := Lib.hid (RM.out.new hc61)
  have S62 := Lib.hid hc61.size
  have S63 := Lib.hid hbb2.lt
  have HB_h0 := Lib.hid hbb2
  have z_h0_0 : w60.cell? ⟨bx2, 0, none⟩ = some (.slice Arh0 X.length crh0) := (HB_h0.out.cell _).trans rfl
  clear hbb2 hc61
  have hRh0 := hOh0.reads
  rw [hXh0.out] at hRh0
  have Rh0 := Lib.hid hRh0
  clear hRh0 hOh0
  have hNn := HNN.out
  have hbn := HBN.out
  go_wp2_with fail
  refine (eqTable_t _ _ _ _ _ _ X _ Rh0.out Rw0.out HTT.out.2.1 HTT.out.2.2).mono ?_
  rintro e w64 ⟨rfl, hc65⟩
  replace HCH := Lib.hid (HCH.out.trans hc65)
  replace HB_a := Lib.hid (HB_a.out.chg hc65 (fun x => x))
  replace z_a_0 := Chg.cell hc65 z_a_0 (fun x => x)
  replace z_a_1 := Chg.cell hc65 z_a_1 (fun x => x)
  replace z_a_2 := Chg.cell hc65 z_a_2 (fun x => x)
  replace HB_b := Lib.hid (HB_b.out.chg hc65 (fun x => x))
  replace z_b_0 := Chg.cell hc65 z_b_0 (fun x => x)
  replace z_b_1 := Chg.cell hc65 z_b_1 (fun x => x)
  replace z_b_2 := Chg.cell hc65 z_b_2 (fun x => x)
  replace HB_w0 := Lib.hid (HB_w0.out.chg hc65 (fun x => x))
  replace z_w0_0 := Chg.cell hc65 z_w0_0 (fun x => x)
  replace HB_x0 := Lib.hid (HB_x0.out.chg hc65 (fun x => x))
  replace z_x0_0 := Chg.cell hc65 z_x0_0 (fun x => x)
  replace z_x0_1 := Chg.cell hc65 z_x0_1 (fun x => x)
  replace z_x0_2 := Chg.cell hc65 z_x0_2 (fun x => x)
  replace HB_x1 := Lib.hid (HB_x1.out.chg hc65 (fun x => x))
  replace z_x1_0 := Chg.cell hc65 z_x1_0 (fun x => x)
  replace z_x1_1 := Chg.cell hc65 z_x1_1 (fun x => x)
  replace z_x1_2 := Chg.cell hc65 z_x1_2 (fun x => x)
  replace HB_g0 := Lib.hid (HB_g0.out.chg hc65 (fun x => x))
  replace z_g0_0 := Chg.cell hc65 z_g0_0 (fun x => x)
  replace HB_h0 := Lib.hid (HB_h0.out.chg hc65 (fun x => x))
  replace z_h0_0 := Chg.cell hc65 z_h0_0 (fun x => x)
  replace HX := Lib.hid (HX.out.new hc65)
  replace HY := Lib.hid (HY.out.new hc65)
  replace Rw0 := Lib.hid (Rw0.out.new hc65)
  replace RM := Lib.hid (RM.out.new hc65)
  replace Rh0 := Lib.hid (Rh0.out.new hc65)
  have S66 := Lib.hid hc65.size
  clear hc65
  go_wp2_with fail
  refine (heldTable_any _ _ _ X 1 _ RM.out HTT.out.1 (by omega) (by omega)).mono ?_
  rintro e w67 ⟨rfl, hc68⟩
  replace HCH := Lib.hid (HCH.out.trans hc68)
  replace HB_a := Lib.hid (HB_a.out.chg hc68 (fun x => x))
  replace z_a_0 := Chg.cell hc68 z_a_0 (fun x => x)
  replace z_a_1 := Chg.cell hc68 z_a_1 (fun x => x)
  replace z_a_2 := Chg.cell hc68 z_a_2 (fun x => x)
  replace HB_b := Lib.hid (HB_b.out.chg hc68 (fun x => x))
  replace z_b_0 := Chg.cell hc68 z_b_0 (fun x => x)
  replace z_b_1 := Chg.cell hc68 z_b_1 (fun x => x)
  replace z_b_2 := Chg.cell hc68 z_b_2 (fun x => x)
  replace HB_w0 := Lib.hid (HB_w0.out.chg hc68 (fun x => x))
  replace z_w0_0 := Chg.cell hc68 z_w0_0 (fun x => x)
  replace HB_x0 := Lib.hid (HB_x0.out.chg hc68 (fun x => x))
  replace z_x0_0 := Chg.cell hc68 z_x0_0 (fun x => x)
  replace z_x0_1 := Chg.cell hc68 z_x0_1 (fun x => x)
  replace z_x0_2 := Chg.cell hc68 z_x0_2 (fun x => x)
  replace HB_x1 := Lib.hid (HB_x1.out.chg hc68 (fun x => x))
  replace z_x1_0 := Chg.cell hc68 z_x1_0 (fun x => x)
  replace z_x1_1 := Chg.cell hc68 z_x1_1 (fun x => x)
  replace z_x1_2 := Chg.cell hc68 z_x1_2 (fun x => x)
  replace HB_g0 := Lib.hid (HB_g0.out.chg hc68 (fun x => x))
  replace z_g0_0 := Chg.cell hc68 z_g0_0 (fun x => x)
  replace HB_h0 := Lib.hid (HB_h0.out.chg hc68 (fun x => x))
  replace z_h0_0 := Chg.cell hc68 z_h0_0 (fun x => x)
  replace HX := Lib.hid (HX.out.new hc68)
  replace HY := Lib.hid (HY.out.new hc68)
  replace Rw0 := Lib.hid (Rw0.out.new hc68)
  replace RM := Lib.hid (RM.out.new hc68)
  replace Rh0 := Lib.hid (Rh0.out.new hc68)
  have S69 := Lib.hid hc68.size
  clear hc68
  go_wp2
  go_ret
  exact ⟨rfl, HCH.out⟩
end Go.Proofs.Ytbgepefdfioljaa
