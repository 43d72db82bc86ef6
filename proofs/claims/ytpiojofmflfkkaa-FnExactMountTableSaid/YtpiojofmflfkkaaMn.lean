/- Parts of the proof, merged: Zn. -/
import Derived.Test.YtpiojofmflfkkaaMi
import Derived.Test.YtpiojofmflfkkaaMf
import Derived.Test.YtpiojofmflfkkaaMb
import Derived.Test.YtpiojofmflfkkaaMh
import Derived.Test.YtpiojofmflfkkaaMw
import Derived.Deep.RegionHeld3
/- The law FnExactRollForward: the walk. -/
namespace Go.Proofs.Ytpiojofmflfkkaa
open Go.RowKit
theorem endT_size (T : List BkO) : ∀ k, endT T k ≤ k + 5 * (devSize (bksOf T) : Int) := by
  induction T with
  | nil => intro k; simp [endT, devSize, bksOf]
  | cons r T ih =>
    intro k
    have := ih (k + 1 + 5 * (r.ps.length : Int))
    unfold endT
    have e : devSize (bksOf (r :: T)) = devSize (bksOf T) + 1 + r.ps.length := by
      unfold devSize bksOf
      simp [BkO.bk]
      omega
    rw [e]
    omega
theorem ty_block_tab : (67 : Nat) ≠ 31 := by decide
theorem ty_page_tab : (80 : Nat) ≠ 31 := by decide
theorem int_tab' : (3 : Nat) ≠ 31 := by decide
theorem ints_tab' : (24 : Nat) ≠ 31 := by decide
theorem DevO.box {B E B' : Nat} {w w' : World} {A : Option Addr} {c : Nat} {T : List BkO} (h : DevO B E w A c T) (hR : RBox NoB B' 31 w w') : DevO B E w' A c T := by
  refine ⟨⟨h.1.1, ?_⟩, ⟨fun r hr => ?_, h.2.2⟩⟩
  · rcases h.1.2 with h0 | ⟨g, rest, e, hg, hE, hb⟩
    · exact .inl h0
    · exact .inr ⟨g, rest, e, hg, hE, hR.blk hb (fun x => x) (.inr ty_block_tab)⟩
  · obtain ⟨h1, h2, h3, h4⟩ := h.2.1 r hr
    exact ⟨h1, h2, hR.blk h3 (fun x => x) (.inr ty_page_tab), h4⟩
def PDev (B : Nat) (D : List Bk) : Value → World → Prop := fun v w => ∃ g T, v = .slice (some ⟨g, 0, none⟩) D.length D.length ∧ DevO B w.heap.size w (some ⟨g, 0, none⟩) D.length T ∧ Hid (bksOf T = D)
theorem PDev.box {B B' : Nat} {D : List Bk} {v : Value} {w w' : World} (h : PDev B D v w) (hr : RBox NoB B' 31 w w') : PDev B D v w' := by
  obtain ⟨g, T, rfl, ho, hT⟩ := h
  exact ⟨g, T, rfl, (ho.box hr).more (Nat.le_refl _) hr.size, hT⟩
theorem PDev.rd {B : Nat} {D : List Bk} {v : Value} {w : World} (h : PDev B D v w) : ∃ g, v = .slice (some ⟨g, 0, none⟩) D.length D.length ∧ DevR (fun i => B ≤ i ∧ i < w.heap.size) w (some ⟨g, 0, none⟩) D := by
  obtain ⟨g, T, rfl, ho, hT⟩ := h
  exact ⟨g, rfl, hT.out ▸ ho.reads⟩
theorem PTab.rd {B : Nat} {X : List (List Int)} {v : Value} {w : World} (h : PTab B X (fun t => t) v w) : ∃ A c, v = .agg #[.slice A X.length c] ∧ TabR (fun i => B ≤ i ∧ i < w.heap.size) w A X := by
  obtain ⟨A, c, T, rfl, ho, hT⟩ := h
  exact ⟨A, c, rfl, hT.out ▸ ho.reads⟩
theorem roll_small (D : List Bk) (X : List (List Int)) (s : Int) : total (rollForward D X s) ≤ 1048576 ∧ (rollForward D X s).length ≤ 9223372036854775807 ∧ ∀ r ∈ rollForward D X s, r.length ≤ 9223372036854775807 := by
  unfold rollForward
  split
  · refine ⟨by rw [show total (tabF (rollN D (tget X) (pagesSince D s))) = 56 from rfl]; omega, by rw [tabF_len]; omega, fun r hr => ?_⟩
    unfold tabF at hr
    rw [List.mem_map] at hr
    obtain ⟨f, _, rfl⟩ := hr
    simp
  · simp [total]
set_option maxRecDepth 100000 in
set_option maxHeartbeats 8000000 in
theorem FnExactRollForward_any (v : Value) (x : DevA) (u : Value) (y : TbA) (s : Int) (w : World) (hx : DevIn w v x) (hy : TabIn w u y) :
    Calls Try.prog 8 #[v, u, .int .i64 s] w fun e w' => e = .returned (.bool true) ∧ Chg NoB w w' := by
  obtain ⟨A, c, D⟩ := x
  obtain ⟨B, d, X⟩ := y
  obtain ⟨rfl, h, hl, hP⟩ := hx
  obtain ⟨rfl, h2, hXl, hXr⟩ := hy
  simp only at h hl hP h2 hXl hXr
  go_enter Try.func8, Try.ntmps8
  go_wp2_with fail
  have HCH := Lib.hid (Chg.refl NoB w)
  have HD := Lib.hid h
  have HX := Lib.hid h2
  clear h h2
  obtain ⟨w1, hw1⟩ : ∃ w1, w.alloc (.cells #[.slice B X.length d] 41) = w1 := ⟨_, rfl⟩
  try rw [hw1]
  have q2 : Chg NoB w w1 := by rw [← hw1]; exact (Chg.refl _ _).alloc _
  have bq2 : Blk w1 w.heap.size 41 #[.slice B X.length d] := by rw [← hw1]; exact Blk.new _ _ _
  have sq2 : w1.heap.size = w.heap.size + 1 := by rw [← hw1]; exact World.size_alloc ..
  clear hw1
  replace HCH := Lib.hid (HCH.out.trans q2)
  replace HD := Lib.hid (HD.out.new q2)
  replace HX := Lib.hid (HX.out.new q2)
  have S3 := Lib.hid q2.size
  have S4 := Lib.hid sq2
  have HB_a := Lib.hid bq2
  have z_a_0 : w1.cell? ⟨w.heap.size, 0, none⟩ = some (.slice B X.length d) := (HB_a.out.cell _).trans rfl
  clear q2 sq2 bq2
  refine (szBlockS_g _ A c D 1048576 _ HD.out hP hl (by omega) (by omega)).mono ?_
  rintro e w5 ⟨rfl, hc6⟩
  replace HCH := Lib.hid (HCH.out.trans hc6)
  replace HB_a := Lib.hid (HB_a.out.chg hc6 (fun x => x))
  replace z_a_0 := Chg.cell hc6 z_a_0 (fun x => x)
  replace HD := Lib.hid (HD.out.new hc6)
  replace HX := Lib.hid (HX.out.new hc6)
  have S7 := Lib.hid hc6.size
  clear hc6
  by_cases hb : 1048576 < devSize D
  · have hs : szLeft 1048576 (devSize D) = -1 := by unfold szLeft; rw [if_pos (by omega)]
    rw [hs]
    go_wp2
    go_ret
    exact ⟨rfl, HCH.out⟩
  have hs : szLeft 1048576 (devSize D) = 1048576 - (devSize D : Int) := by unfold szLeft; rw [if_neg (by omega)]
  rw [hs]
  have hnn : ¬ (1048576 - (devSize D : Int) < 0) := by omega
  have HSZ := Lib.hid (show devSize D ≤ 1048576 by omega)
  have HL := Lib.hid (show D.length ≤ 1048576 by have := devSize_len D; omega)
  have HPP := Lib.hid (show ∀ k (h : k < D.length), D[k].pages.length ≤ 1048576 from fun k hk => by have := devSize_page D k hk; omega)
  have HS := Lib.hid (show Small D from ⟨by have := HL.out; omega, fun k hk => by have := HPP.out k hk; omega⟩)
  have HXL0 := Lib.hid hXl
  have HXR0 := Lib.hid hXr
  clear hs hP hl hb hXl hXr
  go_wp2_with fail
  refine (szTable_g _ B d X (1048576 - (devSize D : Int)) _ HX.out HXR0.out HXL0.out (by omega) (by omega)).mono ?_
  rintro e w8 ⟨rfl, hc9⟩
  replace HCH := Lib.hid (HCH.out.trans hc9)
  replace HB_a := Lib.hid (HB_a.out.chg hc9 (fun x => x))
  replace z_a_0 := Chg.cell hc9 z_a_0 (fun x => x)
  replace HD := Lib.hid (HD.out.new hc9)
  replace HX := Lib.hid (HX.out.new hc9)
  have S10 := Lib.hid hc9.size
  clear hc9 hnn
  by_cases hl : 1048576 - (devSize D : Int) < (total X : Int)
  · have hs : szOf (1048576 - (devSize D : Int)) (total X) = -1 := by unfold szOf; rw [if_pos (by omega)]
    rw [hs]
    go_wp2
    go_ret
    exact ⟨rfl, HCH.out⟩
  have hs : szOf (1048576 - (devSize D : Int)) (total X) = 1048576 - (devSize D : Int) - (total X : Int) := by unfold szOf; rw [if_neg (by omega)]
  rw [hs]
  have hnn : ¬ (1048576 - (devSize D : Int) - (total X : Int) < 0) := by omega
  have HTX := Lib.hid (show total X ≤ 1048576 by omega)
  have HXL := Lib.hid (show X.length ≤ 9223372036854775807 by have := HXL0.out; unfold maxLen at this; omega)
  have HXR := Lib.hid (show ∀ r ∈ X, r.length ≤ 9223372036854775807 from fun r hr => by have := HXR0.out r hr; unfold maxLen at this; omega)
  obtain ⟨Y, hY⟩ : ∃ Y, rollForward D X s = Y := ⟨_, rfl⟩
  have HYE := Lib.hid hY
  have HYS := Lib.hid (show total Y ≤ 1048576 ∧ Y.length ≤ 9223372036854775807 ∧ ∀ r ∈ Y, r.length ≤ 9223372036854775807 by rw [← hY]; exact roll_small D X s)
  clear hs hl hY
  go_wp2_with fail
  refine wp_region_rg (WInv := fun _ m w5 => Chg NoB w8 w5 ∧ BoxI w8.heap.size 31 #[.slice none 0 0] 6 7 5 m w5) (R := RBox NoB w8.heap.size 31) (Post := PL [fun v _ => v = .slice A D.length c, fun v w => PDev w8.heap.size D v w, fun v _ => v = .agg #[.slice B X.length d], fun v w => PTab w8.heap.size X (fun t => t) v w, fun v _ => v = .int .i64 s, fun v w => PTab w8.heap.size Y (fun t => t) v w, fun _ _ => True, fun _ _ => True]) (by kernel_rfl) (by kernel_rfl) (fun _ _ _ _ h _ _ => h) (pl_stab ⟨(fun _ _ _ h _ => h), (fun _ _ _ h hR => PDev.box h hR), (fun _ _ _ h _ => h), (fun _ _ _ h hR => PTab.box h hR ints_tab' int_tab'), (fun _ _ _ h _ => h), (fun _ _ _ h hR => PTab.box h hR ints_tab' int_tab'), (fun _ _ _ _ _ => trivial), (fun _ _ _ _ _ => trivial), trivial⟩) ⟨(Chg.refl _ _).drew, BoxI.start⟩ ⟨?_, ?_, ?_, ?_, ?_, ?_, ?_, ?_, trivial⟩ ?_
  · rintro kc m a w5 hkc ⟨hch, hbx⟩ hm hn
    have e1 : a.tmps[0]?.getD undef = .slice A D.length c := hn.1
    exact rg_val (v := .slice A D.length c) (by simp [execOp, go_sem, e1]) rfl ⟨hch, hbx.keep (by decide) (by decide) hm (Chg.refl NoB _) (fun _ _ x => x)⟩ (Chg.refl _ _) rfl
  · rintro kc m a w5 hkc ⟨hch, hbx⟩ hm hn
    obtain ⟨⟨_, e1, _, rfl⟩, -⟩ := hn
    refine rg_call (f := 22) (args := #[.slice A D.length c]) (by simp [go_sem, e1]) rfl ?_
    refine (toBlockS_any _ A c D _ (HD.out.new hch) HL.out HPP.out).mono ?_
    rintro e w6 ⟨gx, Tx, rfl, hTx, hc6, hOx⟩
    exact ⟨_, rfl, ⟨hch.trans hc6, hbx.keep (by decide) (by decide) hm hc6 (fun _ _ x => x)⟩, RBox.of hc6 (fun _ x => x), ⟨gx, Tx, rfl, hOx.more hch.size (Nat.le_refl _), Lib.hid hTx⟩⟩
  · rintro kc m a w5 hkc ⟨hch, hbx⟩ hm hn
    have e1 : a.tmps[4]?.getD undef = .pointer (some ⟨w.heap.size, 0, none⟩) := hn.1
    have y0 := Chg.cell hch z_a_0 (fun x => x)
    exact rg_val (v := .agg #[.slice B X.length d]) (by simp [execOp, go_sem, e1, y0]) rfl ⟨hch, hbx.keep (by decide) (by decide) hm (Chg.refl NoB _) (fun _ _ x => x)⟩ (Chg.refl _ _) rfl
  · rintro kc m a w5 hkc ⟨hch, hbx⟩ hm hn
    obtain ⟨⟨_, e1, _, rfl⟩, -⟩ := hn
    refine rg_call (f := 23) (args := #[.agg #[.slice B X.length d]]) (by simp [go_sem, e1]) rfl ?_
    refine (toTable_any _ B d X _ (HX.out.new hch) HTX.out).mono ?_
    rintro e w6 ⟨gy, Ty, rfl, hTy, hc6, hOy⟩
    exact ⟨_, rfl, ⟨hch.trans hc6, hbx.keep (by decide) (by decide) hm hc6 (fun _ _ x => x)⟩, RBox.of hc6 (fun _ x => x), ⟨some ⟨gy, 0, none⟩, X.length, Ty, rfl, hOy.more hch.size (Nat.le_refl _), Lib.hid hTy⟩⟩
  · rintro kc m a w5 hkc ⟨hch, hbx⟩ hm hn
    have e1 : a.tmps[2]?.getD undef = .int .i64 s := hn.1
    exact rg_val (v := .int .i64 s) (by simp [execOp, go_sem, e1]) rfl ⟨hch, hbx.keep (by decide) (by decide) hm (Chg.refl NoB _) (fun _ _ x => x)⟩ (Chg.refl _ _) rfl
  · rintro kc m a w5 hkc ⟨hch, hbx⟩ hm hn
    obtain ⟨⟨v1, e1, _, hd1⟩, ⟨v3, e3, _, hd3⟩, ⟨_, e4, _, rfl⟩, -⟩ := hn
    obtain ⟨gx, rfl, hrx⟩ := PDev.rd hd1
    obtain ⟨Ay, cy, rfl, hry⟩ := PTab.rd hd3
    refine rg_call (f := 51) (args := #[.slice (some ⟨gx, 0, none⟩) D.length D.length, .agg #[.slice Ay X.length cy], .int .i64 s]) (by simp [go_sem, e1, e3, e4]) rfl ?_
    refine (sRollForward_any _ _ _ _ D _ _ X s _ hrx HS.out hry HXL.out HXR.out).mono ?_
    rintro e w6 ⟨Ar, cr, Tr, rfl, hX, hc6, hO⟩
    rw [HYE.out] at hX ⊢
    exact ⟨_, rfl, ⟨hch.trans hc6, hbx.keep (by decide) (by decide) hm hc6 (fun _ _ x => x)⟩, RBox.of hc6 (fun _ x => x), ⟨Ar, cr, Tr, rfl, hO.more hch.size (Nat.le_refl _), Lib.hid hX⟩⟩
  · rintro kc m a w5 hkc ⟨hch, hbx⟩ hm hn
    have hca : Chg NoB w5 (w5.alloc (.cells #[.slice none 0 0] 31)) := (Chg.refl _ _).alloc _
    exact rg_val (v := .pointer (some ⟨w5.heap.size, 0, none⟩)) (w' := w5.alloc (.cells #[.slice none 0 0] 31)) (by simp [execOp, go_sem]) rfl ⟨hch.alloc _, hbx.alloc (by decide) hm hch.size⟩ (RBox.of hca (fun _ x => x.elim)) trivial
  · rintro kc m a w5 hkc ⟨hch, hbx⟩ hm hn
    obtain ⟨⟨p, e1, hma, _⟩, ⟨v5, e2, hmv, hd5⟩, -⟩ := hn
    obtain ⟨Ar, cr, Tr, rfl, hO, hX⟩ := hd5
    obtain ⟨bx, rfl, hB, hb⟩ := hbx.ready hm hma
    have f0 := hb.frozen 0
    have x0 : w5.cell? ⟨bx, 0, none⟩ = some (.slice none 0 0) := (hb.cell _).trans rfl
    have hst : Chg (· = bx) w5 (w5.setCell ⟨bx, 0, none⟩ (.slice Ar Y.length cr)) := (Chg.refl (· = bx) w5).setCell (p := ⟨bx, 0, none⟩) (.inl rfl) _
    have hb' : Blk (w5.setCell ⟨bx, 0, none⟩ (.slice Ar Y.length cr)) bx 31 #[.slice Ar Y.length cr] := hb.set_ 0 _
    exact rg_skip (w' := w5.setCell ⟨bx, 0, none⟩ (.slice Ar Y.length cr)) (by simp [execOp, go_sem, e1, e2, x0, f0]) rfl ⟨hch.own hst hB, BoxI.store (by decide) (by decide) hma hB hmv hb'⟩ (RBox.box hst hB hb) trivial
  rintro m w11 ⟨hc12, hbx⟩
  simp only [AllVals]
  rintro rv0 m0 p0 rv1 m1 p1 rv2 m2 p2 rv3 m3 p3 rv4 m4 p4 rv5 m5 p5 rv6 m6 p6 rv7 m7 p7
  have p5x : PTab w8.heap.size Y (fun t => t) rv5 w11 := p5
  obtain ⟨Arw0, crw0, Trw0, rfl, hOw0, hXw0⟩ := p5x
  obtain ⟨bx1, rfl, hB1, hb1⟩ := hbx.done m6 m7 m5
  have HBX1 := Lib.hid hB1
  have hbb1 : Blk w11 bx1 31 #[.slice Arw0 Y.length crw0] := hb1
  clear hB1 hb1 hbx p5 p0 p1 p2 p3 p4 p6 p7
  simp only [Act.put, List.setIfInBounds_toArray, List.set_cons_succ, List.set_cons_zero]
  replace HCH := Lib.hid (HCH.out.trans hc12)
  replace HB_a := Lib.hid (HB_a.out.chg hc12 (fun x => x))
  replace z_a_0 := Chg.cell hc12 z_a_0 (fun x => x)
  replace HD := Lib.hid (HD.out.new hc12)
  replace HX := Lib.hid (HX.out.new hc12)
  have S13 := Lib.hid hc12.size
  have S14 := Lib.hid hbb1.lt
  have HB_w0 := Lib.hid hbb1
  have z_w0_0 : w11.cell? ⟨bx1, 0, none⟩ = some (.slice Arw0 Y.length crw0) := (HB_w0.out.cell _).trans rfl
  clear hbb1 hc12
  have hRw0 := hOw0.reads
  rw [hXw0.out] at hRw0
  have Rw0 := Lib.hid hRw0
  clear hRw0 hOw0
  go_wp2_with fail
  refine (toBlockS_any _ A c D _ HD.out HL.out HPP.out).mono ?_
  rintro e w15 ⟨gD1, TD1, rfl, hTD1, hc16, hOD1⟩
  have LOD1 := Lib.hid (show True from trivial)
  replace HCH := Lib.hid (HCH.out.trans hc16)
  replace HB_a := Lib.hid (HB_a.out.chg hc16 (fun x => x))
  replace z_a_0 := Chg.cell hc16 z_a_0 (fun x => x)
  replace HB_w0 := Lib.hid (HB_w0.out.chg hc16 (fun x => x))
  replace z_w0_0 := Chg.cell hc16 z_w0_0 (fun x => x)
  replace HD := Lib.hid (HD.out.new hc16)
  replace HX := Lib.hid (HX.out.new hc16)
  replace Rw0 := Lib.hid (Rw0.out.new hc16)
  have S17 := Lib.hid hc16.size
  have hRD1 := hOD1.reads
  rw [hTD1] at hRD1
  have RD1 := Lib.hid hRD1
  have OD1 := Lib.hid hOD1
  have HTD1 := Lib.hid hTD1
  clear hRD1 hOD1 hTD1 hc16 LOD1
  go_wp2_with fail
  refine (toTable_any _ B d X _ HX.out HTX.out).mono ?_
  rintro e w18 ⟨gX1, TX1, rfl, hTX1, hc19, hOX1⟩
  replace HCH := Lib.hid (HCH.out.trans hc19)
  replace HB_a := Lib.hid (HB_a.out.chg hc19 (fun x => x))
  replace z_a_0 := Chg.cell hc19 z_a_0 (fun x => x)
  replace HB_w0 := Lib.hid (HB_w0.out.chg hc19 (fun x => x))
  replace z_w0_0 := Chg.cell hc19 z_w0_0 (fun x => x)
  replace HD := Lib.hid (HD.out.new hc19)
  replace HX := Lib.hid (HX.out.new hc19)
  replace Rw0 := Lib.hid (Rw0.out.new hc19)
  replace RD1 := Lib.hid (RD1.out.new hc19)
  replace OD1 := Lib.hid (OD1.out.new hc19)
  have S20 := Lib.hid hc19.size
  have hRX1 := hOX1.reads
  rw [hTX1] at hRX1
  have RX1 := Lib.hid hRX1
  have OX1 := Lib.hid hOX1
  have HTX1 := Lib.hid hTX1
  clear hRX1 hOX1 hTX1 hc19
  have zz_a_0 := Chg.cell ((Chg.refl NoB w18).alloc (.cells #[.slice (some ⟨gX1, 0, none⟩) X.length X.length] 31)) z_a_0 (fun x => x)
  have zz_w0_0 := Chg.cell ((Chg.refl NoB w18).alloc (.cells #[.slice (some ⟨gX1, 0, none⟩) X.length X.length] 31)) z_w0_0 (fun x => x)
  go_wp2_with fail
  clear zz_a_0 zz_w0_0
  obtain ⟨w21, hw21⟩ : ∃ w21, w18.alloc (.cells #[.slice (some ⟨gX1, 0, none⟩) X.length X.length] 31) = w21 := ⟨_, rfl⟩
  try rw [hw21]
  have q22 : Chg NoB w18 w21 := by rw [← hw21]; exact (Chg.refl _ _).alloc _
  have bq22 : Blk w21 w18.heap.size 31 #[.slice (some ⟨gX1, 0, none⟩) X.length X.length] := by rw [← hw21]; exact Blk.new _ _ _
  have sq22 : w21.heap.size = w18.heap.size + 1 := by rw [← hw21]; exact World.size_alloc ..
  clear hw21
  replace HCH := Lib.hid (HCH.out.trans q22)
  replace HB_a := Lib.hid (HB_a.out.chg q22 (fun x => x))
  replace z_a_0 := Chg.cell q22 z_a_0 (fun x => x)
  replace HB_w0 := Lib.hid (HB_w0.out.chg q22 (fun x => x))
  replace z_w0_0 := Chg.cell q22 z_w0_0 (fun x => x)
  replace HD := Lib.hid (HD.out.new q22)
  replace HX := Lib.hid (HX.out.new q22)
  replace Rw0 := Lib.hid (Rw0.out.new q22)
  replace RD1 := Lib.hid (RD1.out.new q22)
  replace OD1 := Lib.hid (OD1.out.new q22)
  replace RX1 := Lib.hid (RX1.out.new q22)
  replace OX1 := Lib.hid (OX1.out.new q22)
  have S23 := Lib.hid q22.size
  have S24 := Lib.hid sq22
  have HB_x := Lib.hid bq22
  have z_x_0 : w21.cell? ⟨w18.heap.size, 0, none⟩ = some (.slice (some ⟨gX1, 0, none⟩) X.length X.length) := (HB_x.out.cell _).trans rfl
  clear q22 sq22 bq22
  refine (iRollForward_any _ _ _ _ D _ _ X s _ RD1.out RX1.out).mono ?_
  rintro e w25 ⟨Ag, cg, Tg, rfl, hXg, hc26, hOg⟩
  replace HCH := Lib.hid (HCH.out.trans hc26)
  replace HB_a := Lib.hid (HB_a.out.chg hc26 (fun x => x))
  replace z_a_0 := Chg.cell hc26 z_a_0 (fun x => x)
  replace HB_w0 := Lib.hid (HB_w0.out.chg hc26 (fun x => x))
  replace z_w0_0 := Chg.cell hc26 z_w0_0 (fun x => x)
  replace HB_x := Lib.hid (HB_x.out.chg hc26 (fun x => x))
  replace z_x_0 := Chg.cell hc26 z_x_0 (fun x => x)
  replace HD := Lib.hid (HD.out.new hc26)
  replace HX := Lib.hid (HX.out.new hc26)
  replace Rw0 := Lib.hid (Rw0.out.new hc26)
  replace RD1 := Lib.hid (RD1.out.new hc26)
  replace OD1 := Lib.hid (OD1.out.new hc26)
  replace RX1 := Lib.hid (RX1.out.new hc26)
  replace OX1 := Lib.hid (OX1.out.new hc26)
  have S27 := Lib.hid hc26.size
  rw [HYE.out] at hXg ⊢
  have hlg : Tg.length = Y.length := by rw [← hXg, listsOf_length]
  have HLG := Lib.hid hlg
  have HXG := Lib.hid hXg
  have hRg := hOg.reads
  rw [hXg] at hRg
  have RG := Lib.hid hRg
  have OG := Lib.hid hOg
  clear hRg hOg hc26 hlg hXg
  have zz_a_0 := Chg.cell ((Chg.refl NoB w25).alloc (.cells #[.slice Ag Y.length cg] 31)) z_a_0 (fun x => x)
  have zz_w0_0 := Chg.cell ((Chg.refl NoB w25).alloc (.cells #[.slice Ag Y.length cg] 31)) z_w0_0 (fun x => x)
  have zz_x_0 := Chg.cell ((Chg.refl NoB w25).alloc (.cells #[.slice Ag Y.length cg] 31)) z_x_0 (fun x => x)
  go_wp2_with fail
  clear zz_a_0 zz_w0_0 zz_x_0
  obtain ⟨w28, hw28⟩ : ∃ w28, w25.alloc (.cells #[.slice Ag Y.length cg] 31) = w28 := ⟨_, rfl⟩
  try rw [hw28]
  have q29 : Chg NoB w25 w28 := by rw [← hw28]; exact (Chg.refl _ _).alloc _
  have bq29 : Blk w28 w25.heap.size 31 #[.slice Ag Y.length cg] := by rw [← hw28]; exact Blk.new _ _ _
  have sq29 : w28.heap.size = w25.heap.size + 1 := by rw [← hw28]; exact World.size_alloc ..
  clear hw28
  replace HCH := Lib.hid (HCH.out.trans q29)
  replace HB_a := Lib.hid (HB_a.out.chg q29 (fun x => x))
  replace z_a_0 := Chg.cell q29 z_a_0 (fun x => x)
  replace HB_w0 := Lib.hid (HB_w0.out.chg q29 (fun x => x))
  replace z_w0_0 := Chg.cell q29 z_w0_0 (fun x => x)
  replace HB_x := Lib.hid (HB_x.out.chg q29 (fun x => x))
  replace z_x_0 := Chg.cell q29 z_x_0 (fun x => x)
  replace HD := Lib.hid (HD.out.new q29)
  replace HX := Lib.hid (HX.out.new q29)
  replace Rw0 := Lib.hid (Rw0.out.new q29)
  replace RD1 := Lib.hid (RD1.out.new q29)
  replace OD1 := Lib.hid (OD1.out.new q29)
  replace RX1 := Lib.hid (RX1.out.new q29)
  replace OX1 := Lib.hid (OX1.out.new q29)
  replace RG := Lib.hid (RG.out.new q29)
  replace OG := Lib.hid (OG.out.new q29)
  have S30 := Lib.hid q29.size
  have S31 := Lib.hid sq29
  have HB_g0 := Lib.hid bq29
  have z_g0_0 : w28.cell? ⟨w25.heap.size, 0, none⟩ = some (.slice Ag Y.length cg) := (HB_g0.out.cell _).trans rfl
  clear q29 sq29 bq29
  refine (eqTable_t _ _ _ _ _ _ Y _ RG.out Rw0.out HYS.out.2.1 HYS.out.2.2).mono ?_
  rintro e w32 ⟨rfl, hc33⟩
  replace HCH := Lib.hid (HCH.out.trans hc33)
  replace HB_a := Lib.hid (HB_a.out.chg hc33 (fun x => x))
  replace z_a_0 := Chg.cell hc33 z_a_0 (fun x => x)
  replace HB_w0 := Lib.hid (HB_w0.out.chg hc33 (fun x => x))
  replace z_w0_0 := Chg.cell hc33 z_w0_0 (fun x => x)
  replace HB_x := Lib.hid (HB_x.out.chg hc33 (fun x => x))
  replace z_x_0 := Chg.cell hc33 z_x_0 (fun x => x)
  replace HB_g0 := Lib.hid (HB_g0.out.chg hc33 (fun x => x))
  replace z_g0_0 := Chg.cell hc33 z_g0_0 (fun x => x)
  replace HD := Lib.hid (HD.out.new hc33)
  replace HX := Lib.hid (HX.out.new hc33)
  replace Rw0 := Lib.hid (Rw0.out.new hc33)
  replace RD1 := Lib.hid (RD1.out.new hc33)
  replace OD1 := Lib.hid (OD1.out.new hc33)
  replace RX1 := Lib.hid (RX1.out.new hc33)
  replace OX1 := Lib.hid (OX1.out.new hc33)
  replace RG := Lib.hid (RG.out.new hc33)
  replace OG := Lib.hid (OG.out.new hc33)
  have S34 := Lib.hid hc33.size
  clear hc33
  go_wp2_with fail
  refine (toBlockS_any _ A c D _ HD.out HL.out HPP.out).mono ?_
  rintro e w35 ⟨gD2, TD2, rfl, hTD2, hc36, hOD2⟩
  have LOD2 := Lib.hid (show True from trivial)
  replace HCH := Lib.hid (HCH.out.trans hc36)
  replace HB_a := Lib.hid (HB_a.out.chg hc36 (fun x => x))
  replace z_a_0 := Chg.cell hc36 z_a_0 (fun x => x)
  replace HB_w0 := Lib.hid (HB_w0.out.chg hc36 (fun x => x))
  replace z_w0_0 := Chg.cell hc36 z_w0_0 (fun x => x)
  replace HB_x := Lib.hid (HB_x.out.chg hc36 (fun x => x))
  replace z_x_0 := Chg.cell hc36 z_x_0 (fun x => x)
  replace HB_g0 := Lib.hid (HB_g0.out.chg hc36 (fun x => x))
  replace z_g0_0 := Chg.cell hc36 z_g0_0 (fun x => x)
  replace HD := Lib.hid (HD.out.new hc36)
  replace HX := Lib.hid (HX.out.new hc36)
  replace Rw0 := Lib.hid (Rw0.out.new hc36)
  replace RD1 := Lib.hid (RD1.out.new hc36)
  replace OD1 := Lib.hid (OD1.out.new hc36)
  replace RX1 := Lib.hid (RX1.out.new hc36)
  replace OX1 := Lib.hid (OX1.out.new hc36)
  replace RG := Lib.hid (RG.out.new hc36)
  replace OG := Lib.hid (OG.out.new hc36)
  have S37 := Lib.hid hc36.size
  have hRD2 := hOD2.reads
  rw [hTD2] at hRD2
  have RD2 := Lib.hid hRD2
  have OD2 := Lib.hid hOD2
  have HTD2 := Lib.hid hTD2
  clear hRD2 hOD2 hTD2 hc36 LOD2
  go_wp2_with fail
  refine (eqBlockS_t _ _ _ _ _ _ D _ RD1.out RD2.out HS.out).mono ?_
  rintro e w38 ⟨rfl, hc39⟩
  replace HCH := Lib.hid (HCH.out.trans hc39)
  replace HB_a := Lib.hid (HB_a.out.chg hc39 (fun x => x))
  replace z_a_0 := Chg.cell hc39 z_a_0 (fun x => x)
  replace HB_w0 := Lib.hid (HB_w0.out.chg hc39 (fun x => x))
  replace z_w0_0 := Chg.cell hc39 z_w0_0 (fun x => x)
  replace HB_x := Lib.hid (HB_x.out.chg hc39 (fun x => x))
  replace z_x_0 := Chg.cell hc39 z_x_0 (fun x => x)
  replace HB_g0 := Lib.hid (HB_g0.out.chg hc39 (fun x => x))
  replace z_g0_0 := Chg.cell hc39 z_g0_0 (fun x => x)
  replace HD := Lib.hid (HD.out.new hc39)
  replace HX := Lib.hid (HX.out.new hc39)
  replace Rw0 := Lib.hid (Rw0.out.new hc39)
  replace RD1 := Lib.hid (RD1.out.new hc39)
  replace OD1 := Lib.hid (OD1.out.new hc39)
  replace RX1 := Lib.hid (RX1.out.new hc39)
  replace OX1 := Lib.hid (OX1.out.new hc39)
  replace RG := Lib.hid (RG.out.new hc39)
  replace OG := Lib.hid (OG.out.new hc39)
  replace RD2 := Lib.hid (RD2.out.new hc39)
  replace OD2 := Lib.hid (OD2.out.new hc39)
  have S40 := Lib.hid hc39.size
  clear hc39
  clear RD2
  clear OD2
  go_wp2_with fail
  go_region_held3 (fun w' => w'.cell? ⟨w.heap.size, 0, none⟩ = some (.slice B X.length d) ∧ w'.cell? ⟨w18.heap.size, 0, none⟩ = some (.slice (some ⟨gX1, 0, none⟩) X.length X.length))
    (first | go_keep | exact ⟨hcc.cell (by assumption) (fun x => x), hcc.cell (by assumption) (fun x => x)⟩ | exact ⟨(HK.out.trans hcc).cell (by assumption) (fun x => x), (HK.out.trans hcc).cell (by assumption) (fun x => x)⟩)
    (first
      | (go_at_call 23; refine (toTable_any _ B d X _ (HX.out.new (Chg.refl NoB w38).drew) HTX.out).mono ?_; rintro e' wt ⟨gt, Tt, rfl, hTt, hcc, hOt⟩; have HK := Lib.hid hcc; have HRT := Lib.hid (show TabR _ wt _ X from hTt ▸ hOt.reads))
      | (go_at_call 27; refine (eqTable_t _ _ _ _ _ _ X _ ((RX1.out.new (Chg.refl NoB w38).drew).new HK.out) HRT.out HXL.out HXR.out).mono ?_; rintro e' we ⟨rfl, hcc⟩))
  have hrg : Chg NoB w38 we := ((Chg.refl NoB w38).drew.trans HK.out).trans hcc
  replace HCH := Lib.hid (HCH.out.trans hrg)
  replace HB_a := Lib.hid (HB_a.out.chg hrg (fun x => x))
  replace z_a_0 := Chg.cell hrg z_a_0 (fun x => x)
  replace HB_w0 := Lib.hid (HB_w0.out.chg hrg (fun x => x))
  replace z_w0_0 := Chg.cell hrg z_w0_0 (fun x => x)
  replace HB_x := Lib.hid (HB_x.out.chg hrg (fun x => x))
  replace z_x_0 := Chg.cell hrg z_x_0 (fun x => x)
  replace HB_g0 := Lib.hid (HB_g0.out.chg hrg (fun x => x))
  replace z_g0_0 := Chg.cell hrg z_g0_0 (fun x => x)
  replace HD := Lib.hid (HD.out.new hrg)
  replace HX := Lib.hid (HX.out.new hrg)
  replace Rw0 := Lib.hid (Rw0.out.new hrg)
  replace RD1 := Lib.hid (RD1.out.new hrg)
  replace OD1 := Lib.hid (OD1.out.new hrg)
  replace RX1 := Lib.hid (RX1.out.new hrg)
  replace OX1 := Lib.hid (OX1.out.new hrg)
  replace RG := Lib.hid (RG.out.new hrg)
  replace OG := Lib.hid (OG.out.new hrg)
  have S41 := Lib.hid hrg.size
  clear hrg hcc HK HRT hTt hOt
  have HTL := Lib.hid (show TD1.length = D.length by rw [← HTD1.out, bksOf_length])
  have hmkd := markBlockS_any _ _ (some ⟨gD1, 0, none⟩) D.length TD1 1 we OD1.out (fun r hr => by
      obtain ⟨j, hj, rfl⟩ := List.getElem_of_mem hr
      have hj' : j < D.length := by rw [← HTL.out]; exact hj
      have hp := HPP.out j hj'
      have e : D[j] = TD1[j].bk := by
        have : D[j]? = some TD1[j].bk := by rw [← HTD1.out]; unfold bksOf; rw [List.getElem?_map, List.getElem?_eq_getElem hj]; rfl
        exact (List.getElem?_eq_some_iff.1 this).2
      rw [e] at hp
      exact hp) (by rw [HTL.out]; exact HL.out) (by omega) (by have := endT_size TD1 1; rw [HTD1.out] at this; have := HSZ.out; omega)
  rw [HTL.out] at hmkd
  have HMKD := Lib.hid hmkd
  clear hmkd
  go_wp2_with fail
  refine (HMKD.out).mono ?_
  rintro e w42 ⟨rfl, hc43, -⟩
  clear RD1
  replace HCH := Lib.hid (HCH.out.trans' hc43 (fun i hi => .inr (by have := S3.out; have := S4.out; have := S7.out; have := S10.out; have := S13.out; have := HBX1.out; have := S14.out; have := S17.out; have := S20.out; have := S23.out; have := S24.out; have := S27.out; have := S30.out; have := S31.out; have := S34.out; have := S37.out; have := S40.out; have := S41.out; omega)))
  replace HB_a := Lib.hid (HB_a.out.chg hc43 (by have := S3.out; have := S4.out; have := S7.out; have := S10.out; have := S13.out; have := HBX1.out; have := S14.out; have := S17.out; have := S20.out; have := S23.out; have := S24.out; have := S27.out; have := S30.out; have := S31.out; have := S34.out; have := S37.out; have := S40.out; have := S41.out; omega))
  replace z_a_0 := Chg.cell hc43 z_a_0 (by simp only; have := S3.out; have := S4.out; have := S7.out; have := S10.out; have := S13.out; have := HBX1.out; have := S14.out; have := S17.out; have := S20.out; have := S23.out; have := S24.out; have := S27.out; have := S30.out; have := S31.out; have := S34.out; have := S37.out; have := S40.out; have := S41.out; omega)
  replace HB_w0 := Lib.hid (HB_w0.out.chg hc43 (by have := S3.out; have := S4.out; have := S7.out; have := S10.out; have := S13.out; have := HBX1.out; have := S14.out; have := S17.out; have := S20.out; have := S23.out; have := S24.out; have := S27.out; have := S30.out; have := S31.out; have := S34.out; have := S37.out; have := S40.out; have := S41.out; omega))
  replace z_w0_0 := Chg.cell hc43 z_w0_0 (by simp only; have := S3.out; have := S4.out; have := S7.out; have := S10.out; have := S13.out; have := HBX1.out; have := S14.out; have := S17.out; have := S20.out; have := S23.out; have := S24.out; have := S27.out; have := S30.out; have := S31.out; have := S34.out; have := S37.out; have := S40.out; have := S41.out; omega)
  replace HB_x := Lib.hid (HB_x.out.chg hc43 (by have := S3.out; have := S4.out; have := S7.out; have := S10.out; have := S13.out; have := HBX1.out; have := S14.out; have := S17.out; have := S20.out; have := S23.out; have := S24.out; have := S27.out; have := S30.out; have := S31.out; have := S34.out; have := S37.out; have := S40.out; have := S41.out; omega))
  replace z_x_0 := Chg.cell hc43 z_x_0 (by simp only; have := S3.out; have := S4.out; have := S7.out; have := S10.out; have := S13.out; have := HBX1.out; have := S14.out; have := S17.out; have := S20.out; have := S23.out; have := S24.out; have := S27.out; have := S30.out; have := S31.out; have := S34.out; have := S37.out; have := S40.out; have := S41.out; omega)
  replace HB_g0 := Lib.hid (HB_g0.out.chg hc43 (by have := S3.out; have := S4.out; have := S7.out; have := S10.out; have := S13.out; have := HBX1.out; have := S14.out; have := S17.out; have := S20.out; have := S23.out; have := S24.out; have := S27.out; have := S30.out; have := S31.out; have := S34.out; have := S37.out; have := S40.out; have := S41.out; omega))
  replace z_g0_0 := Chg.cell hc43 z_g0_0 (by simp only; have := S3.out; have := S4.out; have := S7.out; have := S10.out; have := S13.out; have := HBX1.out; have := S14.out; have := S17.out; have := S20.out; have := S23.out; have := S24.out; have := S27.out; have := S30.out; have := S31.out; have := S34.out; have := S37.out; have := S40.out; have := S41.out; omega)
  replace HD := Lib.hid (HD.out.chg hc43 (fun i h1 h2 => by have := S3.out; have := S4.out; have := S7.out; have := S10.out; have := S13.out; have := HBX1.out; have := S14.out; have := S17.out; have := S20.out; have := S23.out; have := S24.out; have := S27.out; have := S30.out; have := S31.out; have := S34.out; have := S37.out; have := S40.out; have := S41.out; omega))
  replace HX := Lib.hid (HX.out.chg hc43 (fun i h1 h2 => by have := S3.out; have := S4.out; have := S7.out; have := S10.out; have := S13.out; have := HBX1.out; have := S14.out; have := S17.out; have := S20.out; have := S23.out; have := S24.out; have := S27.out; have := S30.out; have := S31.out; have := S34.out; have := S37.out; have := S40.out; have := S41.out; omega))
  replace Rw0 := Lib.hid (Rw0.out.chg hc43 (fun i h1 h2 => by have := S3.out; have := S4.out; have := S7.out; have := S10.out; have := S13.out; have := HBX1.out; have := S14.out; have := S17.out; have := S20.out; have := S23.out; have := S24.out; have := S27.out; have := S30.out; have := S31.out; have := S34.out; have := S37.out; have := S40.out; have := S41.out; omega))
  replace RX1 := Lib.hid (RX1.out.chg hc43 (fun i h1 h2 => by have := S3.out; have := S4.out; have := S7.out; have := S10.out; have := S13.out; have := HBX1.out; have := S14.out; have := S17.out; have := S20.out; have := S23.out; have := S24.out; have := S27.out; have := S30.out; have := S31.out; have := S34.out; have := S37.out; have := S40.out; have := S41.out; omega))
  replace OX1 := Lib.hid (OX1.out.chg hc43 (fun i h1 h2 h3 => by have := S3.out; have := S4.out; have := S7.out; have := S10.out; have := S13.out; have := HBX1.out; have := S14.out; have := S17.out; have := S20.out; have := S23.out; have := S24.out; have := S27.out; have := S30.out; have := S31.out; have := S34.out; have := S37.out; have := S40.out; have := S41.out; omega))
  replace RG := Lib.hid (RG.out.chg hc43 (fun i h1 h2 => by have := S3.out; have := S4.out; have := S7.out; have := S10.out; have := S13.out; have := HBX1.out; have := S14.out; have := S17.out; have := S20.out; have := S23.out; have := S24.out; have := S27.out; have := S30.out; have := S31.out; have := S34.out; have := S37.out; have := S40.out; have := S41.out; omega))
  replace OG := Lib.hid (OG.out.chg hc43 (fun i h1 h2 h3 => by have := S3.out; have := S4.out; have := S7.out; have := S10.out; have := S13.out; have := HBX1.out; have := S14.out; have := S17.out; have := S20.out; have := S23.out; have := S24.out; have := S27.out; have := S30.out; have := S31.out; have := S34.out; have := S37.out; have := S40.out; have := S41.out; omega))
  have S44 := Lib.hid hc43.size
  clear OD1 hc43
  have hke := endT_le TD1 1
  have hke2 : endT TD1 1 ≤ 10000000 := by have := endT_size TD1 1; rw [HTD1.out] at this; have := HSZ.out; omega
  have HKE := Lib.hid (And.intro hke hke2)
  obtain ⟨kd, hkd⟩ : ∃ kd, endT TD1 1 = kd := ⟨_, rfl⟩
  rw [hkd] at HKE hke hke2 ⊢
  clear hkd
  have HTXL := Lib.hid (show TX1.length = X.length by rw [← HTX1.out, listsOf_length])
  have hmkt := markTable_any _ _ (some ⟨gX1, 0, none⟩) X.length TX1 kd w42 OX1.out (by rw [HTX1.out]; exact HTX.out) (by have := HKE.out; omega) (by have := HKE.out; omega)
  rw [HTXL.out, HTX1.out] at hmkt
  have HMKT := Lib.hid hmkt
  clear hmkt
  go_wp2_with fail
  refine (HMKT.out).mono ?_
  rintro e w45 ⟨TXm, rfl, hc46, -, -, -⟩
  clear RX1
  replace HCH := Lib.hid (HCH.out.trans' hc46 (fun i hi => .inr (by have := S3.out; have := S4.out; have := S7.out; have := S10.out; have := S13.out; have := HBX1.out; have := S14.out; have := S17.out; have := S20.out; have := S23.out; have := S24.out; have := S27.out; have := S30.out; have := S31.out; have := S34.out; have := S37.out; have := S40.out; have := S41.out; have := S44.out; omega)))
  replace HB_a := Lib.hid (HB_a.out.chg hc46 (by have := S3.out; have := S4.out; have := S7.out; have := S10.out; have := S13.out; have := HBX1.out; have := S14.out; have := S17.out; have := S20.out; have := S23.out; have := S24.out; have := S27.out; have := S30.out; have := S31.out; have := S34.out; have := S37.out; have := S40.out; have := S41.out; have := S44.out; omega))
  replace z_a_0 := Chg.cell hc46 z_a_0 (by simp only; have := S3.out; have := S4.out; have := S7.out; have := S10.out; have := S13.out; have := HBX1.out; have := S14.out; have := S17.out; have := S20.out; have := S23.out; have := S24.out; have := S27.out; have := S30.out; have := S31.out; have := S34.out; have := S37.out; have := S40.out; have := S41.out; have := S44.out; omega)
  replace HB_w0 := Lib.hid (HB_w0.out.chg hc46 (by have := S3.out; have := S4.out; have := S7.out; have := S10.out; have := S13.out; have := HBX1.out; have := S14.out; have := S17.out; have := S20.out; have := S23.out; have := S24.out; have := S27.out; have := S30.out; have := S31.out; have := S34.out; have := S37.out; have := S40.out; have := S41.out; have := S44.out; omega))
  replace z_w0_0 := Chg.cell hc46 z_w0_0 (by simp only; have := S3.out; have := S4.out; have := S7.out; have := S10.out; have := S13.out; have := HBX1.out; have := S14.out; have := S17.out; have := S20.out; have := S23.out; have := S24.out; have := S27.out; have := S30.out; have := S31.out; have := S34.out; have := S37.out; have := S40.out; have := S41.out; have := S44.out; omega)
  replace HB_x := Lib.hid (HB_x.out.chg hc46 (by have := S3.out; have := S4.out; have := S7.out; have := S10.out; have := S13.out; have := HBX1.out; have := S14.out; have := S17.out; have := S20.out; have := S23.out; have := S24.out; have := S27.out; have := S30.out; have := S31.out; have := S34.out; have := S37.out; have := S40.out; have := S41.out; have := S44.out; omega))
  replace z_x_0 := Chg.cell hc46 z_x_0 (by simp only; have := S3.out; have := S4.out; have := S7.out; have := S10.out; have := S13.out; have := HBX1.out; have := S14.out; have := S17.out; have := S20.out; have := S23.out; have := S24.out; have := S27.out; have := S30.out; have := S31.out; have := S34.out; have := S37.out; have := S40.out; have := S41.out; have := S44.out; omega)
  replace HB_g0 := Lib.hid (HB_g0.out.chg hc46 (by have := S3.out; have := S4.out; have := S7.out; have := S10.out; have := S13.out; have := HBX1.out; have := S14.out; have := S17.out; have := S20.out; have := S23.out; have := S24.out; have := S27.out; have := S30.out; have := S31.out; have := S34.out; have := S37.out; have := S40.out; have := S41.out; have := S44.out; omega))
  replace z_g0_0 := Chg.cell hc46 z_g0_0 (by simp only; have := S3.out; have := S4.out; have := S7.out; have := S10.out; have := S13.out; have := HBX1.out; have := S14.out; have := S17.out; have := S20.out; have := S23.out; have := S24.out; have := S27.out; have := S30.out; have := S31.out; have := S34.out; have := S37.out; have := S40.out; have := S41.out; have := S44.out; omega)
  replace HD := Lib.hid (HD.out.chg hc46 (fun i h1 h2 => by have := S3.out; have := S4.out; have := S7.out; have := S10.out; have := S13.out; have := HBX1.out; have := S14.out; have := S17.out; have := S20.out; have := S23.out; have := S24.out; have := S27.out; have := S30.out; have := S31.out; have := S34.out; have := S37.out; have := S40.out; have := S41.out; have := S44.out; omega))
  replace HX := Lib.hid (HX.out.chg hc46 (fun i h1 h2 => by have := S3.out; have := S4.out; have := S7.out; have := S10.out; have := S13.out; have := HBX1.out; have := S14.out; have := S17.out; have := S20.out; have := S23.out; have := S24.out; have := S27.out; have := S30.out; have := S31.out; have := S34.out; have := S37.out; have := S40.out; have := S41.out; have := S44.out; omega))
  replace Rw0 := Lib.hid (Rw0.out.chg hc46 (fun i h1 h2 => by have := S3.out; have := S4.out; have := S7.out; have := S10.out; have := S13.out; have := HBX1.out; have := S14.out; have := S17.out; have := S20.out; have := S23.out; have := S24.out; have := S27.out; have := S30.out; have := S31.out; have := S34.out; have := S37.out; have := S40.out; have := S41.out; have := S44.out; omega))
  replace RG := Lib.hid (RG.out.chg hc46 (fun i h1 h2 => by have := S3.out; have := S4.out; have := S7.out; have := S10.out; have := S13.out; have := HBX1.out; have := S14.out; have := S17.out; have := S20.out; have := S23.out; have := S24.out; have := S27.out; have := S30.out; have := S31.out; have := S34.out; have := S37.out; have := S40.out; have := S41.out; have := S44.out; omega))
  replace OG := Lib.hid (OG.out.chg hc46 (fun i h1 h2 h3 => by have := S3.out; have := S4.out; have := S7.out; have := S10.out; have := S13.out; have := HBX1.out; have := S14.out; have := S17.out; have := S20.out; have := S23.out; have := S24.out; have := S27.out; have := S30.out; have := S31.out; have := S34.out; have := S37.out; have := S40.out; have := S41.out; have := S44.out; omega))
  have S47 := Lib.hid hc46.size
  clear OX1 hc46
  have hk0 : ¬ (kd + ((lens X : Nat) : Int) < 0) := by omega
  go_wp2_with fail
  refine (eqTable_t _ _ _ _ _ _ Y _ RG.out Rw0.out HYS.out.2.1 HYS.out.2.2).mono ?_
  rintro e w48 ⟨rfl, hc49⟩
  replace HCH := Lib.hid (HCH.out.trans hc49)
  replace HB_a := Lib.hid (HB_a.out.chg hc49 (fun x => x))
  replace z_a_0 := Chg.cell hc49 z_a_0 (fun x => x)
  replace HB_w0 := Lib.hid (HB_w0.out.chg hc49 (fun x => x))
  replace z_w0_0 := Chg.cell hc49 z_w0_0 (fun x => x)
  replace HB_x := Lib.hid (HB_x.out.chg hc49 (fun x => x))
  replace z_x_0 := Chg.cell hc49 z_x_0 (fun x => x)
  replace HB_g0 := Lib.hid (HB_g0.out.chg hc49 (fun x => x))
  replace z_g0_0 := Chg.cell hc49 z_g0_0 (fun x => x)
  replace HD := Lib.hid (HD.out.new hc49)
  replace HX := Lib.hid (HX.out.new hc49)
  replace Rw0 := Lib.hid (Rw0.out.new hc49)
  replace RG := Lib.hid (RG.out.new hc49)
  replace OG := Lib.hid (OG.out.new hc49)
  have S50 := Lib.hid hc49.size
  clear hc49
  go_wp2_with fail
  have hmk := markTable_any _ _ _ _ Tg 1 w48 OG.out (by rw [HXG.out]; exact HYS.out.1) (by omega) (by omega)
  rw [HLG.out, HXG.out] at hmk
  have HMK := Lib.hid hmk
  clear hmk
  refine (HMK.out).mono ?_
  rintro e w51 ⟨T1m, rfl, hc52, hTm, hTml, hOm⟩
  clear RG
  replace HCH := Lib.hid (HCH.out.trans' hc52 (fun i hi => .inr (by have := S3.out; have := S4.out; have := S7.out; have := S10.out; have := S13.out; have := HBX1.out; have := S14.out; have := S17.out; have := S20.out; have := S23.out; have := S24.out; have := S27.out; have := S30.out; have := S31.out; have := S34.out; have := S37.out; have := S40.out; have := S41.out; have := S44.out; have := S47.out; have := S50.out; omega)))
  replace HB_a := Lib.hid (HB_a.out.chg hc52 (by have := S3.out; have := S4.out; have := S7.out; have := S10.out; have := S13.out; have := HBX1.out; have := S14.out; have := S17.out; have := S20.out; have := S23.out; have := S24.out; have := S27.out; have := S30.out; have := S31.out; have := S34.out; have := S37.out; have := S40.out; have := S41.out; have := S44.out; have := S47.out; have := S50.out; omega))
  replace z_a_0 := Chg.cell hc52 z_a_0 (by simp only; have := S3.out; have := S4.out; have := S7.out; have := S10.out; have := S13.out; have := HBX1.out; have := S14.out; have := S17.out; have := S20.out; have := S23.out; have := S24.out; have := S27.out; have := S30.out; have := S31.out; have := S34.out; have := S37.out; have := S40.out; have := S41.out; have := S44.out; have := S47.out; have := S50.out; omega)
  replace HB_w0 := Lib.hid (HB_w0.out.chg hc52 (by have := S3.out; have := S4.out; have := S7.out; have := S10.out; have := S13.out; have := HBX1.out; have := S14.out; have := S17.out; have := S20.out; have := S23.out; have := S24.out; have := S27.out; have := S30.out; have := S31.out; have := S34.out; have := S37.out; have := S40.out; have := S41.out; have := S44.out; have := S47.out; have := S50.out; omega))
  replace z_w0_0 := Chg.cell hc52 z_w0_0 (by simp only; have := S3.out; have := S4.out; have := S7.out; have := S10.out; have := S13.out; have := HBX1.out; have := S14.out; have := S17.out; have := S20.out; have := S23.out; have := S24.out; have := S27.out; have := S30.out; have := S31.out; have := S34.out; have := S37.out; have := S40.out; have := S41.out; have := S44.out; have := S47.out; have := S50.out; omega)
  replace HB_x := Lib.hid (HB_x.out.chg hc52 (by have := S3.out; have := S4.out; have := S7.out; have := S10.out; have := S13.out; have := HBX1.out; have := S14.out; have := S17.out; have := S20.out; have := S23.out; have := S24.out; have := S27.out; have := S30.out; have := S31.out; have := S34.out; have := S37.out; have := S40.out; have := S41.out; have := S44.out; have := S47.out; have := S50.out; omega))
  replace z_x_0 := Chg.cell hc52 z_x_0 (by simp only; have := S3.out; have := S4.out; have := S7.out; have := S10.out; have := S13.out; have := HBX1.out; have := S14.out; have := S17.out; have := S20.out; have := S23.out; have := S24.out; have := S27.out; have := S30.out; have := S31.out; have := S34.out; have := S37.out; have := S40.out; have := S41.out; have := S44.out; have := S47.out; have := S50.out; omega)
  replace HB_g0 := Lib.hid (HB_g0.out.chg hc52 (by have := S3.out; have := S4.out; have := S7.out; have := S10.out; have := S13.out; have := HBX1.out; have := S14.out; have := S17.out; have := S20.out; have := S23.out; have := S24.out; have := S27.out; have := S30.out; have := S31.out; have := S34.out; have := S37.out; have := S40.out; have := S41.out; have := S44.out; have := S47.out; have := S50.out; omega))
  replace z_g0_0 := Chg.cell hc52 z_g0_0 (by simp only; have := S3.out; have := S4.out; have := S7.out; have := S10.out; have := S13.out; have := HBX1.out; have := S14.out; have := S17.out; have := S20.out; have := S23.out; have := S24.out; have := S27.out; have := S30.out; have := S31.out; have := S34.out; have := S37.out; have := S40.out; have := S41.out; have := S44.out; have := S47.out; have := S50.out; omega)
  replace HD := Lib.hid (HD.out.chg hc52 (fun i h1 h2 => by have := S3.out; have := S4.out; have := S7.out; have := S10.out; have := S13.out; have := HBX1.out; have := S14.out; have := S17.out; have := S20.out; have := S23.out; have := S24.out; have := S27.out; have := S30.out; have := S31.out; have := S34.out; have := S37.out; have := S40.out; have := S41.out; have := S44.out; have := S47.out; have := S50.out; omega))
  replace HX := Lib.hid (HX.out.chg hc52 (fun i h1 h2 => by have := S3.out; have := S4.out; have := S7.out; have := S10.out; have := S13.out; have := HBX1.out; have := S14.out; have := S17.out; have := S20.out; have := S23.out; have := S24.out; have := S27.out; have := S30.out; have := S31.out; have := S34.out; have := S37.out; have := S40.out; have := S41.out; have := S44.out; have := S47.out; have := S50.out; omega))
  replace Rw0 := Lib.hid (Rw0.out.chg hc52 (fun i h1 h2 => by have := S3.out; have := S4.out; have := S7.out; have := S10.out; have := S13.out; have := HBX1.out; have := S14.out; have := S17.out; have := S20.out; have := S23.out; have := S24.out; have := S27.out; have := S30.out; have := S31.out; have := S34.out; have := S37.out; have := S40.out; have := S41.out; have := S44.out; have := S47.out; have := S50.out; omega))
  have S53 := Lib.hid hc52.size
  clear hc52
  clear OG
  have hRm := hOm.reads
  rw [hTm] at hRm
  have RM := Lib.hid hRm
  clear hRm hOm hTm hTml
  have hm0 : ¬ ((1 : Int) + ((lens Y : Nat) : Int) < 0) := by omega
  have hmm : (((1 : Int) + ((lens Y : Nat) : Int)) != ((1 : Int) + ((lens Y : Nat) : Int))) = false := by simp
  go_wp2_with fail
  refine (heldTable_any _ _ _ Y 1 _ RM.out HYS.out.1 (by omega) (by omega)).mono ?_
  rintro e w54 ⟨rfl, hc55⟩
  replace HCH := Lib.hid (HCH.out.trans hc55)
  replace HB_a := Lib.hid (HB_a.out.chg hc55 (fun x => x))
  replace z_a_0 := Chg.cell hc55 z_a_0 (fun x => x)
  replace HB_w0 := Lib.hid (HB_w0.out.chg hc55 (fun x => x))
  replace z_w0_0 := Chg.cell hc55 z_w0_0 (fun x => x)
  replace HB_x := Lib.hid (HB_x.out.chg hc55 (fun x => x))
  replace z_x_0 := Chg.cell hc55 z_x_0 (fun x => x)
  replace HB_g0 := Lib.hid (HB_g0.out.chg hc55 (fun x => x))
  replace z_g0_0 := Chg.cell hc55 z_g0_0 (fun x => x)
  replace HD := Lib.hid (HD.out.new hc55)
  replace HX := Lib.hid (HX.out.new hc55)
  replace Rw0 := Lib.hid (Rw0.out.new hc55)
  replace RM := Lib.hid (RM.out.new hc55)
  have S56 := Lib.hid hc55.size
  clear hc55
  go_wp2_with fail
  refine wp_region_rg (WInv := fun _ m w5 => Chg NoB w54 w5 ∧ BoxI w54.heap.size 31 #[.slice none 0 0] 6 7 5 m w5) (R := RBox NoB w54.heap.size 31) (Post := PL [fun v _ => v = .slice A D.length c, fun v w => PDev w54.heap.size D v w, fun v _ => v = .agg #[.slice B X.length d], fun v w => PTab w54.heap.size X (fun t => t) v w, fun v _ => v = .int .i64 s, fun v w => PTab w54.heap.size Y (fun t => t) v w, fun _ _ => True, fun _ _ => True]) (by kernel_rfl) (by kernel_rfl) (fun _ _ _ _ h _ _ => h) (pl_stab ⟨(fun _ _ _ h _ => h), (fun _ _ _ h hR => PDev.box h hR), (fun _ _ _ h _ => h), (fun _ _ _ h hR => PTab.box h hR ints_tab' int_tab'), (fun _ _ _ h _ => h), (fun _ _ _ h hR => PTab.box h hR ints_tab' int_tab'), (fun _ _ _ _ _ => trivial), (fun _ _ _ _ _ => trivial), trivial⟩) ⟨(Chg.refl _ _).drew, BoxI.start⟩ ⟨?_, ?_, ?_, ?_, ?_, ?_, ?_, ?_, trivial⟩ ?_
  · rintro kc m a w5 hkc ⟨hch, hbx⟩ hm hn
    have e1 : a.tmps[0]?.getD undef = .slice A D.length c := hn.1
    exact rg_val (v := .slice A D.length c) (by simp [execOp, go_sem, e1]) rfl ⟨hch, hbx.keep (by decide) (by decide) hm (Chg.refl NoB _) (fun _ _ x => x)⟩ (Chg.refl _ _) rfl
  · rintro kc m a w5 hkc ⟨hch, hbx⟩ hm hn
    obtain ⟨⟨_, e1, _, rfl⟩, -⟩ := hn
    refine rg_call (f := 22) (args := #[.slice A D.length c]) (by simp [go_sem, e1]) rfl ?_
    refine (toBlockS_any _ A c D _ (HD.out.new hch) HL.out HPP.out).mono ?_
    rintro e w6 ⟨gx, Tx, rfl, hTx, hc6, hOx⟩
    exact ⟨_, rfl, ⟨hch.trans hc6, hbx.keep (by decide) (by decide) hm hc6 (fun _ _ x => x)⟩, RBox.of hc6 (fun _ x => x), ⟨gx, Tx, rfl, hOx.more hch.size (Nat.le_refl _), Lib.hid hTx⟩⟩
  · rintro kc m a w5 hkc ⟨hch, hbx⟩ hm hn
    have e1 : a.tmps[4]?.getD undef = .pointer (some ⟨w.heap.size, 0, none⟩) := hn.1
    have y0 := Chg.cell hch z_a_0 (fun x => x)
    exact rg_val (v := .agg #[.slice B X.length d]) (by simp [execOp, go_sem, e1, y0]) rfl ⟨hch, hbx.keep (by decide) (by decide) hm (Chg.refl NoB _) (fun _ _ x => x)⟩ (Chg.refl _ _) rfl
  · rintro kc m a w5 hkc ⟨hch, hbx⟩ hm hn
    obtain ⟨⟨_, e1, _, rfl⟩, -⟩ := hn
    refine rg_call (f := 23) (args := #[.agg #[.slice B X.length d]]) (by simp [go_sem, e1]) rfl ?_
    refine (toTable_any _ B d X _ (HX.out.new hch) HTX.out).mono ?_
    rintro e w6 ⟨gy, Ty, rfl, hTy, hc6, hOy⟩
    exact ⟨_, rfl, ⟨hch.trans hc6, hbx.keep (by decide) (by decide) hm hc6 (fun _ _ x => x)⟩, RBox.of hc6 (fun _ x => x), ⟨some ⟨gy, 0, none⟩, X.length, Ty, rfl, hOy.more hch.size (Nat.le_refl _), Lib.hid hTy⟩⟩
  · rintro kc m a w5 hkc ⟨hch, hbx⟩ hm hn
    have e1 : a.tmps[2]?.getD undef = .int .i64 s := hn.1
    exact rg_val (v := .int .i64 s) (by simp [execOp, go_sem, e1]) rfl ⟨hch, hbx.keep (by decide) (by decide) hm (Chg.refl NoB _) (fun _ _ x => x)⟩ (Chg.refl _ _) rfl
  · rintro kc m a w5 hkc ⟨hch, hbx⟩ hm hn
    obtain ⟨⟨v1, e1, _, hd1⟩, ⟨v3, e3, _, hd3⟩, ⟨_, e4, _, rfl⟩, -⟩ := hn
    obtain ⟨gx, rfl, hrx⟩ := PDev.rd hd1
    obtain ⟨Ay, cy, rfl, hry⟩ := PTab.rd hd3
    refine rg_call (f := 52) (args := #[.slice (some ⟨gx, 0, none⟩) D.length D.length, .agg #[.slice Ay X.length cy], .int .i64 s]) (by simp [go_sem, e1, e3, e4]) rfl ?_
    refine (iRollForward_any _ _ _ _ D _ _ X s _ hrx hry).mono ?_
    rintro e w6 ⟨Ar, cr, Tr, rfl, hX, hc6, hO⟩
    rw [HYE.out] at hX ⊢
    exact ⟨_, rfl, ⟨hch.trans hc6, hbx.keep (by decide) (by decide) hm hc6 (fun _ _ x => x)⟩, RBox.of hc6 (fun _ x => x), ⟨Ar, cr, Tr, rfl, hO.more hch.size (Nat.le_refl _), Lib.hid hX⟩⟩
  · rintro kc m a w5 hkc ⟨hch, hbx⟩ hm hn
    have hca : Chg NoB w5 (w5.alloc (.cells #[.slice none 0 0] 31)) := (Chg.refl _ _).alloc _
    exact rg_val (v := .pointer (some ⟨w5.heap.size, 0, none⟩)) (w' := w5.alloc (.cells #[.slice none 0 0] 31)) (by simp [execOp, go_sem]) rfl ⟨hch.alloc _, hbx.alloc (by decide) hm hch.size⟩ (RBox.of hca (fun _ x => x.elim)) trivial
  · rintro kc m a w5 hkc ⟨hch, hbx⟩ hm hn
    obtain ⟨⟨p, e1, hma, _⟩, ⟨v5, e2, hmv, hd5⟩, -⟩ := hn
    obtain ⟨Ar, cr, Tr, rfl, hO, hX⟩ := hd5
    obtain ⟨bx, rfl, hB, hb⟩ := hbx.ready hm hma
    have f0 := hb.frozen 0
    have x0 : w5.cell? ⟨bx, 0, none⟩ = some (.slice none 0 0) := (hb.cell _).trans rfl
    have hst : Chg (· = bx) w5 (w5.setCell ⟨bx, 0, none⟩ (.slice Ar Y.length cr)) := (Chg.refl (· = bx) w5).setCell (p := ⟨bx, 0, none⟩) (.inl rfl) _
    have hb' : Blk (w5.setCell ⟨bx, 0, none⟩ (.slice Ar Y.length cr)) bx 31 #[.slice Ar Y.length cr] := hb.set_ 0 _
    exact rg_skip (w' := w5.setCell ⟨bx, 0, none⟩ (.slice Ar Y.length cr)) (by simp [execOp, go_sem, e1, e2, x0, f0]) rfl ⟨hch.own hst hB, BoxI.store (by decide) (by decide) hma hB hmv hb'⟩ (RBox.box hst hB hb) trivial
  rintro m w57 ⟨hc58, hbx⟩
  simp only [AllVals]
  rintro rv0 m0 p0 rv1 m1 p1 rv2 m2 p2 rv3 m3 p3 rv4 m4 p4 rv5 m5 p5 rv6 m6 p6 rv7 m7 p7
  have p5x : PTab w54.heap.size Y (fun t => t) rv5 w57 := p5
  obtain ⟨Arh0, crh0, Trh0, rfl, hOh0, hXh0⟩ := p5x
  obtain ⟨bx2, rfl, hB2, hb2⟩ := hbx.done m6 m7 m5
  have HBX2 := Lib.hid hB2
  have hbb2 : Blk w57 bx2 31 #[.slice Arh0 Y.length crh0] := hb2
  clear hB2 hb2 hbx p5 p0 p1 p2 p3 p4 p6 p7
  simp only [Act.put, List.setIfInBounds_toArray, List.set_cons_succ, List.set_cons_zero]
  replace HCH := Lib.hid (HCH.out.trans hc58)
  replace HB_a := Lib.hid (HB_a.out.chg hc58 (fun x => x))
  replace z_a_0 := Chg.cell hc58 z_a_0 (fun x => x)
  replace HB_w0 := Lib.hid (HB_w0.out.chg hc58 (fun x => x))
  replace z_w0_0 := Chg.cell hc58 z_w0_0 (fun x => x)
  replace HB_x := Lib.hid (HB_x.out.chg hc58 (fun x => x))
  replace z_x_0 := Chg.cell hc58 z_x_0 (fun x => x)
  replace HB_g0 := Lib.hid (HB_g0.out.chg hc58 (fun x => x))
  replace z_g0_0 := Chg.cell hc58 z_g0_0 (fun x => x)
  replace HD := Lib.hid (HD.out.new hc58)
  replace HX := Lib.hid (HX.out.new hc58)
  replace Rw0 := Lib.hid (Rw0.out.new hc58)
  replace RM := Lib.hid (RM.out.new hc58)
  have S59 := Lib.hid hc58.size
  have S60 := Lib.hid hbb2.lt
  have HB_h0 := Lib.hid hbb2
  have z_h0_0 : w57.cell? ⟨bx2, 0, none⟩ = some (.slice Arh0 Y.length crh0) := (HB_h0.out.cell _).trans rfl
  clear hbb2 hc58
  have hRh0 := hOh0.reads
  rw [hXh0.out] at hRh0
  have Rh0 := Lib.hid hRh0
  clear hRh0 hOh0
  go_wp2_with fail
  refine (eqTable_t _ _ _ _ _ _ Y _ Rh0.out Rw0.out HYS.out.2.1 HYS.out.2.2).mono ?_
  rintro e w61 ⟨rfl, hc62⟩
  replace HCH := Lib.hid (HCH.out.trans hc62)
  replace HB_a := Lib.hid (HB_a.out.chg hc62 (fun x => x))
  replace z_a_0 := Chg.cell hc62 z_a_0 (fun x => x)
  replace HB_w0 := Lib.hid (HB_w0.out.chg hc62 (fun x => x))
  replace z_w0_0 := Chg.cell hc62 z_w0_0 (fun x => x)
  replace HB_x := Lib.hid (HB_x.out.chg hc62 (fun x => x))
  replace z_x_0 := Chg.cell hc62 z_x_0 (fun x => x)
  replace HB_g0 := Lib.hid (HB_g0.out.chg hc62 (fun x => x))
  replace z_g0_0 := Chg.cell hc62 z_g0_0 (fun x => x)
  replace HB_h0 := Lib.hid (HB_h0.out.chg hc62 (fun x => x))
  replace z_h0_0 := Chg.cell hc62 z_h0_0 (fun x => x)
  replace HD := Lib.hid (HD.out.new hc62)
  replace HX := Lib.hid (HX.out.new hc62)
  replace Rw0 := Lib.hid (Rw0.out.new hc62)
  replace RM := Lib.hid (RM.out.new hc62)
  replace Rh0 := Lib.hid (Rh0.out.new hc62)
  have S63 := Lib.hid hc62.size
  clear hc62
  go_wp2_with fail
  refine (heldTable_any _ _ _ Y 1 _ RM.out HYS.out.1 (by omega) (by omega)).mono ?_
  rintro e w64 ⟨rfl, hc65⟩
  replace HCH := Lib.hid (HCH.out.trans hc65)
  replace HB_a := Lib.hid (HB_a.out.chg hc65 (fun x => x))
  replace z_a_0 := Chg.cell hc65 z_a_0 (fun x => x)
  replace HB_w0 := Lib.hid (HB_w0.out.chg hc65 (fun x => x))
  replace z_w0_0 := Chg.cell hc65 z_w0_0 (fun x => x)
  replace HB_x := Lib.hid (HB_x.out.chg hc65 (fun x => x))
  replace z_x_0 := Chg.cell hc65 z_x_0 (fun x => x)
  replace HB_g0 := Lib.hid (HB_g0.out.chg hc65 (fun x => x))
  replace z_g0_0 := Chg.cell hc65 z_g0_0 (fun x => x)
  replace HB_h0 := Lib.hid (HB_h0.out.chg hc65 (fun x => x))
  replace z_h0_0 := Chg.cell hc65 z_h0_0 (fun x => x)
  replace HD := Lib.hid (HD.out.new hc65)
  replace HX := Lib.hid (HX.out.new hc65)
  replace Rw0 := Lib.hid (Rw0.out.new hc65)
  replace RM := Lib.hid (RM.out.new hc65)
  replace Rh0 := Lib.hid (Rh0.out.new hc65)
  have S66 := Lib.hid hc65.size
  clear hc65
  go_wp2
  go_ret
  exact ⟨rfl, HCH.out⟩
end Go.Proofs.Ytpiojofmflfkkaa
