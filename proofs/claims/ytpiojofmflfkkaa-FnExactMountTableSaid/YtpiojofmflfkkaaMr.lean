/- Parts of the proof, merged: Zr. -/
import Derived.Test.YtpiojofmflfkkaaMo
import Derived.Test.YtpiojofmflfkkaaMn
/- The law FnExactMountTable: the walk. -/
namespace Go.Proofs.Ytpiojofmflfkkaa
open Go.RowKit
theorem mount_small (D : List Bk) (X : List (List Int)) (b : Bool) (s : Int) : total (mountY D X b s) ≤ 1048576 ∧ (mountY D X b s).length ≤ 9223372036854775807 ∧ ∀ r ∈ mountY D X b s, r.length ≤ 9223372036854775807 := by
  cases b
  · show total (tableOf D) ≤ 1048576 ∧ (tableOf D).length ≤ 9223372036854775807 ∧ ∀ r ∈ tableOf D, r.length ≤ 9223372036854775807
    unfold tableOf
    split
    · refine ⟨by rw [show total (tabF (tofN D (4 * D.length))) = 56 from rfl]; omega, by rw [tabF_len]; omega, fun r hr => ?_⟩
      unfold tabF at hr
      rw [List.mem_map] at hr
      obtain ⟨f, _, rfl⟩ := hr
      simp
    · simp [total]
  · exact roll_small D X s
set_option maxRecDepth 100000 in
set_option maxHeartbeats 16000000 in
theorem FnExactMountTable_any (v : Value) (x : DevA) (u1 : Value) (y1 : SvA) (u2 : Value) (y2 : SvA) (s : Int) (w : World) (hx : DevIn w v x) (hy1 : SavIn w u1 y1) (hy2 : SavIn w u2 y2) :
    Calls Try.prog 10 #[v, u1, u2, .int .i64 s] w fun e w' => e = .returned (.bool true) ∧ Chg NoB w w' := by
  obtain ⟨A, c, D⟩ := x
  obtain ⟨n1, A1, c1, xs1, s1⟩ := y1
  obtain ⟨n2, A2, c2, xs2, s2⟩ := y2
  obtain ⟨rfl, h, hl, hP⟩ := hx
  obtain ⟨rfl, h1, hlc1, hcm1⟩ := hy1
  obtain ⟨rfl, h2, hlc2, hcm2⟩ := hy2
  simp only at h hl hP h1 hlc1 hcm1 h2 hlc2 hcm2
  have HM := Lib.hid (And.intro (Nat.le_trans hlc1 hcm1) (Nat.le_trans hlc2 hcm2))
  clear hlc1 hcm1 hlc2 hcm2
  go_enter Try.func10, Try.ntmps10
  go_wp2_with fail
  have HCH := Lib.hid (Chg.refl NoB w)
  have HD := Lib.hid h
  have HX := Lib.hid h1
  have HY := Lib.hid h2
  clear h h1 h2
  obtain ⟨w1, hw1⟩ : ∃ w1, w.alloc (.cells #[.int .i64 n1, .slice A1 xs1.length c1, .int .i64 s1] 92) = w1 := ⟨_, rfl⟩
  try rw [hw1]
  have q2 : Chg NoB w w1 := by rw [← hw1]; exact (Chg.refl _ _).alloc _
  have bq2 : Blk w1 w.heap.size 92 #[.int .i64 n1, .slice A1 xs1.length c1, .int .i64 s1] := by rw [← hw1]; exact Blk.new _ _ _
  have sq2 : w1.heap.size = w.heap.size + 1 := by rw [← hw1]; exact World.size_alloc ..
  clear hw1
  replace HCH := Lib.hid (HCH.out.trans q2)
  replace HD := Lib.hid (HD.out.new q2)
  replace HX := Lib.hid (HX.out.new q2)
  replace HY := Lib.hid (HY.out.new q2)
  have S3 := Lib.hid q2.size
  have S4 := Lib.hid sq2
  have HB_a := Lib.hid bq2
  have z_a_0 : w1.cell? ⟨w.heap.size, 0, none⟩ = some (.int .i64 n1) := (HB_a.out.cell _).trans rfl
  have z_a_1 : w1.cell? ⟨w.heap.size, 1, none⟩ = some (.slice A1 xs1.length c1) := (HB_a.out.cell _).trans rfl
  have z_a_2 : w1.cell? ⟨w.heap.size, 2, none⟩ = some (.int .i64 s1) := (HB_a.out.cell _).trans rfl
  clear q2 sq2 bq2
  obtain ⟨w5, hw5⟩ : ∃ w5, w1.alloc (.cells #[.int .i64 n2, .slice A2 xs2.length c2, .int .i64 s2] 92) = w5 := ⟨_, rfl⟩
  try rw [hw5]
  have q6 : Chg NoB w1 w5 := by rw [← hw5]; exact (Chg.refl _ _).alloc _
  have bq6 : Blk w5 (w.heap.size + 1) 92 #[.int .i64 n2, .slice A2 xs2.length c2, .int .i64 s2] := by have hz : w1.heap.size = w.heap.size + 1 := (by have := S3.out; have := S4.out; omega); rw [← hz, ← hw5]; exact Blk.new _ _ _
  have sq6 : w5.heap.size = w1.heap.size + 1 := by rw [← hw5]; exact World.size_alloc ..
  clear hw5
  replace HCH := Lib.hid (HCH.out.trans q6)
  replace HB_a := Lib.hid (HB_a.out.chg q6 (fun x => x))
  replace z_a_0 := Chg.cell q6 z_a_0 (fun x => x)
  replace z_a_1 := Chg.cell q6 z_a_1 (fun x => x)
  replace z_a_2 := Chg.cell q6 z_a_2 (fun x => x)
  replace HD := Lib.hid (HD.out.new q6)
  replace HX := Lib.hid (HX.out.new q6)
  replace HY := Lib.hid (HY.out.new q6)
  have S7 := Lib.hid q6.size
  have S8 := Lib.hid sq6
  have HB_b := Lib.hid bq6
  have z_b_0 : w5.cell? ⟨w.heap.size + 1, 0, none⟩ = some (.int .i64 n2) := (HB_b.out.cell _).trans rfl
  have z_b_1 : w5.cell? ⟨w.heap.size + 1, 1, none⟩ = some (.slice A2 xs2.length c2) := (HB_b.out.cell _).trans rfl
  have z_b_2 : w5.cell? ⟨w.heap.size + 1, 2, none⟩ = some (.int .i64 s2) := (HB_b.out.cell _).trans rfl
  clear q6 sq6 bq6
  refine (szBlockS_g _ A c D 1048576 _ HD.out hP hl (by omega) (by omega)).mono ?_
  rintro e w9 ⟨rfl, hc10⟩
  replace HCH := Lib.hid (HCH.out.trans hc10)
  replace HB_a := Lib.hid (HB_a.out.chg hc10 (fun x => x))
  replace z_a_0 := Chg.cell hc10 z_a_0 (fun x => x)
  replace z_a_1 := Chg.cell hc10 z_a_1 (fun x => x)
  replace z_a_2 := Chg.cell hc10 z_a_2 (fun x => x)
  replace HB_b := Lib.hid (HB_b.out.chg hc10 (fun x => x))
  replace z_b_0 := Chg.cell hc10 z_b_0 (fun x => x)
  replace z_b_1 := Chg.cell hc10 z_b_1 (fun x => x)
  replace z_b_2 := Chg.cell hc10 z_b_2 (fun x => x)
  replace HD := Lib.hid (HD.out.new hc10)
  replace HX := Lib.hid (HX.out.new hc10)
  replace HY := Lib.hid (HY.out.new hc10)
  have S11 := Lib.hid hc10.size
  clear hc10
  by_cases hb : 1048576 < devSize D
  · have hs : szLeft 1048576 (devSize D) = -1 := by unfold szLeft; rw [if_pos (by omega)]
    rw [hs]
    go_wp2
    go_ret
    exact ⟨rfl, HCH.out⟩
  have hs : szLeft 1048576 (devSize D) = 1048576 - (devSize D : Int) := by unfold szLeft; rw [if_neg (by omega)]
  rw [hs]
  have hnn : ¬ (1048576 - (devSize D : Int) < 0) := by omega
  have HSZ := Lib.hid (show devSize D ≤ 1048576 by omega)
  have HL := Lib.hid (show D.length ≤ 1048576 by have := devSize_len D; omega)
  have HPP := Lib.hid (show ∀ k (h : k < D.length), D[k].pages.length ≤ 1048576 from fun k hk => by have := devSize_page D k hk; omega)
  have HS := Lib.hid (show Small D from ⟨by have := HL.out; omega, fun k hk => by have := HPP.out k hk; omega⟩)
  clear hs hP hl hb
  go_wp2_with fail
  have HK1 := Lib.hid (show (0 : Int) ≤ 1048576 - (devSize D : Int) by omega)
  refine (szSave_g n1 s1 A1 xs1.length c1 (1048576 - (devSize D : Int)) _ HM.out.1 (by have := HSZ.out; omega) (by omega)).mono ?_
  rintro e w12 ⟨rfl, hc13⟩
  replace HCH := Lib.hid (HCH.out.trans hc13)
  replace HB_a := Lib.hid (HB_a.out.chg hc13 (fun x => x))
  replace z_a_0 := Chg.cell hc13 z_a_0 (fun x => x)
  replace z_a_1 := Chg.cell hc13 z_a_1 (fun x => x)
  replace z_a_2 := Chg.cell hc13 z_a_2 (fun x => x)
  replace HB_b := Lib.hid (HB_b.out.chg hc13 (fun x => x))
  replace z_b_0 := Chg.cell hc13 z_b_0 (fun x => x)
  replace z_b_1 := Chg.cell hc13 z_b_1 (fun x => x)
  replace z_b_2 := Chg.cell hc13 z_b_2 (fun x => x)
  replace HD := Lib.hid (HD.out.new hc13)
  replace HX := Lib.hid (HX.out.new hc13)
  replace HY := Lib.hid (HY.out.new hc13)
  have S14 := Lib.hid hc13.size
  clear hc13 hnn
  by_cases hl : 1048576 - (devSize D : Int) < (xs1.length : Int)
  · have hs : szOf (1048576 - (devSize D : Int)) xs1.length = -1 := by unfold szOf; rw [if_pos (by omega)]
    rw [hs]
    go_wp2
    go_ret
    exact ⟨rfl, HCH.out⟩
  have hs : szOf (1048576 - (devSize D : Int)) xs1.length = 1048576 - (devSize D : Int) - (xs1.length : Int) := by unfold szOf; rw [if_neg (by omega)]
  rw [hs]
  have hnn : ¬ (1048576 - (devSize D : Int) - (xs1.length : Int) < 0) := by omega
  have HL1 := Lib.hid (show xs1.length ≤ 1048576 by omega)
  clear hs hl
  have HK2 := Lib.hid (show (0 : Int) ≤ 1048576 - (devSize D : Int) - (xs1.length : Int) by omega)
  go_wp2_with fail
  refine (szSave_g n2 s2 A2 xs2.length c2 (1048576 - (devSize D : Int) - (xs1.length : Int)) _ HM.out.2 HK2.out (by omega)).mono ?_
  rintro e w15 ⟨rfl, hc16⟩
  replace HCH := Lib.hid (HCH.out.trans hc16)
  replace HB_a := Lib.hid (HB_a.out.chg hc16 (fun x => x))
  replace z_a_0 := Chg.cell hc16 z_a_0 (fun x => x)
  replace z_a_1 := Chg.cell hc16 z_a_1 (fun x => x)
  replace z_a_2 := Chg.cell hc16 z_a_2 (fun x => x)
  replace HB_b := Lib.hid (HB_b.out.chg hc16 (fun x => x))
  replace z_b_0 := Chg.cell hc16 z_b_0 (fun x => x)
  replace z_b_1 := Chg.cell hc16 z_b_1 (fun x => x)
  replace z_b_2 := Chg.cell hc16 z_b_2 (fun x => x)
  replace HD := Lib.hid (HD.out.new hc16)
  replace HX := Lib.hid (HX.out.new hc16)
  replace HY := Lib.hid (HY.out.new hc16)
  have S17 := Lib.hid hc16.size
  clear hc16 hnn
  by_cases hl : 1048576 - (devSize D : Int) - (xs1.length : Int) < (xs2.length : Int)
  · have hs : szOf (1048576 - (devSize D : Int) - (xs1.length : Int)) xs2.length = -1 := by unfold szOf; rw [if_pos (by omega)]
    rw [hs]
    go_wp2
    go_ret
    exact ⟨rfl, HCH.out⟩
  have hs : szOf (1048576 - (devSize D : Int) - (xs1.length : Int)) xs2.length = 1048576 - (devSize D : Int) - (xs1.length : Int) - (xs2.length : Int) := by unfold szOf; rw [if_neg (by omega)]
  rw [hs]
  have hnn : ¬ (1048576 - (devSize D : Int) - (xs1.length : Int) - (xs2.length : Int) < 0) := by omega
  have HL2 := Lib.hid (show xs2.length ≤ 1048576 by omega)
  clear hs hl
  obtain ⟨X, N0, bb, hI0⟩ := NewerIs.ex ⟨n1, xs1, s1⟩ ⟨n2, xs2, s2⟩
  have HI0 := Lib.hid hI0
  obtain ⟨Y, hY⟩ : ∃ Y, mountY D X bb s = Y := ⟨_, rfl⟩
  obtain ⟨b0, hb0⟩ : ∃ b0, decide (DvOk D) = b0 := ⟨_, rfl⟩
  have HYE := Lib.hid hY
  have HBE := Lib.hid hb0
  have HYS := Lib.hid (show total Y ≤ 1048576 ∧ Y.length ≤ 9223372036854775807 ∧ ∀ r ∈ Y, r.length ≤ 9223372036854775807 by rw [← hY]; exact mount_small D X bb s)
  clear hI0 hY hb0 HM
  go_wp2_with fail
  refine wp_region_rg (WInv := fun _ m w5 => Chg NoB w15 w5 ∧ BoxI w15.heap.size 31 #[.slice none 0 0] 11 12 9 m w5) (R := RBox NoB w15.heap.size 31) (Post := PL [fun v _ => v = .slice A D.length c, fun v w => PDev w15.heap.size D v w, fun v _ => v = .agg #[.int .i64 n1, .slice A1 xs1.length c1, .int .i64 s1], fun v w => PSav w15.heap.size n1 xs1 s1 v w, fun v _ => v = .agg #[.int .i64 n2, .slice A2 xs2.length c2, .int .i64 s2], fun v w => PSav w15.heap.size n2 xs2 s2 v w, fun v _ => v = .int .i64 s, fun v w => PTab w15.heap.size Y (fun t => .tuple #[t, .bool b0]) v w, fun v w => PTab w15.heap.size Y (fun t => .tuple #[t, .bool b0]) v w, fun v w => PTab w15.heap.size Y (fun t => t) v w, fun v _ => v = .bool b0, fun _ _ => True, fun _ _ => True, fun v _ => v = .bool b0]) (by kernel_rfl) (by kernel_rfl) (fun _ _ _ _ h _ _ => h) (pl_stab ⟨(fun _ _ _ h _ => h), (fun _ _ _ h hR => PDev.box h hR), (fun _ _ _ h _ => h), (fun _ _ _ h hR => PSav.box h hR int_tab'), (fun _ _ _ h _ => h), (fun _ _ _ h hR => PSav.box h hR int_tab'), (fun _ _ _ h _ => h), (fun _ _ _ h hR => PTab.box h hR ints_tab' int_tab'), (fun _ _ _ h hR => PTab.box h hR ints_tab' int_tab'), (fun _ _ _ h hR => PTab.box h hR ints_tab' int_tab'), (fun _ _ _ h _ => h), (fun _ _ _ _ _ => trivial), (fun _ _ _ _ _ => trivial), (fun _ _ _ h _ => h), trivial⟩) ⟨(Chg.refl _ _).drew, BoxI.start⟩ ⟨?_, ?_, ?_, ?_, ?_, ?_, ?_, ?_, ?_, ?_, ?_, ?_, ?_, ?_, trivial⟩ ?_
  · rintro kc m a w5 hkc ⟨hch, hbx⟩ hm hn
    have e1 : a.tmps[0]?.getD undef = .slice A D.length c := hn.1
    exact rg_val (v := .slice A D.length c) (by simp [execOp, go_sem, e1]) rfl ⟨hch, hbx.keep (by decide) (by decide) hm (Chg.refl NoB _) (fun _ _ x => x)⟩ (Chg.refl _ _) rfl
  · rintro kc m a w5 hkc ⟨hch, hbx⟩ hm hn
    obtain ⟨⟨_, e1, _, rfl⟩, -⟩ := hn
    refine rg_call (f := 22) (args := #[.slice A D.length c]) (by simp [go_sem, e1]) rfl ?_
    refine (toBlockS_any _ A c D _ (HD.out.new hch) HL.out HPP.out).mono ?_
    rintro e w6 ⟨gx, Tx, rfl, hTx, hc6, hOx⟩
    exact ⟨_, rfl, ⟨hch.trans hc6, hbx.keep (by decide) (by decide) hm hc6 (fun _ _ x => x)⟩, RBox.of hc6 (fun _ x => x), ⟨gx, Tx, rfl, hOx.more hch.size (Nat.le_refl _), Lib.hid hTx⟩⟩
  · rintro kc m a w5 hkc ⟨hch, hbx⟩ hm hn
    have e1 : a.tmps[5]?.getD undef = .pointer (some ⟨w.heap.size, 0, none⟩) := hn.1
    have y0 := Chg.cell hch z_a_0 (fun x => x)
    have y1 := Chg.cell hch z_a_1 (fun x => x)
    have y2 := Chg.cell hch z_a_2 (fun x => x)
    exact rg_val (v := .agg #[.int .i64 n1, .slice A1 xs1.length c1, .int .i64 s1]) (by simp [execOp, go_sem, e1, y0, y1, y2]) rfl ⟨hch, hbx.keep (by decide) (by decide) hm (Chg.refl NoB _) (fun _ _ x => x)⟩ (Chg.refl _ _) rfl
  · rintro kc m a w5 hkc ⟨hch, hbx⟩ hm hn
    obtain ⟨⟨_, e1, _, rfl⟩, -⟩ := hn
    refine rg_call (f := 57) (args := #[.agg #[.int .i64 n1, .slice A1 xs1.length c1, .int .i64 s1]]) (by simp [go_sem, e1]) rfl ?_
    refine (toSave_any _ n1 s1 A1 c1 xs1 _ (HX.out.new hch) HL1.out).mono ?_
    rintro e w6 ⟨gx, rfl, hO, hc6⟩
    exact ⟨_, rfl, ⟨hch.trans hc6, hbx.keep (by decide) (by decide) hm hc6 (fun _ _ x => x)⟩, RBox.of hc6 (fun _ x => x), ⟨gx, rfl, hO.more hch.size (Nat.le_refl _)⟩⟩
  · rintro kc m a w5 hkc ⟨hch, hbx⟩ hm hn
    have e1 : a.tmps[6]?.getD undef = .pointer (some ⟨w.heap.size + 1, 0, none⟩) := hn.1
    have y0 := Chg.cell hch z_b_0 (fun x => x)
    have y1 := Chg.cell hch z_b_1 (fun x => x)
    have y2 := Chg.cell hch z_b_2 (fun x => x)
    exact rg_val (v := .agg #[.int .i64 n2, .slice A2 xs2.length c2, .int .i64 s2]) (by simp [execOp, go_sem, e1, y0, y1, y2]) rfl ⟨hch, hbx.keep (by decide) (by decide) hm (Chg.refl NoB _) (fun _ _ x => x)⟩ (Chg.refl _ _) rfl
  · rintro kc m a w5 hkc ⟨hch, hbx⟩ hm hn
    obtain ⟨⟨_, e1, _, rfl⟩, -⟩ := hn
    refine rg_call (f := 57) (args := #[.agg #[.int .i64 n2, .slice A2 xs2.length c2, .int .i64 s2]]) (by simp [go_sem, e1]) rfl ?_
    refine (toSave_any _ n2 s2 A2 c2 xs2 _ (HY.out.new hch) HL2.out).mono ?_
    rintro e w6 ⟨gx, rfl, hO, hc6⟩
    exact ⟨_, rfl, ⟨hch.trans hc6, hbx.keep (by decide) (by decide) hm hc6 (fun _ _ x => x)⟩, RBox.of hc6 (fun _ x => x), ⟨gx, rfl, hO.more hch.size (Nat.le_refl _)⟩⟩
  · rintro kc m a w5 hkc ⟨hch, hbx⟩ hm hn
    have e1 : a.tmps[3]?.getD undef = .int .i64 s := hn.1
    exact rg_val (v := .int .i64 s) (by simp [execOp, go_sem, e1]) rfl ⟨hch, hbx.keep (by decide) (by decide) hm (Chg.refl NoB _) (fun _ _ x => x)⟩ (Chg.refl _ _) rfl
  · rintro kc m a w5 hkc ⟨hch, hbx⟩ hm hn
    obtain ⟨⟨v1, e1, _, hd1⟩, ⟨v3, e3, _, gx1, rfl, ho1⟩, ⟨v5, e5, _, gx2, rfl, ho2⟩, ⟨_, e6, _, rfl⟩, -⟩ := hn
    obtain ⟨gx, rfl, hrx⟩ := PDev.rd hd1
    refine rg_call (f := 13) (args := #[.slice (some ⟨gx, 0, none⟩) D.length D.length, .agg #[.int .i64 n1, .slice (some ⟨gx1, 0, none⟩) xs1.length xs1.length, .int .i64 s1], .agg #[.int .i64 n2, .slice (some ⟨gx2, 0, none⟩) xs2.length xs2.length, .int .i64 s2], .int .i64 s]) (by simp [go_sem, e1, e3, e5, e6]) rfl ?_
    refine (sMountTable_any _ _ _ _ _ D ⟨n1, xs1, s1⟩ ⟨n2, xs2, s2⟩ _ _ xs1.length xs2.length s X N0 bb _ hrx HS.out ho1.rd (Nat.le_refl _) (by have := HL1.out; omega) ho2.rd (Nat.le_refl _) (by have := HL2.out; omega) HI0.out).mono ?_
    rintro e w6 ⟨Ar, cr, Tr, rfl, hX, hc6, hO⟩
    rw [HYE.out] at hX ⊢
    rw [HBE.out]
    exact ⟨_, rfl, ⟨hch.trans hc6, hbx.keep (by decide) (by decide) hm hc6 (fun _ _ x => x)⟩, RBox.of hc6 (fun _ x => x), ⟨Ar, cr, Tr, rfl, hO.more hch.size (Nat.le_refl _), Lib.hid hX⟩⟩
  · rintro kc m a w5 hkc ⟨hch, hbx⟩ hm hn
    obtain ⟨⟨_, e1, _, Ar, cr, Tr, rfl, hO, hX⟩, -⟩ := hn
    exact rg_val (v := .tuple #[.agg #[.slice Ar Y.length cr], .bool b0]) (by simp [execOp, go_sem, e1]) rfl ⟨hch, hbx.keep (by decide) (by decide) hm (Chg.refl NoB _) (fun _ _ x => x)⟩ (Chg.refl _ _) ⟨Ar, cr, Tr, rfl, hO, hX⟩
  · rintro kc m a w5 hkc ⟨hch, hbx⟩ hm hn
    obtain ⟨⟨_, e1, _, Ar, cr, Tr, rfl, hO, hX⟩, -⟩ := hn
    exact rg_val (v := .agg #[.slice Ar Y.length cr]) (by simp [execOp, go_sem, e1]) rfl ⟨hch, hbx.keep (by decide) (by decide) hm (Chg.refl NoB _) (fun _ _ x => x)⟩ (Chg.refl _ _) ⟨Ar, cr, Tr, rfl, hO, hX⟩
  · rintro kc m a w5 hkc ⟨hch, hbx⟩ hm hn
    obtain ⟨⟨_, e1, _, Ar, cr, Tr, rfl, hO, hX⟩, -⟩ := hn
    exact rg_val (v := .bool b0) (by simp [execOp, go_sem, e1]) rfl ⟨hch, hbx.keep (by decide) (by decide) hm (Chg.refl NoB _) (fun _ _ x => x)⟩ (Chg.refl _ _) rfl
  · rintro kc m a w5 hkc ⟨hch, hbx⟩ hm hn
    have hca : Chg NoB w5 (w5.alloc (.cells #[.slice none 0 0] 31)) := (Chg.refl _ _).alloc _
    exact rg_val (v := .pointer (some ⟨w5.heap.size, 0, none⟩)) (w' := w5.alloc (.cells #[.slice none 0 0] 31)) (by simp [execOp, go_sem]) rfl ⟨hch.alloc _, hbx.alloc (by decide) hm hch.size⟩ (RBox.of hca (fun _ x => x.elim)) trivial
  · rintro kc m a w5 hkc ⟨hch, hbx⟩ hm hn
    obtain ⟨⟨p, e1, hma, _⟩, ⟨v5, e2, hmv, hd5⟩, -⟩ := hn
    obtain ⟨Ar, cr, Tr, rfl, hO, hX⟩ := hd5
    obtain ⟨bx, rfl, hB, hb⟩ := hbx.ready hm hma
    have f0 := hb.frozen 0
    have x0 : w5.cell? ⟨bx, 0, none⟩ = some (.slice none 0 0) := (hb.cell _).trans rfl
    have hst : Chg (· = bx) w5 (w5.setCell ⟨bx, 0, none⟩ (.slice Ar Y.length cr)) := (Chg.refl (· = bx) w5).setCell (p := ⟨bx, 0, none⟩) (.inl rfl) _
    have hb' : Blk (w5.setCell ⟨bx, 0, none⟩ (.slice Ar Y.length cr)) bx 31 #[.slice Ar Y.length cr] := hb.set_ 0 _
    exact rg_skip (w' := w5.setCell ⟨bx, 0, none⟩ (.slice Ar Y.length cr)) (by simp [execOp, go_sem, e1, e2, x0, f0]) rfl ⟨hch.own hst hB, BoxI.store (by decide) (by decide) hma hB hmv hb'⟩ (RBox.box hst hB hb) trivial
  · rintro kc m a w5 hkc ⟨hch, hbx⟩ hm hn
    obtain ⟨⟨_, e1, _, rfl⟩, -⟩ := hn
    exact rg_val (v := .bool b0) (by simp [execOp, go_sem, e1]) rfl ⟨hch, hbx.keep (by decide) (by decide) hm (Chg.refl NoB _) (fun _ _ x => x)⟩ (Chg.refl _ _) rfl
  rintro m w18 ⟨hc19, hbx⟩
  simp only [AllVals]
  rintro rv0 m0 p0 rv1 m1 p1 rv2 m2 p2 rv3 m3 p3 rv4 m4 p4 rv5 m5 p5 rv6 m6 p6 rv7 m7 p7 rv8 m8 p8 rv9 m9 p9 rv10 m10 p10 rv11 m11 p11 rv12 m12 p12 rv13 m13 p13
  have p5x : PTab w15.heap.size Y (fun t => t) rv9 w18 := p9
  obtain ⟨Arw0, crw0, Trw0, rfl, hOw0, hXw0⟩ := p5x
  obtain rfl := p10
  obtain rfl := p13
  obtain ⟨bx1, rfl, hB1, hb1⟩ := hbx.done m11 m12 m9
  have HBX1 := Lib.hid hB1
  have hbb1 : Blk w18 bx1 31 #[.slice Arw0 Y.length crw0] := hb1
  clear hB1 hb1 hbx p9 p0 p1 p2 p3 p4 p5 p6 p7 p8 p11 p12
  simp only [Act.put, List.setIfInBounds_toArray, List.set_cons_succ, List.set_cons_zero]
  replace HCH := Lib.hid (HCH.out.trans hc19)
  replace HB_a := Lib.hid (HB_a.out.chg hc19 (fun x => x))
  replace z_a_0 := Chg.cell hc19 z_a_0 (fun x => x)
  replace z_a_1 := Chg.cell hc19 z_a_1 (fun x => x)
  replace z_a_2 := Chg.cell hc19 z_a_2 (fun x => x)
  replace HB_b := Lib.hid (HB_b.out.chg hc19 (fun x => x))
  replace z_b_0 := Chg.cell hc19 z_b_0 (fun x => x)
  replace z_b_1 := Chg.cell hc19 z_b_1 (fun x => x)
  replace z_b_2 := Chg.cell hc19 z_b_2 (fun x => x)
  replace HD := Lib.hid (HD.out.new hc19)
  replace HX := Lib.hid (HX.out.new hc19)
  replace HY := Lib.hid (HY.out.new hc19)
  have S20 := Lib.hid hc19.size
  have S21 := Lib.hid hbb1.lt
  have HB_w0 := Lib.hid hbb1
  have z_w0_0 : w18.cell? ⟨bx1, 0, none⟩ = some (.slice Arw0 Y.length crw0) := (HB_w0.out.cell _).trans rfl
  clear hbb1 hc19
  have hRw0 := hOw0.reads
  rw [hXw0.out] at hRw0
  have Rw0 := Lib.hid hRw0
  clear hRw0 hOw0
  go_wp2_with fail
  refine (toBlockS_any _ A c D _ HD.out HL.out HPP.out).mono ?_
  rintro e w22 ⟨gD1, TD1, rfl, hTD1, hc23, hOD1⟩
  replace HCH := Lib.hid (HCH.out.trans hc23)
  replace HB_a := Lib.hid (HB_a.out.chg hc23 (fun x => x))
  replace z_a_0 := Chg.cell hc23 z_a_0 (fun x => x)
  replace z_a_1 := Chg.cell hc23 z_a_1 (fun x => x)
  replace z_a_2 := Chg.cell hc23 z_a_2 (fun x => x)
  replace HB_b := Lib.hid (HB_b.out.chg hc23 (fun x => x))
  replace z_b_0 := Chg.cell hc23 z_b_0 (fun x => x)
  replace z_b_1 := Chg.cell hc23 z_b_1 (fun x => x)
  replace z_b_2 := Chg.cell hc23 z_b_2 (fun x => x)
  replace HB_w0 := Lib.hid (HB_w0.out.chg hc23 (fun x => x))
  replace z_w0_0 := Chg.cell hc23 z_w0_0 (fun x => x)
  replace HD := Lib.hid (HD.out.new hc23)
  replace HX := Lib.hid (HX.out.new hc23)
  replace HY := Lib.hid (HY.out.new hc23)
  replace Rw0 := Lib.hid (Rw0.out.new hc23)
  have S24 := Lib.hid hc23.size
  have hRD1 := hOD1.reads
  rw [hTD1] at hRD1
  have RD1 := Lib.hid hRD1
  have OD1 := Lib.hid hOD1
  have HTD1 := Lib.hid hTD1
  clear hRD1 hOD1 hTD1 hc23
  go_wp2_with fail
  refine (toSave_any _ n1 s1 A1 c1 xs1 _ HX.out HL1.out).mono ?_
  rintro e w25 ⟨g1, rfl, hO1, hc26⟩
  replace HCH := Lib.hid (HCH.out.trans hc26)
  replace HB_a := Lib.hid (HB_a.out.chg hc26 (fun x => x))
  replace z_a_0 := Chg.cell hc26 z_a_0 (fun x => x)
  replace z_a_1 := Chg.cell hc26 z_a_1 (fun x => x)
  replace z_a_2 := Chg.cell hc26 z_a_2 (fun x => x)
  replace HB_b := Lib.hid (HB_b.out.chg hc26 (fun x => x))
  replace z_b_0 := Chg.cell hc26 z_b_0 (fun x => x)
  replace z_b_1 := Chg.cell hc26 z_b_1 (fun x => x)
  replace z_b_2 := Chg.cell hc26 z_b_2 (fun x => x)
  replace HB_w0 := Lib.hid (HB_w0.out.chg hc26 (fun x => x))
  replace z_w0_0 := Chg.cell hc26 z_w0_0 (fun x => x)
  replace HD := Lib.hid (HD.out.new hc26)
  replace HX := Lib.hid (HX.out.new hc26)
  replace HY := Lib.hid (HY.out.new hc26)
  replace Rw0 := Lib.hid (Rw0.out.new hc26)
  replace RD1 := Lib.hid (RD1.out.new hc26)
  replace OD1 := Lib.hid (OD1.out.new hc26)
  have S27 := Lib.hid hc26.size
  have O1 := Lib.hid hO1
  clear hO1 hc26
  have zz_a_0 := Chg.cell ((Chg.refl NoB w25).alloc (.cells #[.int .i64 n1, .slice (some ⟨g1, 0, none⟩) xs1.length xs1.length, .int .i64 s1] 26)) z_a_0 (fun x => x)
  have zz_a_1 := Chg.cell ((Chg.refl NoB w25).alloc (.cells #[.int .i64 n1, .slice (some ⟨g1, 0, none⟩) xs1.length xs1.length, .int .i64 s1] 26)) z_a_1 (fun x => x)
  have zz_a_2 := Chg.cell ((Chg.refl NoB w25).alloc (.cells #[.int .i64 n1, .slice (some ⟨g1, 0, none⟩) xs1.length xs1.length, .int .i64 s1] 26)) z_a_2 (fun x => x)
  have zz_b_0 := Chg.cell ((Chg.refl NoB w25).alloc (.cells #[.int .i64 n1, .slice (some ⟨g1, 0, none⟩) xs1.length xs1.length, .int .i64 s1] 26)) z_b_0 (fun x => x)
  have zz_b_1 := Chg.cell ((Chg.refl NoB w25).alloc (.cells #[.int .i64 n1, .slice (some ⟨g1, 0, none⟩) xs1.length xs1.length, .int .i64 s1] 26)) z_b_1 (fun x => x)
  have zz_b_2 := Chg.cell ((Chg.refl NoB w25).alloc (.cells #[.int .i64 n1, .slice (some ⟨g1, 0, none⟩) xs1.length xs1.length, .int .i64 s1] 26)) z_b_2 (fun x => x)
  have zz_w0_0 := Chg.cell ((Chg.refl NoB w25).alloc (.cells #[.int .i64 n1, .slice (some ⟨g1, 0, none⟩) xs1.length xs1.length, .int .i64 s1] 26)) z_w0_0 (fun x => x)
  go_wp2_with fail
  clear zz_a_0 zz_a_1 zz_a_2 zz_b_0 zz_b_1 zz_b_2 zz_w0_0
  obtain ⟨w28, hw28⟩ : ∃ w28, w25.alloc (.cells #[.int .i64 n1, .slice (some ⟨g1, 0, none⟩) xs1.length xs1.length, .int .i64 s1] 26) = w28 := ⟨_, rfl⟩
  try rw [hw28]
  have q29 : Chg NoB w25 w28 := by rw [← hw28]; exact (Chg.refl _ _).alloc _
  have bq29 : Blk w28 w25.heap.size 26 #[.int .i64 n1, .slice (some ⟨g1, 0, none⟩) xs1.length xs1.length, .int .i64 s1] := by rw [← hw28]; exact Blk.new _ _ _
  have sq29 : w28.heap.size = w25.heap.size + 1 := by rw [← hw28]; exact World.size_alloc ..
  clear hw28
  replace HCH := Lib.hid (HCH.out.trans q29)
  replace HB_a := Lib.hid (HB_a.out.chg q29 (fun x => x))
  replace z_a_0 := Chg.cell q29 z_a_0 (fun x => x)
  replace z_a_1 := Chg.cell q29 z_a_1 (fun x => x)
  replace z_a_2 := Chg.cell q29 z_a_2 (fun x => x)
  replace HB_b := Lib.hid (HB_b.out.chg q29 (fun x => x))
  replace z_b_0 := Chg.cell q29 z_b_0 (fun x => x)
  replace z_b_1 := Chg.cell q29 z_b_1 (fun x => x)
  replace z_b_2 := Chg.cell q29 z_b_2 (fun x => x)
  replace HB_w0 := Lib.hid (HB_w0.out.chg q29 (fun x => x))
  replace z_w0_0 := Chg.cell q29 z_w0_0 (fun x => x)
  replace HD := Lib.hid (HD.out.new q29)
  replace HX := Lib.hid (HX.out.new q29)
  replace HY := Lib.hid (HY.out.new q29)
  replace Rw0 := Lib.hid (Rw0.out.new q29)
  replace RD1 := Lib.hid (RD1.out.new q29)
  replace OD1 := Lib.hid (OD1.out.new q29)
  replace O1 := Lib.hid (O1.out.new q29)
  have S30 := Lib.hid q29.size
  have S31 := Lib.hid sq29
  have HB_x0 := Lib.hid bq29
  have z_x0_0 : w28.cell? ⟨w25.heap.size, 0, none⟩ = some (.int .i64 n1) := (HB_x0.out.cell _).trans rfl
  have z_x0_1 : w28.cell? ⟨w25.heap.size, 1, none⟩ = some (.slice (some ⟨g1, 0, none⟩) xs1.length xs1.length) := (HB_x0.out.cell _).trans rfl
  have z_x0_2 : w28.cell? ⟨w25.heap.size, 2, none⟩ = some (.int .i64 s1) := (HB_x0.out.cell _).trans rfl
  clear q29 sq29 bq29
  refine (toSave_any _ n2 s2 A2 c2 xs2 _ HY.out HL2.out).mono ?_
  rintro e w32 ⟨g2, rfl, hO2, hc33⟩
  replace HCH := Lib.hid (HCH.out.trans hc33)
  replace HB_a := Lib.hid (HB_a.out.chg hc33 (fun x => x))
  replace z_a_0 := Chg.cell hc33 z_a_0 (fun x => x)
  replace z_a_1 := Chg.cell hc33 z_a_1 (fun x => x)
  replace z_a_2 := Chg.cell hc33 z_a_2 (fun x => x)
  replace HB_b := Lib.hid (HB_b.out.chg hc33 (fun x => x))
  replace z_b_0 := Chg.cell hc33 z_b_0 (fun x => x)
  replace z_b_1 := Chg.cell hc33 z_b_1 (fun x => x)
  replace z_b_2 := Chg.cell hc33 z_b_2 (fun x => x)
  replace HB_w0 := Lib.hid (HB_w0.out.chg hc33 (fun x => x))
  replace z_w0_0 := Chg.cell hc33 z_w0_0 (fun x => x)
  replace HB_x0 := Lib.hid (HB_x0.out.chg hc33 (fun x => x))
  replace z_x0_0 := Chg.cell hc33 z_x0_0 (fun x => x)
  replace z_x0_1 := Chg.cell hc33 z_x0_1 (fun x => x)
  replace z_x0_2 := Chg.cell hc33 z_x0_2 (fun x => x)
  replace HD := Lib.hid (HD.out.new hc33)
  replace HX := Lib.hid (HX.out.new hc33)
  replace HY := Lib.hid (HY.out.new hc33)
  replace Rw0 := Lib.hid (Rw0.out.new hc33)
  replace RD1 := Lib.hid (RD1.out.new hc33)
  replace OD1 := Lib.hid (OD1.out.new hc33)
  replace O1 := Lib.hid (O1.out.new hc33)
  have S34 := Lib.hid hc33.size
  have O2 := Lib.hid hO2
  clear hO2 hc33
  have zz_a_0 := Chg.cell ((Chg.refl NoB w32).alloc (.cells #[.int .i64 n2, .slice (some ⟨g2, 0, none⟩) xs2.length xs2.length, .int .i64 s2] 26)) z_a_0 (fun x => x)
  have zz_a_1 := Chg.cell ((Chg.refl NoB w32).alloc (.cells #[.int .i64 n2, .slice (some ⟨g2, 0, none⟩) xs2.length xs2.length, .int .i64 s2] 26)) z_a_1 (fun x => x)
  have zz_a_2 := Chg.cell ((Chg.refl NoB w32).alloc (.cells #[.int .i64 n2, .slice (some ⟨g2, 0, none⟩) xs2.length xs2.length, .int .i64 s2] 26)) z_a_2 (fun x => x)
  have zz_b_0 := Chg.cell ((Chg.refl NoB w32).alloc (.cells #[.int .i64 n2, .slice (some ⟨g2, 0, none⟩) xs2.length xs2.length, .int .i64 s2] 26)) z_b_0 (fun x => x)
  have zz_b_1 := Chg.cell ((Chg.refl NoB w32).alloc (.cells #[.int .i64 n2, .slice (some ⟨g2, 0, none⟩) xs2.length xs2.length, .int .i64 s2] 26)) z_b_1 (fun x => x)
  have zz_b_2 := Chg.cell ((Chg.refl NoB w32).alloc (.cells #[.int .i64 n2, .slice (some ⟨g2, 0, none⟩) xs2.length xs2.length, .int .i64 s2] 26)) z_b_2 (fun x => x)
  have zz_w0_0 := Chg.cell ((Chg.refl NoB w32).alloc (.cells #[.int .i64 n2, .slice (some ⟨g2, 0, none⟩) xs2.length xs2.length, .int .i64 s2] 26)) z_w0_0 (fun x => x)
  have zz_x0_0 := Chg.cell ((Chg.refl NoB w32).alloc (.cells #[.int .i64 n2, .slice (some ⟨g2, 0, none⟩) xs2.length xs2.length, .int .i64 s2] 26)) z_x0_0 (fun x => x)
  have zz_x0_1 := Chg.cell ((Chg.refl NoB w32).alloc (.cells #[.int .i64 n2, .slice (some ⟨g2, 0, none⟩) xs2.length xs2.length, .int .i64 s2] 26)) z_x0_1 (fun x => x)
  have zz_x0_2 := Chg.cell ((Chg.refl NoB w32).alloc (.cells #[.int .i64 n2, .slice (some ⟨g2, 0, none⟩) xs2.length xs2.length, .int .i64 s2] 26)) z_x0_2 (fun x => x)
  go_wp2_with fail
  clear zz_a_0 zz_a_1 zz_a_2 zz_b_0 zz_b_1 zz_b_2 zz_w0_0 zz_x0_0 zz_x0_1 zz_x0_2
  obtain ⟨w35, hw35⟩ : ∃ w35, w32.alloc (.cells #[.int .i64 n2, .slice (some ⟨g2, 0, none⟩) xs2.length xs2.length, .int .i64 s2] 26) = w35 := ⟨_, rfl⟩
  try rw [hw35]
  have q36 : Chg NoB w32 w35 := by rw [← hw35]; exact (Chg.refl _ _).alloc _
  have bq36 : Blk w35 w32.heap.size 26 #[.int .i64 n2, .slice (some ⟨g2, 0, none⟩) xs2.length xs2.length, .int .i64 s2] := by rw [← hw35]; exact Blk.new _ _ _
  have sq36 : w35.heap.size = w32.heap.size + 1 := by rw [← hw35]; exact World.size_alloc ..
  clear hw35
  replace HCH := Lib.hid (HCH.out.trans q36)
  replace HB_a := Lib.hid (HB_a.out.chg q36 (fun x => x))
  replace z_a_0 := Chg.cell q36 z_a_0 (fun x => x)
  replace z_a_1 := Chg.cell q36 z_a_1 (fun x => x)
  replace z_a_2 := Chg.cell q36 z_a_2 (fun x => x)
  replace HB_b := Lib.hid (HB_b.out.chg q36 (fun x => x))
  replace z_b_0 := Chg.cell q36 z_b_0 (fun x => x)
  replace z_b_1 := Chg.cell q36 z_b_1 (fun x => x)
  replace z_b_2 := Chg.cell q36 z_b_2 (fun x => x)
  replace HB_w0 := Lib.hid (HB_w0.out.chg q36 (fun x => x))
  replace z_w0_0 := Chg.cell q36 z_w0_0 (fun x => x)
  replace HB_x0 := Lib.hid (HB_x0.out.chg q36 (fun x => x))
  replace z_x0_0 := Chg.cell q36 z_x0_0 (fun x => x)
  replace z_x0_1 := Chg.cell q36 z_x0_1 (fun x => x)
  replace z_x0_2 := Chg.cell q36 z_x0_2 (fun x => x)
  replace HD := Lib.hid (HD.out.new q36)
  replace HX := Lib.hid (HX.out.new q36)
  replace HY := Lib.hid (HY.out.new q36)
  replace Rw0 := Lib.hid (Rw0.out.new q36)
  replace RD1 := Lib.hid (RD1.out.new q36)
  replace OD1 := Lib.hid (OD1.out.new q36)
  replace O1 := Lib.hid (O1.out.new q36)
  replace O2 := Lib.hid (O2.out.new q36)
  have S37 := Lib.hid q36.size
  have S38 := Lib.hid sq36
  have HB_x1 := Lib.hid bq36
  have z_x1_0 : w35.cell? ⟨w32.heap.size, 0, none⟩ = some (.int .i64 n2) := (HB_x1.out.cell _).trans rfl
  have z_x1_1 : w35.cell? ⟨w32.heap.size, 1, none⟩ = some (.slice (some ⟨g2, 0, none⟩) xs2.length xs2.length) := (HB_x1.out.cell _).trans rfl
  have z_x1_2 : w35.cell? ⟨w32.heap.size, 2, none⟩ = some (.int .i64 s2) := (HB_x1.out.cell _).trans rfl
  clear q36 sq36 bq36
  refine (iMountTable_any _ _ _ _ _ D ⟨n1, xs1, s1⟩ ⟨n2, xs2, s2⟩ _ _ xs1.length xs2.length s X N0 bb _ RD1.out O1.out.rd (Nat.le_refl _) (by have := HL1.out; omega) O2.out.rd (Nat.le_refl _) (by have := HL2.out; omega) HI0.out).mono ?_
  rintro e w39 ⟨Ag, cg, Tg, rfl, hXg, hc40, hOg⟩
  replace HCH := Lib.hid (HCH.out.trans hc40)
  replace HB_a := Lib.hid (HB_a.out.chg hc40 (fun x => x))
  replace z_a_0 := Chg.cell hc40 z_a_0 (fun x => x)
  replace z_a_1 := Chg.cell hc40 z_a_1 (fun x => x)
  replace z_a_2 := Chg.cell hc40 z_a_2 (fun x => x)
  replace HB_b := Lib.hid (HB_b.out.chg hc40 (fun x => x))
  replace z_b_0 := Chg.cell hc40 z_b_0 (fun x => x)
  replace z_b_1 := Chg.cell hc40 z_b_1 (fun x => x)
  replace z_b_2 := Chg.cell hc40 z_b_2 (fun x => x)
  replace HB_w0 := Lib.hid (HB_w0.out.chg hc40 (fun x => x))
  replace z_w0_0 := Chg.cell hc40 z_w0_0 (fun x => x)
  replace HB_x0 := Lib.hid (HB_x0.out.chg hc40 (fun x => x))
  replace z_x0_0 := Chg.cell hc40 z_x0_0 (fun x => x)
  replace z_x0_1 := Chg.cell hc40 z_x0_1 (fun x => x)
  replace z_x0_2 := Chg.cell hc40 z_x0_2 (fun x => x)
  replace HB_x1 := Lib.hid (HB_x1.out.chg hc40 (fun x => x))
  replace z_x1_0 := Chg.cell hc40 z_x1_0 (fun x => x)
  replace z_x1_1 := Chg.cell hc40 z_x1_1 (fun x => x)
  replace z_x1_2 := Chg.cell hc40 z_x1_2 (fun x => x)
  replace HD := Lib.hid (HD.out.new hc40)
  replace HX := Lib.hid (HX.out.new hc40)
  replace HY := Lib.hid (HY.out.new hc40)
  replace Rw0 := Lib.hid (Rw0.out.new hc40)
  replace RD1 := Lib.hid (RD1.out.new hc40)
  replace OD1 := Lib.hid (OD1.out.new hc40)
  replace O1 := Lib.hid (O1.out.new hc40)
  replace O2 := Lib.hid (O2.out.new hc40)
  have S41 := Lib.hid hc40.size
  rw [HYE.out] at hXg ⊢
  rw [HBE.out]
  have hlg : Tg.length = Y.length := by rw [← hXg, listsOf_length]
  have HLG := Lib.hid hlg
  have HXG := Lib.hid hXg
  have hRg := hOg.reads
  rw [hXg] at hRg
  have RG := Lib.hid hRg
  have OG := Lib.hid hOg
  clear hRg hOg hc40 hlg hXg
  have hbn : (b0 != b0) = false := by cases b0 <;> rfl
  have zz_a_0 := Chg.cell ((Chg.refl NoB w39).alloc (.cells #[.slice Ag Y.length cg] 31)) z_a_0 (fun x => x)
  have zz_a_1 := Chg.cell ((Chg.refl NoB w39).alloc (.cells #[.slice Ag Y.length cg] 31)) z_a_1 (fun x => x)
  have zz_a_2 := Chg.cell ((Chg.refl NoB w39).alloc (.cells #[.slice Ag Y.length cg] 31)) z_a_2 (fun x => x)
  have zz_b_0 := Chg.cell ((Chg.refl NoB w39).alloc (.cells #[.slice Ag Y.length cg] 31)) z_b_0 (fun x => x)
  have zz_b_1 := Chg.cell ((Chg.refl NoB w39).alloc (.cells #[.slice Ag Y.length cg] 31)) z_b_1 (fun x => x)
  have zz_b_2 := Chg.cell ((Chg.refl NoB w39).alloc (.cells #[.slice Ag Y.length cg] 31)) z_b_2 (fun x => x)
  have zz_w0_0 := Chg.cell ((Chg.refl NoB w39).alloc (.cells #[.slice Ag Y.length cg] 31)) z_w0_0 (fun x => x)
  have zz_x0_0 := Chg.cell ((Chg.refl NoB w39).alloc (.cells #[.slice Ag Y.length cg] 31)) z_x0_0 (fun x => x)
  have zz_x0_1 := Chg.cell ((Chg.refl NoB w39).alloc (.cells #[.slice Ag Y.length cg] 31)) z_x0_1 (fun x => x)
  have zz_x0_2 := Chg.cell ((Chg.refl NoB w39).alloc (.cells #[.slice Ag Y.length cg] 31)) z_x0_2 (fun x => x)
  have zz_x1_0 := Chg.cell ((Chg.refl NoB w39).alloc (.cells #[.slice Ag Y.length cg] 31)) z_x1_0 (fun x => x)
  have zz_x1_1 := Chg.cell ((Chg.refl NoB w39).alloc (.cells #[.slice Ag Y.length cg] 31)) z_x1_1 (fun x => x)
  have zz_x1_2 := Chg.cell ((Chg.refl NoB w39).alloc (.cells #[.slice Ag Y.length cg] 31)) z_x1_2 (fun x => x)
  go_wp2_with fail
  clear zz_a_0 zz_a_1 zz_a_2 zz_b_0 zz_b_1 zz_b_2 zz_w0_0 zz_x0_0 zz_x0_1 zz_x0_2 zz_x1_0 zz_x1_1 zz_x1_2
  obtain ⟨w42, hw42⟩ : ∃ w42, w39.alloc (.cells #[.slice Ag Y.length cg] 31) = w42 := ⟨_, rfl⟩
  try rw [hw42]
  have q43 : Chg NoB w39 w42 := by rw [← hw42]; exact (Chg.refl _ _).alloc _
  have bq43 : Blk w42 w39.heap.size 31 #[.slice Ag Y.length cg] := by rw [← hw42]; exact Blk.new _ _ _
  have sq43 : w42.heap.size = w39.heap.size + 1 := by rw [← hw42]; exact World.size_alloc ..
  clear hw42
  replace HCH := Lib.hid (HCH.out.trans q43)
  replace HB_a := Lib.hid (HB_a.out.chg q43 (fun x => x))
  replace z_a_0 := Chg.cell q43 z_a_0 (fun x => x)
  replace z_a_1 := Chg.cell q43 z_a_1 (fun x => x)
  replace z_a_2 := Chg.cell q43 z_a_2 (fun x => x)
  replace HB_b := Lib.hid (HB_b.out.chg q43 (fun x => x))
  replace z_b_0 := Chg.cell q43 z_b_0 (fun x => x)
  replace z_b_1 := Chg.cell q43 z_b_1 (fun x => x)
  replace z_b_2 := Chg.cell q43 z_b_2 (fun x => x)
  replace HB_w0 := Lib.hid (HB_w0.out.chg q43 (fun x => x))
  replace z_w0_0 := Chg.cell q43 z_w0_0 (fun x => x)
  replace HB_x0 := Lib.hid (HB_x0.out.chg q43 (fun x => x))
  replace z_x0_0 := Chg.cell q43 z_x0_0 (fun x => x)
  replace z_x0_1 := Chg.cell q43 z_x0_1 (fun x => x)
  replace z_x0_2 := Chg.cell q43 z_x0_2 (fun x => x)
  replace HB_x1 := Lib.hid (HB_x1.out.chg q43 (fun x => x))
  replace z_x1_0 := Chg.cell q43 z_x1_0 (fun x => x)
  replace z_x1_1 := Chg.cell q43 z_x1_1 (fun x => x)
  replace z_x1_2 := Chg.cell q43 z_x1_2 (fun x => x)
  replace HD := Lib.hid (HD.out.new q43)
  replace HX := Lib.hid (HX.out.new q43)
  replace HY := Lib.hid (HY.out.new q43)
  replace Rw0 := Lib.hid (Rw0.out.new q43)
  replace RD1 := Lib.hid (RD1.out.new q43)
  replace OD1 := Lib.hid (OD1.out.new q43)
  replace O1 := Lib.hid (O1.out.new q43)
  replace O2 := Lib.hid (O2.out.new q43)
  replace RG := Lib.hid (RG.out.new q43)
  replace OG := Lib.hid (OG.out.new q43)
  have S44 := Lib.hid q43.size
  have S45 := Lib.hid sq43
  have HB_g0 := Lib.hid bq43
  have z_g0_0 : w42.cell? ⟨w39.heap.size, 0, none⟩ = some (.slice Ag Y.length cg) := (HB_g0.out.cell _).trans rfl
  clear q43 sq43 bq43
  refine (eqTable_t _ _ _ _ _ _ Y _ RG.out Rw0.out HYS.out.2.1 HYS.out.2.2).mono ?_
  rintro e w46 ⟨rfl, hc47⟩
  replace HCH := Lib.hid (HCH.out.trans hc47)
  replace HB_a := Lib.hid (HB_a.out.chg hc47 (fun x => x))
  replace z_a_0 := Chg.cell hc47 z_a_0 (fun x => x)
  replace z_a_1 := Chg.cell hc47 z_a_1 (fun x => x)
  replace z_a_2 := Chg.cell hc47 z_a_2 (fun x => x)
  replace HB_b := Lib.hid (HB_b.out.chg hc47 (fun x => x))
  replace z_b_0 := Chg.cell hc47 z_b_0 (fun x => x)
  replace z_b_1 := Chg.cell hc47 z_b_1 (fun x => x)
  replace z_b_2 := Chg.cell hc47 z_b_2 (fun x => x)
  replace HB_w0 := Lib.hid (HB_w0.out.chg hc47 (fun x => x))
  replace z_w0_0 := Chg.cell hc47 z_w0_0 (fun x => x)
  replace HB_x0 := Lib.hid (HB_x0.out.chg hc47 (fun x => x))
  replace z_x0_0 := Chg.cell hc47 z_x0_0 (fun x => x)
  replace z_x0_1 := Chg.cell hc47 z_x0_1 (fun x => x)
  replace z_x0_2 := Chg.cell hc47 z_x0_2 (fun x => x)
  replace HB_x1 := Lib.hid (HB_x1.out.chg hc47 (fun x => x))
  replace z_x1_0 := Chg.cell hc47 z_x1_0 (fun x => x)
  replace z_x1_1 := Chg.cell hc47 z_x1_1 (fun x => x)
  replace z_x1_2 := Chg.cell hc47 z_x1_2 (fun x => x)
  replace HB_g0 := Lib.hid (HB_g0.out.chg hc47 (fun x => x))
  replace z_g0_0 := Chg.cell hc47 z_g0_0 (fun x => x)
  replace HD := Lib.hid (HD.out.new hc47)
  replace HX := Lib.hid (HX.out.new hc47)
  replace HY := Lib.hid (HY.out.new hc47)
  replace Rw0 := Lib.hid (Rw0.out.new hc47)
  replace RD1 := Lib.hid (RD1.out.new hc47)
  replace OD1 := Lib.hid (OD1.out.new hc47)
  replace O1 := Lib.hid (O1.out.new hc47)
  replace O2 := Lib.hid (O2.out.new hc47)
  replace RG := Lib.hid (RG.out.new hc47)
  replace OG := Lib.hid (OG.out.new hc47)
  have S48 := Lib.hid hc47.size
  clear hc47
  go_wp2_with fail
  refine (toBlockS_any _ A c D _ HD.out HL.out HPP.out).mono ?_
  rintro e w49 ⟨gD2, TD2, rfl, hTD2, hc50, hOD2⟩
  replace HCH := Lib.hid (HCH.out.trans hc50)
  replace HB_a := Lib.hid (HB_a.out.chg hc50 (fun x => x))
  replace z_a_0 := Chg.cell hc50 z_a_0 (fun x => x)
  replace z_a_1 := Chg.cell hc50 z_a_1 (fun x => x)
  replace z_a_2 := Chg.cell hc50 z_a_2 (fun x => x)
  replace HB_b := Lib.hid (HB_b.out.chg hc50 (fun x => x))
  replace z_b_0 := Chg.cell hc50 z_b_0 (fun x => x)
  replace z_b_1 := Chg.cell hc50 z_b_1 (fun x => x)
  replace z_b_2 := Chg.cell hc50 z_b_2 (fun x => x)
  replace HB_w0 := Lib.hid (HB_w0.out.chg hc50 (fun x => x))
  replace z_w0_0 := Chg.cell hc50 z_w0_0 (fun x => x)
  replace HB_x0 := Lib.hid (HB_x0.out.chg hc50 (fun x => x))
  replace z_x0_0 := Chg.cell hc50 z_x0_0 (fun x => x)
  replace z_x0_1 := Chg.cell hc50 z_x0_1 (fun x => x)
  replace z_x0_2 := Chg.cell hc50 z_x0_2 (fun x => x)
  replace HB_x1 := Lib.hid (HB_x1.out.chg hc50 (fun x => x))
  replace z_x1_0 := Chg.cell hc50 z_x1_0 (fun x => x)
  replace z_x1_1 := Chg.cell hc50 z_x1_1 (fun x => x)
  replace z_x1_2 := Chg.cell hc50 z_x1_2 (fun x => x)
  replace HB_g0 := Lib.hid (HB_g0.out.chg hc50 (fun x => x))
  replace z_g0_0 := Chg.cell hc50 z_g0_0 (fun x => x)
  replace HD := Lib.hid (HD.out.new hc50)
  replace HX := Lib.hid (HX.out.new hc50)
  replace HY := Lib.hid (HY.out.new hc50)
  replace Rw0 := Lib.hid (Rw0.out.new hc50)
  replace RD1 := Lib.hid (RD1.out.new hc50)
  replace OD1 := Lib.hid (OD1.out.new hc50)
  replace O1 := Lib.hid (O1.out.new hc50)
  replace O2 := Lib.hid (O2.out.new hc50)
  replace RG := Lib.hid (RG.out.new hc50)
  replace OG := Lib.hid (OG.out.new hc50)
  have S51 := Lib.hid hc50.size
  have hRD2 := hOD2.reads
  rw [hTD2] at hRD2
  have RD2 := Lib.hid hRD2
  have OD2 := Lib.hid hOD2
  have HTD2 := Lib.hid hTD2
  clear hRD2 hOD2 hTD2 hc50
  go_wp2_with fail
  refine (eqBlockS_t _ _ _ _ _ _ D _ RD1.out RD2.out HS.out).mono ?_
  rintro e w52 ⟨rfl, hc53⟩
  replace HCH := Lib.hid (HCH.out.trans hc53)
  replace HB_a := Lib.hid (HB_a.out.chg hc53 (fun x => x))
  replace z_a_0 := Chg.cell hc53 z_a_0 (fun x => x)
  replace z_a_1 := Chg.cell hc53 z_a_1 (fun x => x)
  replace z_a_2 := Chg.cell hc53 z_a_2 (fun x => x)
  replace HB_b := Lib.hid (HB_b.out.chg hc53 (fun x => x))
  replace z_b_0 := Chg.cell hc53 z_b_0 (fun x => x)
  replace z_b_1 := Chg.cell hc53 z_b_1 (fun x => x)
  replace z_b_2 := Chg.cell hc53 z_b_2 (fun x => x)
  replace HB_w0 := Lib.hid (HB_w0.out.chg hc53 (fun x => x))
  replace z_w0_0 := Chg.cell hc53 z_w0_0 (fun x => x)
  replace HB_x0 := Lib.hid (HB_x0.out.chg hc53 (fun x => x))
  replace z_x0_0 := Chg.cell hc53 z_x0_0 (fun x => x)
  replace z_x0_1 := Chg.cell hc53 z_x0_1 (fun x => x)
  replace z_x0_2 := Chg.cell hc53 z_x0_2 (fun x => x)
  replace HB_x1 := Lib.hid (HB_x1.out.chg hc53 (fun x => x))
  replace z_x1_0 := Chg.cell hc53 z_x1_0 (fun x => x)
  replace z_x1_1 := Chg.cell hc53 z_x1_1 (fun x => x)
  replace z_x1_2 := Chg.cell hc53 z_x1_2 (fun x => x)
  replace HB_g0 := Lib.hid (HB_g0.out.chg hc53 (fun x => x))
  replace z_g0_0 := Chg.cell hc53 z_g0_0 (fun x => x)
  replace HD := Lib.hid (HD.out.new hc53)
  replace HX := Lib.hid (HX.out.new hc53)
  replace HY := Lib.hid (HY.out.new hc53)
  replace Rw0 := Lib.hid (Rw0.out.new hc53)
  replace RD1 := Lib.hid (RD1.out.new hc53)
  replace OD1 := Lib.hid (OD1.out.new hc53)
  replace O1 := Lib.hid (O1.out.new hc53)
  replace O2 := Lib.hid (O2.out.new hc53)
  replace RG := Lib.hid (RG.out.new hc53)
  replace OG := Lib.hid (OG.out.new hc53)
  replace RD2 := Lib.hid (RD2.out.new hc53)
  replace OD2 := Lib.hid (OD2.out.new hc53)
  have S54 := Lib.hid hc53.size
  clear hc53
  clear RD2
  clear OD2
  go_wp2_with fail
  go_region_held3 (fun w' => w'.cell? ⟨w.heap.size, 0, none⟩ = some (.int .i64 n1) ∧ w'.cell? ⟨w.heap.size, 1, none⟩ = some (.slice A1 xs1.length c1) ∧ w'.cell? ⟨w.heap.size, 2, none⟩ = some (.int .i64 s1) ∧ w'.cell? ⟨w25.heap.size, 0, none⟩ = some (.int .i64 n1) ∧ w'.cell? ⟨w25.heap.size, 1, none⟩ = some (.slice (some ⟨g1, 0, none⟩) xs1.length xs1.length) ∧ w'.cell? ⟨w25.heap.size, 2, none⟩ = some (.int .i64 s1))
    (first | go_keep | exact ⟨hcc.cell (by assumption) (fun x => x), hcc.cell (by assumption) (fun x => x), hcc.cell (by assumption) (fun x => x), hcc.cell (by assumption) (fun x => x), hcc.cell (by assumption) (fun x => x), hcc.cell (by assumption) (fun x => x)⟩ | exact ⟨(HK.out.trans hcc).cell (by assumption) (fun x => x), (HK.out.trans hcc).cell (by assumption) (fun x => x), (HK.out.trans hcc).cell (by assumption) (fun x => x), (HK.out.trans hcc).cell (by assumption) (fun x => x), (HK.out.trans hcc).cell (by assumption) (fun x => x), (HK.out.trans hcc).cell (by assumption) (fun x => x)⟩)
    (first
      | (go_at_call 57; refine (toSave_any _ n1 s1 A1 c1 xs1 _ (HX.out.new (Chg.refl NoB w52).drew) HL1.out).mono ?_; rintro e' wt1 ⟨gt1, rfl, hOt, hcc⟩; have HK := Lib.hid hcc; have HOt := Lib.hid hOt)
      | (go_at_call 58; refine (eqSave_t _ _ n1 s1 _ _ _ _ xs1 _ ((O1.out.new (Chg.refl NoB w52).drew).new HK.out).rd HOt.out.rd (by have := HL1.out; omega)).mono ?_; rintro e' we1 ⟨rfl, hcc⟩))
  have hrg : Chg NoB w52 we1 := ((Chg.refl NoB w52).drew.trans HK.out).trans hcc
  replace HCH := Lib.hid (HCH.out.trans hrg)
  replace HB_a := Lib.hid (HB_a.out.chg hrg (fun x => x))
  replace z_a_0 := Chg.cell hrg z_a_0 (fun x => x)
  replace z_a_1 := Chg.cell hrg z_a_1 (fun x => x)
  replace z_a_2 := Chg.cell hrg z_a_2 (fun x => x)
  replace HB_b := Lib.hid (HB_b.out.chg hrg (fun x => x))
  replace z_b_0 := Chg.cell hrg z_b_0 (fun x => x)
  replace z_b_1 := Chg.cell hrg z_b_1 (fun x => x)
  replace z_b_2 := Chg.cell hrg z_b_2 (fun x => x)
  replace HB_w0 := Lib.hid (HB_w0.out.chg hrg (fun x => x))
  replace z_w0_0 := Chg.cell hrg z_w0_0 (fun x => x)
  replace HB_x0 := Lib.hid (HB_x0.out.chg hrg (fun x => x))
  replace z_x0_0 := Chg.cell hrg z_x0_0 (fun x => x)
  replace z_x0_1 := Chg.cell hrg z_x0_1 (fun x => x)
  replace z_x0_2 := Chg.cell hrg z_x0_2 (fun x => x)
  replace HB_x1 := Lib.hid (HB_x1.out.chg hrg (fun x => x))
  replace z_x1_0 := Chg.cell hrg z_x1_0 (fun x => x)
  replace z_x1_1 := Chg.cell hrg z_x1_1 (fun x => x)
  replace z_x1_2 := Chg.cell hrg z_x1_2 (fun x => x)
  replace HB_g0 := Lib.hid (HB_g0.out.chg hrg (fun x => x))
  replace z_g0_0 := Chg.cell hrg z_g0_0 (fun x => x)
  replace HD := Lib.hid (HD.out.new hrg)
  replace HX := Lib.hid (HX.out.new hrg)
  replace HY := Lib.hid (HY.out.new hrg)
  replace Rw0 := Lib.hid (Rw0.out.new hrg)
  replace RD1 := Lib.hid (RD1.out.new hrg)
  replace OD1 := Lib.hid (OD1.out.new hrg)
  replace O1 := Lib.hid (O1.out.new hrg)
  replace O2 := Lib.hid (O2.out.new hrg)
  replace RG := Lib.hid (RG.out.new hrg)
  replace OG := Lib.hid (OG.out.new hrg)
  have S55 := Lib.hid hrg.size
  clear hrg hcc HK HOt hOt
  go_wp2_with fail
  go_region_held3 (fun w' => w'.cell? ⟨w.heap.size + 1, 0, none⟩ = some (.int .i64 n2) ∧ w'.cell? ⟨w.heap.size + 1, 1, none⟩ = some (.slice A2 xs2.length c2) ∧ w'.cell? ⟨w.heap.size + 1, 2, none⟩ = some (.int .i64 s2) ∧ w'.cell? ⟨w32.heap.size, 0, none⟩ = some (.int .i64 n2) ∧ w'.cell? ⟨w32.heap.size, 1, none⟩ = some (.slice (some ⟨g2, 0, none⟩) xs2.length xs2.length) ∧ w'.cell? ⟨w32.heap.size, 2, none⟩ = some (.int .i64 s2))
    (first | go_keep | exact ⟨hcc.cell (by assumption) (fun x => x), hcc.cell (by assumption) (fun x => x), hcc.cell (by assumption) (fun x => x), hcc.cell (by assumption) (fun x => x), hcc.cell (by assumption) (fun x => x), hcc.cell (by assumption) (fun x => x)⟩ | exact ⟨(HK.out.trans hcc).cell (by assumption) (fun x => x), (HK.out.trans hcc).cell (by assumption) (fun x => x), (HK.out.trans hcc).cell (by assumption) (fun x => x), (HK.out.trans hcc).cell (by assumption) (fun x => x), (HK.out.trans hcc).cell (by assumption) (fun x => x), (HK.out.trans hcc).cell (by assumption) (fun x => x)⟩)
    (first
      | (go_at_call 57; refine (toSave_any _ n2 s2 A2 c2 xs2 _ (HY.out.new (Chg.refl NoB we1).drew) HL2.out).mono ?_; rintro e' wt2 ⟨gt2, rfl, hOt, hcc⟩; have HK := Lib.hid hcc; have HOt := Lib.hid hOt)
      | (go_at_call 58; refine (eqSave_t _ _ n2 s2 _ _ _ _ xs2 _ ((O2.out.new (Chg.refl NoB we1).drew).new HK.out).rd HOt.out.rd (by have := HL2.out; omega)).mono ?_; rintro e' we2 ⟨rfl, hcc⟩))
  have hrg : Chg NoB we1 we2 := ((Chg.refl NoB we1).drew.trans HK.out).trans hcc
  replace HCH := Lib.hid (HCH.out.trans hrg)
  replace HB_a := Lib.hid (HB_a.out.chg hrg (fun x => x))
  replace z_a_0 := Chg.cell hrg z_a_0 (fun x => x)
  replace z_a_1 := Chg.cell hrg z_a_1 (fun x => x)
  replace z_a_2 := Chg.cell hrg z_a_2 (fun x => x)
  replace HB_b := Lib.hid (HB_b.out.chg hrg (fun x => x))
  replace z_b_0 := Chg.cell hrg z_b_0 (fun x => x)
  replace z_b_1 := Chg.cell hrg z_b_1 (fun x => x)
  replace z_b_2 := Chg.cell hrg z_b_2 (fun x => x)
  replace HB_w0 := Lib.hid (HB_w0.out.chg hrg (fun x => x))
  replace z_w0_0 := Chg.cell hrg z_w0_0 (fun x => x)
  replace HB_x0 := Lib.hid (HB_x0.out.chg hrg (fun x => x))
  replace z_x0_0 := Chg.cell hrg z_x0_0 (fun x => x)
  replace z_x0_1 := Chg.cell hrg z_x0_1 (fun x => x)
  replace z_x0_2 := Chg.cell hrg z_x0_2 (fun x => x)
  replace HB_x1 := Lib.hid (HB_x1.out.chg hrg (fun x => x))
  replace z_x1_0 := Chg.cell hrg z_x1_0 (fun x => x)
  replace z_x1_1 := Chg.cell hrg z_x1_1 (fun x => x)
  replace z_x1_2 := Chg.cell hrg z_x1_2 (fun x => x)
  replace HB_g0 := Lib.hid (HB_g0.out.chg hrg (fun x => x))
  replace z_g0_0 := Chg.cell hrg z_g0_0 (fun x => x)
  replace HD := Lib.hid (HD.out.new hrg)
  replace HX := Lib.hid (HX.out.new hrg)
  replace HY := Lib.hid (HY.out.new hrg)
  replace Rw0 := Lib.hid (Rw0.out.new hrg)
  replace RD1 := Lib.hid (RD1.out.new hrg)
  replace OD1 := Lib.hid (OD1.out.new hrg)
  replace O1 := Lib.hid (O1.out.new hrg)
  replace O2 := Lib.hid (O2.out.new hrg)
  replace RG := Lib.hid (RG.out.new hrg)
  replace OG := Lib.hid (OG.out.new hrg)
  have S56 := Lib.hid hrg.size
  clear hrg hcc HK HOt hOt
  have HTL := Lib.hid (show TD1.length = D.length by rw [← HTD1.out, bksOf_length])
  have hmkd := markBlockS_any _ _ (some ⟨gD1, 0, none⟩) D.length TD1 1 we2 OD1.out (fun r hr => by
      obtain ⟨j, hj, rfl⟩ := List.getElem_of_mem hr
      have hj' : j < D.length := by rw [← HTL.out]; exact hj
      have hp := HPP.out j hj'
      have e : D[j] = TD1[j].bk := by
        have : D[j]? = some TD1[j].bk := by rw [← HTD1.out]; unfold bksOf; rw [List.getElem?_map, List.getElem?_eq_getElem hj]; rfl
        exact (List.getElem?_eq_some_iff.1 this).2
      rw [e] at hp
      exact hp) (by rw [HTL.out]; exact HL.out) (by omega) (by have := endT_size TD1 1; rw [HTD1.out] at this; have := HSZ.out; omega)
  rw [HTL.out] at hmkd
  have HMKD := Lib.hid hmkd
  clear hmkd
  go_wp2_with fail
  refine (HMKD.out).mono ?_
  rintro e w57 ⟨rfl, hc58, -⟩
  clear RD1
  replace HCH := Lib.hid (HCH.out.trans' hc58 (fun i hi => .inr (by have := S3.out; have := S4.out; have := S7.out; have := S8.out; have := S11.out; have := S14.out; have := S17.out; have := S20.out; have := HBX1.out; have := S21.out; have := S24.out; have := S27.out; have := S30.out; have := S31.out; have := S34.out; have := S37.out; have := S38.out; have := S41.out; have := S44.out; have := S45.out; have := S48.out; have := S51.out; have := S54.out; have := S55.out; have := S56.out; omega)))
  replace HB_a := Lib.hid (HB_a.out.chg hc58 (by have := S3.out; have := S4.out; have := S7.out; have := S8.out; have := S11.out; have := S14.out; have := S17.out; have := S20.out; have := HBX1.out; have := S21.out; have := S24.out; have := S27.out; have := S30.out; have := S31.out; have := S34.out; have := S37.out; have := S38.out; have := S41.out; have := S44.out; have := S45.out; have := S48.out; have := S51.out; have := S54.out; have := S55.out; have := S56.out; omega))
  replace z_a_0 := Chg.cell hc58 z_a_0 (by simp only; have := S3.out; have := S4.out; have := S7.out; have := S8.out; have := S11.out; have := S14.out; have := S17.out; have := S20.out; have := HBX1.out; have := S21.out; have := S24.out; have := S27.out; have := S30.out; have := S31.out; have := S34.out; have := S37.out; have := S38.out; have := S41.out; have := S44.out; have := S45.out; have := S48.out; have := S51.out; have := S54.out; have := S55.out; have := S56.out; omega)
  replace z_a_1 := Chg.cell hc58 z_a_1 (by simp only; have := S3.out; have := S4.out; have := S7.out; have := S8.out; have := S11.out; have := S14.out; have := S17.out; have := S20.out; have := HBX1.out; have := S21.out; have := S24.out; have := S27.out; have := S30.out; have := S31.out; have := S34.out; have := S37.out; have := S38.out; have := S41.out; have := S44.out; have := S45.out; have := S48.out; have := S51.out; have := S54.out; have := S55.out; have := S56.out; omega)
  replace z_a_2 := Chg.cell hc58 z_a_2 (by simp only; have := S3.out; have := S4.out; have := S7.out; have := S8.out; have := S11.out; have := S14.out; have := S17.out; have := S20.out; have := HBX1.out; have := S21.out; have := S24.out; have := S27.out; have := S30.out; have := S31.out; have := S34.out; have := S37.out; have := S38.out; have := S41.out; have := S44.out; have := S45.out; have := S48.out; have := S51.out; have := S54.out; have := S55.out; have := S56.out; omega)
  replace HB_b := Lib.hid (HB_b.out.chg hc58 (by have := S3.out; have := S4.out; have := S7.out; have := S8.out; have := S11.out; have := S14.out; have := S17.out; have := S20.out; have := HBX1.out; have := S21.out; have := S24.out; have := S27.out; have := S30.out; have := S31.out; have := S34.out; have := S37.out; have := S38.out; have := S41.out; have := S44.out; have := S45.out; have := S48.out; have := S51.out; have := S54.out; have := S55.out; have := S56.out; omega))
  replace z_b_0 := Chg.cell hc58 z_b_0 (by simp only; have := S3.out; have := S4.out; have := S7.out; have := S8.out; have := S11.out; have := S14.out; have := S17.out; have := S20.out; have := HBX1.out; have := S21.out; have := S24.out; have := S27.out; have := S30.out; have := S31.out; have := S34.out; have := S37.out; have := S38.out; have := S41.out; have := S44.out; have := S45.out; have := S48.out; have := S51.out; have := S54.out; have := S55.out; have := S56.out; omega)
  replace z_b_1 := Chg.cell hc58 z_b_1 (by simp only; have := S3.out; have := S4.out; have := S7.out; have := S8.out; have := S11.out; have := S14.out; have := S17.out; have := S20.out; have := HBX1.out; have := S21.out; have := S24.out; have := S27.out; have := S30.out; have := S31.out; have := S34.out; have := S37.out; have := S38.out; have := S41.out; have := S44.out; have := S45.out; have := S48.out; have := S51.out; have := S54.out; have := S55.out; have := S56.out; omega)
  replace z_b_2 := Chg.cell hc58 z_b_2 (by simp only; have := S3.out; have := S4.out; have := S7.out; have := S8.out; have := S11.out; have := S14.out; have := S17.out; have := S20.out; have := HBX1.out; have := S21.out; have := S24.out; have := S27.out; have := S30.out; have := S31.out; have := S34.out; have := S37.out; have := S38.out; have := S41.out; have := S44.out; have := S45.out; have := S48.out; have := S51.out; have := S54.out; have := S55.out; have := S56.out; omega)
  replace HB_w0 := Lib.hid (HB_w0.out.chg hc58 (by have := S3.out; have := S4.out; have := S7.out; have := S8.out; have := S11.out; have := S14.out; have := S17.out; have := S20.out; have := HBX1.out; have := S21.out; have := S24.out; have := S27.out; have := S30.out; have := S31.out; have := S34.out; have := S37.out; have := S38.out; have := S41.out; have := S44.out; have := S45.out; have := S48.out; have := S51.out; have := S54.out; have := S55.out; have := S56.out; omega))
  replace z_w0_0 := Chg.cell hc58 z_w0_0 (by simp only; have := S3.out; have := S4.out; have := S7.out; have := S8.out; have := S11.out; have := S14.out; have := S17.out; have := S20.out; have := HBX1.out; have := S21.out; have := S24.out; have := S27.out; have := S30.out; have := S31.out; have := S34.out; have := S37.out; have := S38.out; have := S41.out; have := S44.out; have := S45.out; have := S48.out; have := S51.out; have := S54.out; have := S55.out; have := S56.out; omega)
  replace HB_x0 := Lib.hid (HB_x0.out.chg hc58 (by have := S3.out; have := S4.out; have := S7.out; have := S8.out; have := S11.out; have := S14.out; have := S17.out; have := S20.out; have := HBX1.out; have := S21.out; have := S24.out; have := S27.out; have := S30.out; have := S31.out; have := S34.out; have := S37.out; have := S38.out; have := S41.out; have := S44.out; have := S45.out; have := S48.out; have := S51.out; have := S54.out; have := S55.out; have := S56.out; omega))
  replace z_x0_0 := Chg.cell hc58 z_x0_0 (by simp only; have := S3.out; have := S4.out; have := S7.out; have := S8.out; have := S11.out; have := S14.out; have := S17.out; have := S20.out; have := HBX1.out; have := S21.out; have := S24.out; have := S27.out; have := S30.out; have := S31.out; have := S34.out; have := S37.out; have := S38.out; have := S41.out; have := S44.out; have := S45.out; have := S48.out; have := S51.out; have := S54.out; have := S55.out; have := S56.out; omega)
  replace z_x0_1 := Chg.cell hc58 z_x0_1 (by simp only; have := S3.out; have := S4.out; have := S7.out; have := S8.out; have := S11.out; have := S14.out; have := S17.out; have := S20.out; have := HBX1.out; have := S21.out; have := S24.out; have := S27.out; have := S30.out; have := S31.out; have := S34.out; have := S37.out; have := S38.out; have := S41.out; have := S44.out; have := S45.out; have := S48.out; have := S51.out; have := S54.out; have := S55.out; have := S56.out; omega)
  replace z_x0_2 := Chg.cell hc58 z_x0_2 (by simp only; have := S3.out; have := S4.out; have := S7.out; have := S8.out; have := S11.out; have := S14.out; have := S17.out; have := S20.out; have := HBX1.out; have := S21.out; have := S24.out; have := S27.out; have := S30.out; have := S31.out; have := S34.out; have := S37.out; have := S38.out; have := S41.out; have := S44.out; have := S45.out; have := S48.out; have := S51.out; have := S54.out; have := S55.out; have := S56.out; omega)
  replace HB_x1 := Lib.hid (HB_x1.out.chg hc58 (by have := S3.out; have := S4.out; have := S7.out; have := S8.out; have := S11.out; have := S14.out; have := S17.out; have := S20.out; have := HBX1.out; have := S21.out; have := S24.out; have := S27.out; have := S30.out; have := S31.out; have := S34.out; have := S37.out; have := S38.out; have := S41.out; have := S44.out; have := S45.out; have := S48.out; have := S51.out; have := S54.out; have := S55.out; have := S56.out; omega))
  replace z_x1_0 := Chg.cell hc58 z_x1_0 (by simp only; have := S3.out; have := S4.out; have := S7.out; have := S8.out; have := S11.out; have := S14.out; have := S17.out; have := S20.out; have := HBX1.out; have := S21.out; have := S24.out; have := S27.out; have := S30.out; have := S31.out; have := S34.out; have := S37.out; have := S38.out; have := S41.out; have := S44.out; have := S45.out; have := S48.out; have := S51.out; have := S54.out; have := S55.out; have := S56.out; omega)
  replace z_x1_1 := Chg.cell hc58 z_x1_1 (by simp only; have := S3.out; have := S4.out; have := S7.out; have := S8.out; have := S11.out; have := S14.out; have := S17.out; have := S20.out; have := HBX1.out; have := S21.out; have := S24.out; have := S27.out; have := S30.out; have := S31.out; have := S34.out; have := S37.out; have := S38.out; have := S41.out; have := S44.out; have := S45.out; have := S48.out; have := S51.out; have := S54.out; have := S55.out; have := S56.out; omega)
  replace z_x1_2 := Chg.cell hc58 z_x1_2 (by simp only; have := S3.out; have := S4.out; have := S7.out; have := S8.out; have := S11.out; have := S14.out; have := S17.out; have := S20.out; have := HBX1.out; have := S21.out; have := S24.out; have := S27.out; have := S30.out; have := S31.out; have := S34.out; have := S37.out; have := S38.out; have := S41.out; have := S44.out; have := S45.out; have := S48.out; have := S51.out; have := S54.out; have := S55.out; have := S56.out; omega)
  replace HB_g0 := Lib.hid (HB_g0.out.chg hc58 (by have := S3.out; have := S4.out; have := S7.out; have := S8.out; have := S11.out; have := S14.out; have := S17.out; have := S20.out; have := HBX1.out; have := S21.out; have := S24.out; have := S27.out; have := S30.out; have := S31.out; have := S34.out; have := S37.out; have := S38.out; have := S41.out; have := S44.out; have := S45.out; have := S48.out; have := S51.out; have := S54.out; have := S55.out; have := S56.out; omega))
  replace z_g0_0 := Chg.cell hc58 z_g0_0 (by simp only; have := S3.out; have := S4.out; have := S7.out; have := S8.out; have := S11.out; have := S14.out; have := S17.out; have := S20.out; have := HBX1.out; have := S21.out; have := S24.out; have := S27.out; have := S30.out; have := S31.out; have := S34.out; have := S37.out; have := S38.out; have := S41.out; have := S44.out; have := S45.out; have := S48.out; have := S51.out; have := S54.out; have := S55.out; have := S56.out; omega)
  replace HD := Lib.hid (HD.out.chg hc58 (fun i h1 h2 => by have := S3.out; have := S4.out; have := S7.out; have := S8.out; have := S11.out; have := S14.out; have := S17.out; have := S20.out; have := HBX1.out; have := S21.out; have := S24.out; have := S27.out; have := S30.out; have := S31.out; have := S34.out; have := S37.out; have := S38.out; have := S41.out; have := S44.out; have := S45.out; have := S48.out; have := S51.out; have := S54.out; have := S55.out; have := S56.out; omega))
  replace HX := Lib.hid (HX.out.chg hc58 (fun i h1 h2 => by have := S3.out; have := S4.out; have := S7.out; have := S8.out; have := S11.out; have := S14.out; have := S17.out; have := S20.out; have := HBX1.out; have := S21.out; have := S24.out; have := S27.out; have := S30.out; have := S31.out; have := S34.out; have := S37.out; have := S38.out; have := S41.out; have := S44.out; have := S45.out; have := S48.out; have := S51.out; have := S54.out; have := S55.out; have := S56.out; omega))
  replace HY := Lib.hid (HY.out.chg hc58 (fun i h1 h2 => by have := S3.out; have := S4.out; have := S7.out; have := S8.out; have := S11.out; have := S14.out; have := S17.out; have := S20.out; have := HBX1.out; have := S21.out; have := S24.out; have := S27.out; have := S30.out; have := S31.out; have := S34.out; have := S37.out; have := S38.out; have := S41.out; have := S44.out; have := S45.out; have := S48.out; have := S51.out; have := S54.out; have := S55.out; have := S56.out; omega))
  replace Rw0 := Lib.hid (Rw0.out.chg hc58 (fun i h1 h2 => by have := S3.out; have := S4.out; have := S7.out; have := S8.out; have := S11.out; have := S14.out; have := S17.out; have := S20.out; have := HBX1.out; have := S21.out; have := S24.out; have := S27.out; have := S30.out; have := S31.out; have := S34.out; have := S37.out; have := S38.out; have := S41.out; have := S44.out; have := S45.out; have := S48.out; have := S51.out; have := S54.out; have := S55.out; have := S56.out; omega))
  replace O1 := Lib.hid (O1.out.chg hc58 (fun i h1 h2 h3 => by have := S3.out; have := S4.out; have := S7.out; have := S8.out; have := S11.out; have := S14.out; have := S17.out; have := S20.out; have := HBX1.out; have := S21.out; have := S24.out; have := S27.out; have := S30.out; have := S31.out; have := S34.out; have := S37.out; have := S38.out; have := S41.out; have := S44.out; have := S45.out; have := S48.out; have := S51.out; have := S54.out; have := S55.out; have := S56.out; omega))
  replace O2 := Lib.hid (O2.out.chg hc58 (fun i h1 h2 h3 => by have := S3.out; have := S4.out; have := S7.out; have := S8.out; have := S11.out; have := S14.out; have := S17.out; have := S20.out; have := HBX1.out; have := S21.out; have := S24.out; have := S27.out; have := S30.out; have := S31.out; have := S34.out; have := S37.out; have := S38.out; have := S41.out; have := S44.out; have := S45.out; have := S48.out; have := S51.out; have := S54.out; have := S55.out; have := S56.out; omega))
  replace RG := Lib.hid (RG.out.chg hc58 (fun i h1 h2 => by have := S3.out; have := S4.out; have := S7.out; have := S8.out; have := S11.out; have := S14.out; have := S17.out; have := S20.out; have := HBX1.out; have := S21.out; have := S24.out; have := S27.out; have := S30.out; have := S31.out; have := S34.out; have := S37.out; have := S38.out; have := S41.out; have := S44.out; have := S45.out; have := S48.out; have := S51.out; have := S54.out; have := S55.out; have := S56.out; omega))
  replace OG := Lib.hid (OG.out.chg hc58 (fun i h1 h2 h3 => by have := S3.out; have := S4.out; have := S7.out; have := S8.out; have := S11.out; have := S14.out; have := S17.out; have := S20.out; have := HBX1.out; have := S21.out; have := S24.out; have := S27.out; have := S30.out; have := S31.out; have := S34.out; have := S37.out; have := S38.out; have := S41.out; have := S44.out; have := S45.out; have := S48.out; have := S51.out; have := S54.out; have := S55.out; have := S56.out; omega))
  have S59 := Lib.hid hc58.size
  clear OD1 HMKD hc58
  have hke := endT_le TD1 1
  have hke2 : endT TD1 1 ≤ 10000000 := by have := endT_size TD1 1; rw [HTD1.out] at this; have := HSZ.out; omega
  have HKE := Lib.hid (And.intro hke hke2)
  obtain ⟨kd, hkd⟩ : ∃ kd, endT TD1 1 = kd := ⟨_, rfl⟩
  rw [hkd] at HKE hke hke2 ⊢
  clear hkd hke hke2
  go_wp2_with fail
  refine (markSave_any _ _ n1 s1 _ _ xs1 kd _ O1.out (by have := HL1.out; omega) (by have := HKE.out; omega) (by have := HKE.out; omega)).mono ?_
  rintro e w60 ⟨rfl, hc61, -⟩
  replace HCH := Lib.hid (HCH.out.trans' hc61 (fun i hi => .inr (by have := S3.out; have := S4.out; have := S7.out; have := S8.out; have := S11.out; have := S14.out; have := S17.out; have := S20.out; have := HBX1.out; have := S21.out; have := S24.out; have := S27.out; have := S30.out; have := S31.out; have := S34.out; have := S37.out; have := S38.out; have := S41.out; have := S44.out; have := S45.out; have := S48.out; have := S51.out; have := S54.out; have := S55.out; have := S56.out; have := S59.out; omega)))
  replace HB_a := Lib.hid (HB_a.out.chg hc61 (by have := S3.out; have := S4.out; have := S7.out; have := S8.out; have := S11.out; have := S14.out; have := S17.out; have := S20.out; have := HBX1.out; have := S21.out; have := S24.out; have := S27.out; have := S30.out; have := S31.out; have := S34.out; have := S37.out; have := S38.out; have := S41.out; have := S44.out; have := S45.out; have := S48.out; have := S51.out; have := S54.out; have := S55.out; have := S56.out; have := S59.out; omega))
  replace z_a_0 := Chg.cell hc61 z_a_0 (by simp only; have := S3.out; have := S4.out; have := S7.out; have := S8.out; have := S11.out; have := S14.out; have := S17.out; have := S20.out; have := HBX1.out; have := S21.out; have := S24.out; have := S27.out; have := S30.out; have := S31.out; have := S34.out; have := S37.out; have := S38.out; have := S41.out; have := S44.out; have := S45.out; have := S48.out; have := S51.out; have := S54.out; have := S55.out; have := S56.out; have := S59.out; omega)
  replace z_a_1 := Chg.cell hc61 z_a_1 (by simp only; have := S3.out; have := S4.out; have := S7.out; have := S8.out; have := S11.out; have := S14.out; have := S17.out; have := S20.out; have := HBX1.out; have := S21.out; have := S24.out; have := S27.out; have := S30.out; have := S31.out; have := S34.out; have := S37.out; have := S38.out; have := S41.out; have := S44.out; have := S45.out; have := S48.out; have := S51.out; have := S54.out; have := S55.out; have := S56.out; have := S59.out; omega)
  replace z_a_2 := Chg.cell hc61 z_a_2 (by simp only; have := S3.out; have := S4.out; have := S7.out; have := S8.out; have := S11.out; have := S14.out; have := S17.out; have := S20.out; have := HBX1.out; have := S21.out; have := S24.out; have := S27.out; have := S30.out; have := S31.out; have := S34.out; have := S37.out; have := S38.out; have := S41.out; have := S44.out; have := S45.out; have := S48.out; have := S51.out; have := S54.out; have := S55.out; have := S56.out; have := S59.out; omega)
  replace HB_b := Lib.hid (HB_b.out.chg hc61 (by have := S3.out; have := S4.out; have := S7.out; have := S8.out; have := S11.out; have := S14.out; have := S17.out; have := S20.out; have := HBX1.out; have := S21.out; have := S24.out; have := S27.out; have := S30.out; have := S31.out; have := S34.out; have := S37.out; have := S38.out; have := S41.out; have := S44.out; have := S45.out; have := S48.out; have := S51.out; have := S54.out; have := S55.out; have := S56.out; have := S59.out; omega))
  replace z_b_0 := Chg.cell hc61 z_b_0 (by simp only; have := S3.out; have := S4.out; have := S7.out; have := S8.out; have := S11.out; have := S14.out; have := S17.out; have := S20.out; have := HBX1.out; have := S21.out; have := S24.out; have := S27.out; have := S30.out; have := S31.out; have := S34.out; have := S37.out; have := S38.out; have := S41.out; have := S44.out; have := S45.out; have := S48.out; have := S51.out; have := S54.out; have := S55.out; have := S56.out; have := S59.out; omega)
  replace z_b_1 := Chg.cell hc61 z_b_1 (by simp only; have := S3.out; have := S4.out; have := S7.out; have := S8.out; have := S11.out; have := S14.out; have := S17.out; have := S20.out; have := HBX1.out; have := S21.out; have := S24.out; have := S27.out; have := S30.out; have := S31.out; have := S34.out; have := S37.out; have := S38.out; have := S41.out; have := S44.out; have := S45.out; have := S48.out; have := S51.out; have := S54.out; have := S55.out; have := S56.out; have := S59.out; omega)
  replace z_b_2 := Chg.cell hc61 z_b_2 (by simp only; have := S3.out; have := S4.out; have := S7.out; have := S8.out; have := S11.out; have := S14.out; have := S17.out; have := S20.out; have := HBX1.out; have := S21.out; have := S24.out; have := S27.out; have := S30.out; have := S31.out; have := S34.out; have := S37.out; have := S38.out; have := S41.out; have := S44.out; have := S45.out; have := S48.out; have := S51.out; have := S54.out; have := S55.out; have := S56.out; have := S59.out; omega)
  replace HB_w0 := Lib.hid (HB_w0.out.chg hc61 (by have := S3.out; have := S4.out; have := S7.out; have := S8.out; have := S11.out; have := S14.out; have := S17.out; have := S20.out; have := HBX1.out; have := S21.out; have := S24.out; have := S27.out; have := S30.out; have := S31.out; have := S34.out; have := S37.out; have := S38.out; have := S41.out; have := S44.out; have := S45.out; have := S48.out; have := S51.out; have := S54.out; have := S55.out; have := S56.out; have := S59.out; omega))
  replace z_w0_0 := Chg.cell hc61 z_w0_0 (by simp only; have := S3.out; have := S4.out; have := S7.out; have := S8.out; have := S11.out; have := S14.out; have := S17.out; have := S20.out; have := HBX1.out; have := S21.out; have := S24.out; have := S27.out; have := S30.out; have := S31.out; have := S34.out; have := S37.out; have := S38.out; have := S41.out; have := S44.out; have := S45.out; have := S48.out; have := S51.out; have := S54.out; have := S55.out; have := S56.out; have := S59.out; omega)
  replace HB_x0 := Lib.hid (HB_x0.out.chg hc61 (by have := S3.out; have := S4.out; have := S7.out; have := S8.out; have := S11.out; have := S14.out; have := S17.out; have := S20.out; have := HBX1.out; have := S21.out; have := S24.out; have := S27.out; have := S30.out; have := S31.out; have := S34.out; have := S37.out; have := S38.out; have := S41.out; have := S44.out; have := S45.out; have := S48.out; have := S51.out; have := S54.out; have := S55.out; have := S56.out; have := S59.out; omega))
  replace z_x0_0 := Chg.cell hc61 z_x0_0 (by simp only; have := S3.out; have := S4.out; have := S7.out; have := S8.out; have := S11.out; have := S14.out; have := S17.out; have := S20.out; have := HBX1.out; have := S21.out; have := S24.out; have := S27.out; have := S30.out; have := S31.out; have := S34.out; have := S37.out; have := S38.out; have := S41.out; have := S44.out; have := S45.out; have := S48.out; have := S51.out; have := S54.out; have := S55.out; have := S56.out; have := S59.out; omega)
  replace z_x0_1 := Chg.cell hc61 z_x0_1 (by simp only; have := S3.out; have := S4.out; have := S7.out; have := S8.out; have := S11.out; have := S14.out; have := S17.out; have := S20.out; have := HBX1.out; have := S21.out; have := S24.out; have := S27.out; have := S30.out; have := S31.out; have := S34.out; have := S37.out; have := S38.out; have := S41.out; have := S44.out; have := S45.out; have := S48.out; have := S51.out; have := S54.out; have := S55.out; have := S56.out; have := S59.out; omega)
  replace z_x0_2 := Chg.cell hc61 z_x0_2 (by simp only; have := S3.out; have := S4.out; have := S7.out; have := S8.out; have := S11.out; have := S14.out; have := S17.out; have := S20.out; have := HBX1.out; have := S21.out; have := S24.out; have := S27.out; have := S30.out; have := S31.out; have := S34.out; have := S37.out; have := S38.out; have := S41.out; have := S44.out; have := S45.out; have := S48.out; have := S51.out; have := S54.out; have := S55.out; have := S56.out; have := S59.out; omega)
  replace HB_x1 := Lib.hid (HB_x1.out.chg hc61 (by have := S3.out; have := S4.out; have := S7.out; have := S8.out; have := S11.out; have := S14.out; have := S17.out; have := S20.out; have := HBX1.out; have := S21.out; have := S24.out; have := S27.out; have := S30.out; have := S31.out; have := S34.out; have := S37.out; have := S38.out; have := S41.out; have := S44.out; have := S45.out; have := S48.out; have := S51.out; have := S54.out; have := S55.out; have := S56.out; have := S59.out; omega))
  replace z_x1_0 := Chg.cell hc61 z_x1_0 (by simp only; have := S3.out; have := S4.out; have := S7.out; have := S8.out; have := S11.out; have := S14.out; have := S17.out; have := S20.out; have := HBX1.out; have := S21.out; have := S24.out; have := S27.out; have := S30.out; have := S31.out; have := S34.out; have := S37.out; have := S38.out; have := S41.out; have := S44.out; have := S45.out; have := S48.out; have := S51.out; have := S54.out; have := S55.out; have := S56.out; have := S59.out; omega)
  replace z_x1_1 := Chg.cell hc61 z_x1_1 (by simp only; have := S3.out; have := S4.out; have := S7.out; have := S8.out; have := S11.out; have := S14.out; have := S17.out; have := S20.out; have := HBX1.out; have := S21.out; have := S24.out; have := S27.out; have := S30.out; have := S31.out; have := S34.out; have := S37.out; have := S38.out; have := S41.out; have := S44.out; have := S45.out; have := S48.out; have := S51.out; have := S54.out; have := S55.out; have := S56.out; have := S59.out; omega)
  replace z_x1_2 := Chg.cell hc61 z_x1_2 (by simp only; have := S3.out; have := S4.out; have := S7.out; have := S8.out; have := S11.out; have := S14.out; have := S17.out; have := S20.out; have := HBX1.out; have := S21.out; have := S24.out; have := S27.out; have := S30.out; have := S31.out; have := S34.out; have := S37.out; have := S38.out; have := S41.out; have := S44.out; have := S45.out; have := S48.out; have := S51.out; have := S54.out; have := S55.out; have := S56.out; have := S59.out; omega)
  replace HB_g0 := Lib.hid (HB_g0.out.chg hc61 (by have := S3.out; have := S4.out; have := S7.out; have := S8.out; have := S11.out; have := S14.out; have := S17.out; have := S20.out; have := HBX1.out; have := S21.out; have := S24.out; have := S27.out; have := S30.out; have := S31.out; have := S34.out; have := S37.out; have := S38.out; have := S41.out; have := S44.out; have := S45.out; have := S48.out; have := S51.out; have := S54.out; have := S55.out; have := S56.out; have := S59.out; omega))
  replace z_g0_0 := Chg.cell hc61 z_g0_0 (by simp only; have := S3.out; have := S4.out; have := S7.out; have := S8.out; have := S11.out; have := S14.out; have := S17.out; have := S20.out; have := HBX1.out; have := S21.out; have := S24.out; have := S27.out; have := S30.out; have := S31.out; have := S34.out; have := S37.out; have := S38.out; have := S41.out; have := S44.out; have := S45.out; have := S48.out; have := S51.out; have := S54.out; have := S55.out; have := S56.out; have := S59.out; omega)
  replace HD := Lib.hid (HD.out.chg hc61 (fun i h1 h2 => by have := S3.out; have := S4.out; have := S7.out; have := S8.out; have := S11.out; have := S14.out; have := S17.out; have := S20.out; have := HBX1.out; have := S21.out; have := S24.out; have := S27.out; have := S30.out; have := S31.out; have := S34.out; have := S37.out; have := S38.out; have := S41.out; have := S44.out; have := S45.out; have := S48.out; have := S51.out; have := S54.out; have := S55.out; have := S56.out; have := S59.out; omega))
  replace HX := Lib.hid (HX.out.chg hc61 (fun i h1 h2 => by have := S3.out; have := S4.out; have := S7.out; have := S8.out; have := S11.out; have := S14.out; have := S17.out; have := S20.out; have := HBX1.out; have := S21.out; have := S24.out; have := S27.out; have := S30.out; have := S31.out; have := S34.out; have := S37.out; have := S38.out; have := S41.out; have := S44.out; have := S45.out; have := S48.out; have := S51.out; have := S54.out; have := S55.out; have := S56.out; have := S59.out; omega))
  replace HY := Lib.hid (HY.out.chg hc61 (fun i h1 h2 => by have := S3.out; have := S4.out; have := S7.out; have := S8.out; have := S11.out; have := S14.out; have := S17.out; have := S20.out; have := HBX1.out; have := S21.out; have := S24.out; have := S27.out; have := S30.out; have := S31.out; have := S34.out; have := S37.out; have := S38.out; have := S41.out; have := S44.out; have := S45.out; have := S48.out; have := S51.out; have := S54.out; have := S55.out; have := S56.out; have := S59.out; omega))
  replace Rw0 := Lib.hid (Rw0.out.chg hc61 (fun i h1 h2 => by have := S3.out; have := S4.out; have := S7.out; have := S8.out; have := S11.out; have := S14.out; have := S17.out; have := S20.out; have := HBX1.out; have := S21.out; have := S24.out; have := S27.out; have := S30.out; have := S31.out; have := S34.out; have := S37.out; have := S38.out; have := S41.out; have := S44.out; have := S45.out; have := S48.out; have := S51.out; have := S54.out; have := S55.out; have := S56.out; have := S59.out; omega))
  replace O2 := Lib.hid (O2.out.chg hc61 (fun i h1 h2 h3 => by have := S3.out; have := S4.out; have := S7.out; have := S8.out; have := S11.out; have := S14.out; have := S17.out; have := S20.out; have := HBX1.out; have := S21.out; have := S24.out; have := S27.out; have := S30.out; have := S31.out; have := S34.out; have := S37.out; have := S38.out; have := S41.out; have := S44.out; have := S45.out; have := S48.out; have := S51.out; have := S54.out; have := S55.out; have := S56.out; have := S59.out; omega))
  replace RG := Lib.hid (RG.out.chg hc61 (fun i h1 h2 => by have := S3.out; have := S4.out; have := S7.out; have := S8.out; have := S11.out; have := S14.out; have := S17.out; have := S20.out; have := HBX1.out; have := S21.out; have := S24.out; have := S27.out; have := S30.out; have := S31.out; have := S34.out; have := S37.out; have := S38.out; have := S41.out; have := S44.out; have := S45.out; have := S48.out; have := S51.out; have := S54.out; have := S55.out; have := S56.out; have := S59.out; omega))
  replace OG := Lib.hid (OG.out.chg hc61 (fun i h1 h2 h3 => by have := S3.out; have := S4.out; have := S7.out; have := S8.out; have := S11.out; have := S14.out; have := S17.out; have := S20.out; have := HBX1.out; have := S21.out; have := S24.out; have := S27.out; have := S30.out; have := S31.out; have := S34.out; have := S37.out; have := S38.out; have := S41.out; have := S44.out; have := S45.out; have := S48.out; have := S51.out; have := S54.out; have := S55.out; have := S56.out; have := S59.out; omega))
  have S62 := Lib.hid hc61.size
  clear O1 hc61
  go_wp2_with fail
  refine (markSave_any _ _ n2 s2 _ _ xs2 (kd + (xs1.length : Int)) _ O2.out (by have := HL2.out; omega) (by have := HKE.out; omega) (by have := HKE.out; have := HL1.out; omega)).mono ?_
  rintro e w63 ⟨rfl, hc64, -⟩
  replace HCH := Lib.hid (HCH.out.trans' hc64 (fun i hi => .inr (by have := S3.out; have := S4.out; have := S7.out; have := S8.out; have := S11.out; have := S14.out; have := S17.out; have := S20.out; have := HBX1.out; have := S21.out; have := S24.out; have := S27.out; have := S30.out; have := S31.out; have := S34.out; have := S37.out; have := S38.out; have := S41.out; have := S44.out; have := S45.out; have := S48.out; have := S51.out; have := S54.out; have := S55.out; have := S56.out; have := S59.out; have := S62.out; omega)))
  replace HB_a := Lib.hid (HB_a.out.chg hc64 (by have := S3.out; have := S4.out; have := S7.out; have := S8.out; have := S11.out; have := S14.out; have := S17.out; have := S20.out; have := HBX1.out; have := S21.out; have := S24.out; have := S27.out; have := S30.out; have := S31.out; have := S34.out; have := S37.out; have := S38.out; have := S41.out; have := S44.out; have := S45.out; have := S48.out; have := S51.out; have := S54.out; have := S55.out; have := S56.out; have := S59.out; have := S62.out; omega))
  replace z_a_0 := Chg.cell hc64 z_a_0 (by simp only; have := S3.out; have := S4.out; have := S7.out; have := S8.out; have := S11.out; have := S14.out; have := S17.out; have := S20.out; have := HBX1.out; have := S21.out; have := S24.out; have := S27.out; have := S30.out; have := S31.out; have := S34.out; have := S37.out; have := S38.out; have := S41.out; have := S44.out; have := S45.out; have := S48.out; have := S51.out; have := S54.out; have := S55.out; have := S56.out; have := S59.out; have := S62.out; omega)
  replace z_a_1 := Chg.cell hc64 z_a_1 (by simp only; have := S3.out; have := S4.out; have := S7.out; have := S8.out; have := S11.out; have := S14.out; have := S17.out; have := S20.out; have := HBX1.out; have := S21.out; have := S24.out; have := S27.out; have := S30.out; have := S31.out; have := S34.out; have := S37.out; have := S38.out; have := S41.out; have := S44.out; have := S45.out; have := S48.out; have := S51.out; have := S54.out; have := S55.out; have := S56.out; have := S59.out; have := S62.out; omega)
  replace z_a_2 := Chg.cell hc64 z_a_2 (by simp only; have := S3.out; have := S4.out; have := S7.out; have := S8.out; have := S11.out; have := S14.out; have := S17.out; have := S20.out; have := HBX1.out; have := S21.out; have := S24.out; have := S27.out; have := S30.out; have := S31.out; have := S34.out; have := S37.out; have := S38.out; have := S41.out; have := S44.out; have := S45.out; have := S48.out; have := S51.out; have := S54.out; have := S55.out; have := S56.out; have := S59.out; have := S62.out; omega)
  replace HB_b := Lib.hid (HB_b.out.chg hc64 (by have := S3.out; have := S4.out; have := S7.out; have := S8.out; have := S11.out; have := S14.out; have := S17.out; have := S20.out; have := HBX1.out; have := S21.out; have := S24.out; have := S27.out; have := S30.out; have := S31.out; have := S34.out; have := S37.out; have := S38.out; have := S41.out; have := S44.out; have := S45.out; have := S48.out; have := S51.out; have := S54.out; have := S55.out; have := S56.out; have := S59.out; have := S62.out; omega))
  replace z_b_0 := Chg.cell hc64 z_b_0 (by simp only; have := S3.out; have := S4.out; have := S7.out; have := S8.out; have := S11.out; have := S14.out; have := S17.out; have := S20.out; have := HBX1.out; have := S21.out; have := S24.out; have := S27.out; have := S30.out; have := S31.out; have := S34.out; have := S37.out; have := S38.out; have := S41.out; have := S44.out; have := S45.out; have := S48.out; have := S51.out; have := S54.out; have := S55.out; have := S56.out; have := S59.out; have := S62.out; omega)
  replace z_b_1 := Chg.cell hc64 z_b_1 (by simp only; have := S3.out; have := S4.out; have := S7.out; have := S8.out; have := S11.out; have := S14.out; have := S17.out; have := S20.out; have := HBX1.out; have := S21.out; have := S24.out; have := S27.out; have := S30.out; have := S31.out; have := S34.out; have := S37.out; have := S38.out; have := S41.out; have := S44.out; have := S45.out; have := S48.out; have := S51.out; have := S54.out; have := S55.out; have := S56.out; have := S59.out; have := S62.out; omega)
  replace z_b_2 := Chg.cell hc64 z_b_2 (by simp only; have := S3.out; have := S4.out; have := S7.out; have := S8.out; have := S11.out; have := S14.out; have := S17.out; have := S20.out; have := HBX1.out; have := S21.out; have := S24.out; have := S27.out; have := S30.out; have := S31.out; have := S34.out; have := S37.out; have := S38.out; have := S41.out; have := S44.out; have := S45.out; have := S48.out; have := S51.out; have := S54.out; have := S55.out; have := S56.out; have := S59.out; have := S62.out; omega)
  replace HB_w0 := Lib.hid (HB_w0.out.chg hc64 (by have := S3.out; have := S4.out; have := S7.out; have := S8.out; have := S11.out; have := S14.out; have := S17.out; have := S20.out; have := HBX1.out; have := S21.out; have := S24.out; have := S27.out; have := S30.out; have := S31.out; have := S34.out; have := S37.out; have := S38.out; have := S41.out; have := S44.out; have := S45.out; have := S48.out; have := S51.out; have := S54.out; have := S55.out; have := S56.out; have := S59.out; have := S62.out; omega))
  replace z_w0_0 := Chg.cell hc64 z_w0_0 (by simp only; have := S3.out; have := S4.out; have := S7.out; have := S8.out; have := S11.out; have := S14.out; have := S17.out; have := S20.out; have := HBX1.out; have := S21.out; have := S24.out; have := S27.out; have := S30.out; have := S31.out; have := S34.out; have := S37.out; have := S38.out; have := S41.out; have := S44.out; have := S45.out; have := S48.out; have := S51.out; have := S54.out; have := S55.out; have := S56.out; have := S59.out; have := S62.out; omega)
  replace HB_x0 := Lib.hid (HB_x0.out.chg hc64 (by have := S3.out; have := S4.out; have := S7.out; have := S8.out; have := S11.out; have := S14.out; have := S17.out; have := S20.out; have := HBX1.out; have := S21.out; have := S24.out; have := S27.out; have := S30.out; have := S31.out; have := S34.out; have := S37.out; have := S38.out; have := S41.out; have := S44.out; have := S45.out; have := S48.out; have := S51.out; have := S54.out; have := S55.out; have := S56.out; have := S59.out; have := S62.out; omega))
  replace z_x0_0 := Chg.cell hc64 z_x0_0 (by simp only; have := S3.out; have := S4.out; have := S7.out; have := S8.out; have := S11.out; have := S14.out; have := S17.out; have := S20.out; have := HBX1.out; have := S21.out; have := S24.out; have := S27.out; have := S30.out; have := S31.out; have := S34.out; have := S37.out; have := S38.out; have := S41.out; have := S44.out; have := S45.out; have := S48.out; have := S51.out; have := S54.out; have := S55.out; have := S56.out; have := S59.out; have := S62.out; omega)
  replace z_x0_1 := Chg.cell hc64 z_x0_1 (by simp only; have := S3.out; have := S4.out; have := S7.out; have := S8.out; have := S11.out; have := S14.out; have := S17.out; have := S20.out; have := HBX1.out; have := S21.out; have := S24.out; have := S27.out; have := S30.out; have := S31.out; have := S34.out; have := S37.out; have := S38.out; have := S41.out; have := S44.out; have := S45.out; have := S48.out; have := S51.out; have := S54.out; have := S55.out; have := S56.out; have := S59.out; have := S62.out; omega)
  replace z_x0_2 := Chg.cell hc64 z_x0_2 (by simp only; have := S3.out; have := S4.out; have := S7.out; have := S8.out; have := S11.out; have := S14.out; have := S17.out; have := S20.out; have := HBX1.out; have := S21.out; have := S24.out; have := S27.out; have := S30.out; have := S31.out; have := S34.out; have := S37.out; have := S38.out; have := S41.out; have := S44.out; have := S45.out; have := S48.out; have := S51.out; have := S54.out; have := S55.out; have := S56.out; have := S59.out; have := S62.out; omega)
  replace HB_x1 := Lib.hid (HB_x1.out.chg hc64 (by have := S3.out; have := S4.out; have := S7.out; have := S8.out; have := S11.out; have := S14.out; have := S17.out; have := S20.out; have := HBX1.out; have := S21.out; have := S24.out; have := S27.out; have := S30.out; have := S31.out; have := S34.out; have := S37.out; have := S38.out; have := S41.out; have := S44.out; have := S45.out; have := S48.out; have := S51.out; have := S54.out; have := S55.out; have := S56.out; have := S59.out; have := S62.out; omega))
  replace z_x1_0 := Chg.cell hc64 z_x1_0 (by simp only; have := S3.out; have := S4.out; have := S7.out; have := S8.out; have := S11.out; have := S14.out; have := S17.out; have := S20.out; have := HBX1.out; have := S21.out; have := S24.out; have := S27.out; have := S30.out; have := S31.out; have := S34.out; have := S37.out; have := S38.out; have := S41.out; have := S44.out; have := S45.out; have := S48.out; have := S51.out; have := S54.out; have := S55.out; have := S56.out; have := S59.out; have := S62.out; omega)
  replace z_x1_1 := Chg.cell hc64 z_x1_1 (by simp only; have := S3.out; have := S4.out; have := S7.out; have := S8.out; have := S11.out; have := S14.out; have := S17.out; have := S20.out; have := HBX1.out; have := S21.out; have := S24.out; have := S27.out; have := S30.out; have := S31.out; have := S34.out; have := S37.out; have := S38.out; have := S41.out; have := S44.out; have := S45.out; have := S48.out; have := S51.out; have := S54.out; have := S55.out; have := S56.out; have := S59.out; have := S62.out; omega)
  replace z_x1_2 := Chg.cell hc64 z_x1_2 (by simp only; have := S3.out; have := S4.out; have := S7.out; have := S8.out; have := S11.out; have := S14.out; have := S17.out; have := S20.out; have := HBX1.out; have := S21.out; have := S24.out; have := S27.out; have := S30.out; have := S31.out; have := S34.out; have := S37.out; have := S38.out; have := S41.out; have := S44.out; have := S45.out; have := S48.out; have := S51.out; have := S54.out; have := S55.out; have := S56.out; have := S59.out; have := S62.out; omega)
  replace HB_g0 := Lib.hid (HB_g0.out.chg hc64 (by have := S3.out; have := S4.out; have := S7.out; have := S8.out; have := S11.out; have := S14.out; have := S17.out; have := S20.out; have := HBX1.out; have := S21.out; have := S24.out; have := S27.out; have := S30.out; have := S31.out; have := S34.out; have := S37.out; have := S38.out; have := S41.out; have := S44.out; have := S45.out; have := S48.out; have := S51.out; have := S54.out; have := S55.out; have := S56.out; have := S59.out; have := S62.out; omega))
  replace z_g0_0 := Chg.cell hc64 z_g0_0 (by simp only; have := S3.out; have := S4.out; have := S7.out; have := S8.out; have := S11.out; have := S14.out; have := S17.out; have := S20.out; have := HBX1.out; have := S21.out; have := S24.out; have := S27.out; have := S30.out; have := S31.out; have := S34.out; have := S37.out; have := S38.out; have := S41.out; have := S44.out; have := S45.out; have := S48.out; have := S51.out; have := S54.out; have := S55.out; have := S56.out; have := S59.out; have := S62.out; omega)
  replace HD := Lib.hid (HD.out.chg hc64 (fun i h1 h2 => by have := S3.out; have := S4.out; have := S7.out; have := S8.out; have := S11.out; have := S14.out; have := S17.out; have := S20.out; have := HBX1.out; have := S21.out; have := S24.out; have := S27.out; have := S30.out; have := S31.out; have := S34.out; have := S37.out; have := S38.out; have := S41.out; have := S44.out; have := S45.out; have := S48.out; have := S51.out; have := S54.out; have := S55.out; have := S56.out; have := S59.out; have := S62.out; omega))
  replace HX := Lib.hid (HX.out.chg hc64 (fun i h1 h2 => by have := S3.out; have := S4.out; have := S7.out; have := S8.out; have := S11.out; have := S14.out; have := S17.out; have := S20.out; have := HBX1.out; have := S21.out; have := S24.out; have := S27.out; have := S30.out; have := S31.out; have := S34.out; have := S37.out; have := S38.out; have := S41.out; have := S44.out; have := S45.out; have := S48.out; have := S51.out; have := S54.out; have := S55.out; have := S56.out; have := S59.out; have := S62.out; omega))
  replace HY := Lib.hid (HY.out.chg hc64 (fun i h1 h2 => by have := S3.out; have := S4.out; have := S7.out; have := S8.out; have := S11.out; have := S14.out; have := S17.out; have := S20.out; have := HBX1.out; have := S21.out; have := S24.out; have := S27.out; have := S30.out; have := S31.out; have := S34.out; have := S37.out; have := S38.out; have := S41.out; have := S44.out; have := S45.out; have := S48.out; have := S51.out; have := S54.out; have := S55.out; have := S56.out; have := S59.out; have := S62.out; omega))
  replace Rw0 := Lib.hid (Rw0.out.chg hc64 (fun i h1 h2 => by have := S3.out; have := S4.out; have := S7.out; have := S8.out; have := S11.out; have := S14.out; have := S17.out; have := S20.out; have := HBX1.out; have := S21.out; have := S24.out; have := S27.out; have := S30.out; have := S31.out; have := S34.out; have := S37.out; have := S38.out; have := S41.out; have := S44.out; have := S45.out; have := S48.out; have := S51.out; have := S54.out; have := S55.out; have := S56.out; have := S59.out; have := S62.out; omega))
  replace RG := Lib.hid (RG.out.chg hc64 (fun i h1 h2 => by have := S3.out; have := S4.out; have := S7.out; have := S8.out; have := S11.out; have := S14.out; have := S17.out; have := S20.out; have := HBX1.out; have := S21.out; have := S24.out; have := S27.out; have := S30.out; have := S31.out; have := S34.out; have := S37.out; have := S38.out; have := S41.out; have := S44.out; have := S45.out; have := S48.out; have := S51.out; have := S54.out; have := S55.out; have := S56.out; have := S59.out; have := S62.out; omega))
  replace OG := Lib.hid (OG.out.chg hc64 (fun i h1 h2 h3 => by have := S3.out; have := S4.out; have := S7.out; have := S8.out; have := S11.out; have := S14.out; have := S17.out; have := S20.out; have := HBX1.out; have := S21.out; have := S24.out; have := S27.out; have := S30.out; have := S31.out; have := S34.out; have := S37.out; have := S38.out; have := S41.out; have := S44.out; have := S45.out; have := S48.out; have := S51.out; have := S54.out; have := S55.out; have := S56.out; have := S59.out; have := S62.out; omega))
  have S65 := Lib.hid hc64.size
  clear O2 hc64
  have hk0 : ¬ (kd + (xs1.length : Int) + (xs2.length : Int) < 0) := by have := HKE.out; omega
  go_wp2_with fail
  refine (eqTable_t _ _ _ _ _ _ Y _ RG.out Rw0.out HYS.out.2.1 HYS.out.2.2).mono ?_
  rintro e w66 ⟨rfl, hc67⟩
  replace HCH := Lib.hid (HCH.out.trans hc67)
  replace HB_a := Lib.hid (HB_a.out.chg hc67 (fun x => x))
  replace z_a_0 := Chg.cell hc67 z_a_0 (fun x => x)
  replace z_a_1 := Chg.cell hc67 z_a_1 (fun x => x)
  replace z_a_2 := Chg.cell hc67 z_a_2 (fun x => x)
  replace HB_b := Lib.hid (HB_b.out.chg hc67 (fun x => x))
  replace z_b_0 := Chg.cell hc67 z_b_0 (fun x => x)
  replace z_b_1 := Chg.cell hc67 z_b_1 (fun x => x)
  replace z_b_2 := Chg.cell hc67 z_b_2 (fun x => x)
  replace HB_w0 := Lib.hid (HB_w0.out.chg hc67 (fun x => x))
  replace z_w0_0 := Chg.cell hc67 z_w0_0 (fun x => x)
  replace HB_x0 := Lib.hid (HB_x0.out.chg hc67 (fun x => x))
  replace z_x0_0 := Chg.cell hc67 z_x0_0 (fun x => x)
  replace z_x0_1 := Chg.cell hc67 z_x0_1 (fun x => x)
  replace z_x0_2 := Chg.cell hc67 z_x0_2 (fun x => x)
  replace HB_x1 := Lib.hid (HB_x1.out.chg hc67 (fun x => x))
  replace z_x1_0 := Chg.cell hc67 z_x1_0 (fun x => x)
  replace z_x1_1 := Chg.cell hc67 z_x1_1 (fun x => x)
  replace z_x1_2 := Chg.cell hc67 z_x1_2 (fun x => x)
  replace HB_g0 := Lib.hid (HB_g0.out.chg hc67 (fun x => x))
  replace z_g0_0 := Chg.cell hc67 z_g0_0 (fun x => x)
  replace HD := Lib.hid (HD.out.new hc67)
  replace HX := Lib.hid (HX.out.new hc67)
  replace HY := Lib.hid (HY.out.new hc67)
  replace Rw0 := Lib.hid (Rw0.out.new hc67)
  replace RG := Lib.hid (RG.out.new hc67)
  replace OG := Lib.hid (OG.out.new hc67)
  have S68 := Lib.hid hc67.size
  clear hc67
  go_wp2_with fail
  have hmk := markTable_any _ _ _ _ Tg 1 w66 OG.out (by rw [HXG.out]; exact HYS.out.1) (by omega) (by omega)
  rw [HLG.out, HXG.out] at hmk
  have HMK := Lib.hid hmk
  clear hmk
  refine (HMK.out).mono ?_
  rintro e w69 ⟨T1m, rfl, hc70, hTm, hTml, hOm⟩
  clear RG
  replace HCH := Lib.hid (HCH.out.trans' hc70 (fun i hi => .inr (by have := S3.out; have := S4.out; have := S7.out; have := S8.out; have := S11.out; have := S14.out; have := S17.out; have := S20.out; have := HBX1.out; have := S21.out; have := S24.out; have := S27.out; have := S30.out; have := S31.out; have := S34.out; have := S37.out; have := S38.out; have := S41.out; have := S44.out; have := S45.out; have := S48.out; have := S51.out; have := S54.out; have := S55.out; have := S56.out; have := S59.out; have := S62.out; have := S65.out; have := S68.out; omega)))
  replace HB_a := Lib.hid (HB_a.out.chg hc70 (by have := S3.out; have := S4.out; have := S7.out; have := S8.out; have := S11.out; have := S14.out; have := S17.out; have := S20.out; have := HBX1.out; have := S21.out; have := S24.out; have := S27.out; have := S30.out; have := S31.out; have := S34.out; have := S37.out; have := S38.out; have := S41.out; have := S44.out; have := S45.out; have := S48.out; have := S51.out; have := S54.out; have := S55.out; have := S56.out; have := S59.out; have := S62.out; have := S65.out; have := S68.out; omega))
  replace z_a_0 := Chg.cell hc70 z_a_0 (by simp only; have := S3.out; have := S4.out; have := S7.out; have := S8.out; have := S11.out; have := S14.out; have := S17.out; have := S20.out; have := HBX1.out; have := S21.out; have := S24.out; have := S27.out; have := S30.out; have := S31.out; have := S34.out; have := S37.out; have := S38.out; have := S41.out; have := S44.out; have := S45.out; have := S48.out; have := S51.out; have := S54.out; have := S55.out; have := S56.out; have := S59.out; have := S62.out; have := S65.out; have := S68.out; omega)
  replace z_a_1 := Chg.cell hc70 z_a_1 (by simp only; have := S3.out; have := S4.out; have := S7.out; have := S8.out; have := S11.out; have := S14.out; have := S17.out; have := S20.out; have := HBX1.out; have := S21.out; have := S24.out; have := S27.out; have := S30.out; have := S31.out; have := S34.out; have := S37.out; have := S38.out; have := S41.out; have := S44.out; have := S45.out; have := S48.out; have := S51.out; have := S54.out; have := S55.out; have := S56.out; have := S59.out; have := S62.out; have := S65.out; have := S68.out; omega)
  replace z_a_2 := Chg.cell hc70 z_a_2 (by simp only; have := S3.out; have := S4.out; have := S7.out; have := S8.out; have := S11.out; have := S14.out; have := S17.out; have := S20.out; have := HBX1.out; have := S21.out; have := S24.out; have := S27.out; have := S30.out; have := S31.out; have := S34.out; have := S37.out; have := S38.out; have := S41.out; have := S44.out; have := S45.out; have := S48.out; have := S51.out; have := S54.out; have := S55.out; have := S56.out; have := S59.out; have := S62.out; have := S65.out; have := S68.out; omega)
  replace HB_b := Lib.hid (HB_b.out.chg hc70 (by have := S3.out; have := S4.out; have := S7.out; have := S8.out; have := S11.out; have := S14.out; have := S17.out; have := S20.out; have := HBX1.out; have := S21.out; have := S24.out; have := S27.out; have := S30.out; have := S31.out; have := S34.out; have := S37.out; have := S38.out; have := S41.out; have := S44.out; have := S45.out; have := S48.out; have := S51.out; have := S54.out; have := S55.out; have := S56.out; have := S59.out; have := S62.out; have := S65.out; have := S68.out; omega))
  replace z_b_0 := Chg.cell hc70 z_b_0 (by simp only; have := S3.out; have := S4.out; have := S7.out; have := S8.out; have := S11.out; have := S14.out; have := S17.out; have := S20.out; have := HBX1.out; have := S21.out; have := S24.out; have := S27.out; have := S30.out; have := S31.out; have := S34.out; have := S37.out; have := S38.out; have := S41.out; have := S44.out; have := S45.out; have := S48.out; have := S51.out; have := S54.out; have := S55.out; have := S56.out; have := S59.out; have := S62.out; have := S65.out; have := S68.out; omega)
  replace z_b_1 := Chg.cell hc70 z_b_1 (by simp only; have := S3.out; have := S4.out; have := S7.out; have := S8.out; have := S11.out; have := S14.out; have := S17.out; have := S20.out; have := HBX1.out; have := S21.out; have := S24.out; have := S27.out; have := S30.out; have := S31.out; have := S34.out; have := S37.out; have := S38.out; have := S41.out; have := S44.out; have := S45.out; have := S48.out; have := S51.out; have := S54.out; have := S55.out; have := S56.out; have := S59.out; have := S62.out; have := S65.out; have := S68.out; omega)
  replace z_b_2 := Chg.cell hc70 z_b_2 (by simp only; have := S3.out; have := S4.out; have := S7.out; have := S8.out; have := S11.out; have := S14.out; have := S17.out; have := S20.out; have := HBX1.out; have := S21.out; have := S24.out; have := S27.out; have := S30.out; have := S31.out; have := S34.out; have := S37.out; have := S38.out; have := S41.out; have := S44.out; have := S45.out; have := S48.out; have := S51.out; have := S54.out; have := S55.out; have := S56.out; have := S59.out; have := S62.out; have := S65.out; have := S68.out; omega)
  replace HB_w0 := Lib.hid (HB_w0.out.chg hc70 (by have := S3.out; have := S4.out; have := S7.out; have := S8.out; have := S11.out; have := S14.out; have := S17.out; have := S20.out; have := HBX1.out; have := S21.out; have := S24.out; have := S27.out; have := S30.out; have := S31.out; have := S34.out; have := S37.out; have := S38.out; have := S41.out; have := S44.out; have := S45.out; have := S48.out; have := S51.out; have := S54.out; have := S55.out; have := S56.out; have := S59.out; have := S62.out; have := S65.out; have := S68.out; omega))
  replace z_w0_0 := Chg.cell hc70 z_w0_0 (by simp only; have := S3.out; have := S4.out; have := S7.out; have := S8.out; have := S11.out; have := S14.out; have := S17.out; have := S20.out; have := HBX1.out; have := S21.out; have := S24.out; have := S27.out; have := S30.out; have := S31.out; have := S34.out; have := S37.out; have := S38.out; have := S41.out; have := S44.out; have := S45.out; have := S48.out; have := S51.out; have := S54.out; have := S55.out; have := S56.out; have := S59.out; have := S62.out; have := S65.out; have := S68.out; omega)
  replace HB_x0 := Lib.hid (HB_x0.out.chg hc70 (by have := S3.out; have := S4.out; have := S7.out; have := S8.out; have := S11.out; have := S14.out; have := S17.out; have := S20.out; have := HBX1.out; have := S21.out; have := S24.out; have := S27.out; have := S30.out; have := S31.out; have := S34.out; have := S37.out; have := S38.out; have := S41.out; have := S44.out; have := S45.out; have := S48.out; have := S51.out; have := S54.out; have := S55.out; have := S56.out; have := S59.out; have := S62.out; have := S65.out; have := S68.out; omega))
  replace z_x0_0 := Chg.cell hc70 z_x0_0 (by simp only; have := S3.out; have := S4.out; have := S7.out; have := S8.out; have := S11.out; have := S14.out; have := S17.out; have := S20.out; have := HBX1.out; have := S21.out; have := S24.out; have := S27.out; have := S30.out; have := S31.out; have := S34.out; have := S37.out; have := S38.out; have := S41.out; have := S44.out; have := S45.out; have := S48.out; have := S51.out; have := S54.out; have := S55.out; have := S56.out; have := S59.out; have := S62.out; have := S65.out; have := S68.out; omega)
  replace z_x0_1 := Chg.cell hc70 z_x0_1 (by simp only; have := S3.out; have := S4.out; have := S7.out; have := S8.out; have := S11.out; have := S14.out; have := S17.out; have := S20.out; have := HBX1.out; have := S21.out; have := S24.out; have := S27.out; have := S30.out; have := S31.out; have := S34.out; have := S37.out; have := S38.out; have := S41.out; have := S44.out; have := S45.out; have := S48.out; have := S51.out; have := S54.out; have := S55.out; have := S56.out; have := S59.out; have := S62.out; have := S65.out; have := S68.out; omega)
  replace z_x0_2 := Chg.cell hc70 z_x0_2 (by simp only; have := S3.out; have := S4.out; have := S7.out; have := S8.out; have := S11.out; have := S14.out; have := S17.out; have := S20.out; have := HBX1.out; have := S21.out; have := S24.out; have := S27.out; have := S30.out; have := S31.out; have := S34.out; have := S37.out; have := S38.out; have := S41.out; have := S44.out; have := S45.out; have := S48.out; have := S51.out; have := S54.out; have := S55.out; have := S56.out; have := S59.out; have := S62.out; have := S65.out; have := S68.out; omega)
  replace HB_x1 := Lib.hid (HB_x1.out.chg hc70 (by have := S3.out; have := S4.out; have := S7.out; have := S8.out; have := S11.out; have := S14.out; have := S17.out; have := S20.out; have := HBX1.out; have := S21.out; have := S24.out; have := S27.out; have := S30.out; have := S31.out; have := S34.out; have := S37.out; have := S38.out; have := S41.out; have := S44.out; have := S45.out; have := S48.out; have := S51.out; have := S54.out; have := S55.out; have := S56.out; have := S59.out; have := S62.out; have := S65.out; have := S68.out; omega))
  replace z_x1_0 := Chg.cell hc70 z_x1_0 (by simp only; have := S3.out; have := S4.out; have := S7.out; have := S8.out; have := S11.out; have := S14.out; have := S17.out; have := S20.out; have := HBX1.out; have := S21.out; have := S24.out; have := S27.out; have := S30.out; have := S31.out; have := S34.out; have := S37.out; have := S38.out; have := S41.out; have := S44.out; have := S45.out; have := S48.out; have := S51.out; have := S54.out; have := S55.out; have := S56.out; have := S59.out; have := S62.out; have := S65.out; have := S68.out; omega)
  replace z_x1_1 := Chg.cell hc70 z_x1_1 (by simp only; have := S3.out; have := S4.out; have := S7.out; have := S8.out; have := S11.out; have := S14.out; have := S17.out; have := S20.out; have := HBX1.out; have := S21.out; have := S24.out; have := S27.out; have := S30.out; have := S31.out; have := S34.out; have := S37.out; have := S38.out; have := S41.out; have := S44.out; have := S45.out; have := S48.out; have := S51.out; have := S54.out; have := S55.out; have := S56.out; have := S59.out; have := S62.out; have := S65.out; have := S68.out; omega)
  replace z_x1_2 := Chg.cell hc70 z_x1_2 (by simp only; have := S3.out; have := S4.out; have := S7.out; have := S8.out; have := S11.out; have := S14.out; have := S17.out; have := S20.out; have := HBX1.out; have := S21.out; have := S24.out; have := S27.out; have := S30.out; have := S31.out; have := S34.out; have := S37.out; have := S38.out; have := S41.out; have := S44.out; have := S45.out; have := S48.out; have := S51.out; have := S54.out; have := S55.out; have := S56.out; have := S59.out; have := S62.out; have := S65.out; have := S68.out; omega)
  replace HB_g0 := Lib.hid (HB_g0.out.chg hc70 (by have := S3.out; have := S4.out; have := S7.out; have := S8.out; have := S11.out; have := S14.out; have := S17.out; have := S20.out; have := HBX1.out; have := S21.out; have := S24.out; have := S27.out; have := S30.out; have := S31.out; have := S34.out; have := S37.out; have := S38.out; have := S41.out; have := S44.out; have := S45.out; have := S48.out; have := S51.out; have := S54.out; have := S55.out; have := S56.out; have := S59.out; have := S62.out; have := S65.out; have := S68.out; omega))
  replace z_g0_0 := Chg.cell hc70 z_g0_0 (by simp only; have := S3.out; have := S4.out; have := S7.out; have := S8.out; have := S11.out; have := S14.out; have := S17.out; have := S20.out; have := HBX1.out; have := S21.out; have := S24.out; have := S27.out; have := S30.out; have := S31.out; have := S34.out; have := S37.out; have := S38.out; have := S41.out; have := S44.out; have := S45.out; have := S48.out; have := S51.out; have := S54.out; have := S55.out; have := S56.out; have := S59.out; have := S62.out; have := S65.out; have := S68.out; omega)
  replace HD := Lib.hid (HD.out.chg hc70 (fun i h1 h2 => by have := S3.out; have := S4.out; have := S7.out; have := S8.out; have := S11.out; have := S14.out; have := S17.out; have := S20.out; have := HBX1.out; have := S21.out; have := S24.out; have := S27.out; have := S30.out; have := S31.out; have := S34.out; have := S37.out; have := S38.out; have := S41.out; have := S44.out; have := S45.out; have := S48.out; have := S51.out; have := S54.out; have := S55.out; have := S56.out; have := S59.out; have := S62.out; have := S65.out; have := S68.out; omega))
  replace HX := Lib.hid (HX.out.chg hc70 (fun i h1 h2 => by have := S3.out; have := S4.out; have := S7.out; have := S8.out; have := S11.out; have := S14.out; have := S17.out; have := S20.out; have := HBX1.out; have := S21.out; have := S24.out; have := S27.out; have := S30.out; have := S31.out; have := S34.out; have := S37.out; have := S38.out; have := S41.out; have := S44.out; have := S45.out; have := S48.out; have := S51.out; have := S54.out; have := S55.out; have := S56.out; have := S59.out; have := S62.out; have := S65.out; have := S68.out; omega))
  replace HY := Lib.hid (HY.out.chg hc70 (fun i h1 h2 => by have := S3.out; have := S4.out; have := S7.out; have := S8.out; have := S11.out; have := S14.out; have := S17.out; have := S20.out; have := HBX1.out; have := S21.out; have := S24.out; have := S27.out; have := S30.out; have := S31.out; have := S34.out; have := S37.out; have := S38.out; have := S41.out; have := S44.out; have := S45.out; have := S48.out; have := S51.out; have := S54.out; have := S55.out; have := S56.out; have := S59.out; have := S62.out; have := S65.out; have := S68.out; omega))
  replace Rw0 := Lib.hid (Rw0.out.chg hc70 (fun i h1 h2 => by have := S3.out; have := S4.out; have := S7.out; have := S8.out; have := S11.out; have := S14.out; have := S17.out; have := S20.out; have := HBX1.out; have := S21.out; have := S24.out; have := S27.out; have := S30.out; have := S31.out; have := S34.out; have := S37.out; have := S38.out; have := S41.out; have := S44.out; have := S45.out; have := S48.out; have := S51.out; have := S54.out; have := S55.out; have := S56.out; have := S59.out; have := S62.out; have := S65.out; have := S68.out; omega))
  have S71 := Lib.hid hc70.size
  clear hc70
  clear OG
  have hRm := hOm.reads
  rw [hTm] at hRm
  have RM := Lib.hid hRm
  clear hRm hOm hTm hTml
  have hm0 : ¬ ((1 : Int) + ((lens Y : Nat) : Int) < 0) := by omega
  have hmm : (((1 : Int) + ((lens Y : Nat) : Int)) != ((1 : Int) + ((lens Y : Nat) : Int))) = false := by simp
  go_wp2_with fail
  refine (heldTable_any _ _ _ Y 1 _ RM.out HYS.out.1 (by omega) (by omega)).mono ?_
  rintro e w72 ⟨rfl, hc73⟩
  replace HCH := Lib.hid (HCH.out.trans hc73)
  replace HB_a := Lib.hid (HB_a.out.chg hc73 (fun x => x))
  replace z_a_0 := Chg.cell hc73 z_a_0 (fun x => x)
  replace z_a_1 := Chg.cell hc73 z_a_1 (fun x => x)
  replace z_a_2 := Chg.cell hc73 z_a_2 (fun x => x)
  replace HB_b := Lib.hid (HB_b.out.chg hc73 (fun x => x))
  replace z_b_0 := Chg.cell hc73 z_b_0 (fun x => x)
  replace z_b_1 := Chg.cell hc73 z_b_1 (fun x => x)
  replace z_b_2 := Chg.cell hc73 z_b_2 (fun x => x)
  replace HB_w0 := Lib.hid (HB_w0.out.chg hc73 (fun x => x))
  replace z_w0_0 := Chg.cell hc73 z_w0_0 (fun x => x)
  replace HB_x0 := Lib.hid (HB_x0.out.chg hc73 (fun x => x))
  replace z_x0_0 := Chg.cell hc73 z_x0_0 (fun x => x)
  replace z_x0_1 := Chg.cell hc73 z_x0_1 (fun x => x)
  replace z_x0_2 := Chg.cell hc73 z_x0_2 (fun x => x)
  replace HB_x1 := Lib.hid (HB_x1.out.chg hc73 (fun x => x))
  replace z_x1_0 := Chg.cell hc73 z_x1_0 (fun x => x)
  replace z_x1_1 := Chg.cell hc73 z_x1_1 (fun x => x)
  replace z_x1_2 := Chg.cell hc73 z_x1_2 (fun x => x)
  replace HB_g0 := Lib.hid (HB_g0.out.chg hc73 (fun x => x))
  replace z_g0_0 := Chg.cell hc73 z_g0_0 (fun x => x)
  replace HD := Lib.hid (HD.out.new hc73)
  replace HX := Lib.hid (HX.out.new hc73)
  replace HY := Lib.hid (HY.out.new hc73)
  replace Rw0 := Lib.hid (Rw0.out.new hc73)
  replace RM := Lib.hid (RM.out.new hc73)
  have S74 := Lib.hid hc73.size
  clear hc73
  go_wp2_with fail
  have HBN := Lib.hid hbn
  clear hbn
  refine wp_region_rg (WInv := fun _ m w5 => Chg NoB w72 w5 ∧ BoxI w72.heap.size 31 #[.slice none 0 0] 11 12 9 m w5) (R := RBox NoB w72.heap.size 31) (Post := PL [fun v _ => v = .slice A D.length c, fun v w => PDev w72.heap.size D v w, fun v _ => v = .agg #[.int .i64 n1, .slice A1 xs1.length c1, .int .i64 s1], fun v w => PSav w72.heap.size n1 xs1 s1 v w, fun v _ => v = .agg #[.int .i64 n2, .slice A2 xs2.length c2, .int .i64 s2], fun v w => PSav w72.heap.size n2 xs2 s2 v w, fun v _ => v = .int .i64 s, fun v w => PTab w72.heap.size Y (fun t => .tuple #[t, .bool b0]) v w, fun v w => PTab w72.heap.size Y (fun t => .tuple #[t, .bool b0]) v w, fun v w => PTab w72.heap.size Y (fun t => t) v w, fun v _ => v = .bool b0, fun _ _ => True, fun _ _ => True, fun v _ => v = .bool b0]) (by kernel_rfl) (by kernel_rfl) (fun _ _ _ _ h _ _ => h) (pl_stab ⟨(fun _ _ _ h _ => h), (fun _ _ _ h hR => PDev.box h hR), (fun _ _ _ h _ => h), (fun _ _ _ h hR => PSav.box h hR int_tab'), (fun _ _ _ h _ => h), (fun _ _ _ h hR => PSav.box h hR int_tab'), (fun _ _ _ h _ => h), (fun _ _ _ h hR => PTab.box h hR ints_tab' int_tab'), (fun _ _ _ h hR => PTab.box h hR ints_tab' int_tab'), (fun _ _ _ h hR => PTab.box h hR ints_tab' int_tab'), (fun _ _ _ h _ => h), (fun _ _ _ _ _ => trivial), (fun _ _ _ _ _ => trivial), (fun _ _ _ h _ => h), trivial⟩) ⟨(Chg.refl _ _).drew, BoxI.start⟩ ⟨?_, ?_, ?_, ?_, ?_, ?_, ?_, ?_, ?_, ?_, ?_, ?_, ?_, ?_, trivial⟩ ?_
  · rintro kc m a w5 hkc ⟨hch, hbx⟩ hm hn
    have e1 : a.tmps[0]?.getD undef = .slice A D.length c := hn.1
    exact rg_val (v := .slice A D.length c) (by simp [execOp, go_sem, e1]) rfl ⟨hch, hbx.keep (by decide) (by decide) hm (Chg.refl NoB _) (fun _ _ x => x)⟩ (Chg.refl _ _) rfl
  · rintro kc m a w5 hkc ⟨hch, hbx⟩ hm hn
    obtain ⟨⟨_, e1, _, rfl⟩, -⟩ := hn
    refine rg_call (f := 22) (args := #[.slice A D.length c]) (by simp [go_sem, e1]) rfl ?_
    refine (toBlockS_any _ A c D _ (HD.out.new hch) HL.out HPP.out).mono ?_
    rintro e w6 ⟨gx, Tx, rfl, hTx, hc6, hOx⟩
    exact ⟨_, rfl, ⟨hch.trans hc6, hbx.keep (by decide) (by decide) hm hc6 (fun _ _ x => x)⟩, RBox.of hc6 (fun _ x => x), ⟨gx, Tx, rfl, hOx.more hch.size (Nat.le_refl _), Lib.hid hTx⟩⟩
  · rintro kc m a w5 hkc ⟨hch, hbx⟩ hm hn
    have e1 : a.tmps[5]?.getD undef = .pointer (some ⟨w.heap.size, 0, none⟩) := hn.1
    have y0 := Chg.cell hch z_a_0 (fun x => x)
    have y1 := Chg.cell hch z_a_1 (fun x => x)
    have y2 := Chg.cell hch z_a_2 (fun x => x)
    exact rg_val (v := .agg #[.int .i64 n1, .slice A1 xs1.length c1, .int .i64 s1]) (by simp [execOp, go_sem, e1, y0, y1, y2]) rfl ⟨hch, hbx.keep (by decide) (by decide) hm (Chg.refl NoB _) (fun _ _ x => x)⟩ (Chg.refl _ _) rfl
  · rintro kc m a w5 hkc ⟨hch, hbx⟩ hm hn
    obtain ⟨⟨_, e1, _, rfl⟩, -⟩ := hn
    refine rg_call (f := 57) (args := #[.agg #[.int .i64 n1, .slice A1 xs1.length c1, .int .i64 s1]]) (by simp [go_sem, e1]) rfl ?_
    refine (toSave_any _ n1 s1 A1 c1 xs1 _ (HX.out.new hch) HL1.out).mono ?_
    rintro e w6 ⟨gx, rfl, hO, hc6⟩
    exact ⟨_, rfl, ⟨hch.trans hc6, hbx.keep (by decide) (by decide) hm hc6 (fun _ _ x => x)⟩, RBox.of hc6 (fun _ x => x), ⟨gx, rfl, hO.more hch.size (Nat.le_refl _)⟩⟩
  · rintro kc m a w5 hkc ⟨hch, hbx⟩ hm hn
    have e1 : a.tmps[6]?.getD undef = .pointer (some ⟨w.heap.size + 1, 0, none⟩) := hn.1
    have y0 := Chg.cell hch z_b_0 (fun x => x)
    have y1 := Chg.cell hch z_b_1 (fun x => x)
    have y2 := Chg.cell hch z_b_2 (fun x => x)
    exact rg_val (v := .agg #[.int .i64 n2, .slice A2 xs2.length c2, .int .i64 s2]) (by simp [execOp, go_sem, e1, y0, y1, y2]) rfl ⟨hch, hbx.keep (by decide) (by decide) hm (Chg.refl NoB _) (fun _ _ x => x)⟩ (Chg.refl _ _) rfl
  · rintro kc m a w5 hkc ⟨hch, hbx⟩ hm hn
    obtain ⟨⟨_, e1, _, rfl⟩, -⟩ := hn
    refine rg_call (f := 57) (args := #[.agg #[.int .i64 n2, .slice A2 xs2.length c2, .int .i64 s2]]) (by simp [go_sem, e1]) rfl ?_
    refine (toSave_any _ n2 s2 A2 c2 xs2 _ (HY.out.new hch) HL2.out).mono ?_
    rintro e w6 ⟨gx, rfl, hO, hc6⟩
    exact ⟨_, rfl, ⟨hch.trans hc6, hbx.keep (by decide) (by decide) hm hc6 (fun _ _ x => x)⟩, RBox.of hc6 (fun _ x => x), ⟨gx, rfl, hO.more hch.size (Nat.le_refl _)⟩⟩
  · rintro kc m a w5 hkc ⟨hch, hbx⟩ hm hn
    have e1 : a.tmps[3]?.getD undef = .int .i64 s := hn.1
    exact rg_val (v := .int .i64 s) (by simp [execOp, go_sem, e1]) rfl ⟨hch, hbx.keep (by decide) (by decide) hm (Chg.refl NoB _) (fun _ _ x => x)⟩ (Chg.refl _ _) rfl
  · rintro kc m a w5 hkc ⟨hch, hbx⟩ hm hn
    obtain ⟨⟨v1, e1, _, hd1⟩, ⟨v3, e3, _, gx1, rfl, ho1⟩, ⟨v5, e5, _, gx2, rfl, ho2⟩, ⟨_, e6, _, rfl⟩, -⟩ := hn
    obtain ⟨gx, rfl, hrx⟩ := PDev.rd hd1
    refine rg_call (f := 12) (args := #[.slice (some ⟨gx, 0, none⟩) D.length D.length, .agg #[.int .i64 n1, .slice (some ⟨gx1, 0, none⟩) xs1.length xs1.length, .int .i64 s1], .agg #[.int .i64 n2, .slice (some ⟨gx2, 0, none⟩) xs2.length xs2.length, .int .i64 s2], .int .i64 s]) (by simp [go_sem, e1, e3, e5, e6]) rfl ?_
    refine (iMountTable_any _ _ _ _ _ D ⟨n1, xs1, s1⟩ ⟨n2, xs2, s2⟩ _ _ xs1.length xs2.length s X N0 bb _ hrx ho1.rd (Nat.le_refl _) (by have := HL1.out; omega) ho2.rd (Nat.le_refl _) (by have := HL2.out; omega) HI0.out).mono ?_
    rintro e w6 ⟨Ar, cr, Tr, rfl, hX, hc6, hO⟩
    rw [HYE.out] at hX ⊢
    rw [HBE.out]
    exact ⟨_, rfl, ⟨hch.trans hc6, hbx.keep (by decide) (by decide) hm hc6 (fun _ _ x => x)⟩, RBox.of hc6 (fun _ x => x), ⟨Ar, cr, Tr, rfl, hO.more hch.size (Nat.le_refl _), Lib.hid hX⟩⟩
  · rintro kc m a w5 hkc ⟨hch, hbx⟩ hm hn
    obtain ⟨⟨_, e1, _, Ar, cr, Tr, rfl, hO, hX⟩, -⟩ := hn
    exact rg_val (v := .tuple #[.agg #[.slice Ar Y.length cr], .bool b0]) (by simp [execOp, go_sem, e1]) rfl ⟨hch, hbx.keep (by decide) (by decide) hm (Chg.refl NoB _) (fun _ _ x => x)⟩ (Chg.refl _ _) ⟨Ar, cr, Tr, rfl, hO, hX⟩
  · rintro kc m a w5 hkc ⟨hch, hbx⟩ hm hn
    obtain ⟨⟨_, e1, _, Ar, cr, Tr, rfl, hO, hX⟩, -⟩ := hn
    exact rg_val (v := .agg #[.slice Ar Y.length cr]) (by simp [execOp, go_sem, e1]) rfl ⟨hch, hbx.keep (by decide) (by decide) hm (Chg.refl NoB _) (fun _ _ x => x)⟩ (Chg.refl _ _) ⟨Ar, cr, Tr, rfl, hO, hX⟩
  · rintro kc m a w5 hkc ⟨hch, hbx⟩ hm hn
    obtain ⟨⟨_, e1, _, Ar, cr, Tr, rfl, hO, hX⟩, -⟩ := hn
    exact rg_val (v := .bool b0) (by simp [execOp, go_sem, e1]) rfl ⟨hch, hbx.keep (by decide) (by decide) hm (Chg.refl NoB _) (fun _ _ x => x)⟩ (Chg.refl _ _) rfl
  · rintro kc m a w5 hkc ⟨hch, hbx⟩ hm hn
    have hca : Chg NoB w5 (w5.alloc (.cells #[.slice none 0 0] 31)) := (Chg.refl _ _).alloc _
    exact rg_val (v := .pointer (some ⟨w5.heap.size, 0, none⟩)) (w' := w5.alloc (.cells #[.slice none 0 0] 31)) (by simp [execOp, go_sem]) rfl ⟨hch.alloc _, hbx.alloc (by decide) hm hch.size⟩ (RBox.of hca (fun _ x => x.elim)) trivial
  · rintro kc m a w5 hkc ⟨hch, hbx⟩ hm hn
    obtain ⟨⟨p, e1, hma, _⟩, ⟨v5, e2, hmv, hd5⟩, -⟩ := hn
    obtain ⟨Ar, cr, Tr, rfl, hO, hX⟩ := hd5
    obtain ⟨bx, rfl, hB, hb⟩ := hbx.ready hm hma
    have f0 := hb.frozen 0
    have x0 : w5.cell? ⟨bx, 0, none⟩ = some (.slice none 0 0) := (hb.cell _).trans rfl
    have hst : Chg (· = bx) w5 (w5.setCell ⟨bx, 0, none⟩ (.slice Ar Y.length cr)) := (Chg.refl (· = bx) w5).setCell (p := ⟨bx, 0, none⟩) (.inl rfl) _
    have hb' : Blk (w5.setCell ⟨bx, 0, none⟩ (.slice Ar Y.length cr)) bx 31 #[.slice Ar Y.length cr] := hb.set_ 0 _
    exact rg_skip (w' := w5.setCell ⟨bx, 0, none⟩ (.slice Ar Y.length cr)) (by simp [execOp, go_sem, e1, e2, x0, f0]) rfl ⟨hch.own hst hB, BoxI.store (by decide) (by decide) hma hB hmv hb'⟩ (RBox.box hst hB hb) trivial
  · rintro kc m a w5 hkc ⟨hch, hbx⟩ hm hn
    obtain ⟨⟨_, e1, _, rfl⟩, -⟩ := hn
    exact rg_val (v := .bool b0) (by simp [execOp, go_sem, e1]) rfl ⟨hch, hbx.keep (by decide) (by decide) hm (Chg.refl NoB _) (fun _ _ x => x)⟩ (Chg.refl _ _) rfl
  rintro m w75 ⟨hc76, hbx⟩
  simp only [AllVals]
  rintro rv0 m0 p0 rv1 m1 p1 rv2 m2 p2 rv3 m3 p3 rv4 m4 p4 rv5 m5 p5 rv6 m6 p6 rv7 m7 p7 rv8 m8 p8 rv9 m9 p9 rv10 m10 p10 rv11 m11 p11 rv12 m12 p12 rv13 m13 p13
  have p5x : PTab w72.heap.size Y (fun t => t) rv9 w75 := p9
  obtain ⟨Arh0, crh0, Trh0, rfl, hOh0, hXh0⟩ := p5x
  obtain rfl := p10
  obtain rfl := p13
  obtain ⟨bx2, rfl, hB2, hb2⟩ := hbx.done m11 m12 m9
  have HBX2 := Lib.hid hB2
  have hbb2 : Blk w75 bx2 31 #[.slice Arh0 Y.length crh0] := hb2
  clear hB2 hb2 hbx p9 p0 p1 p2 p3 p4 p5 p6 p7 p8 p11 p12
  simp only [Act.put, List.setIfInBounds_toArray, List.set_cons_succ, List.set_cons_zero]
  replace HCH := Lib.hid (HCH.out.trans hc76)
  replace HB_a := Lib.hid (HB_a.out.chg hc76 (fun x => x))
  replace z_a_0 := Chg.cell hc76 z_a_0 (fun x => x)
  replace z_a_1 := Chg.cell hc76 z_a_1 (fun x => x)
  replace z_a_2 := Chg.cell hc76 z_a_2 (fun x => x)
  replace HB_b := Lib.hid (HB_b.out.chg hc76 (fun x => x))
  replace z_b_0 := Chg.cell hc76 z_b_0 (fun x => x)
  replace z_b_1 := Chg.cell hc76 z_b_1 (fun x => x)
  replace z_b_2 := Chg.cell hc76 z_b_2 (fun x => x)
  replace HB_w0 := Lib.hid (HB_w0.out.chg hc76 (fun x => x))
  replace z_w0_0 := Chg.cell hc76 z_w0_0 (fun x => x)
  replace HB_x0 := Lib.hid (HB_x0.out.chg hc76 (fun x => x))
  replace z_x0_0 := Chg.cell hc76 z_x0_0 (fun x => x)
  replace z_x0_1 := Chg.cell hc76 z_x0_1 (fun x => x)
  replace z_x0_2 := Chg.cell hc76 z_x0_2 (fun x => x)
  replace HB_x1 := Lib.hid (HB_x1.out.chg hc76 (fun x => x))
  replace z_x1_0 := Chg.cell hc76 z_x1_0 (fun x => x)
  replace z_x1_1 := Chg.cell hc76 z_x1_1 (fun x => x)
  replace z_x1_2 := Chg.cell hc76 z_x1_2 (fun x => x)
  replace HB_g0 := Lib.hid (HB_g0.out.chg hc76 (fun x => x))
  replace z_g0_0 := Chg.cell hc76 z_g0_0 (fun x => x)
  replace HD := Lib.hid (HD.out.new hc76)
  replace HX := Lib.hid (HX.out.new hc76)
  replace HY := Lib.hid (HY.out.new hc76)
  replace Rw0 := Lib.hid (Rw0.out.new hc76)
  replace RM := Lib.hid (RM.out.new hc76)
  have S77 := Lib.hid hc76.size
  have S78 := Lib.hid hbb2.lt
  have HB_h0 := Lib.hid hbb2
  have z_h0_0 : w75.cell? ⟨bx2, 0, none⟩ = some (.slice Arh0 Y.length crh0) := (HB_h0.out.cell _).trans rfl
  clear hbb2 hc76
  have hRh0 := hOh0.reads
  rw [hXh0.out] at hRh0
  have Rh0 := Lib.hid hRh0
  clear hRh0 hOh0
  have hbn := HBN.out
  go_wp2_with fail
  refine (eqTable_t _ _ _ _ _ _ Y _ Rh0.out Rw0.out HYS.out.2.1 HYS.out.2.2).mono ?_
  rintro e w79 ⟨rfl, hc80⟩
  replace HCH := Lib.hid (HCH.out.trans hc80)
  replace HB_a := Lib.hid (HB_a.out.chg hc80 (fun x => x))
  replace z_a_0 := Chg.cell hc80 z_a_0 (fun x => x)
  replace z_a_1 := Chg.cell hc80 z_a_1 (fun x => x)
  replace z_a_2 := Chg.cell hc80 z_a_2 (fun x => x)
  replace HB_b := Lib.hid (HB_b.out.chg hc80 (fun x => x))
  replace z_b_0 := Chg.cell hc80 z_b_0 (fun x => x)
  replace z_b_1 := Chg.cell hc80 z_b_1 (fun x => x)
  replace z_b_2 := Chg.cell hc80 z_b_2 (fun x => x)
  replace HB_w0 := Lib.hid (HB_w0.out.chg hc80 (fun x => x))
  replace z_w0_0 := Chg.cell hc80 z_w0_0 (fun x => x)
  replace HB_x0 := Lib.hid (HB_x0.out.chg hc80 (fun x => x))
  replace z_x0_0 := Chg.cell hc80 z_x0_0 (fun x => x)
  replace z_x0_1 := Chg.cell hc80 z_x0_1 (fun x => x)
  replace z_x0_2 := Chg.cell hc80 z_x0_2 (fun x => x)
  replace HB_x1 := Lib.hid (HB_x1.out.chg hc80 (fun x => x))
  replace z_x1_0 := Chg.cell hc80 z_x1_0 (fun x => x)
  replace z_x1_1 := Chg.cell hc80 z_x1_1 (fun x => x)
  replace z_x1_2 := Chg.cell hc80 z_x1_2 (fun x => x)
  replace HB_g0 := Lib.hid (HB_g0.out.chg hc80 (fun x => x))
  replace z_g0_0 := Chg.cell hc80 z_g0_0 (fun x => x)
  replace HB_h0 := Lib.hid (HB_h0.out.chg hc80 (fun x => x))
  replace z_h0_0 := Chg.cell hc80 z_h0_0 (fun x => x)
  replace HD := Lib.hid (HD.out.new hc80)
  replace HX := Lib.hid (HX.out.new hc80)
  replace HY := Lib.hid (HY.out.new hc80)
  replace Rw0 := Lib.hid (Rw0.out.new hc80)
  replace RM := Lib.hid (RM.out.new hc80)
  replace Rh0 := Lib.hid (Rh0.out.new hc80)
  have S81 := Lib.hid hc80.size
  clear hc80
  go_wp2_with fail
  refine (heldTable_any _ _ _ Y 1 _ RM.out HYS.out.1 (by omega) (by omega)).mono ?_
  rintro e w82 ⟨rfl, hc83⟩
  replace HCH := Lib.hid (HCH.out.trans hc83)
  replace HB_a := Lib.hid (HB_a.out.chg hc83 (fun x => x))
  replace z_a_0 := Chg.cell hc83 z_a_0 (fun x => x)
  replace z_a_1 := Chg.cell hc83 z_a_1 (fun x => x)
  replace z_a_2 := Chg.cell hc83 z_a_2 (fun x => x)
  replace HB_b := Lib.hid (HB_b.out.chg hc83 (fun x => x))
  replace z_b_0 := Chg.cell hc83 z_b_0 (fun x => x)
  replace z_b_1 := Chg.cell hc83 z_b_1 (fun x => x)
  replace z_b_2 := Chg.cell hc83 z_b_2 (fun x => x)
  replace HB_w0 := Lib.hid (HB_w0.out.chg hc83 (fun x => x))
  replace z_w0_0 := Chg.cell hc83 z_w0_0 (fun x => x)
  replace HB_x0 := Lib.hid (HB_x0.out.chg hc83 (fun x => x))
  replace z_x0_0 := Chg.cell hc83 z_x0_0 (fun x => x)
  replace z_x0_1 := Chg.cell hc83 z_x0_1 (fun x => x)
  replace z_x0_2 := Chg.cell hc83 z_x0_2 (fun x => x)
  replace HB_x1 := Lib.hid (HB_x1.out.chg hc83 (fun x => x))
  replace z_x1_0 := Chg.cell hc83 z_x1_0 (fun x => x)
  replace z_x1_1 := Chg.cell hc83 z_x1_1 (fun x => x)
  replace z_x1_2 := Chg.cell hc83 z_x1_2 (fun x => x)
  replace HB_g0 := Lib.hid (HB_g0.out.chg hc83 (fun x => x))
  replace z_g0_0 := Chg.cell hc83 z_g0_0 (fun x => x)
  replace HB_h0 := Lib.hid (HB_h0.out.chg hc83 (fun x => x))
  replace z_h0_0 := Chg.cell hc83 z_h0_0 (fun x => x)
  replace HD := Lib.hid (HD.out.new hc83)
  replace HX := Lib.hid (HX.out.new hc83)
  replace HY := Lib.hid (HY.out.new hc83)
  replace Rw0 := Lib.hid (Rw0.out.new hc83)
  replace RM := Lib.hid (RM.out.new hc83)
  replace Rh0 := Lib.hid (Rh0.out.new hc83)
  have S84 := Lib.hid hc83.size
  clear hc83
  go_wp2
  go_ret
  exact ⟨rfl, HCH.out⟩
end Go.Proofs.Ytpiojofmflfkkaa
