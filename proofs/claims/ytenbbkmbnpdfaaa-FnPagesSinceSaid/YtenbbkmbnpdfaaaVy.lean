/- Program, HeadOf, l6Set of the reference, where what they take is valid. -/
import Derived.Test.YtenbbkmbnpdfaaaVx
import Derived.Test.YtenbbkmbnpdfaaaVk
namespace Go.Proofs.Ytenbbkmbnpdfaaa
open Go.RowKit
theorem ok_box {G : Nat → Prop} {B B' : Nat} {w w' : World} {r : BkO} (h : r.ok B w.heap.size w) (hR : RBox G B' 44 w w') (hG : ∀ k, B ≤ k → ¬ G k) : r.ok B w'.heap.size w' := by
  have hb := hR.blk h.2.2.1 (hG _ h.1) (.inr ty_page_block)
  exact ⟨h.1, Nat.lt_of_lt_of_le h.2.1 hR.chg.size, hb, h.2.2.2⟩
def ProgP (w : World) (D : List Bk) (k : Nat) (p : Pg) (e : Ending) (w' : World) : Prop :=
  ∃ A c T, e = .returned (.tuple #[.slice A D.length c, .int .i64 (program D (k : Int) p).2]) ∧ bksOf T = (program D (k : Int) p).1 ∧ DevQ w.heap.size w'.heap.size w' A c T ∧ Chg NoB w w'
set_option maxRecDepth 100000 in
set_option maxHeartbeats 4000000 in
theorem sProgram_any (F : Nat → Prop) (A : Option Addr) (c : Nat) (D : List Bk) (k : Nat) (p : Pg) (w : World) (h : DevR F w A D) (hd : DvOk D) (hk : k < D.length) (hp : PgOk p) (hf : p.full = true) :
    Calls Try.prog 101 #[.slice A D.length c, .int .i64 k, pval p] w (ProgP w D k p) := by
  obtain ⟨fu, fi, pl, va, st⟩ := p
  obtain rfl : fu = true := hf
  obtain ⟨P, hPP⟩ : ∃ P : Pg, P = ⟨true, fi, pl, va, st⟩ := ⟨_, rfl⟩
  have HPP := Lib.hid hPP
  have hca := (Chg.refl NoB w).alloc (.cells #[.bool true, .int .i64 fi, .int .i64 pl, .int .i64 va, .int .i64 st] 60)
  have HB := Lib.hid (Blk.new w 60 #[.bool true, .int .i64 fi, .int .i64 pl, .int .i64 va, .int .i64 st])
  have HC := Lib.hid hca
  have HR := Lib.hid (h.lt.new hca)
  have HD := Lib.hid hd
  have HP := Lib.hid hp
  have hl := hd.1
  have hk0 : (0 : Int) ≤ (k : Int) := Int.natCast_nonneg _
  have hk1 : (k : Int) < (D.length : Int) := by omega
  have h1 : (1 : Int) ≤ (D.length : Int) := by omega
  have h2 : (D.length : Int) ≤ 12 := by omega
  have HBK := Lib.hid (hd.2 k hk)
  have HWN := Lib.hid (writeBlock_num (hd.2 k hk) hp rfl)
  have HWW := Lib.hid (writeBlock_wear (hd.2 k hk) hp rfl)
  have HPR := Lib.hid (program_yes hd hk hp rfl)
  rw [← hPP] at HWN HWW HPR ⊢
  clear hca h hd hp hPP
  unfold pval
  rw [show P.full = true by rw [HPP.out], show P.file = fi by rw [HPP.out], show P.place = pl by rw [HPP.out], show P.value = va by rw [HPP.out], show P.stamp = st by rw [HPP.out]]
  go_enter Try.func101, Try.ntmps101
  go_wp2_with fail
  refine (sDeviceValid_t _ A c D _ HR.out HD.out).mono ?_
  rintro e w1 ⟨rfl, hc1⟩
  have HC1 := Lib.hid (HC.out.trans hc1)
  have HR1 := Lib.hid (HR.out.new hc1)
  have hb1 := HB.out.chg hc1 (fun x => x)
  have p0 : w1.cell? ⟨w.heap.size, 0, none⟩ = some (.bool true) := (hb1.cell _).trans rfl
  have p1 : w1.cell? ⟨w.heap.size, 1, none⟩ = some (.int .i64 fi) := (hb1.cell _).trans rfl
  have p2 : w1.cell? ⟨w.heap.size, 2, none⟩ = some (.int .i64 pl) := (hb1.cell _).trans rfl
  have p3 : w1.cell? ⟨w.heap.size, 3, none⟩ = some (.int .i64 va) := (hb1.cell _).trans rfl
  have p4 : w1.cell? ⟨w.heap.size, 4, none⟩ = some (.int .i64 st) := (hb1.cell _).trans rfl
  have HB1 := Lib.hid hb1
  clear hc1 hb1
  go_wp2_with fail
  refine (l1In_t (k : Int) 0 ((D.length : Int) - 1) _ ⟨by omega, by omega⟩).mono ?_
  rintro e w' ⟨rfl, rfl⟩
  go_wp2_with fail
  refine (sPageValid_t ⟨true, fi, pl, va, st⟩ _ HP.out).mono ?_
  rintro e w2 ⟨rfl, hc2⟩
  have HC2 := Lib.hid (HC1.out.trans hc2)
  have HR2 := Lib.hid (HR1.out.new hc2)
  have hb2 := HB1.out.chg hc2 (fun x => x)
  clear p0 p1 p2 p3 p4
  have p0 : w2.cell? ⟨w.heap.size, 0, none⟩ = some (.bool true) := (hb2.cell _).trans rfl
  have p1 : w2.cell? ⟨w.heap.size, 1, none⟩ = some (.int .i64 fi) := (hb2.cell _).trans rfl
  have p2 : w2.cell? ⟨w.heap.size, 2, none⟩ = some (.int .i64 pl) := (hb2.cell _).trans rfl
  have p3 : w2.cell? ⟨w.heap.size, 3, none⟩ = some (.int .i64 va) := (hb2.cell _).trans rfl
  have p4 : w2.cell? ⟨w.heap.size, 4, none⟩ = some (.int .i64 st) := (hb2.cell _).trans rfl
  have HB2 := Lib.hid hb2
  clear hc2 hb2 HC HR HB HC1 HR1 HB1
  go_wp2_with fail
  refine (l5Copy_any _ A c D _ HR2.out HD.out).mono ?_
  rintro e w4 ⟨A2, c2, T, rfl, hT, hO2, hc4⟩
  have hTl : T.length = D.length := by rw [← hT, bksOf_length]
  obtain ⟨g, rest, rfl, hgB, hgE, hbg⟩ := hO2.blk (by omega)
  obtain ⟨bb, o, A', c', rfl, hfb, c0, c1, hr, hcc⟩ := (HR2.out.new hc4) k hk
  rw [HBK.out.2.1] at c1
  have hb4 := HB2.out.chg hc4 (fun x => x)
  clear p0 p1 p2 p3 p4
  have z0 : w4.cell? ⟨w.heap.size, 0, none⟩ = some (.bool true) := (hb4.cell _).trans rfl
  have z1 : w4.cell? ⟨w.heap.size, 1, none⟩ = some (.int .i64 fi) := (hb4.cell _).trans rfl
  have z2 : w4.cell? ⟨w.heap.size, 2, none⟩ = some (.int .i64 pl) := (hb4.cell _).trans rfl
  have z3 : w4.cell? ⟨w.heap.size, 3, none⟩ = some (.int .i64 va) := (hb4.cell _).trans rfl
  have z4 : w4.cell? ⟨w.heap.size, 4, none⟩ = some (.int .i64 st) := (hb4.cell _).trans rfl
  have HT := Lib.hid hT
  have HTL := Lib.hid hTl
  have HO4 := Lib.hid hO2
  have HBG := Lib.hid hbg
  have HGB := Lib.hid (And.intro hgB hgE)
  have HC4 := Lib.hid (HC2.out.trans hc4)
  have HS2 := Lib.hid HC2.out.size
  have HRD := Lib.hid hr
  clear hO2 hbg hgB hgE hT hTl hc4 hr hb4 HB2 HC2 HR2
  go_wp2_with fail
  refine wp_region_rg (WInv := fun _ m w5 => Chg (NoB) w4 w5 ∧ BoxI w4.heap.size 44 #[.int .i64 0, .slice none 0 0] 9 10 7 m w5) (R := RBox (NoB) w4.heap.size 44) (Post := PL [fun v w => v = .slice (some ⟨bb, o, none⟩) D.length c, fun v w => v = .int .i64 (k : Int), fun v w => v = .pointer (some ⟨bb, o + k * 2, none⟩), fun v w => v = .agg #[.int .i64 D[k].wear, .slice A' 4 c'], fun v w => v = .agg #[.bool true, .int .i64 fi, .int .i64 pl, .int .i64 va, .int .i64 st], fun v w => ∃ g3 : Nat, ∃ c3 : Nat, ∃ rest3 : List Value, v = .tuple #[.agg #[.int .i64 D[k].wear, .slice (some ⟨g3, 0, none⟩) 4 c3], .int .i64 (writeBlock D[k] P).2] ∧ BkO.ok w4.heap.size w.heap.size w ⟨g3, c3, D[k].wear, (writeBlock D[k] P).1.pages, rest3⟩, fun v w => ∃ g3 : Nat, ∃ c3 : Nat, ∃ rest3 : List Value, v = .tuple #[.agg #[.int .i64 D[k].wear, .slice (some ⟨g3, 0, none⟩) 4 c3], .int .i64 (writeBlock D[k] P).2] ∧ BkO.ok w4.heap.size w.heap.size w ⟨g3, c3, D[k].wear, (writeBlock D[k] P).1.pages, rest3⟩, fun v w => ∃ g3 : Nat, ∃ c3 : Nat, ∃ rest3 : List Value, v = .agg #[.int .i64 D[k].wear, .slice (some ⟨g3, 0, none⟩) 4 c3] ∧ BkO.ok w4.heap.size w.heap.size w ⟨g3, c3, D[k].wear, (writeBlock D[k] P).1.pages, rest3⟩, fun v w => v = .int .i64 (writeBlock D[k] P).2, fun _ _ => True, fun _ _ => True, fun v w => v = .int .i64 (writeBlock D[k] P).2]) (by kernel_rfl) (by kernel_rfl) ?_ (pl_stab ⟨(fun _ _ _ h _ => h), (fun _ _ _ h _ => h), (fun _ _ _ h _ => h), (fun _ _ _ h _ => h), (fun _ _ _ h _ => h), (fun _ _ _ ⟨g3, c3, rest3, hv, hok⟩ hR => ⟨g3, c3, rest3, hv, (ok_box hok hR (fun _ _ x => x))⟩), (fun _ _ _ ⟨g3, c3, rest3, hv, hok⟩ hR => ⟨g3, c3, rest3, hv, (ok_box hok hR (fun _ _ x => x))⟩), (fun _ _ _ ⟨g3, c3, rest3, hv, hok⟩ hR => ⟨g3, c3, rest3, hv, (ok_box hok hR (fun _ _ x => x))⟩), (fun _ _ _ h _ => h), (fun _ _ _ _ _ => trivial), (fun _ _ _ _ _ => trivial), (fun _ _ _ h _ => h), trivial⟩) ⟨(Chg.refl _ _).drew, BoxI.start⟩ ?_ ?_
  · exact fun _ _ _ _ h _ _ => h
  · refine ⟨?_, ?_, ?_, ?_, ?_, ?_, ?_, ?_, ?_, ?_, ?_, ?_, trivial⟩
    · rintro kc m a w5 hkc ⟨hch, hbx⟩ hm hn
      obtain ⟨h0, -⟩ := hn
      have e0 : a.tmps[0]?.getD undef = .slice (some ⟨bb, o, none⟩) D.length c := h0
      exact rg_val (v := .slice (some ⟨bb, o, none⟩) D.length c) (by simp [execOp, go_sem, e0]) rfl ⟨hch, hbx.keep (by decide) (by decide) hm (Chg.refl NoB _) (fun _ _ x => x)⟩ (Chg.refl _ _) rfl
    · rintro kc m a w5 hkc ⟨hch, hbx⟩ hm hn
      obtain ⟨h0, -⟩ := hn
      have e0 : a.tmps[1]?.getD undef = .int .i64 (k : Int) := h0
      exact rg_val (v := .int .i64 (k : Int)) (by simp [execOp, go_sem, e0]) rfl ⟨hch, hbx.keep (by decide) (by decide) hm (Chg.refl NoB _) (fun _ _ x => x)⟩ (Chg.refl _ _) rfl
    · rintro kc m a w5 hkc ⟨hch, hbx⟩ hm hn
      obtain ⟨⟨_, e0, m0, rfl⟩, ⟨_, e1, m1, rfl⟩, -⟩ := hn
      exact rg_val (v := .pointer (some ⟨bb, o + k * 2, none⟩)) (by simp [execOp, go_sem, e0, e1]; exact fun hh => absurd hh (by omega)) rfl ⟨hch, hbx.keep (by decide) (by decide) hm (Chg.refl NoB _) (fun _ _ x => x)⟩ (Chg.refl _ _) rfl
    · rintro kc m a w5 hkc ⟨hch, hbx⟩ hm hn
      obtain ⟨⟨_, e0, m0, rfl⟩, -⟩ := hn
      have y0 := hch.cell c0 (fun x => x)
      have y1 := hch.cell c1 (fun x => x)
      exact rg_val (v := .agg #[.int .i64 D[k].wear, .slice A' 4 c']) (by simp [execOp, go_sem, e0, y0, y1]) rfl ⟨hch, hbx.keep (by decide) (by decide) hm (Chg.refl NoB _) (fun _ _ x => x)⟩ (Chg.refl _ _) rfl
    · rintro kc m a w5 hkc ⟨hch, hbx⟩ hm hn
      obtain ⟨h0, -⟩ := hn
      have e0 : a.tmps[5]?.getD undef = .pointer (some ⟨w.heap.size, 0, none⟩) := h0
      have y0 := hch.cell z0 (fun x => x)
      have y1 := hch.cell z1 (fun x => x)
      have y2 := hch.cell z2 (fun x => x)
      have y3 := hch.cell z3 (fun x => x)
      have y4 := hch.cell z4 (fun x => x)
      exact rg_val (v := .agg #[.bool true, .int .i64 fi, .int .i64 pl, .int .i64 va, .int .i64 st]) (by simp [execOp, go_sem, e0, y0, y1, y2, y3, y4]) rfl ⟨hch, hbx.keep (by decide) (by decide) hm (Chg.refl NoB _) (fun _ _ x => x)⟩ (Chg.refl _ _) rfl
    · rintro kc m a w5 hkc ⟨hch, hbx⟩ hm hn
      obtain ⟨⟨_, e0, m0, rfl⟩, ⟨_, e1, m1, rfl⟩, -⟩ := hn
      refine rg_call (f := 102) (args := #[.agg #[.int .i64 D[k].wear, .slice A' 4 c'], .agg #[.bool true, .int .i64 fi, .int .i64 pl, .int .i64 va, .int .i64 st]]) (by simp [go_sem, e0, e1]) rfl ?_
      refine (sWriteBlock_any _ A' c' D[k] ⟨true, fi, pl, va, st⟩ _ (HRD.out.new hch) HBK.out HP.out rfl).mono ?_
      rintro e' w6 ⟨g3, c3, rest3, rfl, hok6, hc6⟩
      rw [← HPP.out] at hok6 ⊢
      exact ⟨_, rfl, ⟨hch.trans' hc6 (fun _ x => x.elim), hbx.keep (by decide) (by decide) hm hc6 (fun _ _ x => x)⟩, (RBox.of hc6 (fun _ x => x)), ⟨g3, c3, rest3, rfl, (hok6.more hch.size (Nat.le_refl _))⟩⟩
    · rintro kc m a w5 hkc ⟨hch, hbx⟩ hm hn
      obtain ⟨⟨_, e0, m0, g3, c3, rest3, rfl, hok⟩, -⟩ := hn
      exact rg_val (v := .tuple #[.agg #[.int .i64 D[k].wear, .slice (some ⟨g3, 0, none⟩) 4 c3], .int .i64 (writeBlock D[k] P).2]) (by simp [execOp, go_sem, e0]) rfl ⟨hch, hbx.keep (by decide) (by decide) hm (Chg.refl NoB _) (fun _ _ x => x)⟩ (Chg.refl _ _) ⟨g3, c3, rest3, rfl, hok⟩
    · rintro kc m a w5 hkc ⟨hch, hbx⟩ hm hn
      obtain ⟨⟨_, e0, m0, g3, c3, rest3, rfl, hok⟩, -⟩ := hn
      exact rg_val (v := .agg #[.int .i64 D[k].wear, .slice (some ⟨g3, 0, none⟩) 4 c3]) (by simp [execOp, go_sem, e0]) rfl ⟨hch, hbx.keep (by decide) (by decide) hm (Chg.refl NoB _) (fun _ _ x => x)⟩ (Chg.refl _ _) ⟨g3, c3, rest3, rfl, hok⟩
    · rintro kc m a w5 hkc ⟨hch, hbx⟩ hm hn
      obtain ⟨⟨_, e0, m0, g3, c3, rest3, rfl, hok⟩, -⟩ := hn
      exact rg_val (v := .int .i64 (writeBlock D[k] P).2) (by simp [execOp, go_sem, e0]) rfl ⟨hch, hbx.keep (by decide) (by decide) hm (Chg.refl NoB _) (fun _ _ x => x)⟩ (Chg.refl _ _) rfl
    · rintro kc m a w5 hkc ⟨hch, hbx⟩ hm hn
      have hca : Chg NoB w5 (w5.alloc (.cells #[.int .i64 0, .slice none 0 0] 44)) := (Chg.refl _ _).alloc _
      exact rg_val (v := .pointer (some ⟨w5.heap.size, 0, none⟩)) (w' := w5.alloc (.cells #[.int .i64 0, .slice none 0 0] 44)) (by simp [execOp, go_sem]) rfl ⟨hch.alloc _, hbx.alloc (by decide) hm hch.size⟩ (RBox.of hca (fun _ x => x.elim)) trivial
    · rintro kc m a w5 hkc ⟨hch, hbx⟩ hm hn
      obtain ⟨⟨p0, e0, m0, _⟩, ⟨_, e1, m1, g3, c3, rest3, rfl, hok⟩, -⟩ := hn
      obtain ⟨bx, rfl, hBx, hb⟩ := hbx.ready hm m0
      have f0 := hb.frozen 0
      have x0 : w5.cell? ⟨bx, 0, none⟩ = some (.int .i64 0) := (hb.cell _).trans rfl
      have f1 := hb.frozen 1
      have x1 : w5.cell? ⟨bx, 1, none⟩ = some (.slice none 0 0) := (hb.cell _).trans rfl
      have hs : Chg (· = bx) w5 ((w5.setCell ⟨bx, 0, none⟩ (.int .i64 D[k].wear)).setCell ⟨bx, 1, none⟩ (.slice (some ⟨g3, 0, none⟩) 4 c3)) := (((Chg.refl (· = bx) w5).setCell (p := ⟨bx, 0, none⟩) (.inl rfl) _).setCell (p := ⟨bx, 1, none⟩) (.inl rfl) _)
      have hb' : Blk ((w5.setCell ⟨bx, 0, none⟩ (.int .i64 D[k].wear)).setCell ⟨bx, 1, none⟩ (.slice (some ⟨g3, 0, none⟩) 4 c3)) bx 44 #[.int .i64 D[k].wear, .slice (some ⟨g3, 0, none⟩) 4 c3] := ((hb.set_ 0 _).set_ 1 _)
      exact rg_skip (w' := ((w5.setCell ⟨bx, 0, none⟩ (.int .i64 D[k].wear)).setCell ⟨bx, 1, none⟩ (.slice (some ⟨g3, 0, none⟩) 4 c3))) (by simp [execOp, go_sem, e0, e1, x0, x1, f0, f1]) rfl ⟨hch.own hs hBx, BoxI.store (by decide) (by decide) m0 hBx m1 hb'⟩ (RBox.box hs hBx hb) trivial
    · rintro kc m a w5 hkc ⟨hch, hbx⟩ hm hn
      obtain ⟨⟨_, e0, m0, rfl⟩, -⟩ := hn
      exact rg_val (v := .int .i64 (writeBlock D[k] P).2) (by simp [execOp, go_sem, e0]) rfl ⟨hch, hbx.keep (by decide) (by decide) hm (Chg.refl NoB _) (fun _ _ x => x)⟩ (Chg.refl _ _) rfl
  rintro m w5 ⟨hch, hbx⟩
  simp only [AllVals]
  rintro q0 m0 p0 q1 m1 p1 q2 m2 p2 q3 m3 p3 q4 m4 p4 q5 m5 p5 q6 m6 p6 q7 m7 p7 q8 m8 p8 q9 m9 p9 q10 m10 p10 q11 m11 p11
  obtain ⟨g3, c3, rest3, rfl, hok⟩ := p7
  obtain rfl := p11
  obtain ⟨bx, rfl, hBx, hb⟩ := hbx.done m9 m10 m7
  have b0 : w5.cell? ⟨bx, 0, none⟩ = some (.int .i64 D[k].wear) := (hb.cell _).trans rfl
  have b1 : w5.cell? ⟨bx, 1, none⟩ = some (.slice (some ⟨g3, 0, none⟩) 4 c3) := (hb.cell _).trans rfl
  have HOK := Lib.hid hok
  have HCH := Lib.hid hch
  have hbg5 := HBG.out.chg hch (fun x => x)
  obtain ⟨x0, x1⟩ := DevO.room hbg5 (k := k) (by rw [HTL.out]; exact hk)
  have f0 := hbg5.frozen (k * 2)
  have f1 := hbg5.frozen (k * 2 + 1)
  have HBG5 := Lib.hid hbg5
  have HO5 := Lib.hid (HO4.out.new hch)
  have hnz := HWN.out
  have HNE := Lib.hid (show g < bx by have := HGB.out.2; omega)
  have hne1 : g ≠ bx := by have := HNE.out; omega
  have hne2 : bx ≠ g := by omega
  clear hb hbx hBx hok hch hbg5 z0 z1 z2 z3 z4
  clear p0 p1 p2 p3 p4 p5 p6 p8 p9 p10
  simp only [Act.put, List.setIfInBounds_toArray, List.set_cons_succ, List.set_cons_zero]
  obtain ⟨z, hz⟩ : ∃ z, (writeBlock D[k] P).2 = z := ⟨_, rfl⟩
  have HZ := Lib.hid hz
  rw [hz] at hnz ⊢
  obtain ⟨hz0, hz1⟩ := hnz
  clear hz
  have hFIN : ∀ z', (program D (k : Int) P).2 = z' → (program D (k : Int) P).1 = D.set k (writeBlock D[k] P).1 → Hid (ProgP w D k P (.returned (.tuple #[.slice (some ⟨g, 0, none⟩) D.length c2, .int .i64 z'])) ((w5.setCell ⟨g, k * 2, none⟩ (.int .i64 D[k].wear)).setCell ⟨g, k * 2 + 1, none⟩ (.slice (some ⟨g3, 0, none⟩) 4 c3))) := by
    intro z' e1 e2
    have hg := HGB.out
    have hs2 := HS2.out
    have hok5 := HOK.out
    have hkT : k < T.length := by rw [HTL.out]; exact hk
    have hps : (writeBlock D[k] P).1.pages.length = 4 := by
      have := BkOk.write HBK.out HP.out rfl
      rw [← HPP.out] at this
      exact this.2.1
    have hset := HO5.out.setBk (r := ⟨g3, c3, D[k].wear, (writeBlock D[k] P).1.pages, rest3⟩) HBG5.out hg hkT (hok5.more (Nat.le_of_lt (Nat.lt_of_le_of_lt hg.1 hg.2)) (Nat.le_refl _)) hok5.1
    rw [show (⟨g3, c3, D[k].wear, (writeBlock D[k] P).1.pages, rest3⟩ : BkO).ps.length = 4 from hps] at hset
    have hcs := chg2 (F := (· = g)) (a := .int .i64 D[k].wear) (b := .slice (some ⟨g3, 0, none⟩) 4 c3) (Chg.refl (· = g) w5) (.inl rfl) (k * 2)
    refine Lib.hid ⟨some ⟨g, 0, none⟩, c2, T.set k ⟨g3, c3, D[k].wear, (writeBlock D[k] P).1.pages, rest3⟩, by rw [e1], ?_, hset.more hs2 (by simp [World.setCell]), (HC4.out.trans HCH.out).own hcs (by omega)⟩
    rw [bksOf_set, HT.out, e2]
    congr 1
    show (⟨D[k].wear, (writeBlock D[k] P).1.pages⟩ : Bk) = _
    rw [← HWW.out]
  by_cases hneg : z < 0
  · have HN := Lib.hid (show (program D (k : Int) P).2 = -1 ∧ (program D (k : Int) P).1 = D.set k (writeBlock D[k] P).1 by
      rw [HPR.out, HZ.out, if_neg (by omega)]
      refine ⟨rfl, ?_⟩
      have hl4 : ¬ lead D[k].pages < 4 := fun hh => by
        have := writeBlock_free HBK.out HP.out rfl hh
        rw [← HPP.out] at this
        have h3 := HZ.out
        rw [this] at h3
        simp only at h3
        omega
      have := writeBlock_full HBK.out HP.out rfl hl4
      rw [← HPP.out] at this
      rw [this]
      exact (List.set_getElem_self hk).symm)
    go_wp2_with fail
    (try simp only [Exit.inBlock, Exit.then])
    refine bodyPost_ret (v := .tuple #[.slice (some ⟨g, 0, none⟩) D.length c2, .int .i64 (-1)]) (by simp [results, Try.results101, go_sem, *]) rfl ?_
    exact (hFIN (-1) HN.out.1 HN.out.2).out
  · have HN := Lib.hid (show (program D (k : Int) P).2 = 4 * (k : Int) + z ∧ (program D (k : Int) P).1 = D.set k (writeBlock D[k] P).1 by
      rw [HPR.out, HZ.out, if_pos (by omega)]
      exact ⟨rfl, rfl⟩)
    have hk12 : (k : Int) * 4 ≤ 44 := by omega
    go_wp2_with fail
    (try simp only [Exit.inBlock, Exit.then])
    refine bodyPost_ret (v := .tuple #[.slice (some ⟨g, 0, none⟩) D.length c2, .int .i64 ((k : Int) * 4 + z)]) (by simp [results, Try.results101, go_sem, *]) rfl ?_
    exact (hFIN ((k : Int) * 4 + z) (by rw [HN.out.1]; omega) HN.out.2).out
set_option maxRecDepth 100000 in
set_option maxHeartbeats 2000000 in
theorem sHeadOf_any (F : Nat → Prop) (A : Option Addr) (c : Nat) (D : List Bk) (h : Hd) (n : Nat) (w : World) (hr : DevR F w A D) (hh : HeadsOk D h) (hn : n < 3) :
    Calls Try.prog 98 #[.slice A D.length c, hval h, .int .i64 n] w fun e w' => e = .returned (.int .i64 (h.get n)) ∧ Chg NoB w w' := by
  obtain ⟨a1, a2, a3⟩ := h
  have hca := (Chg.refl NoB w).alloc (.cells #[.int .i64 a1, .int .i64 a2, .int .i64 a3] 38)
  have HB := Lib.hid (Blk.new w 38 #[.int .i64 a1, .int .i64 a2, .int .i64 a3])
  have HC := Lib.hid hca
  have HR := Lib.hid (hr.new hca)
  have HH := Lib.hid hh
  clear hca hr hh
  rcases (show n = 0 ∨ n = 1 ∨ n = 2 by omega) with rfl | rfl | rfl
  all_goals
    go_enter Try.func98, Try.ntmps98
    go_wp2_with fail
    refine (sHeadsValid_any _ A c D ⟨a1, a2, a3⟩ _ HR.out HH.out.1.small).mono ?_
    rintro e w1 ⟨rfl, hc1⟩
    rw [decide_eq_true HH.out]
    have hb := HB.out.chg hc1 (fun x => x)
    have x0 : w1.cell? ⟨w.heap.size, 0, none⟩ = some (.int .i64 a1) := (hb.cell _).trans rfl
    have x1 : w1.cell? ⟨w.heap.size, 1, none⟩ = some (.int .i64 a2) := (hb.cell _).trans rfl
    have x2 : w1.cell? ⟨w.heap.size, 2, none⟩ = some (.int .i64 a3) := (hb.cell _).trans rfl
    have HC1 := Lib.hid (HC.out.trans hc1)
    clear hc1 hb
    go_wp2_with fail
    refine (l1In_t _ 0 2 _ ⟨by omega, by omega⟩).mono ?_
    rintro e w' ⟨rfl, rfl⟩
    go_wp2
    go_ret
    exact ⟨rfl, HC1.out.alloc _⟩
set_option maxRecDepth 100000 in
set_option maxHeartbeats 2000000 in
theorem l6Set_any (h : Hd) (n : Nat) (x : Int) (w : World) (hn : n < 3) :
    Calls Try.prog 100 #[hval h, .int .i64 n, .int .i64 x] w fun e w' => e = .returned (hval (h.put n x)) ∧ Chg NoB w w' := by
  obtain ⟨a1, a2, a3⟩ := h
  obtain ⟨q1, q2, q3⟩ := lit2 w 38 38 #[.int .i64 a1, .int .i64 a2, .int .i64 a3] #[.int .i64 0, .int .i64 0, .int .i64 0]
  rcases (show n = 0 ∨ n = 1 ∨ n = 2 by omega) with rfl | rfl | rfl
  all_goals
    go_enter Try.func100, Try.ntmps100
    go_wp2
    (try simp only [Exit.inBlock, Exit.then])
  · refine bodyPost_ret (v := .agg #[.int .i64 x, .int .i64 a2, .int .i64 a3]) (by simp [results, Try.results100, go_sem, *]) rfl ⟨rfl, ?_⟩
    exact ((Chg.refl NoB w).alloc _).alloc _
  · refine bodyPost_ret (v := .agg #[.int .i64 a1, .int .i64 x, .int .i64 a3]) (by simp [results, Try.results100, go_sem, *]) rfl ⟨rfl, ?_⟩
    exact ((Chg.refl NoB w).alloc _).alloc _
  · refine bodyPost_ret (v := .agg #[.int .i64 a1, .int .i64 a2, .int .i64 x]) (by simp [results, Try.results100, go_sem, *]) rfl ⟨rfl, ?_⟩
    exact ((Chg.refl NoB w).alloc _).alloc _
end Go.Proofs.Ytenbbkmbnpdfaaa
