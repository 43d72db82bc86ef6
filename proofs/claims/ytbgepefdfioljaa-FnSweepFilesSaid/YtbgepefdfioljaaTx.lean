/- l7Copy of the reference: a table copied row by row. -/
import Derived.Test.YtbgepefdfioljaaTm
namespace Go.Proofs.Ytbgepefdfioljaa
open Go.RowKit
def cyPost (V B0 B : Nat) (u : Value) (ad : Addr) (c f : Nat) (Br : Option Addr) (cr : Nat) (ch : List Int) (i : Nat) : Value → World → Prop :=
  match i with
  | 0 | 11 => fun v _ => v = .pointer (some ⟨V, 0, none⟩)
  | 1 => fun v _ => v = u
  | 2 => fun v w => ∃ g, v = .slice (some ⟨g, 0, none⟩) 0 0 ∧ B ≤ g ∧ Blk w g 3 #[]
  | 3 => fun v _ => v = .pointer (some ⟨B0, 0, none⟩)
  | 4 => fun v _ => v = .slice (some ad) 8 c
  | 5 => fun v _ => v = .int .i64 f
  | 6 => fun v _ => v = .pointer (some (ad.add f))
  | 7 => fun v _ => v = .slice Br 6 cr
  | 8 => fun v w => w.ownsRow B 3 1 v 6 (icells ch)
  | _ => fun _ _ => True
theorem cyPost_stab {V B0 B : Nat} {u : Value} {ad : Addr} {c f : Nat} {Br : Option Addr} {cr : Nat} {ch : List Int} {i : Nat} {v : Value} {w1 w2 : World} (h : cyPost V B0 B u ad c f Br cr ch i v w1) (hc : Chg (fun k => k < B) w1 w2) : cyPost V B0 B u ad c f Br cr ch i v w2 := by
  unfold cyPost at *
  split at h
  all_goals first
    | exact h
    | (obtain ⟨g, h1, h2, h3⟩ := h; exact ⟨g, h1, h2, h3.chg hc (by omega)⟩)
    | exact own_chg1 h hc (fun g _ hg _ hk => by omega)
set_option maxRecDepth 100000 in
set_option maxHeartbeats 4000000 in
theorem l7Copy_any (F : Nat → Prop) (A : Option Addr) (c : Nat) (X : List (List Int)) (w : World) (h : TabR F w A X) (hX : tabOk X) :
    Calls Try.prog 72 #[.agg #[.slice A X.length c]] w fun e w' => ∃ A' c' T, e = .returned (.agg #[.slice A' 8 c']) ∧ listsOf T = X ∧ Chg NoB w w' ∧ TabO w.heap.size w'.heap.size w' A' c' T := by
  obtain ⟨i0, hi, hz0, hz1, hz2⟩ := info_parts info_int
  obtain ⟨j0, hj, hy0, hy1, hy2⟩ := info_parts info_ints'
  obtain ⟨hb1, hb2, hcb⟩ := lit2 w 39 39 #[.slice A X.length c] #[.slice none 0 0]
  have h8 := hX.1
  rw [h8] at hb1 hb2 hcb ⊢
  obtain ⟨wb, hwb⟩ : ∃ wb, (w.alloc (.cells #[.slice A 8 c] 39)).alloc (.cells #[.slice none 0 0] 39) = wb := ⟨_, rfl⟩
  rw [hwb] at hb1 hb2 hcb
  have hsz : wb.heap.size = w.heap.size + 1 + 1 := by rw [← hwb]; simp [World.size_alloc]
  have hca := (Chg.refl NoB wb).alloc (.cells #[.slice none 0 0] 39)
  have hbV := Blk.new wb 39 #[.slice none 0 0]
  have HSW := Lib.hid hsz
  have HS5 := Lib.hid (hb1.chg hca (fun x => x))
  have HR5 := Lib.hid (hb2.chg hca (fun x => x))
  have HV0 := Lib.hid hbV
  have HC5 := Lib.hid (hcb.trans hca)
  have HSZ := Lib.hid (show (wb.alloc (.cells #[.slice none 0 0] 39)).heap.size = wb.heap.size + 1 by rw [World.size_alloc])
  have HWB := Lib.hid hwb
  clear hb1 hb2 hcb hca hbV hsz hwb
  have HX := Lib.hid hX
  clear hX
  go_enter Try.func72, Try.ntmps72
  go_wp2
  rw [HWB.out]
  have hV2 := HSW.out
  have hZ := HSZ.out
  obtain ⟨V, hV⟩ : ∃ V, wb.heap.size = V := ⟨_, rfl⟩
  have hV1 : w.heap.size + 1 < V := by omega
  rw [hV] at HV0 hZ
  (try rw [show w.heap.size + 1 + 1 = V by omega])
  (try rw [hV])
  replace HSZ := Lib.hid hZ
  clear hV hV2 hZ HSW HWB
  go_loopw [4] (fun i wr => ∃ (f : Nat) (u : Value) (T : List RowO), f ≤ 8 ∧ i = .int .i64 f ∧ Chg NoB w wr ∧ Blk wr w.heap.size 39 #[.slice A 8 c] ∧ Blk wr (w.heap.size + 1) 39 #[.slice none 0 0] ∧ Blk wr V 39 #[u] ∧ wr.ownsRow (V + 1) 22 1 u f (T.map RowO.cell) ∧ RowsO (V + 1) wr.heap.size wr T ∧ Hid (listsOf T = X.take f) ∧ V < wr.heap.size) (fun i _ => 8 - (intOf i).toNat)
  case atStart => exact ⟨0, .slice none 0 0, [], Nat.zero_le _, rfl, HC5.out, HS5.out, HR5.out, HV0.out, World.ownsRow_nil _ _ _ _, RowsO.nil _ _ _, Lib.hid rfl, by rw [HSZ.out]; omega⟩
  case round =>
    obtain ⟨wo, rfl⟩ : ∃ wo, wo = wr := ⟨_, rfl⟩
    obtain ⟨f, u, T, hf8, rfl, hch, hbs, hbr, hbv, hou, hrows, hT, hVB⟩ := hrel
    have hTl : T.length = f := by have := congrArg List.length hT.out; rw [listsOf_length, List.length_take, h8] at this; omega
    have HC := Lib.hid hch
    have HS := Lib.hid hbs
    have HR := Lib.hid hbr
    have HVV := Lib.hid hbv
    have HOU := Lib.hid hou
    have HRW := Lib.hid hrows
    have s1 : wo.cell? ⟨w.heap.size, 0, none⟩ = some (.slice A 8 c) := (hbs.cell _).trans rfl
    by_cases hlt : f < 8
    · obtain ⟨ad, Br, cr, rfl, hfF, hcell, hrr, hc1⟩ := (h.lt.new hch) f (by omega)
      have h6 : X[f].length = 6 := (HX.out.2 f (by omega)).1
      rw [h6] at hcell hc1
      have HH6 := Lib.hid h6
      have HC1 := Lib.hid hc1
      have HF1 := Lib.hid (show ¬ ((⟨w.heap.size, 0, none⟩ : Addr).block = V ∨ some (⟨w.heap.size, 0, none⟩ : Addr).block = u.ownBlock) from fun hh => by
        rcases hh with h1 | h1
        · simp only at h1; omega
        · have := (hou.lt _ h1.symm).1; simp only at this; omega)
      have HF3 := Lib.hid (show ¬ ((ad.add f).block = V ∨ some (ad.add f).block = u.ownBlock) from fun hh => by
        rcases hh with h1 | h1
        · have := hfF.2; rw [block_add] at h1; omega
        · have h2 := (hou.lt _ h1.symm).1; rw [block_add] at h2; have := hfF.2; omega)
      have HU := Lib.hid (show ∀ k, some k = u.ownBlock → k < wo.heap.size from fun k hk => (hou.lt _ hk.symm).2)
      have HSRC := Lib.hid hrr
      have HCELL := Lib.hid hcell
      have HF2 := Lib.hid (show ∀ k, (F k ∧ k < w.heap.size) → ¬ (k = V ∨ some k = u.ownBlock) from fun k hk hh => by
        rcases hh with h1 | h1
        · omega
        · have := (hou.lt _ h1.symm).1; omega)
      have hchl := Lib.hid (show (icells X[f]).length = 6 * 1 by rw [icells_length, h6])
      have hq0 : (0 : Int) ≤ (f : Int) := Int.natCast_nonneg _
      have hq1 : (f : Int) < 8 := by omega
      obtain ⟨ch, hchE⟩ : ∃ ch, X[f] = ch := ⟨_, rfl⟩
      rw [hchE] at HSRC hchl HH6
      have HCE := Lib.hid hchE
      clear hch hbs hbr hbv hou hrows hrr hfF hc1 hcell h6 hchE
      go_wp2_with fail
      refine wp_region_rg (WInv := fun _ m w5 => NestI w wo 39 22 V (V + 1) wo.heap.size u f (T.map RowO.cell) 1 8 9 10 12 m w5) (R := Chg (fun k => k < wo.heap.size)) (Post := cyPost V w.heap.size wo.heap.size u ad c f Br cr ch) (by kernel_rfl) (by kernel_rfl) (fun _ _ _ _ h _ _ => h) (fun i v w1 w2 h hc => cyPost_stab h hc) (NestI.start (HC.out.drew) ((Chg.refl _ _).drew) (own_chg1 HOU.out ((Chg.refl NoB wo).drew) (fun _ _ _ _ x => x)) (HVV.out.chg ((Chg.refl NoB wo).drew) (fun x => x))) ?_ ?_
      · refine ⟨?_, ?_, ?_, ?_, ?_, ?_, ?_, ?_, ?_, ?_, ?_, ?_, ?_, trivial⟩
        · rintro kc m a w5 hkc hN hm hn
          have e1 : a.tmps[3]?.getD undef = .pointer (some ⟨V, 0, none⟩) := hn.1
          exact rg_val (v := .pointer (some ⟨V, 0, none⟩)) (by simp [execOp, go_sem, e1]) rfl (hN.keep hm (by decide) (by decide) (by decide) (Chg.refl _ _)) (Chg.refl _ _) rfl
        · rintro kc m a w5 hkc hN hm hn
          obtain ⟨⟨_, e1, _, rfl⟩, -⟩ := hn
          have hz : w5.cell? ⟨V, 0, none⟩ = some u := ((hN.load hm).cell _).trans rfl
          exact rg_val (v := u) (by simp [execOp, go_sem, e1, hz]) rfl (hN.keep hm (by decide) (by decide) (by decide) (Chg.refl _ _)) (Chg.refl _ _) rfl
        · rintro kc m a w5 hkc hN hm hn
          have hca : Chg NoB w5 (w5.alloc (.cells #[] 3)) := (Chg.refl _ _).alloc _
          exact rg_val (v := .slice (some ⟨w5.heap.size, 0, none⟩) 0 0) (w' := w5.alloc (.cells #[] 3)) (by simp [execOp, go_sem]) rfl (hN.keep hm (by decide) (by decide) (by decide) hca) (hca.mono (fun _ _ x => x.elim)) ⟨_, rfl, hN.chg.size, Blk.new _ _ _⟩
        · rintro kc m a w5 hkc hN hm hn
          have e1 : a.tmps[1]?.getD undef = .pointer (some ⟨w.heap.size, 0, none⟩) := hn.1
          exact rg_val (v := .pointer (some ⟨w.heap.size, 0, none⟩)) (by simp [execOp, go_sem, e1]) rfl (hN.keep hm (by decide) (by decide) (by decide) (Chg.refl _ _)) (Chg.refl _ _) rfl
        · rintro kc m a w5 hkc hN hm hn
          obtain ⟨⟨_, e1, _, rfl⟩, -⟩ := hn
          have hz := hN.chg.cell s1 HF1.out
          exact rg_val (v := .slice (some ad) 8 c) (by simp [execOp, go_sem, e1, hz]) rfl (hN.keep hm (by decide) (by decide) (by decide) (Chg.refl _ _)) (Chg.refl _ _) rfl
        · rintro kc m a w5 hkc hN hm hn
          have e1 : a.tmps[4]?.getD undef = .int .i64 (f : Int) := hn.1
          exact rg_val (v := .int .i64 (f : Int)) (by simp [execOp, go_sem, e1]) rfl (hN.keep hm (by decide) (by decide) (by decide) (Chg.refl _ _)) (Chg.refl _ _) rfl
        · rintro kc m a w5 hkc hN hm hn
          obtain ⟨⟨_, e1, _, rfl⟩, ⟨_, e2, _, rfl⟩, -⟩ := hn
          exact rg_val (v := .pointer (some (ad.add f))) (by simp [execOp, go_sem, e1, e2]; exact fun hh => absurd hh (by omega)) rfl (hN.keep hm (by decide) (by decide) (by decide) (Chg.refl _ _)) (Chg.refl _ _) rfl
        · rintro kc m a w5 hkc hN hm hn
          obtain ⟨⟨_, e1, _, rfl⟩, -⟩ := hn
          have hz := hN.chg.cell HCELL.out HF3.out
          exact rg_val (v := .slice Br 6 cr) (by simp [execOp, go_sem, e1, hz]) rfl (hN.keep hm (by decide) (by decide) (by decide) (Chg.refl _ _)) (Chg.refl _ _) rfl
        · rintro kc m a w5 hkc hN hm hn
          obtain ⟨⟨_, e1, _, g0, rfl, hg0, hbl⟩, ⟨_, e2, _, rfl⟩, -⟩ := hn
          obtain ⟨v', w6, hr, ho, hc6, hne⟩ := run_append_fresh (P := Try.prog) w5 wo.heap.size 22 22 3 i0 (.int .i64 0) 1 8 Try.underlying22 hi hz0 hz1 hz2 rfl (by decide) g0 hg0 hbl Br 6 cr (icells ch) (by rw [hchl.out]) (HSRC.out.chg hN.chg (fun k hk => HF2.out k hk)) (by simp only [maxLen]; omega) (by omega) hN.chg.size
          exact rg_val (v := v') (w' := w6) (exec_append (.tmp 15) (.tmp 20) 22 rfl (by simpa [Act.eval] using e1) (by simpa [Act.eval] using e2) hr) rfl (hN.keep hm (by decide) (by decide) (by decide) hc6) (hc6.mono (fun _ _ x => x.elim)) ho
        · rintro kc m a w5 hkc hN hm hn
          obtain ⟨⟨rv, e1, hmr, ho⟩, -⟩ := hn
          obtain ⟨Ar, cr', rfl, _⟩ := own_rd ho
          have hca : Chg NoB w5 (w5.alloc (.cells #[.slice Ar 6 cr'] 22)) := (Chg.refl _ _).alloc _
          exact rg_val (v := .slice (some ⟨w5.heap.size, 0, none⟩) 1 1) (w' := w5.alloc (.cells #[.slice Ar 6 cr'] 22)) (by simp [execOp, go_sem, e1]) rfl (hN.lay hmr (by decide) (by decide) (by decide) (by decide) hm hca hN.chg.size (Blk.new _ _ _) rfl) (hca.mono (fun _ _ x => x.elim)) trivial
        · rintro kc m a w5 hkc hN hm hn
          obtain ⟨⟨_, e1, hm1, rfl⟩, ⟨_, e2, hmb, _⟩, -⟩ := hn
          obtain ⟨rv, b, hmr, rfl, hB, hbl, h1c⟩ := hN.elem _ hmb
          have hou := hN.app.1 hm
          obtain ⟨v', w6, hr, ho, hgr, hne⟩ := run_append_rd (P := Try.prog) w5 (V + 1) 32 32 22 j0 (.slice none 0 0) 1 24 Try.underlying32 hj hy0 hy1 hy2 rfl (by decide) _ f (T.map RowO.cell) hou (some ⟨b, 0, none⟩) 1 1 [rv] rfl hbl.rd (fun x hx => by simp at hx; subst hx; exact h1c) (by simp only [maxLen]; omega) (by omega) (by have := hN.chg.size; omega)
          exact rg_val (v := v') (w' := w6) (exec_append (.tmp 14) (.tmp 22) 32 rfl (by simpa [Act.eval] using e1) (by simpa [Act.eval] using e2) hr) rfl (hN.append hm hmr (by rw [hm1]; simp) (by decide) (by decide) (by decide) (by decide) lists_ne (by omega) HU.out hgr ho) ((chg_row hgr).mono fun k _ hk => HU.out k hk) trivial
        · rintro kc m a w5 hkc hN hm hn
          have e1 : a.tmps[3]?.getD undef = .pointer (some ⟨V, 0, none⟩) := hn.1
          exact rg_val (v := .pointer (some ⟨V, 0, none⟩)) (by simp [execOp, go_sem, e1]) rfl (hN.keep hm (by decide) (by decide) (by decide) (Chg.refl _ _)) (Chg.refl _ _) rfl
        · rintro kc m a w5 hkc hN hm hn
          obtain ⟨⟨_, e1, _, rfl⟩, ⟨v', e2, hma, _⟩, -⟩ := hn
          obtain ⟨news, ⟨rv, hmr, rfl⟩, ho⟩ := hN.app.2 _ hma
          obtain ⟨A5, c5, rfl, _⟩ := own_rd ho
          have hb := hN.var.ready hm
          have f0 := hb.frozen 0
          have x0 : w5.cell? ⟨V, 0, none⟩ = some u := (hb.cell _).trans rfl
          obtain ⟨Au, cu, hu5, _⟩ := own_rd HOU.out
          rw [hu5] at x0
          have hcs : Chg (· = V) w5 (w5.setCell ⟨V, 0, none⟩ (.slice A5 (f + 1) c5)) := (Chg.refl (· = V) w5).setCell (p := ⟨V, 0, none⟩) (.inl rfl) _
          exact rg_skip (w' := w5.setCell ⟨V, 0, none⟩ (.slice A5 (f + 1) c5)) (by simp [execOp, go_sem, e1, e2, x0, f0]) rfl (hN.store hma (by decide) (by decide) (by decide) (by decide) lists_ne (by omega) hVB hcs hb (hb.set_ 0 _)) (hcs.mono fun k _ hk => by rw [hk]; exact hVB) trivial
      · skip
        rintro m w5 hN
        simp only [AllVals]
        rintro rv0 m0 p0 rv1 m1 p1 rv2 m2 p2 rv3 m3 p3 rv4 m4 p4 rv5 m5 p5 rv6 m6 p6 rv7 m7 p7 rv8 m8 p8 rv9 m9 p9 rv10 m10 p10 rv11 m11 p11 rv12 m12 p12
        obtain ⟨hb5, ho5⟩ := hN.done m10 m12 m8
        have hrow := own_row_ok (p8 : w5.ownsRow wo.heap.size 3 1 rv8 6 (icells ch)) HH6.out (by omega)
        obtain ⟨g6, c6, rest6, hrv, hok6⟩ := hrow
        have HN := Lib.hid hN
        have HB5 := Lib.hid hb5
        have HO5 := Lib.hid ho5
        have HOK6 := Lib.hid hok6
        have HRV := Lib.hid hrv
        clear p0 p1 p2 p3 p4 p5 p6 p7 p8 p9 p10 p11 p12 hN hb5 ho5 hok6 hrv
        simp only [Act.put, List.setIfInBounds_toArray, List.set_cons_succ, List.set_cons_zero]
        go_wp2_with fail
        go_roundw
        case rel =>
          have hc5 := HN.out.chg
          obtain ⟨A5, c5, hv5, _⟩ := own_rd HO5.out
          have hb5 := HB5.out
          rw [hv5] at hb5
          refine ⟨f + 1, rv10, T ++ [⟨g6, c6, ch, rest6⟩], by omega, by go_num, HN.out.chg0, HS.out.chg hc5 HF1.out, HR.out.chg hc5 ?_, by rw [hv5]; exact hb5, ?_, ?_, Lib.hid ?_, by have := hc5.size; omega⟩
          · rintro (h1 | h1)
            · omega
            · have := (HOU.out.lt _ h1.symm).1; omega
          · rw [cells_snoc', ← HRV.out]; exact HO5.out
          · have h1 := (HRW.out.chgT hc5 (fun k cs hk hh => by
              rcases hh with h2 | h2
              · subst h2; exact ty_tab (hk.sameTy HVV.out)
              · exact own_ne_box HOU.out hk (Ne.symm ty_ne) h2))
            exact (h1.snoc ⟨by have h6 : wo.heap.size ≤ g6 := HOK6.out.1; show V + 1 ≤ g6; omega, HOK6.out.2⟩ HOK6.out.1)
          · rw [lists_snoc, hT.out, List.take_succ_eq_append_getElem (by rw [h8]; exact hlt), HCE.out]
        case measure => simp [intOf]; omega
    · obtain rfl : f = 8 := by omega
      obtain ⟨A8, c8, rfl, ho8⟩ := OwnS.of_row hou
      have hXX : listsOf T = X := by rw [hT.out]; exact List.take_of_length_le (by omega)
      have hTO : TabO (V + 1) wo.heap.size wo A8 c8 T := ⟨by rw [hTl]; exact ho8, hrows⟩
      have HXX := Lib.hid hXX
      have HTO := Lib.hid hTO
      clear hXX hTl hTO ho8 hrows hou hT HOU HRW
      have v0 : wo.cell? ⟨V, 0, none⟩ = some (.slice A8 8 c8) := (hbv.cell _).trans rfl
      have r0 : wo.cell? ⟨w.heap.size + 1, 0, none⟩ = some (.slice none 0 0) := (hbr.cell _).trans rfl
      have rf := hbr.frozen 0
      have HCV := Lib.hid hch
      clear hch hbs hbr hbv
      go_wp2_with fail
      (try simp only [Exit.inBlock, Exit.then])
      refine bodyPost_ret (v := .agg #[.slice A8 8 c8]) (by simp [results, Try.results72, go_sem, *]) rfl ?_
      have hcs : Chg (· = w.heap.size + 1) wo (wo.setCell ⟨w.heap.size + 1, 0, none⟩ (.slice A8 8 c8)) := (Chg.refl (· = w.heap.size + 1) wo).setCell (p := ⟨w.heap.size + 1, 0, none⟩) (.inl rfl) _
      have hss : (wo.setCell ⟨w.heap.size + 1, 0, none⟩ (.slice A8 8 c8)).heap.size = wo.heap.size := World.size_setCell _ _ _
      refine ⟨A8, c8, T, rfl, HXX.out, HCV.out.own hcs (Nat.le_succ _), ?_⟩
      exact (HTO.out.chg hcs (fun i h1 h2 h3 => by omega)).more (by omega) (by rw [hss]; omega)
end Go.Proofs.Ytbgepefdfioljaa
