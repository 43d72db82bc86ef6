/- The draw of a device and of heads; DrawWearVictim. -/
import Derived.Test.YtenbbkmbnpdfaaaYc
namespace Go.Proofs.Ytenbbkmbnpdfaaa
open Go.RowKit
set_option maxRecDepth 100000 in
set_option maxHeartbeats 4000000 in
theorem l20Heads_any (g N : Nat) (n : Int) (w : World) (h : Rdr w g N) (hN : N ≤ 10000) (hn0 : 0 ≤ n) (hn : n ≤ 1000000) :
    Calls Try.prog 71 #[.pointer (some ⟨g, 0, none⟩), .int .i64 n] w (DHDrawn g (N + 4100) w) := by
  have hg := h.lt
  have hca := (Chg.refl NoB w).alloc (.cells #[.int .i64 0, .int .i64 0, .int .i64 0] 38)
  have HB0 := Lib.hid (Blk.new w 38 #[.int .i64 0, .int .i64 0, .int .i64 0])
  have HC0 := Lib.hid (hca.mono (G := (· = g)) (fun _ _ x => x.elim))
  have hr0 := h.alloc (.cells #[.int .i64 0, .int .i64 0, .int .i64 0] 38)
  have HSZ0 := Lib.hid (show (w.alloc (.cells #[.int .i64 0, .int .i64 0, .int .i64 0] 38)).heap.size = w.heap.size + 1 by rw [World.size_alloc])
  clear hca h
  have HEND : ∀ wq A c D (hh : Hd) M B, Hid (Chg (· = g) w wq) → Hid (Blk wq w.heap.size 38 #[.int .i64 0, .int .i64 0, .int .i64 0]) → Hid (Rdr wq g M) → M ≤ N + 4100 → Hid (DevR (fun i => w.heap.size + 1 ≤ i ∧ i < B) wq A D) → D.length ≤ c → D.length ≤ 13 → Hid (∀ b ∈ D, b.pages.length ≤ 4) →
      Hid (DHDrawn g (N + 4100) w (.returned (.tuple #[.slice A D.length c, hval hh])) (((wq.setCell ⟨w.heap.size, 0, none⟩ (.int .i64 hh.hot)).setCell ⟨w.heap.size, 1, none⟩ (.int .i64 hh.warm)).setCell ⟨w.heap.size, 2, none⟩ (.int .i64 hh.cold)).drew) := by
    intro wq A c D hh M B h1 h2 h3 hM hrd hlc h13 h4
    have hcs := chg3h (F := (· = w.heap.size)) (g := w.heap.size) (a := .int .i64 hh.hot) (b := .int .i64 hh.warm) (c := .int .i64 hh.cold) (Chg.refl (· = w.heap.size) wq) (.inl rfl)
    exact Lib.hid ⟨A, c, D, hh, rfl, ((hrd.out.chg hcs (fun i hi he => by have h9 : i = w.heap.size := he; omega)).mono (fun i _ hi => by omega)).new (Chg.refl NoB _).drew, hlc, h13, h4.out, (h1.out.trans' hcs (fun i hi => .inr (by rw [show i = w.heap.size from hi]; exact Nat.le_refl _))).drew, ((h3.out.chgBox hcs (by omega) h2.out (by simp)).more hM).drew⟩
  go_enter Try.func71, Try.ntmps71
  go_wp2_with fail
  refine (l20Device_any g N n _ hr0 hN hn0 hn).mono ?_
  rintro e w1 ⟨A, c, D, hh, rfl, hrd, hlc, h13, h4, hc1, hr1⟩
  have hca := (Chg.refl NoB w1).alloc (.cells #[.int .i64 hh.hot, .int .i64 hh.warm, .int .i64 hh.cold] 38)
  have hv := Blk.new w1 38 #[.int .i64 hh.hot, .int .i64 hh.warm, .int .i64 hh.cold]
  have hc2 := (HC0.out.trans hc1).trans' hca (fun _ x => x.elim)
  have hb2 := (HB0.out.chg hc1 (by omega)).chg hca (fun x => x)
  have hr2 := hr1.alloc (.cells #[.int .i64 hh.hot, .int .i64 hh.warm, .int .i64 hh.cold] 38)
  have hd2 := hrd.lt.new hca
  have hVW : w.heap.size < w1.heap.size := by have := hc1.size; have := HSZ0.out; omega
  have hsz0 := HSZ0.out
  rw [hsz0] at hd2
  go_wp2_with fail
  obtain ⟨V, hV⟩ : ∃ V, w1.heap.size = V := ⟨_, rfl⟩
  obtain ⟨w2, hw2⟩ : ∃ w2, w1.alloc (.cells #[.int .i64 hh.hot, .int .i64 hh.warm, .int .i64 hh.cold] 38) = w2 := ⟨_, rfl⟩
  rw [hw2] at hv hc2 hb2 hr2 hd2 ⊢
  rw [hV] at hv hVW hd2 ⊢
  have H4 := Lib.hid h4
  clear hca hc1 hr1 hrd hsz0 hV hw2 h4 HC0 HB0 HSZ0 hr0
  refine (odd_any g _ n _ hr2 (by omega) hn0 hn).mono ?_
  rintro e w3 ⟨b3, rfl, -, hc3, hr3⟩
  have HV := Lib.hid (hv.chg hc3 (by omega))
  have HC := Lib.hid (hc2.trans hc3)
  have HB := Lib.hid (hb2.chg hc3 (by omega))
  have HR := Lib.hid hr3
  have HD := Lib.hid (hd2.chg hc3 (fun i hi he => by have h9 : i = g := he; omega))
  have hgW := hr3.lt
  have hRW := HB.out.lt
  have hVw1 : w.heap.size ≠ V := by omega
  have hVw2 : V ≠ w.heap.size := by omega
  clear hv hc2 hb2 hr2 hd2 hc3
  cases b3
  case false =>
    go_wp2_with fail
    refine (pick_any g _ 4 _ hr3 (by omega) (by omega) (by omega)).mono ?_
    rintro e w4 ⟨k4, rfl, hk4, hc4, hr4⟩
    replace HV := Lib.hid (HV.out.chg hc4 (by show ¬ (V = g); omega))
    replace HC := Lib.hid (HC.out.trans hc4)
    replace HB := Lib.hid (HB.out.chg hc4 (by show ¬ (w.heap.size = g); omega))
    replace HR := Lib.hid hr4
    replace HD := Lib.hid (HD.out.chg hc4 (fun i hi he => by have h9 : i = g := he; omega))
    have hvv := HV.out
    have hrr := HB.out
    have v0 : w4.cell? ⟨V, 0, none⟩ = some (.int .i64 hh.hot) := (hvv.cell _).trans rfl
    have vf0 := hvv.frozen 0
    have v1 : w4.cell? ⟨V, 1, none⟩ = some (.int .i64 hh.warm) := (hvv.cell _).trans rfl
    have vf1 := hvv.frozen 1
    have v2 : w4.cell? ⟨V, 2, none⟩ = some (.int .i64 hh.cold) := (hvv.cell _).trans rfl
    have vf2 := hvv.frozen 2
    have r0 : w4.cell? ⟨w.heap.size, 0, none⟩ = some (.int .i64 0) := (hrr.cell _).trans rfl
    have rf0 := hrr.frozen 0
    have r1 : w4.cell? ⟨w.heap.size, 1, none⟩ = some (.int .i64 0) := (hrr.cell _).trans rfl
    have rf1 := hrr.frozen 1
    have r2 : w4.cell? ⟨w.heap.size, 2, none⟩ = some (.int .i64 0) := (hrr.cell _).trans rfl
    have rf2 := hrr.frozen 2
    clear hvv hrr hc4 hr4 hr3
    by_cases hk : k4 = 0
    · subst hk
      have hcv := chg3h (F := (· = V)) (g := V) (a := .int .i64 (-1)) (b := .int .i64 (-1)) (c := .int .i64 (-1)) (Chg.refl (· = V) w4) (.inl rfl)
      have hvb : Blk (((w4.setCell ⟨V, 0, none⟩ (.int .i64 (-1))).setCell ⟨V, 1, none⟩ (.int .i64 (-1))).setCell ⟨V, 2, none⟩ (.int .i64 (-1))) V 38 #[.int .i64 (-1), .int .i64 (-1), .int .i64 (-1)] := ((HV.out.set_ 0 _).set_ 1 _).set_ 2 _
      have HCV := Lib.hid hcv
      have HVB := Lib.hid hvb
      clear hcv hvb
      go_wp2_with fail
      obtain ⟨wz, hwz⟩ : ∃ wz, (((w4.setCell ⟨V, 0, none⟩ (.int .i64 (-1))).setCell ⟨V, 1, none⟩ (.int .i64 (-1))).setCell ⟨V, 2, none⟩ (.int .i64 (-1))) = wz := ⟨_, rfl⟩
      have hcv := HCV.out
      have hvb := HVB.out
      rw [hwz] at hcv hvb ⊢
      clear HCV HVB hwz v0 v1 v2 vf0 vf1 vf2 r0 r1 r2 rf0 rf1 rf2
      have HRz := Lib.hid (HR.out.chgBox hcv (by omega) HV.out (by simp))
      have HCz := Lib.hid (HC.out.trans' hcv (fun i hi => .inr (by have h9 : i = V := hi; omega)))
      have hrr := HB.out.chg hcv (by show ¬ (w.heap.size = V); omega)
      have HBz := Lib.hid hrr
      have HDz := Lib.hid (HD.out.chg hcv (fun i hi he => by have h9 : i = V := he; have := hi.2; omega))
      have v0 : wz.cell? ⟨V, 0, none⟩ = some (.int .i64 (-1)) := (hvb.cell _).trans rfl
      have v1 : wz.cell? ⟨V, 1, none⟩ = some (.int .i64 (-1)) := (hvb.cell _).trans rfl
      have v2 : wz.cell? ⟨V, 2, none⟩ = some (.int .i64 (-1)) := (hvb.cell _).trans rfl
      have r0 : wz.cell? ⟨w.heap.size, 0, none⟩ = some (.int .i64 0) := (hrr.cell _).trans rfl
      have rf0 := hrr.frozen 0
      have r1 : wz.cell? ⟨w.heap.size, 1, none⟩ = some (.int .i64 0) := (hrr.cell _).trans rfl
      have rf1 := hrr.frozen 1
      have r2 : wz.cell? ⟨w.heap.size, 2, none⟩ = some (.int .i64 0) := (hrr.cell _).trans rfl
      have rf2 := hrr.frozen 2
      clear hvb hrr hcv
      go_wp2_with fail
      go_region
      go_wp2_with fail
      (try simp only [Exit.inBlock, Exit.then])
      refine bodyPost_ret (v := .tuple #[.slice A D.length c, .agg #[.int .i64 (-1), .int .i64 (-1), .int .i64 (-1)]]) (by simp [results, Try.results71, go_sem, *]) rfl ?_
      exact (HEND wz A c D ⟨-1, -1, -1⟩ _ V HCz HBz HRz (by omega) HDz hlc h13 H4).out
    have hkne : ((k4 : Int) == 0) = false := beq_eq_false_iff_ne.2 (by omega)
    clear vf0 vf1 vf2
    go_wp2_with fail
    go_region
    go_wp2_with fail
    (try simp only [Exit.inBlock, Exit.then])
    refine bodyPost_ret (v := .tuple #[.slice A D.length c, .agg #[.int .i64 hh.hot, .int .i64 hh.warm, .int .i64 hh.cold]]) (by simp [results, Try.results71, go_sem, *]) rfl ?_
    exact (HEND w4 A c D hh _ V HC HB HR (by omega) HD hlc h13 H4).out
  go_wp2_with fail
  have hgR : g ≠ w.heap.size := by omega
  refine wp_region_rg (WInv := fun cc m w5 => Rdr w5 g ((N + 4000 + 1) + 1 * cc) ∧ Chg (fun k => k = g ∨ k = w.heap.size) w3 w5 ∧ cc ≤ 13 ∧ StI w.heap.size 38 #[.int .i64 0, .int .i64 0, .int .i64 0] 12 10 m w5) (R := Chg (fun k => k = g ∨ k = w.heap.size)) (Post := PL [fun v w => v = .slice A D.length c, fun v w => v = .agg #[.int .i64 1, .int .i64 1, .int .i64 (-1)], fun v w => v = .slice A D.length c, fun v w => v = .int .i64 (D.length : Int), fun v w => v = .agg #[.int .i64 (D.length : Int), .int .i64 (-1), .int .i64 (-1)], fun v w => v = .agg #[.int .i64 (-2), .int .i64 (-1), .int .i64 (-1)], fun v w => ∃ b : Nat, v = .slice (some ⟨b, 0, none⟩) 3 3 ∧ w3.heap.size ≤ b ∧ Blk w b 38 #[.int .i64 1, .int .i64 1, .int .i64 (-1), .int .i64 (D.length : Int), .int .i64 (-1), .int .i64 (-1), .int .i64 (-2), .int .i64 (-1), .int .i64 (-1)], fun v w => v = .pointer (some ⟨g, 0, none⟩), fun v w => ∃ k : Nat, v = .int .i64 (k : Int) ∧ k < 3, fun v w => ∃ b : Nat, ∃ k : Nat, v = .pointer (some ⟨b, k * 3, none⟩) ∧ w3.heap.size ≤ b ∧ Blk w b 38 #[.int .i64 1, .int .i64 1, .int .i64 (-1), .int .i64 (D.length : Int), .int .i64 (-1), .int .i64 (-1), .int .i64 (-2), .int .i64 (-1), .int .i64 (-1)] ∧ k < 3, fun v w => ∃ a1 : Int, ∃ a2 : Int, ∃ a3 : Int, v = .agg #[.int .i64 a1, .int .i64 a2, .int .i64 a3], fun v w => v = .slice A D.length c, fun _ _ => True]) (by kernel_rfl) (by kernel_rfl) ?_ (pl_stab ⟨(fun _ _ _ h _ => h), (fun _ _ _ h _ => h), (fun _ _ _ h _ => h), (fun _ _ _ h _ => h), (fun _ _ _ h _ => h), (fun _ _ _ h _ => h), (fun _ _ _ ⟨b, hv, hbB, hbl⟩ hR => ⟨b, hv, hbB, (hbl.chg hR (by show ¬ (b = g ∨ b = w.heap.size); omega))⟩), (fun _ _ _ h _ => h), (fun _ _ _ h _ => h), (fun _ _ _ ⟨b, k, hv, hbB, hbl, hk⟩ hR => ⟨b, k, hv, hbB, (hbl.chg hR (by show ¬ (b = g ∨ b = w.heap.size); omega)), hk⟩), (fun _ _ _ h _ => h), (fun _ _ _ h _ => h), (fun _ _ _ _ _ => trivial), trivial⟩) ⟨(HR.out.drew).more (by omega), (Chg.refl _ _).drew, Nat.zero_le _, .inl ⟨rfl, HB.out.chg (Chg.refl NoB w3).drew (fun x => x)⟩⟩ ?_ ?_
  · rintro c c' m w ⟨h1, h2, _, h5⟩ h3 h4
    exact ⟨h1.more (by omega), h2, h4, h5⟩
  · refine ⟨?_, ?_, ?_, ?_, ?_, ?_, ?_, ?_, ?_, ?_, ?_, ?_, ?_, trivial⟩
    · rintro kc m a w5 hkc ⟨hrd, hch, hcc, hst⟩ hm hn
      obtain ⟨h0, -⟩ := hn
      have e0 : a.tmps[6]?.getD undef = .slice A D.length c := h0
      exact rg_val (v := .slice A D.length c) (by simp [execOp, go_sem, e0]) rfl ⟨hrd.more (by omega), hch, hkc, hst.keep (by decide) hm (Chg.refl NoB _) (fun x => x)⟩ (Chg.refl _ _) rfl
    · rintro kc m a w5 hkc ⟨hrd, hch, hcc, hst⟩ hm hn
      exact rg_val (v := .agg #[.int .i64 1, .int .i64 1, .int .i64 (-1)]) (by simp [execOp, go_sem]) rfl ⟨hrd.more (by omega), hch, hkc, hst.keep (by decide) hm (Chg.refl NoB _) (fun x => x)⟩ (Chg.refl _ _) rfl
    · rintro kc m a w5 hkc ⟨hrd, hch, hcc, hst⟩ hm hn
      obtain ⟨h0, -⟩ := hn
      have e0 : a.tmps[6]?.getD undef = .slice A D.length c := h0
      exact rg_val (v := .slice A D.length c) (by simp [execOp, go_sem, e0]) rfl ⟨hrd.more (by omega), hch, hkc, hst.keep (by decide) hm (Chg.refl NoB _) (fun x => x)⟩ (Chg.refl _ _) rfl
    · rintro kc m a w5 hkc ⟨hrd, hch, hcc, hst⟩ hm hn
      obtain ⟨⟨_, e0, m0, rfl⟩, -⟩ := hn
      exact rg_val (v := .int .i64 (D.length : Int)) (by simp [go_sem, e0]) rfl ⟨hrd.more (by omega), hch, hkc, hst.keep (by decide) hm (Chg.refl NoB _) (fun x => x)⟩ (Chg.refl _ _) rfl
    · rintro kc m a w5 hkc ⟨hrd, hch, hcc, hst⟩ hm hn
      obtain ⟨⟨_, e0, m0, rfl⟩, -⟩ := hn
      exact rg_val (v := .agg #[.int .i64 (D.length : Int), .int .i64 (-1), .int .i64 (-1)]) (by simp [execOp, go_sem, e0]) rfl ⟨hrd.more (by omega), hch, hkc, hst.keep (by decide) hm (Chg.refl NoB _) (fun x => x)⟩ (Chg.refl _ _) rfl
    · rintro kc m a w5 hkc ⟨hrd, hch, hcc, hst⟩ hm hn
      exact rg_val (v := .agg #[.int .i64 (-2), .int .i64 (-1), .int .i64 (-1)]) (by simp [execOp, go_sem]) rfl ⟨hrd.more (by omega), hch, hkc, hst.keep (by decide) hm (Chg.refl NoB _) (fun x => x)⟩ (Chg.refl _ _) rfl
    · rintro kc m a w5 hkc ⟨hrd, hch, hcc, hst⟩ hm hn
      obtain ⟨⟨_, e0, m0, rfl⟩, ⟨_, e1, m1, rfl⟩, ⟨_, e2, m2, rfl⟩, -⟩ := hn
      have hca : Chg NoB w5 (w5.alloc (.cells #[.int .i64 1, .int .i64 1, .int .i64 (-1), .int .i64 (D.length : Int), .int .i64 (-1), .int .i64 (-1), .int .i64 (-2), .int .i64 (-1), .int .i64 (-1)] 38)) := (Chg.refl _ _).alloc _
      exact rg_val (v := .slice (some ⟨w5.heap.size, 0, none⟩) 3 3) (w' := w5.alloc (.cells #[.int .i64 1, .int .i64 1, .int .i64 (-1), .int .i64 (D.length : Int), .int .i64 (-1), .int .i64 (-1), .int .i64 (-2), .int .i64 (-1), .int .i64 (-1)] 38)) (by simp [execOp, go_sem, e0, e1, e2]) rfl ⟨(hrd.alloc _).more (by omega), hch.alloc _, hkc, hst.keep (by decide) hm hca (fun x => x)⟩ (hca.mono (fun _ _ x => x.elim)) ⟨_, rfl, hch.size, Blk.new _ _ _⟩
    · rintro kc m a w5 hkc ⟨hrd, hch, hcc, hst⟩ hm hn
      obtain ⟨h0, -⟩ := hn
      have e0 : a.tmps[0]?.getD undef = .pointer (some ⟨g, 0, none⟩) := h0
      exact rg_val (v := .pointer (some ⟨g, 0, none⟩)) (by simp [execOp, go_sem, e0]) rfl ⟨hrd.more (by omega), hch, hkc, hst.keep (by decide) hm (Chg.refl NoB _) (fun x => x)⟩ (Chg.refl _ _) rfl
    · rintro kc m a w5 hkc ⟨hrd, hch, hcc, hst⟩ hm hn
      obtain ⟨⟨_, e0, m0, rfl⟩, -⟩ := hn
      refine rg_call (f := 54) (args := #[.pointer (some ⟨g, 0, none⟩), .int .i64 3]) (by simp [go_sem, e0]) rfl ?_
      refine (pick_any g _ 3 _ hrd (by omega) (by omega) (by omega)).mono ?_
      rintro e' w6 ⟨k, rfl, hk, hc6, hr6⟩
      exact ⟨_, rfl, ⟨hr6.more (by omega), hch.trans (hc6.mono (fun _ _ x => .inl x)), hkc, hst.keep (by decide) hm hc6 (by omega)⟩, (hc6.mono (fun _ _ x => .inl x)), ⟨k, rfl, (by omega)⟩⟩
    · rintro kc m a w5 hkc ⟨hrd, hch, hcc, hst⟩ hm hn
      obtain ⟨⟨_, e0, m0, b, rfl, hbB, hbl⟩, ⟨_, e1, m1, k, rfl, hk⟩, -⟩ := hn
      have hk3 : (k : Int) < 3 := by omega
      exact rg_val (v := .pointer (some ⟨b, k * 3, none⟩)) (by simp [execOp, go_sem, e0, e1]; exact fun hh => absurd hh (by omega)) rfl ⟨hrd.more (by omega), hch, hkc, hst.keep (by decide) hm (Chg.refl NoB _) (fun x => x)⟩ (Chg.refl _ _) ⟨b, k, rfl, hbB, hbl, hk⟩
    · rintro kc m a w5 hkc ⟨hrd, hch, hcc, hst⟩ hm hn
      obtain ⟨⟨_, e0, m0, b, k, rfl, hbB, hbl, hk⟩, -⟩ := hn
      obtain ⟨a1, a2, a3, y0, y1, y2⟩ : ∃ a1 a2 a3 : Int, w5.cell? ⟨b, k * 3, none⟩ = some (.int .i64 a1) ∧ w5.cell? ⟨b, k * 3 + 1, none⟩ = some (.int .i64 a2) ∧ w5.cell? ⟨b, k * 3 + 2, none⟩ = some (.int .i64 a3) := by
        rw [hbl.cell, hbl.cell, hbl.cell]
        rcases (show k = 0 ∨ k = 1 ∨ k = 2 by omega) with rfl | rfl | rfl <;> exact ⟨_, _, _, rfl, rfl, rfl⟩
      exact rg_val (v := .agg #[.int .i64 a1, .int .i64 a2, .int .i64 a3]) (by simp [execOp, go_sem, e0, y0, y1, y2]) rfl ⟨hrd.more (by omega), hch, hkc, hst.keep (by decide) hm (Chg.refl NoB _) (fun x => x)⟩ (Chg.refl _ _) ⟨a1, a2, a3, rfl⟩
    · rintro kc m a w5 hkc ⟨hrd, hch, hcc, hst⟩ hm hn
      obtain ⟨⟨_, e0, m0, rfl⟩, -⟩ := hn
      exact rg_val (v := .slice A D.length c) (by simp [execOp, go_sem, e0]) rfl ⟨hrd.more (by omega), hch, hkc, hst.keep (by decide) hm (Chg.refl NoB _) (fun x => x)⟩ (Chg.refl _ _) rfl
    · rintro kc m a w5 hkc ⟨hrd, hch, hcc, hst⟩ hm hn
      obtain ⟨h0, ⟨_, e1, m1, a1, a2, a3, rfl⟩, -⟩ := hn
      have e0 : a.tmps[5]?.getD undef = .pointer (some ⟨w.heap.size, 0, none⟩) := h0
      have hb := hst.ready hm
      have f0 := hb.frozen 0
      have x0 : w5.cell? ⟨w.heap.size, 0, none⟩ = some (.int .i64 0) := (hb.cell _).trans rfl
      have f1 := hb.frozen 1
      have x1 : w5.cell? ⟨w.heap.size, 1, none⟩ = some (.int .i64 0) := (hb.cell _).trans rfl
      have f2 := hb.frozen 2
      have x2 : w5.cell? ⟨w.heap.size, 2, none⟩ = some (.int .i64 0) := (hb.cell _).trans rfl
      have hs : Chg (· = w.heap.size) w5 (((w5.setCell ⟨w.heap.size, 0, none⟩ (.int .i64 a1)).setCell ⟨w.heap.size, 1, none⟩ (.int .i64 a2)).setCell ⟨w.heap.size, 2, none⟩ (.int .i64 a3)) := ((((Chg.refl (· = w.heap.size) w5).setCell (p := ⟨w.heap.size, 0, none⟩) (.inl rfl) _).setCell (p := ⟨w.heap.size, 1, none⟩) (.inl rfl) _).setCell (p := ⟨w.heap.size, 2, none⟩) (.inl rfl) _)
      have hb' : Blk (((w5.setCell ⟨w.heap.size, 0, none⟩ (.int .i64 a1)).setCell ⟨w.heap.size, 1, none⟩ (.int .i64 a2)).setCell ⟨w.heap.size, 2, none⟩ (.int .i64 a3)) w.heap.size 38 #[.int .i64 a1, .int .i64 a2, .int .i64 a3] := (((hb.set_ 0 _).set_ 1 _).set_ 2 _)
      exact rg_skip (w' := (((w5.setCell ⟨w.heap.size, 0, none⟩ (.int .i64 a1)).setCell ⟨w.heap.size, 1, none⟩ (.int .i64 a2)).setCell ⟨w.heap.size, 2, none⟩ (.int .i64 a3))) (by simp [execOp, go_sem, e0, e1, x0, x1, x2, f0, f1, f2]) rfl ⟨(hrd.chg hs (fun i hi he => by have h9 : i = w.heap.size := he; omega)).more (by omega), hch.trans (hs.mono (fun _ _ x => .inr x)), hkc, StI.store (by decide) m1 hb'⟩ (hs.mono (fun _ _ x => .inr x)) trivial
  rintro m w5 ⟨hrd, hch, -, hst⟩
  simp only [AllVals]
  rintro q0 m0 p0 q1 m1 p1 q2 m2 p2 q3 m3 p3 q4 m4 p4 q5 m5 p5 q6 m6 p6 q7 m7 p7 q8 m8 p8 q9 m9 p9 q10 m10 p10 q11 m11 p11 q12 m12 p12
  obtain rfl := p11
  obtain ⟨a1, a2, a3, rfl⟩ := p10
  have hb := hst.done m12 m10
  have HCH := Lib.hid hch
  have HR5 := Lib.hid hrd
  have r0 : w5.cell? ⟨w.heap.size, 0, none⟩ = some (.int .i64 a1) := (hb.cell _).trans rfl
  have r1 : w5.cell? ⟨w.heap.size, 1, none⟩ = some (.int .i64 a2) := (hb.cell _).trans rfl
  have r2 : w5.cell? ⟨w.heap.size, 2, none⟩ = some (.int .i64 a3) := (hb.cell _).trans rfl
  clear hst hb hch hrd
  clear p0 p1 p2 p3 p4 p5 p6 p7 p8 p9 p12
  simp only [Act.put, List.setIfInBounds_toArray, List.set_cons_succ, List.set_cons_zero]
  go_wp2_with fail
  (try simp only [Exit.inBlock, Exit.then])
  refine bodyPost_ret (v := .tuple #[.slice A D.length c, .agg #[.int .i64 a1, .int .i64 a2, .int .i64 a3]]) (by simp [results, Try.results71, go_sem, *]) rfl ?_
  exact ⟨A, c, D, ⟨a1, a2, a3⟩, rfl, (HD.out.chg HCH.out (fun i hi he => by have h9 : i = g ∨ i = w.heap.size := he; have := hi.1; omega)).mono (fun i _ hi => by have := hi.1; omega), hlc, h13, H4.out, HC.out.trans' HCH.out (fun i hi => by have h9 : i = g ∨ i = w.heap.size := hi; rcases h9 with h9 | h9; exact .inl h9; exact .inr (by omega)), HR5.out.more (show N + 4000 + 1 + 1 * 13 ≤ N + 4100 by omega)⟩
def HdDrawn (w : World) (e : Ending) (w' : World) : Prop :=
  ∃ A c D h, e = .returned (.tuple #[.slice A (D : List Bk).length c, hval h]) ∧ DevR (fun i => w.heap.size ≤ i) w' A D ∧ D.length ≤ c ∧ D.length ≤ 13 ∧ (∀ b ∈ D, b.pages.length ≤ 4) ∧ Chg NoB w w'
set_option maxRecDepth 100000 in
set_option maxHeartbeats 1000000 in
theorem DrawWearVictim_any (A0 : Option Addr) (c0 : Nat) (bs : List Nat) (w : World) (h : Rd (fun i => i < w.heap.size) w A0 (bs.map fun (b : Nat) => Value.int .u8 (b : Int))) (hx : ∀ b ∈ bs, b < 256) (hc : bs.length ≤ c0) :
    Calls Try.prog 36 #[.slice A0 bs.length c0] w (HdDrawn w) := by
  have hca := (Chg.refl NoB w).alloc (.cells #[.int .i64 0, .int .i64 0, .int .i64 0] 38)
  have HB0 := Lib.hid (Blk.new w 38 #[.int .i64 0, .int .i64 0, .int .i64 0])
  have HC0 := Lib.hid hca
  have HX0 := Lib.hid ((h.chg hca (fun _ _ x => x)).mono (fun i _ hi => by rw [World.size_alloc]; omega) : Rd (fun i => i < (w.alloc (.cells #[.int .i64 0, .int .i64 0, .int .i64 0] 38)).heap.size) _ A0 _)
  have HSZ := Lib.hid (show (w.alloc (.cells #[.int .i64 0, .int .i64 0, .int .i64 0] 38)).heap.size = w.heap.size + 1 by rw [World.size_alloc])
  clear hca h
  go_enter Try.func36, Try.ntmps36
  go_wp2_with fail
  refine (l20Open_any A0 c0 bs _ HX0.out hx hc).mono ?_
  rintro e w1 ⟨g, rfl, hg, hc1, hr1⟩
  have HG := Lib.hid (show w.heap.size < g by have := HSZ.out; omega)
  have HC1 := Lib.hid (HC0.out.trans hc1)
  have HB1 := Lib.hid (HB0.out.chg hc1 (fun x => x))
  have HS1 := Lib.hid hc1.size
  clear hg hc1 hx hc
  go_wp2_with fail
  refine (l20Heads_any g 0 12 _ hr1 (by omega) (by omega) (by omega)).mono ?_
  rintro e w2 ⟨A, c, D, hh, rfl, hrd, hlc, h13, h4, hc2, hr2⟩
  have hgw := HG.out
  have hb2 := HB1.out.chg hc2 (by show ¬ (w.heap.size = g); omega)
  have r0 : w2.cell? ⟨w.heap.size, 0, none⟩ = some (.int .i64 0) := (hb2.cell _).trans rfl
  have rf0 := hb2.frozen 0
  have r1 : w2.cell? ⟨w.heap.size, 1, none⟩ = some (.int .i64 0) := (hb2.cell _).trans rfl
  have rf1 := hb2.frozen 1
  have r2 : w2.cell? ⟨w.heap.size, 2, none⟩ = some (.int .i64 0) := (hb2.cell _).trans rfl
  have rf2 := hb2.frozen 2
  have HC2 := Lib.hid (HC1.out.own hc2 (by omega))
  have HRD := Lib.hid hrd
  have H4 := Lib.hid h4
  clear hb2 hc2 hrd hr1 hr2 h4
  go_wp2_with fail
  (try simp only [Exit.inBlock, Exit.then])
  refine bodyPost_ret (v := .tuple #[.slice A D.length c, .agg #[.int .i64 hh.hot, .int .i64 hh.warm, .int .i64 hh.cold]]) (by simp [results, Try.results36, go_sem, *]) rfl ?_
  have hcs := chg3h (F := (· = w.heap.size)) (g := w.heap.size) (a := .int .i64 hh.hot) (b := .int .i64 hh.warm) (c := .int .i64 hh.cold) (Chg.refl (· = w.heap.size) w2) (.inl rfl)
  have hsz := HSZ.out
  have hs1 := HS1.out
  exact ⟨A, c, D, hh, rfl, (HRD.out.chg hcs (fun i hi he => by have h9 : i = w.heap.size := he; omega)).mono (fun i _ hi => by omega), hlc, h13, H4.out, HC2.out.own hcs (Nat.le_refl _)⟩
end Go.Proofs.Ytenbbkmbnpdfaaa
