/- The draw of a block. -/
import Derived.Test.YtenbbkmbnpdfaaaYa
namespace Go.Proofs.Ytenbbkmbnpdfaaa
open Go.RowKit
def BkDrawn (g N : Nat) (w : World) (e : Ending) (w' : World) : Prop :=
  ∃ b A c, e = .returned (.agg #[.int .i64 (b : Bk).wear, .slice A b.pages.length c]) ∧ Rd (fun i => w.heap.size ≤ i) w' A (pgs b.pages) ∧ b.pages.length ≤ c ∧ b.pages.length ≤ 4 ∧ Chg (· = g) w w' ∧ Rdr w' g N
theorem four_pgs {ps : List Pg} (h : ps.length = 4) : ∃ p0 p1 p2 p3, ps = [p0, p1, p2, p3] := by
  match ps, h with
  | [p0, p1, p2, p3], _ => exact ⟨p0, p1, p2, p3, rfl⟩
theorem blk_pgs {w : World} {g B : Nat} {ps : List Pg} {rest : List Value} (h : Blk w g 60 (pgs ps ++ rest).toArray) (hB : B ≤ g) : Rd (fun i => B ≤ i) w (some ⟨g, 0, none⟩) (pgs ps) := fun k v hk => by
  obtain ⟨ad, e, hf, hc⟩ := h.rd k v (by rw [List.getElem?_append_left (List.getElem?_eq_some_iff.1 hk).1]; exact hk)
  exact ⟨ad, e, by rw [hf]; exact hB, hc⟩
theorem blk_pgs_tail {w : World} {g B : Nat} {p : Pg} {ps : List Pg} {rest : List Value} (h : Blk w g 60 (pgs (p :: ps) ++ rest).toArray) (hB : B ≤ g) : Rd (fun i => B ≤ i) w (some ⟨g, 5, none⟩) (pgs ps) := fun q u hq => by
  have e1 : pgs (p :: ps) = pcells p ++ pgs ps := rfl
  obtain ⟨ad, e, hf, hcell⟩ := blk_pgs h hB (5 + q) u (by rw [e1, List.getElem?_append_right (by rw [pcells_length]; omega), pcells_length, show 5 + q - 5 = q by omega]; exact hq)
  cases e
  exact ⟨_, rfl, hf, by rw [← hcell]; congr 1; rw [← add_add']; congr 1⟩
set_option maxRecDepth 100000 in
set_option maxHeartbeats 8000000 in
theorem l20Block_any (g N : Nat) (n : Int) (w : World) (h : Rdr w g N) (hN : N ≤ 100000) (hn0 : 0 ≤ n) (hn : n ≤ 1000000) :
    Calls Try.prog 90 #[.pointer (some ⟨g, 0, none⟩), .int .i64 n] w (BkDrawn g (N + 400) w) := by
  have hg := h.lt
  have hca := (Chg.refl NoB w).alloc (.cells #[.int .i64 0, .slice none 0 0] 44)
  have HB0 := Lib.hid (Blk.new w 44 #[.int .i64 0, .slice none 0 0])
  have HC0 := Lib.hid (hca.mono (G := (· = g)) (fun _ _ x => x.elim))
  have hr0 := h.alloc (.cells #[.int .i64 0, .slice none 0 0] 44)
  clear hca h
  have HEND : ∀ wq x A l c ps M, Hid (Chg (· = g) w wq) → Hid (Blk wq w.heap.size 44 #[.int .i64 0, .slice none 0 0]) → Hid (Rdr wq g M) → M ≤ N + 400 → Hid (Rd (fun i => w.heap.size + 1 ≤ i) wq A (pgs ps)) → Hid (ps.length = l) → l ≤ c → l ≤ 4 →
      Hid (BkDrawn g (N + 400) w (.returned (.agg #[.int .i64 x, .slice A l c])) ((wq.setCell ⟨w.heap.size, 0, none⟩ (.int .i64 x)).setCell ⟨w.heap.size, 1, none⟩ (.slice A l c))) := by
    intro wq x A l c ps M h1 h2 h3 hM hrd hl hc h4
    have hcs := chg2' (F := (· = w.heap.size)) (a := .int .i64 x) (b := .slice A l c) (Chg.refl (· = w.heap.size) wq) (.inl rfl)
    have hl' := hl.out
    subst hl'
    exact Lib.hid ⟨⟨x, ps⟩, A, c, rfl, (hrd.out.chg hcs (fun i hi he => by have h9 : i = w.heap.size := he; omega)).mono (fun i _ hi => by omega), hc, h4, h1.out.trans' hcs (fun i hi => .inr (by rw [show i = w.heap.size from hi]; exact Nat.le_refl _)), (h3.out.chgBox hcs (by omega) h2.out (by simp)).more hM⟩
  go_enter Try.func90, Try.ntmps90
  go_wp2_with fail
  refine (pick_any g N 9 _ hr0 (by omega) (by omega) (by omega)).mono ?_
  rintro e w1 ⟨k9, rfl, hk9, hc1, hr1⟩
  have HC1 := Lib.hid (HC0.out.trans hc1)
  have HB1 := Lib.hid (HB0.out.chg hc1 (by omega))
  have hg1 := hr1.lt
  have hs1 := HB1.out.lt
  clear hc1 hr0
  go_wp2_with fail
  obtain ⟨q1, q2, q3⟩ := lit2 w1 3 3 #[.int .i64 k9, .int .i64 100, .int .i64 99] #[.int .i64 0, .int .i64 0, .int .i64 0, .int .i64 0, .int .i64 0, .int .i64 1, .int .i64 2]
  refine (pick_any g _ 7 _ ((hr1.alloc _).alloc _) (by omega) (by omega) (by omega)).mono ?_
  rintro e w2 ⟨k7, rfl, hk7, hc2, hr2⟩
  obtain ⟨j, hj1, hj2⟩ := lit_nat (q2.chg hc2 (by omega)) 3 k7 (by simp; omega) (by simp)
  obtain ⟨x, hx1, hx2⟩ := lit_nat (q1.chg hc2 (by omega)) 101 j (by simp; omega) (by intro v hv; simp at hv; rcases hv with rfl | rfl | rfl <;> exact ⟨_, rfl, by omega, by omega⟩)
  have hk70 : (0 : Int) ≤ (k7 : Int) := Int.natCast_nonneg _
  have hj0 : (0 : Int) ≤ (j : Int) := Int.natCast_nonneg _
  have hj3 : (j : Int) < 3 := by omega
  have HC2 := Lib.hid ((HC1.out.trans' q3 (fun _ x => x.elim)).trans hc2)
  have HB2 := Lib.hid ((HB1.out.chg q3 (fun x => x)).chg hc2 (by omega))
  have HR2 := Lib.hid hr2
  clear q1 q2 q3 hc2 hr1 hr2
  go_wp2_with fail
  refine (sNewBlock_any (x : Int) _ ⟨by omega, by omega⟩).mono ?_
  rintro e w3 ⟨gp, cp, rest, rfl, h4, hok, hc3⟩
  have hca := (Chg.refl NoB w3).alloc (.cells #[.int .i64 x, .slice (some ⟨gp, 0, none⟩) 4 cp] 44)
  have hs2 := HC2.out.size
  have hs2b := HB2.out.lt
  have HV4 := Lib.hid (Blk.new w3 44 #[.int .i64 x, .slice (some ⟨gp, 0, none⟩) 4 cp])
  have HC4 := Lib.hid (HC2.out.trans' (hc3.trans hca) (fun _ x => x.elim))
  have HB4 := Lib.hid (HB2.out.chg (hc3.trans hca) (fun x => x))
  have hr4 := HR2.out.chg (hc3.trans hca) (fun _ _ x => x)
  have HOK4 := Lib.hid ((hok.chg hca (fun x => x)).more (show w.heap.size + 1 ≤ w2.heap.size by omega) hca.size)
  have HS3 := Lib.hid (show w.heap.size < w3.heap.size by have := hc3.size; omega)
  clear hx1 hj1 hok hca hc3 h4
  go_wp2_with fail
  obtain ⟨V, hV⟩ : ∃ V, w3.heap.size = V := ⟨_, rfl⟩
  obtain ⟨w4, hw4⟩ : ∃ w4, w3.alloc (.cells #[.int .i64 x, .slice (some ⟨gp, 0, none⟩) 4 cp] 44) = w4 := ⟨_, rfl⟩
  have hv4 := HV4.out
  have hc4 := HC4.out
  have hb4 := HB4.out
  have hok4 := HOK4.out
  have hs3 := HS3.out
  rw [hw4] at hv4 hc4 hb4 hok4 hr4 ⊢
  rw [hV] at hv4 hs3 ⊢
  replace HV4 := Lib.hid hv4
  replace HC4 := Lib.hid hc4
  replace HB4 := Lib.hid hb4
  replace HOK4 := Lib.hid hok4
  have HVW := Lib.hid hs3
  clear hv4 hc4 hb4 hok4 hs3 hV hw4 HS3 HC2 HB2 HR2 HC1 HB1 HC0 HB0
  refine (pick_any g _ 6 _ hr4 (by omega) (by omega) (by omega)).mono ?_
  rintro e w5 ⟨k6, rfl, hk6, hc5, hr5⟩
  have hgV : g < V := by have := HVW.out; omega
  have HV5 := Lib.hid (HV4.out.chg hc5 (by omega))
  have HC5 := Lib.hid (HC4.out.trans hc5)
  have HB5 := Lib.hid (HB4.out.chg hc5 (by omega))
  have HOK5 := Lib.hid ((HOK4.out.chg hc5 (by have := HOK4.out.1; show ¬ (gp = g); have h9 : w.heap.size + 1 ≤ gp := this; omega)).more (Nat.le_refl _) hc5.size)
  have HBK := Lib.hid (show BkOk ⟨(x : Int), List.replicate 4 zPg⟩ from ⟨⟨by show (0 : Int) ≤ (x : Int); omega, by show (x : Int) ≤ 100; omega⟩, by simp, fun k hk => ⟨by simp only [List.getElem_replicate]; exact PgOk.zero, fun _ hf => by simp only [List.getElem_replicate] at hf; cases hf⟩⟩)
  clear hr4 hc5 HV4 HC4 HB4 HOK4
  go_wp2_with fail
  go_loopw [6] (fun i wr => ∃ (k M gq cq : Nat) (ps : List Pg) (rest : List Value), k ≤ 5 ∧ i = .int .i64 k ∧ M + 40 * k ≤ N + 210 ∧ Rdr wr g M ∧ Chg (· = g) w wr ∧ Blk wr w.heap.size 44 #[.int .i64 0, .slice none 0 0] ∧ Blk wr V 44 #[.int .i64 x, .slice (some ⟨gq, 0, none⟩) 4 cq] ∧ Hid (BkOk ⟨(x : Int), ps⟩) ∧ BkO.ok (w.heap.size + 1) wr.heap.size wr ⟨gq, cq, x, ps, rest⟩) (fun i _ => (intOf i).toNat)
  case atStart => exact ⟨k6, _, gp, cp, _, rest, by omega, rfl, by omega, hr5, HC5.out, HB5.out, HV5.out, HBK, HOK5.out⟩
  case round =>
    obtain ⟨k, M, gq, cq, ps, rest, hk5, rfl, hM, hr, hch, hb0, hbv, HBP, hok⟩ := hrel
    have hgW := hr.lt
    have h4 : ps.length = 4 := HBP.out.2.1
    have hqB : w.heap.size + 1 ≤ gq := hok.1
    have hqE : gq < wr.heap.size := hok.2.1
    have hcq : 4 ≤ cq := by have := hok.2.2.2; have h9 : ps.length ≤ cq := this; omega
    have hbq : Blk wr gq 60 (pgs ps ++ rest).toArray := hok.2.2.1
    have hqV : gq ≠ V := fun he => by
      rw [he] at hbq
      exact ty_page_block (hbq.sameTy hbv)
    have hVq : V ≠ gq := Ne.symm hqV
    have hVl := hbv.lt
    have hVw := HVW.out
    have hVw1 : w.heap.size ≠ V := by omega
    have hVw2 : V ≠ w.heap.size := by omega
    have v0 : wr.cell? ⟨V, 0, none⟩ = some (.int .i64 x) := (hbv.cell _).trans rfl
    have vf0 := hbv.frozen 0
    have v1 : wr.cell? ⟨V, 1, none⟩ = some (.slice (some ⟨gq, 0, none⟩) 4 cq) := (hbv.cell _).trans rfl
    have vf1 := hbv.frozen 1
    have HR := Lib.hid hr
    have HC := Lib.hid hch
    have HB := Lib.hid hb0
    have HV := Lib.hid hbv
    have HOK := Lib.hid hok
    have HBQ := Lib.hid hbq
    have HLP := Lib.hid h4
    clear hr hch hb0 hbv hok hbq h4 hr5 HV5 HC5 HB5 HOK5 HBK
    by_cases hk0 : 0 < k
    · have hk1 : (0 : Int) < (k : Int) := by omega
      go_wp2_with fail
      refine wp_region_rg (WInv := fun cc m w5 => Rdr w5 g (M + 3 * cc) ∧ Chg ((· = g)) wr w5 ∧ cc ≤ 13 ∧ BoxI wr.heap.size 44 #[.int .i64 0, .slice none 0 0] 10 11 8 m w5) (R := RBox ((· = g)) wr.heap.size 44) (Post := PL [fun v w => v = .agg #[.int .i64 x, .slice (some ⟨gq, 0, none⟩) 4 cq], fun v w => v = .pointer (some ⟨g, 0, none⟩), fun v w => v = .pointer (some ⟨g, 0, none⟩), fun v w => ∃ k : Nat, v = .int .i64 (k : Int) ∧ k < 9, fun v w => ∃ k : Nat, v = .int .i64 (1 + (k : Int)) ∧ k < 9, fun v w => ∃ p : Pg, v = pval p ∧ p.full = true ∧ PgOk p, fun v w => ∃ p : Pg, ∃ g3 : Nat, ∃ c3 : Nat, ∃ rest3 : List Value, v = .tuple #[.agg #[.int .i64 x, .slice (some ⟨g3, 0, none⟩) 4 c3], .int .i64 (writeBlock ⟨x, ps⟩ p).2] ∧ p.full = true ∧ PgOk p ∧ BkO.ok wr.heap.size w.heap.size w ⟨g3, c3, x, (writeBlock ⟨x, ps⟩ p).1.pages, rest3⟩, fun v w => ∃ p : Pg, ∃ g3 : Nat, ∃ c3 : Nat, ∃ rest3 : List Value, v = .tuple #[.agg #[.int .i64 x, .slice (some ⟨g3, 0, none⟩) 4 c3], .int .i64 (writeBlock ⟨x, ps⟩ p).2] ∧ p.full = true ∧ PgOk p ∧ BkO.ok wr.heap.size w.heap.size w ⟨g3, c3, x, (writeBlock ⟨x, ps⟩ p).1.pages, rest3⟩, fun v w => ∃ p : Pg, ∃ g3 : Nat, ∃ c3 : Nat, ∃ rest3 : List Value, v = .agg #[.int .i64 x, .slice (some ⟨g3, 0, none⟩) 4 c3] ∧ p.full = true ∧ PgOk p ∧ BkO.ok wr.heap.size w.heap.size w ⟨g3, c3, x, (writeBlock ⟨x, ps⟩ p).1.pages, rest3⟩, fun v w => ∃ z : Int, v = .int .i64 z, fun _ _ => True, fun _ _ => True, fun v w => ∃ z : Int, v = .int .i64 z]) (by kernel_rfl) (by kernel_rfl) ?_ (pl_stab ⟨(fun _ _ _ h _ => h), (fun _ _ _ h _ => h), (fun _ _ _ h _ => h), (fun _ _ _ h _ => h), (fun _ _ _ h _ => h), (fun _ _ _ h _ => h), (fun _ _ _ ⟨p, g3, c3, rest3, hv, hpf, hpo, hok⟩ hR => ⟨p, g3, c3, rest3, hv, hpf, hpo, (ok_box hok hR (fun i hi he => by have h9 : i = g := he; omega))⟩), (fun _ _ _ ⟨p, g3, c3, rest3, hv, hpf, hpo, hok⟩ hR => ⟨p, g3, c3, rest3, hv, hpf, hpo, (ok_box hok hR (fun i hi he => by have h9 : i = g := he; omega))⟩), (fun _ _ _ ⟨p, g3, c3, rest3, hv, hpf, hpo, hok⟩ hR => ⟨p, g3, c3, rest3, hv, hpf, hpo, (ok_box hok hR (fun i hi he => by have h9 : i = g := he; omega))⟩), (fun _ _ _ h _ => h), (fun _ _ _ _ _ => trivial), (fun _ _ _ _ _ => trivial), (fun _ _ _ h _ => h), trivial⟩) ⟨(HR.out.drew).more (by omega), (Chg.refl _ _).drew, Nat.zero_le _, BoxI.start⟩ ?_ ?_
      · rintro c c' m w ⟨h1, h2, _, h5⟩ h3 h4
        exact ⟨h1.more (by omega), h2, h4, h5⟩
      · refine ⟨?_, ?_, ?_, ?_, ?_, ?_, ?_, ?_, ?_, ?_, ?_, ?_, ?_, trivial⟩
        · rintro kc m a w5 hkc ⟨hrd, hch, hcc, hbx⟩ hm hn
          obtain ⟨h0, -⟩ := hn
          have e0 : a.tmps[5]?.getD undef = .pointer (some ⟨V, 0, none⟩) := h0
          have y0 := hch.cell v0 (by show ¬ (V = g); omega)
          have y1 := hch.cell v1 (by show ¬ (V = g); omega)
          exact rg_val (v := .agg #[.int .i64 x, .slice (some ⟨gq, 0, none⟩) 4 cq]) (by simp [execOp, go_sem, e0, y0, y1]) rfl ⟨hrd.more (by omega), hch, hkc, hbx.keep (by decide) (by decide) hm (Chg.refl NoB _) (fun _ _ x => x)⟩ (Chg.refl _ _) rfl
        · rintro kc m a w5 hkc ⟨hrd, hch, hcc, hbx⟩ hm hn
          obtain ⟨h0, -⟩ := hn
          have e0 : a.tmps[0]?.getD undef = .pointer (some ⟨g, 0, none⟩) := h0
          exact rg_val (v := .pointer (some ⟨g, 0, none⟩)) (by simp [execOp, go_sem, e0]) rfl ⟨hrd.more (by omega), hch, hkc, hbx.keep (by decide) (by decide) hm (Chg.refl NoB _) (fun _ _ x => x)⟩ (Chg.refl _ _) rfl
        · rintro kc m a w5 hkc ⟨hrd, hch, hcc, hbx⟩ hm hn
          obtain ⟨h0, -⟩ := hn
          have e0 : a.tmps[0]?.getD undef = .pointer (some ⟨g, 0, none⟩) := h0
          exact rg_val (v := .pointer (some ⟨g, 0, none⟩)) (by simp [execOp, go_sem, e0]) rfl ⟨hrd.more (by omega), hch, hkc, hbx.keep (by decide) (by decide) hm (Chg.refl NoB _) (fun _ _ x => x)⟩ (Chg.refl _ _) rfl
        · rintro kc m a w5 hkc ⟨hrd, hch, hcc, hbx⟩ hm hn
          obtain ⟨⟨_, e0, m0, rfl⟩, -⟩ := hn
          refine rg_call (f := 54) (args := #[.pointer (some ⟨g, 0, none⟩), .int .i64 9]) (by simp [go_sem, e0]) rfl ?_
          refine (pick_any g _ 9 _ hrd (by omega) (by omega) (by omega)).mono ?_
          rintro e' w6 ⟨k, rfl, hk, hc6, hr6⟩
          exact ⟨_, rfl, ⟨hr6.more (by omega), hch.trans hc6, hkc, hbx.keep (by decide) (by decide) hm hc6 (fun i hi he => by have := hgW; omega)⟩, (RBox.of hc6 (fun _ x => x)), ⟨k, rfl, (by omega)⟩⟩
        · rintro kc m a w5 hkc ⟨hrd, hch, hcc, hbx⟩ hm hn
          obtain ⟨⟨_, e0, m0, k, rfl, hk⟩, -⟩ := hn
          have hw : IntKind.i64.wrap (1 + (k : Int)) = 1 + (k : Int) := IntWalk.i64_in _ ⟨by omega, by omega⟩
          exact rg_val (v := .int .i64 (1 + (k : Int))) (by simp [execOp, go_sem, e0, hw]) rfl ⟨hrd.more (by omega), hch, hkc, hbx.keep (by decide) (by decide) hm (Chg.refl NoB _) (fun _ _ x => x)⟩ (Chg.refl _ _) ⟨k, rfl, hk⟩
        · rintro kc m a w5 hkc ⟨hrd, hch, hcc, hbx⟩ hm hn
          obtain ⟨⟨_, e0, m0, rfl⟩, ⟨_, e1, m1, k, rfl, hk⟩, -⟩ := hn
          refine rg_call (f := 88) (args := #[.pointer (some ⟨g, 0, none⟩), .int .i64 (1 + (k : Int))]) (by simp [go_sem, e0, e1]) rfl ?_
          refine (l20Full_any g _ (1 + (k : Int)) _ hrd (by omega) ⟨by omega, by omega⟩).mono ?_
          rintro e' w6 ⟨p, rfl, hpf, hpo, hc6, hr6⟩
          exact ⟨_, rfl, ⟨hr6.more (by omega), hch.trans hc6, hkc, hbx.keep (by decide) (by decide) hm hc6 (fun i hi he => by have := hgW; omega)⟩, (RBox.of hc6 (fun _ x => x)), ⟨p, rfl, hpf, hpo⟩⟩
        · rintro kc m a w5 hkc ⟨hrd, hch, hcc, hbx⟩ hm hn
          obtain ⟨⟨_, e0, m0, rfl⟩, ⟨_, e1, m1, p, rfl, hpf, hpo⟩, -⟩ := hn
          refine rg_call (f := 102) (args := #[.agg #[.int .i64 x, .slice (some ⟨gq, 0, none⟩) 4 cq], pval p]) (by simp [go_sem, e0, e1]) rfl ?_
          refine (sWriteBlock_any _ (some ⟨gq, 0, none⟩) cq ⟨x, ps⟩ p _ (HOK.out.rd.chg hch (fun i hi he => by have h9 : i = g := he; have := hi.1; omega)) HBP.out hpo hpf).mono ?_
          rintro e' w6 ⟨g3, c3, rest3, rfl, hok6, hc6⟩
          exact ⟨_, rfl, ⟨(hrd.chg hc6 (fun _ _ x => x)).more (by omega), hch.trans' hc6 (fun _ x => x.elim), hkc, hbx.keep (by decide) (by decide) hm hc6 (fun _ _ x => x)⟩, (RBox.of hc6 (fun _ x => x.elim)), ⟨p, g3, c3, rest3, rfl, hpf, hpo, (hok6.more hch.size (Nat.le_refl _))⟩⟩
        · rintro kc m a w5 hkc ⟨hrd, hch, hcc, hbx⟩ hm hn
          obtain ⟨⟨_, e0, m0, p, g3, c3, rest3, rfl, hpf, hpo, hok⟩, -⟩ := hn
          exact rg_val (v := .tuple #[.agg #[.int .i64 x, .slice (some ⟨g3, 0, none⟩) 4 c3], .int .i64 (writeBlock ⟨x, ps⟩ p).2]) (by simp [execOp, go_sem, e0]) rfl ⟨hrd.more (by omega), hch, hkc, hbx.keep (by decide) (by decide) hm (Chg.refl NoB _) (fun _ _ x => x)⟩ (Chg.refl _ _) ⟨p, g3, c3, rest3, rfl, hpf, hpo, hok⟩
        · rintro kc m a w5 hkc ⟨hrd, hch, hcc, hbx⟩ hm hn
          obtain ⟨⟨_, e0, m0, p, g3, c3, rest3, rfl, hpf, hpo, hok⟩, -⟩ := hn
          exact rg_val (v := .agg #[.int .i64 x, .slice (some ⟨g3, 0, none⟩) 4 c3]) (by simp [execOp, go_sem, e0]) rfl ⟨hrd.more (by omega), hch, hkc, hbx.keep (by decide) (by decide) hm (Chg.refl NoB _) (fun _ _ x => x)⟩ (Chg.refl _ _) ⟨p, g3, c3, rest3, rfl, hpf, hpo, hok⟩
        · rintro kc m a w5 hkc ⟨hrd, hch, hcc, hbx⟩ hm hn
          obtain ⟨⟨_, e0, m0, p, g3, c3, rest3, rfl, hpf, hpo, hok⟩, -⟩ := hn
          exact rg_val (v := .int .i64 (writeBlock ⟨x, ps⟩ p).2) (by simp [execOp, go_sem, e0]) rfl ⟨hrd.more (by omega), hch, hkc, hbx.keep (by decide) (by decide) hm (Chg.refl NoB _) (fun _ _ x => x)⟩ (Chg.refl _ _) ⟨_, rfl⟩
        · rintro kc m a w5 hkc ⟨hrd, hch, hcc, hbx⟩ hm hn
          have hca : Chg NoB w5 (w5.alloc (.cells #[.int .i64 0, .slice none 0 0] 44)) := (Chg.refl _ _).alloc _
          exact rg_val (v := .pointer (some ⟨w5.heap.size, 0, none⟩)) (w' := w5.alloc (.cells #[.int .i64 0, .slice none 0 0] 44)) (by simp [execOp, go_sem]) rfl ⟨(hrd.alloc _).more (by omega), hch.alloc _, hkc, hbx.alloc (by decide) hm hch.size⟩ (RBox.of hca (fun _ x => x.elim)) trivial
        · rintro kc m a w5 hkc ⟨hrd, hch, hcc, hbx⟩ hm hn
          obtain ⟨⟨p0, e0, m0, _⟩, ⟨_, e1, m1, p, g3, c3, rest3, rfl, hpf, hpo, hok⟩, -⟩ := hn
          obtain ⟨bx, rfl, hBx, hb⟩ := hbx.ready hm m0
          have f0 := hb.frozen 0
          have x0 : w5.cell? ⟨bx, 0, none⟩ = some (.int .i64 0) := (hb.cell _).trans rfl
          have f1 := hb.frozen 1
          have x1 : w5.cell? ⟨bx, 1, none⟩ = some (.slice none 0 0) := (hb.cell _).trans rfl
          have hs : Chg (· = bx) w5 ((w5.setCell ⟨bx, 0, none⟩ (.int .i64 x)).setCell ⟨bx, 1, none⟩ (.slice (some ⟨g3, 0, none⟩) 4 c3)) := (((Chg.refl (· = bx) w5).setCell (p := ⟨bx, 0, none⟩) (.inl rfl) _).setCell (p := ⟨bx, 1, none⟩) (.inl rfl) _)
          have hb' : Blk ((w5.setCell ⟨bx, 0, none⟩ (.int .i64 x)).setCell ⟨bx, 1, none⟩ (.slice (some ⟨g3, 0, none⟩) 4 c3)) bx 44 #[.int .i64 x, .slice (some ⟨g3, 0, none⟩) 4 c3] := ((hb.set_ 0 _).set_ 1 _)
          exact rg_skip (w' := ((w5.setCell ⟨bx, 0, none⟩ (.int .i64 x)).setCell ⟨bx, 1, none⟩ (.slice (some ⟨g3, 0, none⟩) 4 c3))) (by simp [execOp, go_sem, e0, e1, x0, x1, f0, f1]) rfl ⟨(hrd.chg hs (fun i hi he => by have := hgW; omega)).more (by omega), hch.own hs hBx, hkc, BoxI.store (by decide) (by decide) m0 hBx m1 hb'⟩ (RBox.box hs hBx hb) trivial
        · rintro kc m a w5 hkc ⟨hrd, hch, hcc, hbx⟩ hm hn
          obtain ⟨⟨_, e0, m0, z, rfl⟩, -⟩ := hn
          exact rg_val (v := .int .i64 z) (by simp [execOp, go_sem, e0]) rfl ⟨hrd.more (by omega), hch, hkc, hbx.keep (by decide) (by decide) hm (Chg.refl NoB _) (fun _ _ x => x)⟩ (Chg.refl _ _) ⟨z, rfl⟩
      rintro m w5 ⟨hrd, hch, -, hbx⟩
      simp only [AllVals]
      rintro q0 m0 p0 q1 m1 p1 q2 m2 p2 q3 m3 p3 q4 m4 p4 q5 m5 p5 q6 m6 p6 q7 m7 p7 q8 m8 p8 q9 m9 p9 q10 m10 p10 q11 m11 p11 q12 m12 p12
      obtain ⟨p, g3, c3, rest3, rfl, hpf, hpo, hok⟩ := p8
      obtain ⟨z, rfl⟩ := p12
      obtain ⟨bx, rfl, hBx, hb⟩ := hbx.done m10 m11 m8
      have b0 : w5.cell? ⟨bx, 0, none⟩ = some (.int .i64 x) := (hb.cell _).trans rfl
      have b1 : w5.cell? ⟨bx, 1, none⟩ = some (.slice (some ⟨g3, 0, none⟩) 4 c3) := (hb.cell _).trans rfl
      have hv5 := HV.out.chg hch (by show ¬ (V = g); omega)
      have HV5 := Lib.hid hv5
      have HR5 := Lib.hid hrd
      have HOK5 := Lib.hid hok
      have HCH := Lib.hid hch
      have HPP := Lib.hid (And.intro hpf hpo)
      have hnb1 : bx ≠ V := by omega
      have hnb2 : V ≠ bx := by omega
      clear v0 v1 vf0 vf1
      have v0 : w5.cell? ⟨V, 0, none⟩ = some (.int .i64 x) := (hv5.cell _).trans rfl
      have vf0 := hv5.frozen 0
      have v1 : w5.cell? ⟨V, 1, none⟩ = some (.slice (some ⟨gq, 0, none⟩) 4 cq) := (hv5.cell _).trans rfl
      have vf1 := hv5.frozen 1
      clear hv5 hrd hok hch hpf hpo hb hbx hBx
      clear p0 p1 p2 p3 p4 p5 p6 p7 p9 p10 p11
      simp only [Act.put, List.setIfInBounds_toArray, List.set_cons_succ, List.set_cons_zero]
      go_wp2_with fail
      go_roundw
      case rel =>
        have hcs := chg2' (F := (· = V)) (a := .int .i64 x) (b := .slice (some ⟨g3, 0, none⟩) 4 c3) (Chg.refl (· = V) w5) (.inl rfl)
        have hok := HOK5.out
        have hg3 : wr.heap.size ≤ g3 := hok.1
        have hsw := HC.out.size
        have hw := BkOk.write HBP.out HPP.out.2 HPP.out.1
        have hww := writeBlock_wear HBP.out HPP.out.2 HPP.out.1
        refine ⟨k - 1, M + 3 * 13, g3, c3, _, rest3, by omega, by go_num, by omega, HR5.out.chgBox hcs (by omega) HV5.out (by simp), ((HC.out.trans HCH.out).trans' hcs (fun i hi => .inr (by have h9 : i = V := hi; omega))), (HB.out.chg HCH.out (by omega)).chg hcs (by omega), ((HV5.out.set_ 0 _).set_ 1 _), Lib.hid ⟨by have := hw.1; rw [hww] at this; exact this, hw.2⟩, ?_⟩
        have hok2 := hok.chg hcs (by show ¬ (g3 = V); omega)
        exact hok2.more (by omega) (by simp [World.setCell])
      case measure => simp [intOf]; omega
    obtain rfl : k = 0 := by omega
    have hz : ¬ ((0 : Int) < ((0 : Nat) : Int)) := by omega
    go_wp2_with fail
    refine (odd_any g M n _ HR.out (by omega) hn0 hn).mono ?_
    rintro e w6 ⟨b6, rfl, -, hc6, hr6⟩
    clear v0 v1 vf0 vf1
    replace HV := Lib.hid (HV.out.chg hc6 (by show ¬ (V = g); omega))
    replace HC := Lib.hid (HC.out.trans hc6)
    replace HB := Lib.hid (HB.out.chg hc6 (by show ¬ (w.heap.size = g); omega))
    replace HBQ := Lib.hid (HBQ.out.chg hc6 (by show ¬ (gq = g); omega))
    clear hc6
    have HR6 := Lib.hid hr6
    cases b6
    case false =>
      have hvv := HV.out
      have v0 : w6.cell? ⟨V, 0, none⟩ = some (.int .i64 x) := (hvv.cell _).trans rfl
      have vf0 := hvv.frozen 0
      have v1 : w6.cell? ⟨V, 1, none⟩ = some (.slice (some ⟨gq, 0, none⟩) 4 cq) := (hvv.cell _).trans rfl
      have vf1 := hvv.frozen 1
      have hrr := HB.out
      have r0 : w6.cell? ⟨w.heap.size, 0, none⟩ = some (.int .i64 0) := (hrr.cell _).trans rfl
      have rf0 := hrr.frozen 0
      have r1 : w6.cell? ⟨w.heap.size, 1, none⟩ = some (.slice none 0 0) := (hrr.cell _).trans rfl
      have rf1 := hrr.frozen 1
      clear hvv hrr
      clear hr6
      go_wp2_with fail
      (try simp only [Exit.inBlock, Exit.then])
      refine bodyPost_ret (v := .agg #[.int .i64 x, .slice (some ⟨gq, 0, none⟩) 4 cq]) (by simp [results, Try.results90, go_sem, *]) rfl ?_
      exact (HEND w6 x _ 4 cq ps _ HC HB HR6 (by omega) (Lib.hid (blk_pgs HBQ.out hqB)) HLP hcq (Nat.le_refl _)).out
    go_wp2_with fail
    refine (pick_any g _ 4 _ hr6 (by omega) (by omega) (by omega)).mono ?_
    rintro e w7 ⟨k7', rfl, hk7', hc7, hr7⟩
    replace HV := Lib.hid (HV.out.chg hc7 (by show ¬ (V = g); omega))
    replace HC := Lib.hid (HC.out.trans hc7)
    replace HB := Lib.hid (HB.out.chg hc7 (by show ¬ (w.heap.size = g); omega))
    replace HBQ := Lib.hid (HBQ.out.chg hc7 (by show ¬ (gq = g); omega))
    clear hc7
    have hvv := HV.out
    have v0 : w7.cell? ⟨V, 0, none⟩ = some (.int .i64 x) := (hvv.cell _).trans rfl
    have vf0 := hvv.frozen 0
    have v1 : w7.cell? ⟨V, 1, none⟩ = some (.slice (some ⟨gq, 0, none⟩) 4 cq) := (hvv.cell _).trans rfl
    have vf1 := hvv.frozen 1
    have hrr := HB.out
    have r0 : w7.cell? ⟨w.heap.size, 0, none⟩ = some (.int .i64 0) := (hrr.cell _).trans rfl
    have rf0 := hrr.frozen 0
    have r1 : w7.cell? ⟨w.heap.size, 1, none⟩ = some (.slice none 0 0) := (hrr.cell _).trans rfl
    have rf1 := hrr.frozen 1
    clear hvv hrr
    have HR7 := Lib.hid hr7
    clear hr6 HR6
    by_cases h0 : k7' = 0
    · subst h0
      clear hr7
      go_wp2_with fail
      have hcl := (Chg.refl NoB w7).alloc (.cells #[.int .i64 (-1), .int .i64 101] 3)
      have hlb := Blk.new w7 3 #[.int .i64 (-1), .int .i64 101]
      refine (pick_any g _ 2 _ (HR7.out.alloc _) (by omega) (by omega) (by omega)).mono ?_
      rintro e w8 ⟨k2, rfl, hk2, hc8, hr8⟩
      have hg7 := HR7.out.lt
      obtain ⟨u, hu⟩ := lit_cell (hlb.chg hc8 (by omega)) k2 (by simp; omega) (fun v hv => by simp at hv; rcases hv with rfl | rfl <;> exact ⟨_, rfl⟩)
      have hk20 : (0 : Int) ≤ (k2 : Int) := Int.natCast_nonneg _
      have hcx : Chg (· = g) w7 w8 := (hcl.mono (G := (· = g)) (fun _ _ x => x.elim)).trans hc8
      have hVl7 := HV.out.lt
      have hs7 := HB.out.lt
      have hnl1 : w7.heap.size ≠ V := by omega
      have hnl2 : V ≠ w7.heap.size := by omega
      have hnl3 : w7.heap.size ≠ w.heap.size := by omega
      have hnl4 : w.heap.size ≠ w7.heap.size := by omega
      clear hcl hlb hc8 v0 v1 vf0 vf1 r0 r1 rf0 rf1
      replace HV := Lib.hid (HV.out.chg hcx (by show ¬ (V = g); omega))
      replace HC := Lib.hid (HC.out.trans hcx)
      replace HB := Lib.hid (HB.out.chg hcx (by show ¬ (w.heap.size = g); omega))
      replace HBQ := Lib.hid (HBQ.out.chg hcx (by show ¬ (gq = g); omega))
      clear hcx
      have hvv := HV.out
      have v0 : w8.cell? ⟨V, 0, none⟩ = some (.int .i64 x) := (hvv.cell _).trans rfl
      have vf0 := hvv.frozen 0
      have v1 : w8.cell? ⟨V, 1, none⟩ = some (.slice (some ⟨gq, 0, none⟩) 4 cq) := (hvv.cell _).trans rfl
      have vf1 := hvv.frozen 1
      have hrr := HB.out
      have r0 : w8.cell? ⟨w.heap.size, 0, none⟩ = some (.int .i64 0) := (hrr.cell _).trans rfl
      have rf0 := hrr.frozen 0
      have r1 : w8.cell? ⟨w.heap.size, 1, none⟩ = some (.slice none 0 0) := (hrr.cell _).trans rfl
      have rf1 := hrr.frozen 1
      clear hvv hrr
      have HR8 := Lib.hid hr8
      clear hr8
      go_wp2_with fail
      (try simp only [Exit.inBlock, Exit.then])
      refine bodyPost_ret (v := .agg #[.int .i64 u, .slice (some ⟨gq, 0, none⟩) 4 cq]) (by simp [results, Try.results90, go_sem, *]) rfl ?_
      have hcv : Chg (· = V) w8 (w8.setCell ⟨V, 0, none⟩ (.int .i64 u)) := (Chg.refl (· = V) w8).setCell (p := ⟨V, 0, none⟩) (.inl rfl) _
      exact (HEND _ u _ 4 cq ps _ (Lib.hid (HC.out.trans' hcv (fun i hi => .inr (by have h9 : i = V := hi; omega)))) (Lib.hid (HB.out.chg hcv (by show ¬ (w.heap.size = V); omega))) (Lib.hid (HR8.out.chgBox hcv (by omega) HV.out (by simp))) (by omega) (Lib.hid (blk_pgs (HBQ.out.chg hcv (by show ¬ (gq = V); omega)) hqB)) HLP hcq (Nat.le_refl _)).out
    have hne0 : ((k7' : Int) == 0) = false := beq_eq_false_iff_ne.2 (by omega)
    by_cases h1 : k7' = 1
    · subst h1
      have hcne : ¬ cq = 1 := by omega
      have hc1 : 1 ≤ cq := by omega
      clear hr7 h0
      go_wp2_with fail
      (try simp only [Exit.inBlock, Exit.then])
      refine bodyPost_ret (v := .agg #[.int .i64 x, .slice (some ⟨gq, 5, none⟩) 3 (cq - 1)]) (by simp [results, Try.results90, go_sem, *]) rfl ?_
      have hcv : Chg (· = V) w7 (w7.setCell ⟨V, 1, none⟩ (.slice (some ⟨gq, 5, none⟩) 3 (cq - 1))) := (Chg.refl (· = V) w7).setCell (p := ⟨V, 1, none⟩) (.inl rfl) _
      obtain ⟨p0, p1, p2, p3, rfl⟩ := four_pgs HLP.out
      refine (HEND _ x _ 3 (cq - 1) [p1, p2, p3] _ (Lib.hid (HC.out.trans' hcv (fun i hi => .inr (by have h9 : i = V := hi; omega)))) (Lib.hid (HB.out.chg hcv (by show ¬ (w.heap.size = V); omega))) (Lib.hid (HR7.out.chgBox hcv (by omega) HV.out (by simp))) (by omega) (Lib.hid ?_) (Lib.hid rfl) (by omega) (by omega)).out
      exact blk_pgs_tail (HBQ.out.chg hcv (by show ¬ (gq = V); omega)) hqB
    have hne1 : ((k7' : Int) == 1) = false := beq_eq_false_iff_ne.2 (by omega)
    by_cases h2 : k7' = 2
    · subst h2
      obtain ⟨p0, p1, p2, p3, rfl⟩ := four_pgs HLP.out
      have hbb := HBQ.out
      have a0 : w7.cell? ⟨gq, 0, none⟩ = some (.bool p0.full) := (hbb.cell _).trans rfl
      have af0 := hbb.frozen 0
      have a1 : w7.cell? ⟨gq, 1, none⟩ = some (.int .i64 p0.file) := (hbb.cell _).trans rfl
      have af1 := hbb.frozen 1
      have a2 : w7.cell? ⟨gq, 2, none⟩ = some (.int .i64 p0.place) := (hbb.cell _).trans rfl
      have af2 := hbb.frozen 2
      have a3 : w7.cell? ⟨gq, 3, none⟩ = some (.int .i64 p0.value) := (hbb.cell _).trans rfl
      have af3 := hbb.frozen 3
      have a4 : w7.cell? ⟨gq, 4, none⟩ = some (.int .i64 p0.stamp) := (hbb.cell _).trans rfl
      have af4 := hbb.frozen 4
      have a5 : w7.cell? ⟨gq, 5, none⟩ = some (.bool p1.full) := (hbb.cell _).trans rfl
      have af5 := hbb.frozen 5
      have a6 : w7.cell? ⟨gq, 6, none⟩ = some (.int .i64 p1.file) := (hbb.cell _).trans rfl
      have af6 := hbb.frozen 6
      have a7 : w7.cell? ⟨gq, 7, none⟩ = some (.int .i64 p1.place) := (hbb.cell _).trans rfl
      have af7 := hbb.frozen 7
      have a8 : w7.cell? ⟨gq, 8, none⟩ = some (.int .i64 p1.value) := (hbb.cell _).trans rfl
      have af8 := hbb.frozen 8
      have a9 : w7.cell? ⟨gq, 9, none⟩ = some (.int .i64 p1.stamp) := (hbb.cell _).trans rfl
      have af9 := hbb.frozen 9
      have hf1 := Blk.fill5 (A := []) (R := pcells p1 ++ (pcells p2 ++ (pcells p3 ++ rest))) hbb rfl (.bool false) (.int .i64 0) (.int .i64 0) (.int .i64 0) (.int .i64 0)
      have hf2 := Blk.fill5 (A := pcells zPg) (R := pcells p2 ++ (pcells p3 ++ rest)) hf1 rfl (.bool true) (.int .i64 0) (.int .i64 0) (.int .i64 0) (.int .i64 1)
      have HF2 := Lib.hid hf2
      clear hbb hf1 hf2 hr7 h0 h1 hne0 hne1
      go_wp2_with fail
      (try simp only [Exit.inBlock, Exit.then])
      refine bodyPost_ret (v := .agg #[.int .i64 x, .slice (some ⟨gq, 0, none⟩) 4 cq]) (by simp [results, Try.results90, go_sem, *]) rfl ?_
      have hcv := chg5k (F := (· = gq)) (a := .bool true) (b := .int .i64 0) (c := .int .i64 0) (d := .int .i64 0) (e := .int .i64 1) (chg5k (F := (· = gq)) (a := .bool false) (b := .int .i64 0) (c := .int .i64 0) (d := .int .i64 0) (e := .int .i64 0) (Chg.refl (· = gq) w7) (.inl rfl) 0) (.inl rfl) 5
      exact (HEND _ x _ 4 cq [zPg, ⟨true, 0, 0, 0, 1⟩, p2, p3] _ (Lib.hid (HC.out.trans' hcv (fun i hi => .inr (by have h9 : i = gq := hi; omega)))) (Lib.hid (HB.out.chg hcv (by show ¬ (w.heap.size = gq); omega))) (Lib.hid (HR7.out.chg hcv (fun i hi he => by have h9 : i = gq := he; omega))) (by omega) (Lib.hid (blk_pgs (ps := [zPg, ⟨true, 0, 0, 0, 1⟩, p2, p3]) (rest := rest) HF2.out hqB)) (Lib.hid rfl) hcq (Nat.le_refl _)).out
    have hne2 : ((k7' : Int) == 2) = false := beq_eq_false_iff_ne.2 (by omega)
    have HK0 := Lib.hid (HR7.out)
    clear hr7 h0 h1 h2
    go_wp2_with fail
    go_region_held3 (fun w' => w'.cell? ⟨V, 1, none⟩ = some (.slice (some ⟨gq, 0, none⟩) 4 cq))
      (first | go_keep | exact ((HV.out.chg (F := (· = g)) (by first | exact (Chg.refl (· = g) w7).drew.trans hcc | exact ((Chg.refl (· = g) w7).drew.trans HK1.out).trans hcc) (by show ¬ (V = g); omega)).cell _).trans rfl)
      (first
        | (go_at_call 54; refine (pick_any g _ 4 _ HR7.out.drew (by omega) (by omega) (by omega)).mono ?_; rintro e' w8 ⟨j4, rfl, hj4, hcc, hr8⟩; have HK1 := Lib.hid hcc; have HR8 := Lib.hid hr8; have hj40 : (0 : Int) ≤ (j4 : Int) := Int.natCast_nonneg _; clear hr8)
        | (go_at_call 103; refine (l20Page_any g _ 1 _ HR8.out (by omega) (by omega) (by omega)).mono ?_; rintro e' w9 ⟨⟨pf, pi, pl, pv, pt⟩, rfl, hcc, hr9⟩
           have hk := ((Chg.refl (· = g) w7).drew.trans HK1.out).trans hcc
           have hjp : j4 < ps.length := by rw [HLP.out]; omega
           have hbb := HBQ.out.chg hk (by show ¬ (gq = g); omega)
           have hlen : (pgs (ps.take j4)).length = j4 * 5 := by rw [pgs_length, List.length_take]; omega
           rw [pgs_split hjp, List.append_assoc] at hbb
           obtain ⟨s0, s1, s2, s3, s4⟩ := hbb.room5 hlen
           have sf0 := hbb.frozen (j4 * 5)
           have sf1 := hbb.frozen (j4 * 5 + 1)
           have sf2 := hbb.frozen (j4 * 5 + 2)
           have sf3 := hbb.frozen (j4 * 5 + 3)
           have sf4 := hbb.frozen (j4 * 5 + 4)
           have HF := Lib.hid (hbb.fill5 hlen (.bool pf) (.int .i64 pi) (.int .i64 pl) (.int .i64 pv) (.int .i64 pt))
           have HJP := Lib.hid hjp
           have HK := Lib.hid hk
           have HR9 := Lib.hid hr9
           clear hk hbb hr9 hlen))
    rename_i hh
    clear hh hcc v0 v1 vf0 vf1 r0 r1 rf0 rf1 HR8
    have hk := HK.out
    replace HV := Lib.hid (HV.out.chg hk (by show ¬ (V = g); omega))
    replace HC := Lib.hid (HC.out.trans hk)
    replace HB := Lib.hid (HB.out.chg hk (by show ¬ (w.heap.size = g); omega))
    replace HBQ := Lib.hid (HBQ.out.chg hk (by show ¬ (gq = g); omega))
    clear hk
    have hcv := chg5k (F := (· = gq)) (a := .bool pf) (b := .int .i64 pi) (c := .int .i64 pl) (d := .int .i64 pv) (e := .int .i64 pt) (Chg.refl (· = gq) w9) (.inl rfl) (j4 * 5)
    have HF2 := Lib.hid (show Blk _ gq 60 (pgs (ps.set j4 ⟨pf, pi, pl, pv, pt⟩) ++ rest).toArray by rw [pgs_set HJP.out, List.append_assoc]; exact HF.out)
    obtain ⟨wz, hwz⟩ : ∃ wz, (((((w9.setCell ⟨gq, j4 * 5, none⟩ (.bool pf)).setCell ⟨gq, j4 * 5 + 1, none⟩ (.int .i64 pi)).setCell ⟨gq, j4 * 5 + 2, none⟩ (.int .i64 pl)).setCell ⟨gq, j4 * 5 + 3, none⟩ (.int .i64 pv)).setCell ⟨gq, j4 * 5 + 4, none⟩ (.int .i64 pt)) = wz := ⟨_, rfl⟩
    have hf2 := HF2.out
    rw [hwz] at hcv hf2 ⊢
    replace HV := Lib.hid (HV.out.chg hcv (by show ¬ (V = gq); omega))
    replace HB := Lib.hid (HB.out.chg hcv (by show ¬ (w.heap.size = gq); omega))
    have HCZ := Lib.hid (HC.out.trans' hcv (fun i hi => .inr (by have h9 : i = gq := hi; omega)))
    have HRZ := Lib.hid (HR9.out.chg hcv (fun i hi he => by have h9 : i = gq := he; omega))
    have HFZ := Lib.hid hf2
    clear hcv hf2 hwz s0 s1 s2 s3 s4 sf0 sf1 sf2 sf3 sf4 HF HF2
    have hvv := HV.out
    have v0 : wz.cell? ⟨V, 0, none⟩ = some (.int .i64 x) := (hvv.cell _).trans rfl
    have vf0 := hvv.frozen 0
    have v1 : wz.cell? ⟨V, 1, none⟩ = some (.slice (some ⟨gq, 0, none⟩) 4 cq) := (hvv.cell _).trans rfl
    have vf1 := hvv.frozen 1
    have hrr := HB.out
    have r0 : wz.cell? ⟨w.heap.size, 0, none⟩ = some (.int .i64 0) := (hrr.cell _).trans rfl
    have rf0 := hrr.frozen 0
    have r1 : wz.cell? ⟨w.heap.size, 1, none⟩ = some (.slice none 0 0) := (hrr.cell _).trans rfl
    have rf1 := hrr.frozen 1
    clear hvv hrr
    go_wp2_with fail
    (try simp only [Exit.inBlock, Exit.then])
    refine bodyPost_ret (v := .agg #[.int .i64 x, .slice (some ⟨gq, 0, none⟩) 4 cq]) (by simp [results, Try.results90, go_sem, *]) rfl ?_
    exact (HEND wz x _ 4 cq (ps.set j4 ⟨pf, pi, pl, pv, pt⟩) _ HCZ HB HRZ (by omega) (Lib.hid (blk_pgs HFZ.out hqB)) (Lib.hid (by rw [List.length_set]; exact HLP.out)) hcq (Nat.le_refl _)).out
end Go.Proofs.Ytenbbkmbnpdfaaa
