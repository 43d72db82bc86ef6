/- Copies of blocks and devices; EraseBlock of the program and of the reference. -/
import Derived.Test.YtenbbkmbnpdfaaaVr
import Derived.Test.YtenbbkmbnpdfaaaVd
import Derived.Test.YtenbbkmbnpdfaaaRp
import Derived.Deep.RegionHeld3
import Derived.Maps.AppendAt
namespace Go.Proofs.Ytenbbkmbnpdfaaa
open Go.RowKit
theorem pgs_one (ps : List Pg) : ∀ u ∈ pgs ps, u.oneCell' = true := fun u hu => by
  obtain ⟨l, _, hl⟩ := List.mem_flatMap.1 hu
  simp [pcells] at hl
  rcases hl with rfl | rfl | rfl | rfl | rfl <;> rfl
theorem OwnS.four {B E : Nat} {w : World} {t : TypeId} {A : Option Addr} {c : Nat} {cs : List Value} (h : OwnS B E w t A 4 c cs) : 4 ≤ c ∧ ∃ g rest, A = some ⟨g, 0, none⟩ ∧ B ≤ g ∧ g < E ∧ Blk w g t (cs ++ rest).toArray := by
  refine ⟨h.1, ?_⟩
  rcases h.2 with ⟨h0, _⟩ | h1
  · cases h0
  · exact h1
set_option maxRecDepth 100000 in
set_option maxHeartbeats 1000000 in
theorem ClonePages_any (F : Nat → Prop) (A : Option Addr) (c : Nat) (ps : List Pg) (w : World) (h : Rd F w A (pgs ps)) (h4 : ps.length = 4) :
    Calls Try.prog 104 #[.slice A 4 c] w fun e w' => ∃ A' c', e = .returned (.slice A' 4 c') ∧ OwnS w.heap.size w'.heap.size w' 60 A' 4 c' (pgs ps) ∧ Chg NoB w w' := by
  obtain ⟨i0, hi, hz0, hz1, hz2⟩ := info_parts info_page
  obtain ⟨bb, oo, rfl, -, -, -⟩ := pgs_at h (k := 0) (by omega)
  have hnil := fun W => Lib.run_eql_slice_nil (P := Try.prog) W 42 60 (some ⟨bb, oo, none⟩) 4 c 0 0 Try.underlying42
  go_enter Try.func104, Try.ntmps104
  have hnews : ∀ j u, (pgs ps)[j]? = some u → (w.alloc (.cells #[] 60)).cell? ((⟨bb, oo, none⟩ : Addr).add j) = some u := fun j u hj => by
    obtain ⟨ad, e, _, hcell⟩ := h.chg ((Chg.refl NoB w).alloc (.cells #[] 60)) (fun _ _ x => x) j u hj
    cases e
    exact hcell
  have Hone := Lib.hid (pgs_one ps)
  have Hl := Lib.hid (show (pgs ps).length = 4 * 5 by rw [pgs_length, h4])
  have Hn := Lib.hid hnews
  clear hnews
  go_wp2_with (at_builtin; refine wpList_append_own _ rfl (.tmp 5) (.tmp 6) _ rfl w.heap.size 60 i0 (.agg #[.bool false, .int .i64 0, .int .i64 0, .int .i64 0, .int .i64 0]) 5 40 Try.underlying42 hi hz0 hz1 hz2 rfl (by decide) _ 0 [] rfl (own_empty w _ 5 _ (Nat.le_refl _)) ⟨bb, oo, none⟩ 4 c (pgs ps) rfl Hl.out Hn.out Hone.out (by simp only [maxLen]; omega) (by omega) (by simp) ?_; intro v' w5 hown' hgrow _)
  go_ret
  obtain ⟨A', c', hv, ho⟩ := OwnS.of_row hown'
  subst hv
  exact ⟨A', c', by rw [Nat.zero_add]; rfl, by rwa [Nat.zero_add, List.nil_append] at ho, chg_grown (own_empty w 60 5 _ (Nat.le_refl _)) hgrow ((Chg.refl _ _).alloc _) (Nat.le_refl _)⟩
set_option maxRecDepth 100000 in
set_option maxHeartbeats 2000000 in
theorem cloneBlock_any (F : Nat → Prop) (A : Option Addr) (c : Nat) (x : Int) (ps : List Pg) (w : World) (h : Rd F w A (pgs ps)) (h4 : ps.length = 4) :
    Calls Try.prog 91 #[.agg #[.int .i64 x, .slice A 4 c]] w (NewBP w x ps) := by
  obtain ⟨i0, hi, hz0, hz1, hz2⟩ := info_parts info_page
  obtain ⟨q1, q2, q3⟩ := lit2 w 44 44 #[.int .i64 x, .slice A 4 c] #[.int .i64 0, .slice none 0 0]
  have hr3 := h.lt.new q3
  go_enter Try.func91, Try.ntmps91
  go_wp2_with fail
  obtain ⟨w3, hw3⟩ : ∃ w3, (w.alloc (.cells #[.int .i64 x, .slice A 4 c] 44)).alloc (.cells #[.int .i64 0, .slice none 0 0] 44) = w3 := ⟨_, rfl⟩
  rw [hw3] at q1 q2 q3 hr3 ⊢
  have hl2 := q2.lt
  have HB1 := Lib.hid q1
  have HB2 := Lib.hid q2
  have HC3 := Lib.hid q3
  have HR3 := Lib.hid hr3
  have H4 := Lib.hid h4
  have v0 : w3.cell? ⟨w.heap.size, 0, none⟩ = some (.int .i64 x) := (q1.cell _).trans rfl
  have v1 : w3.cell? ⟨w.heap.size, 1, none⟩ = some (.slice A 4 c) := (q1.cell _).trans rfl
  clear q1 q2 q3 hr3 hw3 h h4
  have hn1 : w.heap.size ≠ w.heap.size + 1 := by omega
  have hn2 : w.heap.size + 1 ≠ w.heap.size := by omega
  go_region_held3 (fun w' => w'.cell? ⟨w.heap.size, 0, none⟩ = some (.int .i64 x) ∧ w'.cell? ⟨w.heap.size, 1, none⟩ = some (.slice A 4 c))
    (first | go_keep | (refine ⟨?_, ?_⟩ <;> exact ((HB1.out.chg (F := NoB) ((Chg.refl _ w3).drew.trans hcc) (fun x => x)).cell _).trans rfl))
    (first | (go_at_call 104; refine (ClonePages_any _ A c ps _ (HR3.out.new (Chg.refl NoB w3).drew) H4.out).mono ?_; rintro e' w5 ⟨A', c', rfl, ho, hcc⟩; have hk := (Chg.refl NoB w3).drew.trans hcc; have hb5 := HB2.out.chg hk (fun x => x); obtain ⟨hc4, g, rest, rfl, hgB, hgE, hbg⟩ := ho.four; have HK := Lib.hid hk; have HBG := Lib.hid hbg; have HC4 := Lib.hid hc4; have HGB := Lib.hid (show w3.heap.size ≤ g from hgB); have HGE := Lib.hid hgE; have HB5 := Lib.hid hb5; have p0 : w5.cell? ⟨w.heap.size + 1, 0, none⟩ = some (.int .i64 0) := (hb5.cell _).trans rfl; have p1 : w5.cell? ⟨w.heap.size + 1, 1, none⟩ = some (.slice none 0 0) := (hb5.cell _).trans rfl; have pf0 := hb5.frozen 0; have pf1 := hb5.frozen 1; clear hk ho hb5 hbg hc4 hgB hgE))
  rename_i hh
  clear hh hcc
  go_wp2_with fail
  (try simp only [Exit.inBlock, Exit.then])
  refine bodyPost_ret (v := .agg #[.int .i64 x, .slice (some ⟨g, 0, none⟩) 4 c']) (by simp [results, Try.results91, go_sem, *]) rfl ?_
  have hcs := chg2' (F := (· = w.heap.size + 1)) (a := .int .i64 x) (b := .slice (some ⟨g, 0, none⟩) 4 c') (Chg.refl (· = w.heap.size + 1) w5) (.inl rfl)
  have hg1 := HGB.out
  have hg2 := HGE.out
  exact ⟨g, c', rest, rfl, H4.out, ⟨show w.heap.size ≤ g by omega, by simpa [World.setCell] using hg2, HBG.out.chg hcs (by show ¬ (g = w.heap.size + 1); omega), by show ps.length ≤ c'; rw [H4.out]; exact HC4.out⟩, (HC3.out.trans HK.out).own hcs (by omega)⟩
set_option maxRecDepth 100000 in
set_option maxHeartbeats 2000000 in
theorem l4Copy_any (F : Nat → Prop) (A : Option Addr) (c : Nat) (x : Int) (ps : List Pg) (w : World) (h : Rd F w A (pgs ps)) (h4 : ps.length = 4) :
    Calls Try.prog 92 #[.agg #[.int .i64 x, .slice A 4 c]] w (NewBP w x ps) := by
  obtain ⟨i0, hi, hz0, hz1, hz2⟩ := info_parts info_page
  obtain ⟨q1, q2, q3⟩ := lit2 w 44 44 #[.int .i64 x, .slice A 4 c] #[.int .i64 0, .slice none 0 0]
  have hr3 := h.lt.new q3
  go_enter Try.func92, Try.ntmps92
  go_wp2_with fail
  obtain ⟨w3, hw3⟩ : ∃ w3, (w.alloc (.cells #[.int .i64 x, .slice A 4 c] 44)).alloc (.cells #[.int .i64 0, .slice none 0 0] 44) = w3 := ⟨_, rfl⟩
  rw [hw3] at q1 q2 q3 hr3 ⊢
  have hl2 := q2.lt
  have HB1 := Lib.hid q1
  have HB2 := Lib.hid q2
  have HC3 := Lib.hid q3
  have HR3 := Lib.hid hr3
  have H4 := Lib.hid h4
  have v0 : w3.cell? ⟨w.heap.size, 0, none⟩ = some (.int .i64 x) := (q1.cell _).trans rfl
  have v1 : w3.cell? ⟨w.heap.size, 1, none⟩ = some (.slice A 4 c) := (q1.cell _).trans rfl
  clear q1 q2 q3 hr3 hw3 h h4
  obtain ⟨w0, hw0⟩ : ∃ w0, w.heap.size = w0 := ⟨_, rfl⟩
  have HW0 := Lib.hid hw0
  rw [hw0] at HB1 HB2 hl2 v0 v1 ⊢
  refine wp_region_rg (WInv := fun _ m w5 => Chg (fun k => k = (w0 + 1)) w3 w5 ∧ StI (w0 + 1) 44 #[.int .i64 0, .slice none 0 0] 7 6 m w5) (R := Chg (fun k => k = (w0 + 1))) (Post := PL [fun v w => v = .pointer (some ⟨w0, 0, none⟩), fun v w => v = .int .i64 x, fun v w => ∃ g0 : Nat, v = .slice (some ⟨g0, 0, none⟩) 0 0 ∧ w3.heap.size ≤ g0 ∧ Blk w g0 60 #[], fun v w => v = .pointer (some ⟨w0, 1, none⟩), fun v w => v = .slice A 4 c, fun v w => ∃ A' : Option Addr, ∃ c' : Nat, v = .slice A' 4 c' ∧ w.ownsRow w3.heap.size 60 5 (.slice A' 4 c') 4 (pgs ps), fun v w => ∃ A' : Option Addr, ∃ c' : Nat, v = .agg #[.int .i64 x, .slice A' 4 c'] ∧ w.ownsRow w3.heap.size 60 5 (.slice A' 4 c') 4 (pgs ps), fun _ _ => True]) (by kernel_rfl) (by kernel_rfl) ?_ (pl_stab ⟨(fun _ _ _ h _ => h), (fun _ _ _ h _ => h), (fun _ _ _ ⟨g0, hv, hg0, hb0⟩ hR => ⟨g0, hv, hg0, (hb0.chg hR (by show ¬ (g0 = w0 + 1); omega))⟩), (fun _ _ _ h _ => h), (fun _ _ _ h _ => h), (fun _ _ _ ⟨A', c', hv, ho⟩ hR => ⟨A', c', hv, (own_chg1 ho hR (fun g _ hg _ hk => absurd hk (by show ¬ (g = w0 + 1); omega)))⟩), (fun _ _ _ ⟨A', c', hv, ho⟩ hR => ⟨A', c', hv, (own_chg1 ho hR (fun g _ hg _ hk => absurd hk (by show ¬ (g = w0 + 1); omega)))⟩), (fun _ _ _ _ _ => trivial), trivial⟩) ⟨(Chg.refl _ _).drew, .inl ⟨rfl, (HB2.out.chg (Chg.refl NoB w3).drew (fun x => x))⟩⟩ ?_ ?_
  · exact fun _ _ _ _ h _ _ => h
  · refine ⟨?_, ?_, ?_, ?_, ?_, ?_, ?_, ?_, trivial⟩
    · rintro kc m a w5 hkc ⟨hch, hst⟩ hm hn
      obtain ⟨h0, -⟩ := hn
      have e0 : a.tmps[1]?.getD undef = .pointer (some ⟨w0, 0, none⟩) := h0
      exact rg_val (v := .pointer (some ⟨w0, 0, none⟩)) (by simp [execOp, go_sem, e0]) rfl ⟨hch, hst.keep (by decide) hm (Chg.refl NoB _) (fun x => x)⟩ (Chg.refl _ _) rfl
    · rintro kc m a w5 hkc ⟨hch, hst⟩ hm hn
      obtain ⟨⟨_, e0, m0, rfl⟩, -⟩ := hn
      have y0 := hch.cell v0 (by show ¬ (w0 = w0 + 1); omega)
      exact rg_val (v := .int .i64 x) (by simp [execOp, go_sem, e0, y0]) rfl ⟨hch, hst.keep (by decide) hm (Chg.refl NoB _) (fun x => x)⟩ (Chg.refl _ _) rfl
    · rintro kc m a w5 hkc ⟨hch, hst⟩ hm hn
      have hca : Chg NoB w5 (w5.alloc (.cells #[] 60)) := (Chg.refl _ _).alloc _
      exact rg_val (v := .slice (some ⟨w5.heap.size, 0, none⟩) 0 0) (w' := w5.alloc (.cells #[] 60)) (by simp [execOp, go_sem]) rfl ⟨hch.alloc _, hst.keep (by decide) hm hca (fun x => x)⟩ (hca.mono (fun _ _ x => x.elim)) ⟨_, rfl, hch.size, Blk.new _ _ _⟩
    · rintro kc m a w5 hkc ⟨hch, hst⟩ hm hn
      obtain ⟨h0, -⟩ := hn
      have e0 : a.tmps[1]?.getD undef = .pointer (some ⟨w0, 0, none⟩) := h0
      exact rg_val (v := .pointer (some ⟨w0, 1, none⟩)) (by simp [execOp, go_sem, e0]) rfl ⟨hch, hst.keep (by decide) hm (Chg.refl NoB _) (fun x => x)⟩ (Chg.refl _ _) rfl
    · rintro kc m a w5 hkc ⟨hch, hst⟩ hm hn
      obtain ⟨⟨_, e0, m0, rfl⟩, -⟩ := hn
      have y0 := hch.cell v1 (by show ¬ (w0 = w0 + 1); omega)
      exact rg_val (v := .slice A 4 c) (by simp [execOp, go_sem, e0, y0]) rfl ⟨hch, hst.keep (by decide) hm (Chg.refl NoB _) (fun x => x)⟩ (Chg.refl _ _) rfl
    · rintro kc m a w5 hkc ⟨hch, hst⟩ hm hn
      obtain ⟨⟨_, e0, m0, g0, rfl, hg0, hb0⟩, ⟨_, e1, m1, rfl⟩, -⟩ := hn
      obtain ⟨v', w6, hr, ho, hc6, hne⟩ := run_append_fresh (P := Try.prog) w5 w3.heap.size 42 42 60 i0 (.agg #[.bool false, .int .i64 0, .int .i64 0, .int .i64 0, .int .i64 0]) 5 40 Try.underlying42 hi hz0 hz1 hz2 rfl (by decide) g0 hg0 hb0 A 4 c (pgs ps) (by rw [pgs_length, H4.out]) (HR3.out.chg hch (fun k hk he => absurd he (by have := hk.2; have := HW0.out; show ¬ (k = w0 + 1); omega))) (by simp only [maxLen]; omega) (by omega) hch.size
      obtain ⟨A', c', rfl, _⟩ := own_rd ho
      exact rg_val (v := .slice A' 4 c') (w' := w6) (exec_append (.tmp 5) (.tmp 7) 42 rfl (by simpa [Act.eval] using e0) (by simpa [Act.eval] using e1) hr) rfl ⟨hch.trans' hc6 (fun _ x => x.elim), hst.keep (by decide) hm hc6 (fun x => x)⟩ (hc6.mono (fun _ _ x => x.elim)) ⟨A', c', rfl, ho⟩
    · rintro kc m a w5 hkc ⟨hch, hst⟩ hm hn
      obtain ⟨⟨_, e0, m0, rfl⟩, ⟨_, e1, m1, A', c', rfl, ho⟩, -⟩ := hn
      exact rg_val (v := .agg #[.int .i64 x, .slice A' 4 c']) (by simp [execOp, go_sem, e0, e1]) rfl ⟨hch, hst.keep (by decide) hm (Chg.refl NoB _) (fun x => x)⟩ (Chg.refl _ _) ⟨A', c', rfl, ho⟩
    · rintro kc m a w5 hkc ⟨hch, hst⟩ hm hn
      obtain ⟨h0, ⟨_, e1, m1, A', c', rfl, ho⟩, -⟩ := hn
      have e0 : a.tmps[2]?.getD undef = .pointer (some ⟨w0 + 1, 0, none⟩) := h0
      have hb := hst.ready hm
      have f0 := hb.frozen 0
      have x0 : w5.cell? ⟨(w0 + 1), 0, none⟩ = some (.int .i64 0) := (hb.cell _).trans rfl
      have f1 := hb.frozen 1
      have x1 : w5.cell? ⟨(w0 + 1), 1, none⟩ = some (.slice none 0 0) := (hb.cell _).trans rfl
      have hs : Chg (· = (w0 + 1)) w5 ((w5.setCell ⟨(w0 + 1), 0, none⟩ (.int .i64 x)).setCell ⟨(w0 + 1), 1, none⟩ (.slice A' 4 c')) := (((Chg.refl (· = (w0 + 1)) w5).setCell (p := ⟨(w0 + 1), 0, none⟩) (.inl rfl) _).setCell (p := ⟨(w0 + 1), 1, none⟩) (.inl rfl) _)
      have hb' : Blk ((w5.setCell ⟨(w0 + 1), 0, none⟩ (.int .i64 x)).setCell ⟨(w0 + 1), 1, none⟩ (.slice A' 4 c')) (w0 + 1) 44 #[.int .i64 x, .slice A' 4 c'] := ((hb.set_ 0 _).set_ 1 _)
      exact rg_skip (w' := ((w5.setCell ⟨(w0 + 1), 0, none⟩ (.int .i64 x)).setCell ⟨(w0 + 1), 1, none⟩ (.slice A' 4 c'))) (by simp [execOp, go_sem, e0, e1, x0, x1, f0, f1]) rfl ⟨hch.trans (hs.mono (fun _ _ x => x)), StI.store (by decide) m1 hb'⟩ (hs.mono (fun _ _ x => x)) trivial
  rintro m w5 ⟨hch, hst⟩
  simp only [AllVals]
  rintro q0 m0 p0 q1 m1 p1 q2 m2 p2 q3 m3 p3 q4 m4 p4 q5 m5 p5 q6 m6 p6 q7 m7 p7
  obtain ⟨A', c', rfl, ho⟩ := p6
  have hb := hst.done m7 m6
  have HO := Lib.hid ho
  have HCH := Lib.hid hch
  have p0' : w5.cell? ⟨w0 + 1, 0, none⟩ = some (.int .i64 x) := (hb.cell _).trans rfl
  have p1' : w5.cell? ⟨w0 + 1, 1, none⟩ = some (.slice A' 4 c') := (hb.cell _).trans rfl
  clear hst hb ho hch
  clear p0 p1 p2 p3 p4 p5 p7
  simp only [Act.put, List.setIfInBounds_toArray, List.set_cons_succ, List.set_cons_zero]
  go_wp2_with fail
  (try simp only [Exit.inBlock, Exit.then])
  obtain ⟨A'', c'', hv, ho⟩ := OwnS.of_row HO.out
  injection hv with e1 e2 e3
  subst e1 e3
  obtain ⟨hc4, g, rest, rfl, hgB, hgE, hbg⟩ := ho.four
  refine bodyPost_ret (v := .agg #[.int .i64 x, .slice (some ⟨g, 0, none⟩) 4 c']) (by simp [results, Try.results92, go_sem, *]) rfl ?_
  have hw0' := HW0.out
  exact ⟨g, c', rest, rfl, H4.out, ⟨show w.heap.size ≤ g by omega, hgE, hbg, by show ps.length ≤ c'; rw [H4.out]; exact hc4⟩, HC3.out.trans' HCH.out (fun k hk => .inr (by rw [hw0']; have hk' : k = w0 + 1 := hk; omega))⟩
end Go.Proofs.Ytenbbkmbnpdfaaa
