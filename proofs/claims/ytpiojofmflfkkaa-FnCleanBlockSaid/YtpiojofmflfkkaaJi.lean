/- Parts of the proof, merged: Uc, Ud, Cn. -/
import Derived.Test.YtpiojofmflfkkaaJe
import Derived.Test.YtpiojofmflfkkaaJf
import Derived.Test.YtpiojofmflfkkaaJa
import Derived.Test.YtpiojofmflfkkaaJd
import Derived.Deep.RegionHeld3
/- CutFile of the reference from any place on. -/
namespace Go.Proofs.Ytpiojofmflfkkaa
open Go.RowKit
set_option maxRecDepth 100000 in
set_option maxHeartbeats 1000000 in
theorem sCutFileP_any (F : Nat → Prop) (A : Option Addr) (c : Nat) (X : List (List Int)) (w : World) (h : TabR F w A X) (hX : tabOk X) (f : Nat) (hf : f < 8) (p : Nat) (hp : p < 6) :
    Calls Try.prog 149 #[.agg #[.slice A X.length c], .int .i64 f, .int .i64 p] w fun e w' => ∃ A' c' T, e = .returned (.agg #[.slice A' 8 c']) ∧ (T.length = 8 ∧ ∀ r ∈ listsOf T, r.length = 6) ∧ Chg NoB w w' ∧ TabO w.heap.size w'.heap.size w' A' c' T := by
  obtain ⟨hb1, hb2, hcb⟩ := lit2 w 31 31 #[.slice A X.length c] #[.slice none 0 0]
  have HB1 := Lib.hid hb1
  have HB2 := Lib.hid hb2
  have HC0 := Lib.hid hcb
  have h0 := h.lt.new hcb
  have HX := Lib.hid hX
  have h8 := hX.1
  have hXl := Lib.hid (show X.length ≤ 9223372036854775807 by omega)
  have hXr : ∀ r ∈ X, r.length ≤ 9223372036854775807 := fun r hr => by
    obtain ⟨k, hk, rfl⟩ := List.getElem_of_mem hr
    have := (hX.2 k hk).1; omega
  have HXR := Lib.hid hXr
  have hi0 : (0 : Int) ≤ (f : Int) := Int.natCast_nonneg _
  have hi1 : (f : Int) < 8 := by omega
  have hi2 : ¬ ((f : Int) < 0) := by omega
  have hi3 : ¬ ((8 : Int) ≤ (f : Int)) := by omega
  have hp0 : (0 : Int) ≤ (p : Int) := Int.natCast_nonneg _
  have hp1 : (p : Int) < 6 := by omega
  have hp2 : ¬ ((p : Int) < 0) := by omega
  have hp3 : ¬ ((6 : Int) ≤ (p : Int)) := by omega
  clear hb1 hb2 hcb hX hXr h8
  go_enter Try.func149, Try.ntmps149
  go_wp2_with fail
  refine (sTableValid_any _ A c X _ h0 hXl.out HXR.out).mono ?_
  rintro e w1 ⟨r, rfl, hr, hc1⟩
  obtain rfl : r = true := hr.2 HX.out
  have H1 := Lib.hid (h0.new hc1)
  have HC1 := Lib.hid (HC0.out.trans hc1)
  have hb1 := HB1.out.chg hc1 (fun x => x)
  have x0 : w1.cell? ⟨w.heap.size, 0, none⟩ = some (.slice A X.length c) := (hb1.cell _).trans rfl
  have HB2' := Lib.hid (HB2.out.chg hc1 (fun x => x))
  clear hr h0 hb1 hc1 HB1 HB2
  go_wp2_with fail
  refine (l1In_t (f : Int) 0 7 _ ⟨by omega, by omega⟩).mono ?_
  rintro e w' ⟨rfl, rfl⟩
  go_wp2_with fail
  refine (l1In_t (p : Int) 0 6 _ ⟨by omega, by omega⟩).mono ?_
  rintro e w' ⟨rfl, rfl⟩
  go_wp2_with fail
  refine (l7Copy_any _ A c X _ H1.out HX.out).mono ?_
  rintro e w2 ⟨Aq, cq, T, rfl, hT, hc2, hO⟩
  have h8 := HX.out.1
  have hT8 : T.length = 8 := by rw [← listsOf_length, hT, h8]
  have HT := Lib.hid hT
  have HO := Lib.hid hO
  have HC2 := Lib.hid (HC1.out.trans hc2)
  have HR2 := Lib.hid (HB2'.out.chg hc2 (fun x => x))
  have hca := (Chg.refl NoB w2).alloc (.cells #[.slice Aq 8 cq] 31)
  have HV0 := Lib.hid (Blk.new w2 31 #[.slice Aq 8 cq])
  have HC3 := Lib.hid (HC2.out.trans hca)
  have HR3 := Lib.hid (HR2.out.chg hca (fun x => x))
  have HO3 := Lib.hid (HO.out.new hca)
  have HSZ := Lib.hid (show (w2.alloc (.cells #[.slice Aq 8 cq] 31)).heap.size = w2.heap.size + 1 by rw [World.size_alloc])
  have HS1 := Lib.hid (show w.heap.size + 1 < w1.heap.size from HB2'.out.lt)
  have HS2 := Lib.hid hc2.size
  clear hT hO hc2 hca x0 h8 hT8
  go_wp2
  obtain ⟨V, hV⟩ : ∃ V, w2.heap.size = V := ⟨_, rfl⟩
  have hVz := HSZ.out
  have hVs := HS2.out
  rw [hV] at HV0 hVz hVs HO HO3 ⊢
  replace HSZ := Lib.hid hVz
  replace HS2 := Lib.hid hVs
  clear hV hVz hVs
  go_loopw [8] (fun i wr => ∃ (k : Nat) (T : List RowO), k ≤ 6 ∧ i = .int .i64 k ∧ Chg NoB w wr ∧ Blk wr (w.heap.size + 1) 31 #[.slice none 0 0] ∧ Blk wr V 31 #[.slice Aq 8 cq] ∧ Hid (∃ ys : List Int, ys.length = 6 ∧ listsOf T = X.set f ys) ∧ TabO w1.heap.size V wr Aq cq T) (fun i _ => 6 - (intOf i).toNat)
  case atStart => exact ⟨p, T, Nat.le_of_lt hp, rfl, HC3.out, HR3.out, HV0.out, Lib.hid ⟨X[f]'(by rw [HX.out.1]; exact hf), (HX.out.2 f (by rw [HX.out.1]; exact hf)).1, by rw [List.set_getElem_self]; exact HT.out⟩, HO3.out⟩
  case round =>
    obtain ⟨wo, rfl⟩ : ∃ wo, wo = wr := ⟨_, rfl⟩
    obtain ⟨k, T', hk6, rfl, hch, hbr, hbv, ⟨ys, hy6, hT'⟩, hO⟩ := hrel
    have hTl : T'.length = 8 := by rw [← listsOf_length, hT', List.length_set, HX.out.1]
    have HC := Lib.hid hch
    have HR := Lib.hid hbr
    have HVV := Lib.hid hbv
    have HOO := Lib.hid hO
    have HT' := Lib.hid hT'
    have v0 : wo.cell? ⟨V, 0, none⟩ = some (.slice Aq 8 cq) := (hbv.cell _).trans rfl
    have hlV := HSZ.out
    have hlV1 := HS1.out
    have hlV2 := HS2.out
    by_cases hlt : k < 6
    · have hfT : f < T'.length := by omega
      have HY6 := Lib.hid hy6
      have hxs : T'[f].xs = ys := by
        have h1 : (listsOf T')[f]'(by rw [listsOf_length]; exact hfT) = T'[f].xs := by simp [listsOf]
        rw [← h1]; simp [hT']
      have hl6 : T'[f].xs.length = 6 := by rw [hxs, hy6]
      obtain ⟨ad, he, hB1, hE1, hcell⟩ := hO.at_ hfT
      subst he
      rw [hl6] at hcell
      have hok := hO.2.1 T'[f] (List.getElem_mem hfT)
      have hrc := row_cell hok.2.2.1 (k := k) (by omega)
      have hrf := hok.2.2.1.frozen k
      have hstore := row_store hok.2.2.1 (k := k) (by omega) (-1)
      have hcs : Chg (· = T'[f].g) wo (wo.setCell ⟨T'[f].g, k, none⟩ (.int .i64 (-1))) := (Chg.refl (· = T'[f].g) wo).setCell (p := ⟨T'[f].g, k, none⟩) (.inl rfl) _
      have HG := Lib.hid (show w1.heap.size ≤ T'[f].g ∧ T'[f].g < V from ⟨hok.1, hok.2.1⟩)
      have HN := Lib.hid (hO.setRow hfT hcs (by rw [List.length_set]) hstore)
      have HL := Lib.hid (show listsOf (T'.set f ⟨T'[f].g, T'[f].c, T'[f].xs.set k (-1), T'[f].rest⟩) = X.set f (ys.set k (-1)) by rw [rows_lists, hT', List.set_set]; simp only; rw [hxs])
      have HCS := Lib.hid hcs
      obtain ⟨gf, hgf⟩ : ∃ gf, T'[f].g = gf := ⟨_, rfl⟩
      obtain ⟨xk, hxk⟩ : ∃ xk, T'[f].xs[k]'(by omega) = xk := ⟨_, rfl⟩
      obtain ⟨cf, hcf⟩ : ∃ cf, T'[f].c = cf := ⟨_, rfl⟩
      rw [hgf, hcf] at hcell
      rw [hgf, hxk] at hrc
      rw [hgf] at hrf HG
      have HGF := Lib.hid hgf
      have hk0 : (0 : Int) ≤ (k : Int) := Int.natCast_nonneg _
      have hk1 : (k : Int) < 6 := by omega
      have hk5 : (k : Int) ≤ 5 := by omega
      clear hch hbr hbv hO hok hstore hcs hxs hgf hcf hxk hT' hy6
      go_wp2_with fail
      (try go_region)
      go_wp2_with fail
      go_roundw
      case rel =>
        have hg := HG.out
        refine ⟨k + 1, T'.set f ⟨T'[f].g, T'[f].c, T'[f].xs.set k (-1), T'[f].rest⟩, by omega, by go_num, ?_, ?_, ?_, Lib.hid ⟨ys.set k (-1), by rw [List.length_set]; exact HY6.out, HL.out⟩, ?_⟩
        · have h1 := HC.out.own HCS.out (by rw [HGF.out]; omega); rw [HGF.out] at h1; exact h1
        · have h1 := HR.out.chg HCS.out (by rw [HGF.out]; omega); rw [HGF.out] at h1; exact h1
        · have h1 := HVV.out.chg HCS.out (by rw [HGF.out]; omega); rw [HGF.out] at h1; exact h1
        · have h1 := HN.out; rw [HGF.out] at h1 ⊢; exact h1
      case measure => simp [intOf]; omega
    · obtain rfl : k = 6 := by omega
      have r0 : wo.cell? ⟨w.heap.size + 1, 0, none⟩ = some (.slice none 0 0) := (hbr.cell _).trans rfl
      have rf := hbr.frozen 0
      have HXX := Lib.hid (show T'.length = 8 ∧ ∀ r ∈ listsOf T', r.length = 6 from ⟨hTl, fun r hr => by
        rw [hT'] at hr
        rcases List.mem_or_eq_of_mem_set hr with h1 | rfl
        · obtain ⟨q, hq, rfl⟩ := List.getElem_of_mem h1
          exact (HX.out.2 q hq).1
        · exact hy6⟩)
      have HVL := Lib.hid hbv.lt
      clear hch hbr hbv hO hT' hy6
      go_wp2_with fail
      (try simp only [Exit.inBlock, Exit.then])
      refine bodyPost_ret (v := .agg #[.slice Aq 8 cq]) (by simp [results, Try.results149, go_sem, *]) rfl ?_
      have hcs : Chg (· = w.heap.size + 1) wo (wo.setCell ⟨w.heap.size + 1, 0, none⟩ (.slice Aq 8 cq)) := (Chg.refl (· = w.heap.size + 1) wo).setCell (p := ⟨w.heap.size + 1, 0, none⟩) (.inl rfl) _
      have hss : (wo.setCell ⟨w.heap.size + 1, 0, none⟩ (.slice Aq 8 cq)).heap.size = wo.heap.size := World.size_setCell _ _ _
      have hvl := HVL.out
      refine ⟨Aq, cq, T', rfl, HXX.out, HC.out.own hcs (Nat.le_succ _), ?_⟩
      exact (HOO.out.chg hcs (fun i h1 h2 h3 => by omega)).more (by omega) (by rw [hss]; omega)
end Go.Proofs.Ytpiojofmflfkkaa
/- The draw of a device, of a table and of heads; DrawRollForward. -/
namespace Go.Proofs.Ytpiojofmflfkkaa
open Go.RowKit
def BothDrawn (g N : Nat) (w : World) (e : Ending) (w' : World) : Prop :=
  ∃ A c D u hh, e = .returned (.tuple #[.slice A (D : List Bk).length c, u, hval hh]) ∧ DevR (fun i => w.heap.size ≤ i) w' A D ∧ D.length ≤ c ∧ D.length ≤ 13 ∧ (∀ b ∈ D, b.pages.length ≤ 4) ∧ TbV w.heap.size w' False u ∧ Chg (· = g) w w' ∧ Rdr w' g N
theorem BothDrawn.drew {g N : Nat} {w wq : World} {e : Ending} (h : BothDrawn g N w e wq) : BothDrawn g N w e wq.drew := by
  obtain ⟨A, c, D, u, hh, he, hd, h1, h2, h3, ⟨A', c', X, hv, ht, h4, h5, h6⟩, hc, hr⟩ := h
  exact ⟨A, c, D, u, hh, he, hd.new (Chg.refl NoB wq).drew, h1, h2, h3, ⟨A', c', X, hv, ht.new (Chg.refl NoB wq).drew, h4, h5, h6⟩, hc.drew, hr.drew⟩
theorem tabF_len6 (φ : Nat → Nat → Int) : (tabF φ).length ≤ 8 ∧ ∀ r ∈ tabF φ, r.length ≤ 6 := by
  refine ⟨by rw [tabF_len]; omega, fun r hr => ?_⟩
  unfold tabF at hr
  rw [List.mem_map] at hr
  obtain ⟨f, _, rfl⟩ := hr
  simp
theorem tableOf_len6 (D : List Bk) : (tableOf D).length ≤ 8 ∧ ∀ r ∈ tableOf D, r.length ≤ 6 := by
  unfold tableOf
  split
  · exact tabF_len6 _
  · simp
def bothPost (g B : Nat) (u : Value) (i : Nat) : Value → World → Prop :=
  match i with
  | 0 => fun v _ => v = .agg #[u]
  | 1 | 3 => isPtr g
  | 2 => isNat 4
  | 4 => isNat 3
  | 5 => fun v w => ∃ A c T, v = .agg #[.slice A 8 c] ∧ TabO B w.heap.size w A c T ∧ T.length = 8 ∧ ∀ r ∈ listsOf T, r.length = 6
  | _ => fun _ _ => True
theorem bothPost_stab {g V B : Nat} {u : Value} {i : Nat} {v : Value} {w1 w2 : World} (hg : g < B) (hV : V < B) (h : bothPost g B u i v w1) (hc : Chg (fun k => k = g ∨ k = V) w1 w2) : bothPost g B u i v w2 := by
  unfold bothPost at *
  split at h
  all_goals first
    | exact h
    | (obtain ⟨A, c, T, h1, h2, h3⟩ := h; exact ⟨A, c, T, h1, (h2.chg hc (fun i h1 h2 h3 => by omega)).more (Nat.le_refl _) hc.size, h3⟩)
set_option maxRecDepth 100000 in
set_option maxHeartbeats 8000000 in
theorem l20Both_any (g N : Nat) (n : Int) (w : World) (h : Rdr w g N) (hN : N ≤ 10000) (hn0 : 0 ≤ n) (hn : n ≤ 1000000) :
    Calls Try.prog 98 #[.pointer (some ⟨g, 0, none⟩), .int .i64 n] w (BothDrawn g (N + 4500) w) := by
  have hg := h.lt
  obtain ⟨hb1, hb2, hca⟩ := lit2 w 31 46 #[.slice none 0 0] #[.int .i64 0, .int .i64 0, .int .i64 0]
  have HB1 := Lib.hid hb1
  have HB2 := Lib.hid hb2
  have HC0 := Lib.hid (hca.mono (G := (· = g)) (fun _ _ x => x.elim))
  have HR0 := Lib.hid (h.chg hca (fun _ _ x => x))
  have HZ0 := Lib.hid hb2.lt
  clear hb1 hb2 hca h
  go_enter Try.func98, Try.ntmps98
  go_wp2_with fail
  refine (l20Heads_any g N n _ HR0.out hN hn0 hn).mono ?_
  rintro e w1 ⟨Ad, cd, D, hh, rfl, hrd, hlc, h13, h4, hc1, hr1⟩
  have hz0 := HZ0.out
  have hca := (Chg.refl NoB w1).alloc (.cells #[.int .i64 hh.hot, .int .i64 hh.warm, .int .i64 hh.cold] 46)
  have HC1 := Lib.hid ((HC0.out.trans hc1).trans' hca (fun _ x => x.elim))
  have HB11 := Lib.hid ((HB1.out.chg hc1 (by omega)).chg hca (fun x => x))
  have HB21 := Lib.hid ((HB2.out.chg hc1 (by omega)).chg hca (fun x => x))
  have HV8 := Lib.hid (Blk.new w1 46 #[.int .i64 hh.hot, .int .i64 hh.warm, .int .i64 hh.cold])
  have HR1 := Lib.hid (hr1.chg hca (fun _ _ x => x))
  have HD1 := Lib.hid (show DevR (fun i => w.heap.size + 1 < i ∧ i < w1.heap.size) _ Ad D from (hrd.lt.mono (G := fun i => w.heap.size + 1 < i ∧ i < w1.heap.size) (fun i _ hi => by omega)).new hca)
  have HZ1 := Lib.hid (show w.heap.size + 1 < w1.heap.size by have := hc1.size; omega)
  have HS := Lib.hid (small13 h13 h4)
  have H4 := Lib.hid h4
  clear hrd hc1 hca hr1 h4 HR0 HB1 HB2 HC0
  go_wp2_with fail
  obtain ⟨V8, hV8⟩ : ∃ V8, w1.heap.size = V8 := ⟨_, rfl⟩
  obtain ⟨w2, hw2⟩ : ∃ w2, w1.alloc (.cells #[.int .i64 hh.hot, .int .i64 hh.warm, .int .i64 hh.cold] 46) = w2 := ⟨_, rfl⟩
  have hz1 := HZ1.out
  rw [hw2] at HC1 HB11 HB21 HV8 HR1 HD1 ⊢
  rw [hV8] at HV8 HD1 hz1 ⊢
  have HZ2 := Lib.hid (And.intro hz1 HV8.out.lt)
  clear hw2 hV8 hz1 HZ1
  refine (sTableOf_any _ Ad cd D _ HD1.out HS.out).mono ?_
  rintro e w3 ⟨At, ct, Tt, rfl, hTt, hc3, hOt⟩
  obtain ⟨X0, hX0⟩ : ∃ X0, tableOf D = X0 := ⟨_, rfl⟩
  have hl0 := tableOf_len6 D
  rw [hX0] at hTt hl0 ⊢
  have HL0 := Lib.hid hl0
  have hca := (Chg.refl NoB w3).alloc (.cells #[.slice At X0.length ct] 31)
  have hcc := hc3.trans hca
  have HC3 := Lib.hid (HC1.out.trans' hcc (fun _ x => x.elim))
  have HB13 := Lib.hid (HB11.out.chg hcc (fun x => x))
  have HB23 := Lib.hid (HB21.out.chg hcc (fun x => x))
  have HV83 := Lib.hid (HV8.out.chg hcc (fun x => x))
  have HV9 := Lib.hid (Blk.new w3 31 #[.slice At X0.length ct])
  have HR3 := Lib.hid (HR1.out.chg hcc (fun _ _ x => x))
  have HD3 := Lib.hid (HD1.out.new hcc)
  have hrt := hOt.reads
  rw [hTt] at hrt
  have HT3 := Lib.hid (show TabR (fun i => V8 < i ∧ i < w3.heap.size) _ At X0 from (hrt.mono (G := fun i => V8 < i ∧ i < w3.heap.size) (fun i _ hi => by have := HZ2.out.2; omega)).new hca)
  have HZ3 := Lib.hid (show V8 < w3.heap.size by have := HZ2.out.2; have := hc3.size; omega)
  clear hTt hc3 hOt hX0 hl0 hca hcc hrt HC1 HB11 HB21 HV8 HR1 HD1
  go_wp2_with fail
  obtain ⟨V9, hV9⟩ : ∃ V9, w3.heap.size = V9 := ⟨_, rfl⟩
  obtain ⟨w4, hw4⟩ : ∃ w4, w3.alloc (.cells #[.slice At X0.length ct] 31) = w4 := ⟨_, rfl⟩
  have hz3 := HZ3.out
  rw [hw4] at HC3 HB13 HB23 HV83 HV9 HR3 HD3 HT3 ⊢
  rw [hV9] at HV9 HT3 hz3 ⊢
  replace HZ3 := Lib.hid hz3
  clear hw4 hV9 hz3
  refine (pick_any g _ 3 _ HR3.out (by omega) (by omega) (by omega)).mono ?_
  rintro e w5 ⟨k0, rfl, hk0, hc5, hr5⟩
  have hz2 := HZ2.out
  have hz3 := HZ3.out
  have HC5 := Lib.hid (HC3.out.trans hc5)
  have HB15 := Lib.hid (HB13.out.chg hc5 (by omega))
  have HB25 := Lib.hid (HB23.out.chg hc5 (by omega))
  have HV85 := Lib.hid (HV83.out.chg hc5 (by omega))
  have HV95 := Lib.hid (HV9.out.chg hc5 (by omega))
  have HD5 := Lib.hid (HD3.out.chg hc5 (fun i h1 h2 => by omega))
  have HT5 := Lib.hid ((HT3.out.chg hc5 (fun i h1 h2 => by omega)).mono (G := fun i => V8 < i ∧ i ≠ V9) (fun i _ hi => by omega))
  clear hc5 HC3 HB13 HB23 HV83 HV9 HR3 HD3 HT3
  have hk2 : k0 ≤ 2 := by omega
  have HEND : ∀ (wq : World) (A : Option Addr) (c : Nat) (X : List (List Int)) (M : Nat), Hid (Chg (· = g) w wq) → Hid (Rdr wq g M) → M ≤ N + 4500 → Hid (TabR (fun i => w.heap.size + 1 < i) wq A X) → Hid (DevR (fun i => w.heap.size + 1 < i ∧ i < V8) wq Ad D) → X.length ≤ 8 → (∀ r ∈ X, r.length ≤ 6) →
      Hid (BothDrawn g (N + 4500) w (.returned (.tuple #[.slice Ad D.length cd, .agg #[.slice A X.length c], .agg #[.int .i64 hh.hot, .int .i64 hh.warm, .int .i64 hh.cold]])) ((((wq.setCell ⟨w.heap.size, 0, none⟩ (.slice A X.length c)).setCell ⟨w.heap.size + 1, 0, none⟩ (.int .i64 hh.hot)).setCell ⟨w.heap.size + 1, 1, none⟩ (.int .i64 hh.warm)).setCell ⟨w.heap.size + 1, 2, none⟩ (.int .i64 hh.cold))) := by
    intro wq A c X M hC hR hM hT hD hl hx
    have hcs := chg3h (F := fun i => i = w.heap.size ∨ i = w.heap.size + 1) (g := w.heap.size + 1) (a := .int .i64 hh.hot) (b := .int .i64 hh.warm) (c := .int .i64 hh.cold) ((Chg.refl (fun i => i = w.heap.size ∨ i = w.heap.size + 1) wq).setCell (p := ⟨w.heap.size, 0, none⟩) (.inl (.inl rfl)) (.slice A X.length c)) (.inl (.inr rfl))
    exact Lib.hid ⟨Ad, cd, D, _, hh, rfl, (hD.out.chg hcs (fun i h1 h2 => by omega)).mono (fun i _ h => by omega), hlc, h13, H4.out, ⟨A, c, X, rfl, (hT.out.chg hcs (fun i h1 h2 => by omega)).mono (fun i _ h => by omega), hl, hx, fun h => h.elim⟩, hC.out.trans' hcs (fun i hi => .inr (by omega)), (hR.out.chg hcs (fun i hi he => by omega)).more hM⟩
  have HENDD := Lib.hid HEND
  clear HEND
  go_wp2_with fail
  go_loopw [10] (fun i wr => ∃ (k M : Nat) (A : Option Addr) (c : Nat) (X : List (List Int)), i = .int .i64 k ∧ k ≤ 2 ∧ Rdr wr g M ∧ M + 8 * k ≤ N + 4150 ∧ Chg (· = g) w wr ∧ Blk wr w.heap.size 31 #[.slice none 0 0] ∧ Blk wr (w.heap.size + 1) 46 #[.int .i64 0, .int .i64 0, .int .i64 0] ∧ Blk wr V8 46 #[.int .i64 hh.hot, .int .i64 hh.warm, .int .i64 hh.cold] ∧ Blk wr V9 31 #[.slice A X.length c] ∧ DevR (fun i => w.heap.size + 1 < i ∧ i < V8) wr Ad D ∧ TabR (fun i => V8 < i ∧ i ≠ V9) wr A X ∧ Hid (X.length ≤ 8 ∧ ∀ r ∈ X, r.length ≤ 6)) (fun i _ => (intOf i).toNat)
  case atStart => exact ⟨k0, _, At, ct, X0, rfl, hk2, hr5, by omega, HC5.out, HB15.out, HB25.out, HV85.out, HV95.out, HD5.out, HT5.out, HL0⟩
  case round =>
    obtain ⟨k, M, A, c, X, rfl, hk, hr, hM, hch, hb1, hb2, hb8, hb9, hD, hT, hL⟩ := hrel
    have HC := Lib.hid hch
    have H1 := Lib.hid hb1
    have H2 := Lib.hid hb2
    have H8 := Lib.hid hb8
    have H9 := Lib.hid hb9
    have HD := Lib.hid hD
    have HT := Lib.hid hT
    have v9 : wr.cell? ⟨V9, 0, none⟩ = some (.slice A X.length c) := (hb9.cell _).trans rfl
    have HR := Lib.hid hr
    have HV9L := Lib.hid hb9.lt
    have hgl := hr.lt
    clear hch hb1 hb2 hb8 hb9 hD hT hr
    by_cases hk0 : 0 < k
    case neg =>
      obtain rfl : k = 0 := by omega
      clear hk0
      have hgl := HR.out.lt
      go_wp2_with fail
      refine (odd_any g _ n _ HR.out (by omega) hn0 hn).mono ?_
      rintro e wa ⟨bo, rfl, -, hca, hra⟩
      have HCa := Lib.hid (HC.out.trans hca)
      have H1a := Lib.hid (H1.out.chg hca (by omega))
      have H2a := Lib.hid (H2.out.chg hca (by omega))
      have H8a := Lib.hid (H8.out.chg hca (by omega))
      have H9a := Lib.hid (H9.out.chg hca (by omega))
      have HDa := Lib.hid (HD.out.chg hca (fun i h1 h2 => by omega))
      have HTa := Lib.hid (HT.out.chg hca (fun i h1 h2 => by omega))
      have HRa := Lib.hid hra
      have v9a : wa.cell? ⟨V9, 0, none⟩ = some (.slice A X.length c) := (H9a.out.cell _).trans rfl
      clear hca hra
      cases bo
      case true =>
        have y0 : wa.cell? ⟨V8, 0, none⟩ = some (.int .i64 hh.hot) := (H8a.out.cell _).trans rfl
        have y1 : wa.cell? ⟨V8, 1, none⟩ = some (.int .i64 hh.warm) := (H8a.out.cell _).trans rfl
        have y2 : wa.cell? ⟨V8, 2, none⟩ = some (.int .i64 hh.cold) := (H8a.out.cell _).trans rfl
        have hV8g : V8 ≠ g := by omega
        have hn1 : V8 ≠ w.heap.size := by omega
        have hn2 : w.heap.size ≠ V8 := by omega
        have hn3 : V8 ≠ w.heap.size + 1 := by omega
        have hn4 : w.heap.size + 1 ≠ V8 := by omega
        go_wp2_with fail
        go_region_held3 (fun w' => w'.cell? ⟨V8, 0, none⟩ = some (.int .i64 hh.hot) ∧ w'.cell? ⟨V8, 1, none⟩ = some (.int .i64 hh.warm) ∧ w'.cell? ⟨V8, 2, none⟩ = some (.int .i64 hh.cold))
            (first | go_keep | (refine ⟨?_, ?_, ?_⟩ <;> exact ((H8a.out.chg (F := (· = g)) ((Chg.refl _ wa).drew.trans hcc) hV8g).cell _).trans rfl))
            (first | (go_at_call 124; refine (l20Table_any g _ 3 _ HRa.out.drew (by omega) (by omega) (by omega)).mono ?_; rintro e' wz ⟨_, rfl, ⟨A5, c5, X5, rfl, ht5, hl5, hx5, -⟩, hcc, hr5⟩; have HK := Lib.hid ((Chg.refl (· = g) wa).drew.trans hcc); have HT5 := Lib.hid (show TabR (fun i => w.heap.size + 1 < i) wz A5 X5 from ht5.mono (fun i _ hi => by rw [World.size_drew] at hi; have := H9a.out.lt; omega)); have HX5 := Lib.hid (And.intro hl5 hx5); have HR5 := Lib.hid hr5; have H1z := Lib.hid (H1a.out.chg HK.out (by omega)); have H2z := Lib.hid (H2a.out.chg HK.out (by omega)); have p0 : wz.cell? ⟨w.heap.size, 0, none⟩ = some (.slice none 0 0) := (H1z.out.cell _).trans rfl;have pf0 := H1z.out.frozen 0;have q0 : wz.cell? ⟨w.heap.size + 1, 0, none⟩ = some (.int .i64 0) := (H2z.out.cell _).trans rfl;have q1 : wz.cell? ⟨w.heap.size + 1, 1, none⟩ = some (.int .i64 0) := (H2z.out.cell _).trans rfl;have q2 : wz.cell? ⟨w.heap.size + 1, 2, none⟩ = some (.int .i64 0) := (H2z.out.cell _).trans rfl;have qf0 := H2z.out.frozen 0;have qf1 := H2z.out.frozen 1;have qf2 := H2z.out.frozen 2; clear ht5 hl5 hx5 hr5))
        go_wp2_with fail
        (try simp only [Exit.inBlock, Exit.then])
        refine bodyPost_ret (v := .tuple #[.slice Ad D.length cd, .agg #[.slice A5 X5.length c5], .agg #[.int .i64 hh.hot, .int .i64 hh.warm, .int .i64 hh.cold]]) (by simp [results, Try.results98, go_sem, *]) rfl ?_
        have hfin := (HENDD.out wz A5 c5 X5 _ (Lib.hid (HCa.out.trans HK.out)) HR5 (by omega) HT5 (Lib.hid (HDa.out.chg HK.out (fun i h1 h2 => by omega))) HX5.out.1 HX5.out.2).out
        first | exact hfin | exact hfin.drew
      go_wp2_with fail
      refine (sTableValid_any _ A c X _ HTa.out (by have := hL.out.1; omega) (fun r hr => by have := hL.out.2 r hr; omega)).mono ?_
      rintro e wb ⟨b, rfl, -, hcb⟩
      have HCb := Lib.hid (HCa.out.trans' hcb (fun _ x => x.elim))
      have H1b := Lib.hid (H1a.out.chg hcb (fun x => x))
      have H2b := Lib.hid (H2a.out.chg hcb (fun x => x))
      have H8b := Lib.hid (H8a.out.chg hcb (fun x => x))
      have H9b := Lib.hid (H9a.out.chg hcb (fun x => x))
      have HDb := Lib.hid (HDa.out.new hcb)
      have HTb := Lib.hid (HTa.out.new hcb)
      have HRb := Lib.hid (HRa.out.chg hcb (fun _ _ x => x))
      clear hcb v9a
      cases b
      case false =>
        have y0 : wb.cell? ⟨V8, 0, none⟩ = some (.int .i64 hh.hot) := (H8b.out.cell _).trans rfl
        have y1 : wb.cell? ⟨V8, 1, none⟩ = some (.int .i64 hh.warm) := (H8b.out.cell _).trans rfl
        have y2 : wb.cell? ⟨V8, 2, none⟩ = some (.int .i64 hh.cold) := (H8b.out.cell _).trans rfl
        have hV8g : V8 ≠ g := by omega
        have hn1 : V8 ≠ w.heap.size := by omega
        have hn2 : w.heap.size ≠ V8 := by omega
        have hn3 : V8 ≠ w.heap.size + 1 := by omega
        have hn4 : w.heap.size + 1 ≠ V8 := by omega
        go_wp2_with fail
        go_region_held3 (fun w' => w'.cell? ⟨V8, 0, none⟩ = some (.int .i64 hh.hot) ∧ w'.cell? ⟨V8, 1, none⟩ = some (.int .i64 hh.warm) ∧ w'.cell? ⟨V8, 2, none⟩ = some (.int .i64 hh.cold))
            (first | go_keep | (refine ⟨?_, ?_, ?_⟩ <;> exact ((H8b.out.chg (F := (· = g)) ((Chg.refl _ wb).drew.trans hcc) hV8g).cell _).trans rfl))
            (first | (go_at_call 124; refine (l20Table_any g _ 3 _ HRb.out.drew (by omega) (by omega) (by omega)).mono ?_; rintro e' wz ⟨_, rfl, ⟨A5, c5, X5, rfl, ht5, hl5, hx5, -⟩, hcc, hr5⟩; have HK := Lib.hid ((Chg.refl (· = g) wb).drew.trans hcc); have HT5 := Lib.hid (show TabR (fun i => w.heap.size + 1 < i) wz A5 X5 from ht5.mono (fun i _ hi => by rw [World.size_drew] at hi; have := H9b.out.lt; omega)); have HX5 := Lib.hid (And.intro hl5 hx5); have HR5 := Lib.hid hr5; have H1z := Lib.hid (H1b.out.chg HK.out (by omega)); have H2z := Lib.hid (H2b.out.chg HK.out (by omega)); have p0 : wz.cell? ⟨w.heap.size, 0, none⟩ = some (.slice none 0 0) := (H1z.out.cell _).trans rfl;have pf0 := H1z.out.frozen 0;have q0 : wz.cell? ⟨w.heap.size + 1, 0, none⟩ = some (.int .i64 0) := (H2z.out.cell _).trans rfl;have q1 : wz.cell? ⟨w.heap.size + 1, 1, none⟩ = some (.int .i64 0) := (H2z.out.cell _).trans rfl;have q2 : wz.cell? ⟨w.heap.size + 1, 2, none⟩ = some (.int .i64 0) := (H2z.out.cell _).trans rfl;have qf0 := H2z.out.frozen 0;have qf1 := H2z.out.frozen 1;have qf2 := H2z.out.frozen 2; clear ht5 hl5 hx5 hr5))
        go_wp2_with fail
        (try simp only [Exit.inBlock, Exit.then])
        refine bodyPost_ret (v := .tuple #[.slice Ad D.length cd, .agg #[.slice A5 X5.length c5], .agg #[.int .i64 hh.hot, .int .i64 hh.warm, .int .i64 hh.cold]]) (by simp [results, Try.results98, go_sem, *]) rfl ?_
        have hfin := (HENDD.out wz A5 c5 X5 _ (Lib.hid (HCb.out.trans HK.out)) HR5 (by omega) HT5 (Lib.hid (HDb.out.chg HK.out (fun i h1 h2 => by omega))) HX5.out.1 HX5.out.2).out
        first | exact hfin | exact hfin.drew
      have y0 : wb.cell? ⟨V8, 0, none⟩ = some (.int .i64 hh.hot) := (H8b.out.cell _).trans rfl
      have y1 : wb.cell? ⟨V8, 1, none⟩ = some (.int .i64 hh.warm) := (H8b.out.cell _).trans rfl
      have y2 : wb.cell? ⟨V8, 2, none⟩ = some (.int .i64 hh.cold) := (H8b.out.cell _).trans rfl
      have p0 : wb.cell? ⟨w.heap.size, 0, none⟩ = some (.slice none 0 0) := (H1b.out.cell _).trans rfl
      have pf0 := H1b.out.frozen 0
      have q0 : wb.cell? ⟨w.heap.size + 1, 0, none⟩ = some (.int .i64 0) := (H2b.out.cell _).trans rfl
      have q1 : wb.cell? ⟨w.heap.size + 1, 1, none⟩ = some (.int .i64 0) := (H2b.out.cell _).trans rfl
      have q2 : wb.cell? ⟨w.heap.size + 1, 2, none⟩ = some (.int .i64 0) := (H2b.out.cell _).trans rfl
      have qf0 := H2b.out.frozen 0
      have qf1 := H2b.out.frozen 1
      have qf2 := H2b.out.frozen 2
      have v9 : wb.cell? ⟨V9, 0, none⟩ = some (.slice A X.length c) := (H9b.out.cell _).trans rfl
      go_wp2_with fail
      go_region
      go_wp2_with fail
      (try simp only [Exit.inBlock, Exit.then])
      refine bodyPost_ret (v := .tuple #[.slice Ad D.length cd, .agg #[.slice A X.length c], .agg #[.int .i64 hh.hot, .int .i64 hh.warm, .int .i64 hh.cold]]) (by simp [results, Try.results98, go_sem, *]) rfl ?_
      have hfin := (HENDD.out wb A c X _ HCb HRb (by omega) (Lib.hid (HTb.out.mono (fun i _ hi => by omega))) HDb hL.out.1 hL.out.2).out
      first | exact hfin | exact hfin.drew
    have hk0' : (k : Int) > 0 := by omega
    go_wp2_with fail
    refine (sTableValid_any _ A c X _ HT.out (by have := hL.out.1; omega) (fun r hr => by have := hL.out.2 r hr; omega)).mono ?_
    rintro e w6 ⟨b, rfl, hbb, hc6⟩
    have HC6 := Lib.hid (HC.out.trans' hc6 (fun _ x => x.elim))
    have H16 := Lib.hid (H1.out.chg hc6 (fun x => x))
    have H26 := Lib.hid (H2.out.chg hc6 (fun x => x))
    have H86 := Lib.hid (H8.out.chg hc6 (fun x => x))
    have H96 := Lib.hid (H9.out.chg hc6 (fun x => x))
    have HD6 := Lib.hid (HD.out.new hc6)
    have HT6 := Lib.hid (HT.out.new hc6)
    have HR6 := Lib.hid (HR.out.chg hc6 (fun _ _ x => x))
    have v96 := Chg.cell hc6 v9 (fun x => x)
    have HV6L := Lib.hid H96.out.lt
    clear hc6 v9 HC H1 H2 H8 H9 HD HT HR HV9L hgl
    cases b
    case false =>
      clear hbb
      have hgl := HR6.out.lt
      go_wp2_with fail
      refine (odd_any g _ n _ HR6.out (by omega) hn0 hn).mono ?_
      rintro e wa ⟨bo, rfl, -, hca, hra⟩
      have HCa := Lib.hid (HC6.out.trans hca)
      have H1a := Lib.hid (H16.out.chg hca (by omega))
      have H2a := Lib.hid (H26.out.chg hca (by omega))
      have H8a := Lib.hid (H86.out.chg hca (by omega))
      have H9a := Lib.hid (H96.out.chg hca (by omega))
      have HDa := Lib.hid (HD6.out.chg hca (fun i h1 h2 => by omega))
      have HTa := Lib.hid (HT6.out.chg hca (fun i h1 h2 => by omega))
      have HRa := Lib.hid hra
      have v9a : wa.cell? ⟨V9, 0, none⟩ = some (.slice A X.length c) := (H9a.out.cell _).trans rfl
      clear hca hra
      cases bo
      case true =>
        have y0 : wa.cell? ⟨V8, 0, none⟩ = some (.int .i64 hh.hot) := (H8a.out.cell _).trans rfl
        have y1 : wa.cell? ⟨V8, 1, none⟩ = some (.int .i64 hh.warm) := (H8a.out.cell _).trans rfl
        have y2 : wa.cell? ⟨V8, 2, none⟩ = some (.int .i64 hh.cold) := (H8a.out.cell _).trans rfl
        have hV8g : V8 ≠ g := by omega
        have hn1 : V8 ≠ w.heap.size := by omega
        have hn2 : w.heap.size ≠ V8 := by omega
        have hn3 : V8 ≠ w.heap.size + 1 := by omega
        have hn4 : w.heap.size + 1 ≠ V8 := by omega
        go_wp2_with fail
        go_region_held3 (fun w' => w'.cell? ⟨V8, 0, none⟩ = some (.int .i64 hh.hot) ∧ w'.cell? ⟨V8, 1, none⟩ = some (.int .i64 hh.warm) ∧ w'.cell? ⟨V8, 2, none⟩ = some (.int .i64 hh.cold))
            (first | go_keep | (refine ⟨?_, ?_, ?_⟩ <;> exact ((H8a.out.chg (F := (· = g)) ((Chg.refl _ wa).drew.trans hcc) hV8g).cell _).trans rfl))
            (first | (go_at_call 124; refine (l20Table_any g _ 3 _ HRa.out.drew (by omega) (by omega) (by omega)).mono ?_; rintro e' wz ⟨_, rfl, ⟨A5, c5, X5, rfl, ht5, hl5, hx5, -⟩, hcc, hr5⟩; have HK := Lib.hid ((Chg.refl (· = g) wa).drew.trans hcc); have HT5 := Lib.hid (show TabR (fun i => w.heap.size + 1 < i) wz A5 X5 from ht5.mono (fun i _ hi => by rw [World.size_drew] at hi; have := H9a.out.lt; omega)); have HX5 := Lib.hid (And.intro hl5 hx5); have HR5 := Lib.hid hr5; have H1z := Lib.hid (H1a.out.chg HK.out (by omega)); have H2z := Lib.hid (H2a.out.chg HK.out (by omega)); have p0 : wz.cell? ⟨w.heap.size, 0, none⟩ = some (.slice none 0 0) := (H1z.out.cell _).trans rfl;have pf0 := H1z.out.frozen 0;have q0 : wz.cell? ⟨w.heap.size + 1, 0, none⟩ = some (.int .i64 0) := (H2z.out.cell _).trans rfl;have q1 : wz.cell? ⟨w.heap.size + 1, 1, none⟩ = some (.int .i64 0) := (H2z.out.cell _).trans rfl;have q2 : wz.cell? ⟨w.heap.size + 1, 2, none⟩ = some (.int .i64 0) := (H2z.out.cell _).trans rfl;have qf0 := H2z.out.frozen 0;have qf1 := H2z.out.frozen 1;have qf2 := H2z.out.frozen 2; clear ht5 hl5 hx5 hr5))
        go_wp2_with fail
        (try simp only [Exit.inBlock, Exit.then])
        refine bodyPost_ret (v := .tuple #[.slice Ad D.length cd, .agg #[.slice A5 X5.length c5], .agg #[.int .i64 hh.hot, .int .i64 hh.warm, .int .i64 hh.cold]]) (by simp [results, Try.results98, go_sem, *]) rfl ?_
        have hfin := (HENDD.out wz A5 c5 X5 _ (Lib.hid (HCa.out.trans HK.out)) HR5 (by omega) HT5 (Lib.hid (HDa.out.chg HK.out (fun i h1 h2 => by omega))) HX5.out.1 HX5.out.2).out
        first | exact hfin | exact hfin.drew
      go_wp2_with fail
      refine (sTableValid_any _ A c X _ HTa.out (by have := hL.out.1; omega) (fun r hr => by have := hL.out.2 r hr; omega)).mono ?_
      rintro e wb ⟨b, rfl, -, hcb⟩
      have HCb := Lib.hid (HCa.out.trans' hcb (fun _ x => x.elim))
      have H1b := Lib.hid (H1a.out.chg hcb (fun x => x))
      have H2b := Lib.hid (H2a.out.chg hcb (fun x => x))
      have H8b := Lib.hid (H8a.out.chg hcb (fun x => x))
      have H9b := Lib.hid (H9a.out.chg hcb (fun x => x))
      have HDb := Lib.hid (HDa.out.new hcb)
      have HTb := Lib.hid (HTa.out.new hcb)
      have HRb := Lib.hid (HRa.out.chg hcb (fun _ _ x => x))
      clear hcb v9a
      cases b
      case false =>
        have y0 : wb.cell? ⟨V8, 0, none⟩ = some (.int .i64 hh.hot) := (H8b.out.cell _).trans rfl
        have y1 : wb.cell? ⟨V8, 1, none⟩ = some (.int .i64 hh.warm) := (H8b.out.cell _).trans rfl
        have y2 : wb.cell? ⟨V8, 2, none⟩ = some (.int .i64 hh.cold) := (H8b.out.cell _).trans rfl
        have hV8g : V8 ≠ g := by omega
        have hn1 : V8 ≠ w.heap.size := by omega
        have hn2 : w.heap.size ≠ V8 := by omega
        have hn3 : V8 ≠ w.heap.size + 1 := by omega
        have hn4 : w.heap.size + 1 ≠ V8 := by omega
        go_wp2_with fail
        go_region_held3 (fun w' => w'.cell? ⟨V8, 0, none⟩ = some (.int .i64 hh.hot) ∧ w'.cell? ⟨V8, 1, none⟩ = some (.int .i64 hh.warm) ∧ w'.cell? ⟨V8, 2, none⟩ = some (.int .i64 hh.cold))
            (first | go_keep | (refine ⟨?_, ?_, ?_⟩ <;> exact ((H8b.out.chg (F := (· = g)) ((Chg.refl _ wb).drew.trans hcc) hV8g).cell _).trans rfl))
            (first | (go_at_call 124; refine (l20Table_any g _ 3 _ HRb.out.drew (by omega) (by omega) (by omega)).mono ?_; rintro e' wz ⟨_, rfl, ⟨A5, c5, X5, rfl, ht5, hl5, hx5, -⟩, hcc, hr5⟩; have HK := Lib.hid ((Chg.refl (· = g) wb).drew.trans hcc); have HT5 := Lib.hid (show TabR (fun i => w.heap.size + 1 < i) wz A5 X5 from ht5.mono (fun i _ hi => by rw [World.size_drew] at hi; have := H9b.out.lt; omega)); have HX5 := Lib.hid (And.intro hl5 hx5); have HR5 := Lib.hid hr5; have H1z := Lib.hid (H1b.out.chg HK.out (by omega)); have H2z := Lib.hid (H2b.out.chg HK.out (by omega)); have p0 : wz.cell? ⟨w.heap.size, 0, none⟩ = some (.slice none 0 0) := (H1z.out.cell _).trans rfl;have pf0 := H1z.out.frozen 0;have q0 : wz.cell? ⟨w.heap.size + 1, 0, none⟩ = some (.int .i64 0) := (H2z.out.cell _).trans rfl;have q1 : wz.cell? ⟨w.heap.size + 1, 1, none⟩ = some (.int .i64 0) := (H2z.out.cell _).trans rfl;have q2 : wz.cell? ⟨w.heap.size + 1, 2, none⟩ = some (.int .i64 0) := (H2z.out.cell _).trans rfl;have qf0 := H2z.out.frozen 0;have qf1 := H2z.out.frozen 1;have qf2 := H2z.out.frozen 2; clear ht5 hl5 hx5 hr5))
        go_wp2_with fail
        (try simp only [Exit.inBlock, Exit.then])
        refine bodyPost_ret (v := .tuple #[.slice Ad D.length cd, .agg #[.slice A5 X5.length c5], .agg #[.int .i64 hh.hot, .int .i64 hh.warm, .int .i64 hh.cold]]) (by simp [results, Try.results98, go_sem, *]) rfl ?_
        have hfin := (HENDD.out wz A5 c5 X5 _ (Lib.hid (HCb.out.trans HK.out)) HR5 (by omega) HT5 (Lib.hid (HDb.out.chg HK.out (fun i h1 h2 => by omega))) HX5.out.1 HX5.out.2).out
        first | exact hfin | exact hfin.drew
      have y0 : wb.cell? ⟨V8, 0, none⟩ = some (.int .i64 hh.hot) := (H8b.out.cell _).trans rfl
      have y1 : wb.cell? ⟨V8, 1, none⟩ = some (.int .i64 hh.warm) := (H8b.out.cell _).trans rfl
      have y2 : wb.cell? ⟨V8, 2, none⟩ = some (.int .i64 hh.cold) := (H8b.out.cell _).trans rfl
      have p0 : wb.cell? ⟨w.heap.size, 0, none⟩ = some (.slice none 0 0) := (H1b.out.cell _).trans rfl
      have pf0 := H1b.out.frozen 0
      have q0 : wb.cell? ⟨w.heap.size + 1, 0, none⟩ = some (.int .i64 0) := (H2b.out.cell _).trans rfl
      have q1 : wb.cell? ⟨w.heap.size + 1, 1, none⟩ = some (.int .i64 0) := (H2b.out.cell _).trans rfl
      have q2 : wb.cell? ⟨w.heap.size + 1, 2, none⟩ = some (.int .i64 0) := (H2b.out.cell _).trans rfl
      have qf0 := H2b.out.frozen 0
      have qf1 := H2b.out.frozen 1
      have qf2 := H2b.out.frozen 2
      have v9 : wb.cell? ⟨V9, 0, none⟩ = some (.slice A X.length c) := (H9b.out.cell _).trans rfl
      go_wp2_with fail
      go_region
      go_wp2_with fail
      (try simp only [Exit.inBlock, Exit.then])
      refine bodyPost_ret (v := .tuple #[.slice Ad D.length cd, .agg #[.slice A X.length c], .agg #[.int .i64 hh.hot, .int .i64 hh.warm, .int .i64 hh.cold]]) (by simp [results, Try.results98, go_sem, *]) rfl ?_
      have hfin := (HENDD.out wb A c X _ HCb HRb (by omega) (Lib.hid (HTb.out.mono (fun i _ hi => by omega))) HDb hL.out.1 hL.out.2).out
      first | exact hfin | exact hfin.drew
    have HOK := Lib.hid (hbb.1 rfl)
    have h8 : X.length = 8 := HOK.out.1
    rw [h8] at v96
    have hgl := HR6.out.lt
    have hv6l := HV6L.out
    have hr6 := HR6.out
    have HTB := HT6
    clear hbb
    go_wp2_with fail
    refine wp_region_rg (WInv := fun cc m w7 => Rdr w7 g (M + cc) ∧ cc ≤ 7 ∧ StoI g V9 w6 (fun w => ∃ A5 c5 T5, Blk w V9 31 #[.slice A5 8 c5] ∧ TabO w6.heap.size w.heap.size w A5 c5 T5 ∧ T5.length = 8 ∧ ∀ r ∈ listsOf T5, r.length = 6) 6 m w7 ∧ (m 0 = none → m 5 = none) ∧ (m 5 = none → m 6 = none)) (R := Chg (fun k => k = g ∨ k = V9)) (Post := bothPost g w6.heap.size (.slice A 8 c)) (by kernel_rfl) (by kernel_rfl) ?_ (fun i v w1 w2 => bothPost_stab hgl hv6l) ⟨hr6.drew, by omega, ⟨(Chg.refl _ _).drew, fun _ => (Chg.refl _ _).drew, fun hh => absurd rfl hh⟩, fun _ => rfl, fun _ => rfl⟩ ⟨?_, ?_, ?_, ?_, ?_, ?_, ?_, trivial⟩ ?_
    · rintro c c' m w ⟨h1, h2, h5⟩ h3 h4
      exact ⟨h1.more (by omega), h4, h5⟩
    · rintro kc m a w7 hkc ⟨hrd, hcc, hst, ho⟩ hm hn
      have e1 : a.tmps[9]?.getD undef = .pointer (some ⟨V9, 0, none⟩) := hn.1
      have x0 := (hst.2.1 (ho.2 (ho.1 hm))).cell v96 (by simp only; omega)
      exact rg_val (v := .agg #[.slice A 8 c]) (by simp [execOp, go_sem, e1, x0]) rfl ⟨hrd.more (by omega), hkc, hst.keep (by decide) (Chg.refl _ _) (fun x => x), by simp [upd], by simpa [upd] using ho.2⟩ (Chg.refl _ _) rfl
    · rintro kc m a w7 hkc ⟨hrd, hcc, hst, ho⟩ hm hn
      have e1 : a.tmps[0]?.getD undef = .pointer (some ⟨g, 0, none⟩) := hn.1
      exact rg_val (v := .pointer (some ⟨g, 0, none⟩)) (by simp [execOp, go_sem, e1]) rfl ⟨hrd.more (by omega), hkc, hst.keep (by decide) (Chg.refl _ _) (fun x => x), by simpa [upd] using ho⟩ (Chg.refl _ _) rfl
    · rintro kc m a w7 hkc ⟨hrd, hcc, hst, ho⟩ hm hn
      obtain ⟨⟨_, e1, _, rfl⟩, -⟩ := hn
      refine rg_call (f := 63) (args := #[.pointer (some ⟨g, 0, none⟩), .int .i64 4]) (by simp [go_sem, e1]) rfl ?_
      refine (pick_any g _ 4 _ hrd (by omega) (by omega) (by omega)).mono ?_
      rintro e' w8 ⟨kk, rfl, hkk, hc8, hr8⟩
      exact ⟨_, rfl, ⟨hr8, hkc, hst.keep (by decide) hc8 (fun ⟨A5, c5, T5, hb, hx, hy⟩ => ⟨A5, c5, T5, hb.chg hc8 (by omega), (hx.chg hc8 (fun i h1 h2 h3 => by omega)).more (Nat.le_refl _) hc8.size, hy⟩), by simpa [upd] using ho⟩, hc8.mono (fun _ _ x => .inl x), kk, rfl, by omega⟩
    · rintro kc m a w7 hkc ⟨hrd, hcc, hst, ho⟩ hm hn
      have e1 : a.tmps[0]?.getD undef = .pointer (some ⟨g, 0, none⟩) := hn.1
      exact rg_val (v := .pointer (some ⟨g, 0, none⟩)) (by simp [execOp, go_sem, e1]) rfl ⟨hrd.more (by omega), hkc, hst.keep (by decide) (Chg.refl _ _) (fun x => x), by simpa [upd] using ho⟩ (Chg.refl _ _) rfl
    · rintro kc m a w7 hkc ⟨hrd, hcc, hst, ho⟩ hm hn
      obtain ⟨⟨_, e1, _, rfl⟩, -⟩ := hn
      refine rg_call (f := 63) (args := #[.pointer (some ⟨g, 0, none⟩), .int .i64 3]) (by simp [go_sem, e1]) rfl ?_
      refine (pick_any g _ 3 _ hrd (by omega) (by omega) (by omega)).mono ?_
      rintro e' w8 ⟨kk, rfl, hkk, hc8, hr8⟩
      exact ⟨_, rfl, ⟨hr8, hkc, hst.keep (by decide) hc8 (fun ⟨A5, c5, T5, hb, hx, hy⟩ => ⟨A5, c5, T5, hb.chg hc8 (by omega), (hx.chg hc8 (fun i h1 h2 h3 => by omega)).more (Nat.le_refl _) hc8.size, hy⟩), by simpa [upd] using ho⟩, hc8.mono (fun _ _ x => .inl x), kk, rfl, by omega⟩
    · rintro kc m a w7 hkc ⟨hrd, hcc, hst, ho⟩ hm hn
      obtain ⟨⟨_, e1, hm0, rfl⟩, ⟨_, e2, _, k2, rfl, h2⟩, ⟨_, e3, _, k3, rfl, h3⟩, -⟩ := hn
      refine rg_call (f := 149) (args := #[.agg #[.slice A 8 c], .int .i64 k2, .int .i64 k3]) (by simp [go_sem, e1, e2, e3]) rfl ?_
      have hcf := sCutFileP_any _ A c X w7 (HTB.out.chg hst.1 (fun i h1 h2 => by omega)) HOK.out k2 (by omega) k3 (by omega)
      rw [h8] at hcf
      refine hcf.mono ?_
      rintro e' w8 ⟨A5, c5, T5, rfl, hl5, hc8, hO5⟩
      exact ⟨_, rfl, ⟨(hrd.chg hc8 (fun _ _ x => x)).more (by omega), hkc, hst.keep (by decide) (hc8.mono (fun _ _ x => x.elim)) (fun ⟨A5, c5, T5, hb, hx, hy⟩ => ⟨A5, c5, T5, hb.chg hc8 (fun x => x), (hx.new hc8).more (Nat.le_refl _) hc8.size, hy⟩), by simp [upd, hm0], by simp [upd]⟩, hc8.mono (fun _ _ x => x.elim), A5, c5, T5, rfl, hO5.more hst.1.size (Nat.le_refl _), hl5⟩
    · rintro kc m a w7 hkc ⟨hrd, hcc, hst, ho⟩ hm hn
      obtain ⟨e1, ⟨_, e2, hmv, A5, c5, T5, rfl, hO5, hl5⟩, -⟩ := hn
      replace e1 : a.tmps[9]?.getD undef = .pointer (some ⟨V9, 0, none⟩) := e1
      have hb9 := (H96.out.chg (hst.2.1 hm) (by omega))
      have f0 := hb9.frozen 0
      have x0 : w7.cell? ⟨V9, 0, none⟩ = some (.slice A X.length c) := (hb9.cell _).trans rfl
      rw [h8] at x0
      have hst2 : Chg (· = V9) w7 (w7.setCell ⟨V9, 0, none⟩ (.slice A5 8 c5)) := (Chg.refl (· = V9) w7).setCell (p := ⟨V9, 0, none⟩) (.inl rfl) _
      have hb' : Blk (w7.setCell ⟨V9, 0, none⟩ (.slice A5 8 c5)) V9 31 #[.slice A5 8 c5] := hb9.set_ 0 _
      exact rg_skip (w' := w7.setCell ⟨V9, 0, none⟩ (.slice A5 8 c5)) (by simp [execOp, go_sem, e1, e2, x0, f0]) rfl ⟨(hrd.chg hst2 (fun i hi he => by omega)).more (by omega), hkc, hst.store hst2 ⟨A5, c5, T5, hb', (hO5.chg hst2 (fun i h1 h2 h3 => by omega)).more (Nat.le_refl _) hst2.size, hl5⟩, by simpa [upd] using ho.1, by simp [upd, hmv]⟩ (hst2.mono (fun _ _ x => .inr x)) trivial
    rintro m w7 ⟨hrd, -, hst, -⟩
    simp only [AllVals]
    rintro v0 m0 p0 v1 m1 p1 v2 m2 p2 v3 m3 p3 v4 m4 p4 v5 m5 p5 v6 m6 p6
    obtain ⟨A5, c5, T5, hb5, hO5, hT5, hr5'⟩ := hst.2.2 (by rw [m6]; simp)
    have hc7 := hst.1
    clear hst p0 p1 p2 p3 p4 p5 p6
    simp only [Act.put, List.setIfInBounds_toArray, List.set_cons_succ, List.set_cons_zero]
    have HRD := Lib.hid hrd
    have HC7 := Lib.hid hc7
    have HB5 := Lib.hid hb5
    have HO5 := Lib.hid hO5
    have HT5 := Lib.hid (And.intro hT5 hr5')
    clear hrd hc7 hb5 hO5 hT5 hr5'
    go_wp2
    go_roundw
    case rel =>
      have hc := HC7.out
      have e8 : (listsOf T5).length = 8 := by rw [listsOf_length]; exact HT5.out.1
      refine ⟨k - 1, M + 7, A5, c5, listsOf T5, by go_num, by omega, HRD.out, by omega, HC6.out.trans' hc (fun i hi => by omega), H16.out.chg hc (by omega), H26.out.chg hc (by omega), H86.out.chg hc (by omega), by rw [e8]; exact HB5.out, HD6.out.chg hc (fun i h1 h2 => by omega), HO5.out.reads.mono (fun i _ hi => by omega), Lib.hid ⟨by omega, fun r hr => by have := HT5.out.2 r hr; omega⟩⟩
    case measure => simp [intOf]; omega
end Go.Proofs.Ytpiojofmflfkkaa
/- DrawCleanBlock. -/
namespace Go.Proofs.Ytpiojofmflfkkaa
open Go.RowKit
def CbDrawn (w : World) (e : Ending) (w' : World) : Prop :=
  ∃ A c D A1 c1 X hh n s, e = .returned (.tuple #[.slice A (D : List Bk).length c, .agg #[.slice A1 (X : List (List Int)).length c1], hval hh, .int .i64 n, .int .i64 s]) ∧ (DevR (fun i => w.heap.size ≤ i) w' A D ∧ D.length ≤ c ∧ D.length ≤ 13 ∧ ∀ b ∈ D, b.pages.length ≤ 4) ∧ (TabR (fun i => w.heap.size ≤ i) w' A1 X ∧ X.length ≤ 8 ∧ ∀ r ∈ X, r.length ≤ 6) ∧ Chg NoB w w'
theorem Rdr.val {w w' : World} {g N R : Nat} {T : TypeId} {cs : Array Value} (h : Rdr w g N) (hb : Blk w R T cs) (hv : ∀ v ∈ cs.toList, ∀ b : Int, v ≠ .int .u8 b) (hne : R ≠ g) (hc : Chg (· = R) w w') : Rdr w' g N := by
  obtain ⟨A, c, bs, p, hb', hp, hn, hr, hx⟩ := h
  refine ⟨A, c, bs, p, hb'.chg hc (fun e => hne (show g = R from e).symm), hp, hn, fun k v hk => ?_, hx⟩
  obtain ⟨ad, e, hf, hcell⟩ := hr k v hk
  refine ⟨ad, e, hf, hc.cell hcell (fun hR => ?_)⟩
  have hR' : (ad.add k).block = R := hR
  obtain ⟨b, hbv⟩ : ∃ b : Int, v = .int .u8 b := by
    rw [List.getElem?_map] at hk
    cases hq : bs[k]? with
    | none => rw [hq] at hk; cases hk
    | some b => rw [hq] at hk; exact ⟨b, (Option.some.inj hk).symm⟩
  have hm : v ∈ cs.toList := by
    unfold Blk at hb
    unfold World.cell? at hcell
    rw [hR', hb] at hcell
    simp only at hcell
    split at hcell
    · cases hcell
    · exact Array.mem_toList_iff.2 (Array.mem_of_getElem? hcell)
  exact hv v hm b hbv
set_option maxRecDepth 100000 in
set_option maxHeartbeats 2000000 in
theorem DrawCleanBlock_any (A0 : Option Addr) (c0 : Nat) (bs : List Nat) (w : World) (h : Rd (fun i => i < w.heap.size) w A0 (bs.map fun (b : Nat) => Value.int .u8 (b : Int))) (hx : ∀ b ∈ bs, b < 256) (hc : bs.length ≤ c0) :
    Calls Try.prog 33 #[.slice A0 bs.length c0] w (CbDrawn w) := by
  obtain ⟨hb1, hb2, hca⟩ := lit2 w 31 46 #[.slice none 0 0] #[.int .i64 0, .int .i64 0, .int .i64 0]
  have HX0 := Lib.hid ((h.chg hca (fun _ _ x => x)).mono (fun i _ hi => by simp only [World.size_alloc]; omega) : Rd (fun i => i < ((w.alloc (.cells #[.slice none 0 0] 31)).alloc (.cells #[.int .i64 0, .int .i64 0, .int .i64 0] 46)).heap.size) _ A0 _)
  obtain ⟨w1, hw1⟩ : ∃ w1, (w.alloc (.cells #[.slice none 0 0] 31)).alloc (.cells #[.int .i64 0, .int .i64 0, .int .i64 0] 46) = w1 := ⟨_, rfl⟩
  rw [hw1] at hb1 hb2 hca HX0
  have HW1 := Lib.hid hw1
  have HH1 := Lib.hid hb1
  have HH2 := Lib.hid hb2
  have HC0 := Lib.hid hca
  have HZ0 := Lib.hid hb2.lt
  clear hca h hb1 hb2 hw1
  go_enter Try.func33, Try.ntmps33
  go_wp2_with fail
  rw [HW1.out]
  refine (l20Open_any A0 c0 bs _ HX0.out hx hc).mono ?_
  rintro e w2 ⟨g, rfl, hg, hc1, hr1⟩
  have hgH : w.heap.size + 1 < g := by rw [hg]; exact HZ0.out
  have HC1 := Lib.hid (HC0.out.trans hc1)
  have HB1 := Lib.hid (HH1.out.chg hc1 (fun x => x))
  have HB2 := Lib.hid (HH2.out.chg hc1 (fun x => x))
  clear hg hc1 hx hc HX0 HH1 HH2 HC0 HW1
  go_wp2_with fail
  refine (l20Both_any g 0 14 _ hr1 (by omega) (by omega) (by omega)).mono ?_
  rintro e w3 ⟨A, c, D, _, ⟨a1, a2, a3⟩, rfl, hrd, hlc, h13, h4, ⟨A1, c1, X, rfl, ht, hl8, hl6, -⟩, hc2, hr2⟩
  obtain ⟨hv1, hv2, hca⟩ := lit2 w3 31 46 #[.slice A1 X.length c1] #[.int .i64 a1, .int .i64 a2, .int .i64 a3]
  have HV1 := Lib.hid hv1
  have HV2 := Lib.hid hv2
  have HC2 := Lib.hid ((HC1.out.own hc2 (by omega)).trans hca)
  have HRD := Lib.hid (show DevR (fun i => w2.heap.size ≤ i) _ A D from hrd.new hca)
  have HT := Lib.hid (show TabR (fun i => w2.heap.size ≤ i) _ A1 X from ht.new hca)
  replace HB1 := Lib.hid ((HB1.out.chg hc2 (by omega)).chg hca (fun x => x))
  replace HB2 := Lib.hid ((HB2.out.chg hc2 (by omega)).chg hca (fun x => x))
  have hr3 := hr2.chg hca (fun _ _ x => x)
  have HDB := Lib.hid h4
  have HG1 := Lib.hid (show g < w2.heap.size from hr1.lt)
  have HG2 := Lib.hid (show w2.heap.size ≤ w3.heap.size from hc2.size)
  have HX := Lib.hid (And.intro hl8 hl6)
  have hL : (D.length : Int) ≤ 13 := by omega
  clear hca hc2 hrd hr1 hr2 h4 ht hl8 hl6 hv1 hv2 HC1
  go_wp2_with fail
  obtain ⟨V, hV⟩ : ∃ V, w3.heap.size = V := ⟨_, rfl⟩
  obtain ⟨w4, hw4⟩ : ∃ w4, (w3.alloc (.cells #[.slice A1 X.length c1] 31)).alloc (.cells #[.int .i64 a1, .int .i64 a2, .int .i64 a3] 46) = w4 := ⟨_, rfl⟩
  have hg1 := HG1.out
  have hg2 := HG2.out
  rw [hw4] at HV1 HV2 HC2 HRD HT HB1 HB2 hr3 ⊢
  rw [hV] at HV1 HV2 hg2
  try rw [hV]
  clear hV hw4
  refine (pick_any g _ ((D.length : Int) + 1) _ hr3 (by omega) (by omega) (by omega)).mono ?_
  rintro e w6 ⟨k, rfl, hk, hc3, hr4⟩
  have HC3 := Lib.hid hc3
  clear hr3
  go_wp2_with fail
  refine (pick_any g _ 14 _ hr4 (by omega) (by omega) (by omega)).mono ?_
  rintro e w7 ⟨mq, rfl, hm, hc4, hr5⟩
  have hcc := hc3.trans hc4
  have HCC := Lib.hid (HC2.out.own hcc (by omega))
  replace HRD := Lib.hid (HRD.out.chg hcc (fun i hi he => by have h9 : i = g := he; omega))
  replace HT := Lib.hid (HT.out.chg hcc (fun i hi he => by have h9 : i = g := he; omega))
  replace HV1 := Lib.hid (HV1.out.chg hcc (show ¬ (V = g) by omega))
  replace HV2 := Lib.hid (HV2.out.chg hcc (show ¬ (V + 1 = g) by omega))
  replace HB1 := Lib.hid (HB1.out.chg hcc (show ¬ (w.heap.size = g) by omega))
  replace HB2 := Lib.hid (HB2.out.chg hcc (show ¬ (w.heap.size + 1 = g) by omega))
  have HR5 := Lib.hid hr5
  obtain ⟨q, hq, hq2⟩ : ∃ q : Nat, (mq : Int) / 13 = (q : Int) ∧ q < 2 := ⟨mq / 13, by omega, by omega⟩
  have hq' : (mq : Int).tdiv 13 = (q : Int) := by rw [Int.tdiv_eq_ediv_of_nonneg (by omega)]; exact hq
  have hm0 : (0 : Int) ≤ (mq : Int) := Int.natCast_nonneg _
  have hn1 : (-9223372036854775808 : Int) ≤ (k : Int) - (q : Int) := by omega
  have hn2 : (k : Int) - (q : Int) ≤ 9223372036854775807 := by omega
  clear hc3 hc4 hr4 hr5 hcc
  go_wp2_with fail
  have hg1 := HG1.out
  have hvl := HV2.out.lt
  have t0 : w7.cell? ⟨V, 0, none⟩ = some (.slice A1 X.length c1) := (HV1.out.cell _).trans rfl
  have hv2 := HV2.out
  have u0 : w7.cell? ⟨(V + 1), 0, none⟩ = some (.int .i64 a1) := (hv2.cell _).trans rfl
  have u1 : w7.cell? ⟨(V + 1), 1, none⟩ = some (.int .i64 a2) := (hv2.cell _).trans rfl
  have u2 : w7.cell? ⟨(V + 1), 2, none⟩ = some (.int .i64 a3) := (hv2.cell _).trans rfl
  obtain ⟨nn, hnn⟩ : ∃ nn : Int, (k : Int) - (q : Int) = nn := ⟨_, rfl⟩
  try rw [hnn]
  clear hv2 hq hq'
  refine wp_region_rg (WInv := fun cc m w5 => Rdr w5 g ((0 + 4500 + 1 + 1) + 1 * cc) ∧ Chg (fun k => k = g ∨ k = w.heap.size ∨ k = w.heap.size + 1) w7 w5 ∧ cc ≤ 20 ∧ StI (w.heap.size) 31 #[.slice none 0 0] 16 1 m w5 ∧ StI (w.heap.size + 1) 46 #[.int .i64 0, .int .i64 0, .int .i64 0] 17 2 m w5) (R := Chg (fun k => k = g ∨ k = w.heap.size ∨ k = w.heap.size + 1)) (Post := PL [fun v w => v = .slice A D.length c, fun v w => v = .agg #[.slice A1 X.length c1], fun v w => v = .agg #[.int .i64 a1, .int .i64 a2, .int .i64 a3], fun v w => v = .int .i64 nn, fun v w => v = .pointer (some ⟨g, 0, none⟩), fun v w => ∃ kk : Nat, v = .int .i64 (kk : Int) ∧ kk < 50, fun v w => ∃ kk : Nat, v = .int .i64 (50 + (kk : Int)) ∧ kk < 50, fun v w => ∃ b : Nat, ∃ kk : Nat, v = .slice (some ⟨b, 0, none⟩) 4 4 ∧ w7.heap.size ≤ b ∧ Blk w b 3 #[.int .i64 (50 + (kk : Int)), .int .i64 1000000, .int .i64 0, .int .i64 1000001], fun v w => ∃ d : Nat, v = .slice (some ⟨d, 0, none⟩) 9 9 ∧ w7.heap.size ≤ d ∧ Blk w d 3 #[.int .i64 0, .int .i64 0, .int .i64 0, .int .i64 0, .int .i64 0, .int .i64 0, .int .i64 1, .int .i64 2, .int .i64 3], fun v w => v = .pointer (some ⟨g, 0, none⟩), fun v w => ∃ q9 : Nat, v = .int .i64 (q9 : Int) ∧ q9 < 9, fun v w => ∃ d : Nat, ∃ q9 : Nat, v = .pointer (some ⟨d, q9, none⟩) ∧ w7.heap.size ≤ d ∧ Blk w d 3 #[.int .i64 0, .int .i64 0, .int .i64 0, .int .i64 0, .int .i64 0, .int .i64 0, .int .i64 1, .int .i64 2, .int .i64 3] ∧ q9 < 9, fun v w => ∃ j : Nat, v = .int .i64 (j : Int) ∧ j < 4, fun v w => ∃ b : Nat, ∃ kk : Nat, ∃ j : Nat, v = .pointer (some ⟨b, j, none⟩) ∧ w7.heap.size ≤ b ∧ Blk w b 3 #[.int .i64 (50 + (kk : Int)), .int .i64 1000000, .int .i64 0, .int .i64 1000001] ∧ j < 4, fun v w => ∃ s : Int, v = .int .i64 s, fun v w => v = .slice A D.length c, fun _ _ => True, fun _ _ => True, fun v w => v = .int .i64 nn, fun v w => ∃ s : Int, v = .int .i64 s]) (by kernel_rfl) (by kernel_rfl) ?_ (pl_stab ⟨(fun _ _ _ h _ => h), (fun _ _ _ h _ => h), (fun _ _ _ h _ => h), (fun _ _ _ h _ => h), (fun _ _ _ h _ => h), (fun _ _ _ h _ => h), (fun _ _ _ h _ => h), (fun _ _ _ ⟨b, kk, hv, hbB, hbl⟩ hR => ⟨b, kk, hv, hbB, (hbl.chg hR (show ¬ (b = g ∨ b = w.heap.size ∨ b = w.heap.size + 1) by omega))⟩), (fun _ _ _ ⟨d, hv, hdB, hdl⟩ hR => ⟨d, hv, hdB, (hdl.chg hR (show ¬ (d = g ∨ d = w.heap.size ∨ d = w.heap.size + 1) by omega))⟩), (fun _ _ _ h _ => h), (fun _ _ _ h _ => h), (fun _ _ _ ⟨d, q9, hv, hdB, hdl, hq9⟩ hR => ⟨d, q9, hv, hdB, (hdl.chg hR (show ¬ (d = g ∨ d = w.heap.size ∨ d = w.heap.size + 1) by omega)), hq9⟩), (fun _ _ _ h _ => h), (fun _ _ _ ⟨b, kk, j, hv, hbB, hbl, hj⟩ hR => ⟨b, kk, j, hv, hbB, (hbl.chg hR (show ¬ (b = g ∨ b = w.heap.size ∨ b = w.heap.size + 1) by omega)), hj⟩), (fun _ _ _ h _ => h), (fun _ _ _ h _ => h), (fun _ _ _ _ _ => trivial), (fun _ _ _ _ _ => trivial), (fun _ _ _ h _ => h), (fun _ _ _ h _ => h), trivial⟩) ⟨(HR5.out.drew).more (by omega), (Chg.refl _ _).drew, Nat.zero_le _, .inl ⟨rfl, HB1.out.chg (Chg.refl NoB _).drew (fun x => x)⟩, .inl ⟨rfl, HB2.out.chg (Chg.refl NoB _).drew (fun x => x)⟩⟩ ?_ ?_
  · rintro c c' m w ⟨h1, h2, _, h5, h6⟩ h3 h4
    exact ⟨h1.more (by omega), h2, h4, h5, h6⟩
  · refine ⟨?_, ?_, ?_, ?_, ?_, ?_, ?_, ?_, ?_, ?_, ?_, ?_, ?_, ?_, ?_, ?_, ?_, ?_, ?_, ?_, trivial⟩
    · rintro kc m a w5 hkc ⟨hrd, hch, hcc, hst0, hst1⟩ hm hn
      obtain ⟨h0, -⟩ := hn
      have e0 : a.tmps[8]?.getD undef = .slice A D.length c := h0
      exact rg_val (v := .slice A D.length c) (by simp [execOp, go_sem, e0]) rfl ⟨hrd.more (by omega), hch, hkc, hst0.keep (by decide) hm (Chg.refl NoB _) (fun x => x), hst1.keep (by decide) hm (Chg.refl NoB _) (fun x => x)⟩ (Chg.refl _ _) rfl
    · rintro kc m a w5 hkc ⟨hrd, hch, hcc, hst0, hst1⟩ hm hn
      obtain ⟨h0, -⟩ := hn
      have e0 : a.tmps[9]?.getD undef = .pointer (some ⟨V, 0, none⟩) := h0
      have y0 := hch.cell t0 (show ¬ (V = g ∨ V = w.heap.size ∨ V = w.heap.size + 1) by omega)
      exact rg_val (v := .agg #[.slice A1 X.length c1]) (by simp [execOp, go_sem, e0, y0]) rfl ⟨hrd.more (by omega), hch, hkc, hst0.keep (by decide) hm (Chg.refl NoB _) (fun x => x), hst1.keep (by decide) hm (Chg.refl NoB _) (fun x => x)⟩ (Chg.refl _ _) rfl
    · rintro kc m a w5 hkc ⟨hrd, hch, hcc, hst0, hst1⟩ hm hn
      obtain ⟨h0, -⟩ := hn
      have e0 : a.tmps[10]?.getD undef = .pointer (some ⟨V + 1, 0, none⟩) := h0
      have y0 := hch.cell u0 (show ¬ (V + 1 = g ∨ V + 1 = w.heap.size ∨ V + 1 = w.heap.size + 1) by omega)
      have y1 := hch.cell u1 (show ¬ (V + 1 = g ∨ V + 1 = w.heap.size ∨ V + 1 = w.heap.size + 1) by omega)
      have y2 := hch.cell u2 (show ¬ (V + 1 = g ∨ V + 1 = w.heap.size ∨ V + 1 = w.heap.size + 1) by omega)
      exact rg_val (v := .agg #[.int .i64 a1, .int .i64 a2, .int .i64 a3]) (by simp [execOp, go_sem, e0, y0, y1, y2]) rfl ⟨hrd.more (by omega), hch, hkc, hst0.keep (by decide) hm (Chg.refl NoB _) (fun x => x), hst1.keep (by decide) hm (Chg.refl NoB _) (fun x => x)⟩ (Chg.refl _ _) rfl
    · rintro kc m a w5 hkc ⟨hrd, hch, hcc, hst0, hst1⟩ hm hn
      obtain ⟨h0, -⟩ := hn
      have e0 : a.tmps[11]?.getD undef = .int .i64 nn := h0
      exact rg_val (v := .int .i64 nn) (by simp [execOp, go_sem, e0]) rfl ⟨hrd.more (by omega), hch, hkc, hst0.keep (by decide) hm (Chg.refl NoB _) (fun x => x), hst1.keep (by decide) hm (Chg.refl NoB _) (fun x => x)⟩ (Chg.refl _ _) rfl
    · rintro kc m a w5 hkc ⟨hrd, hch, hcc, hst0, hst1⟩ hm hn
      obtain ⟨h0, -⟩ := hn
      have e0 : a.tmps[7]?.getD undef = .pointer (some ⟨g, 0, none⟩) := h0
      exact rg_val (v := .pointer (some ⟨g, 0, none⟩)) (by simp [execOp, go_sem, e0]) rfl ⟨hrd.more (by omega), hch, hkc, hst0.keep (by decide) hm (Chg.refl NoB _) (fun x => x), hst1.keep (by decide) hm (Chg.refl NoB _) (fun x => x)⟩ (Chg.refl _ _) rfl
    · rintro kc m a w5 hkc ⟨hrd, hch, hcc, hst0, hst1⟩ hm hn
      obtain ⟨⟨_, e0, m0, rfl⟩, -⟩ := hn
      refine rg_call (f := 63) (args := #[.pointer (some ⟨g, 0, none⟩), .int .i64 50]) (by simp [go_sem, e0]) rfl ?_
      refine (pick_any g _ 50 _ hrd (by omega) (by omega) (by omega)).mono ?_
      rintro e' w6 ⟨kk, rfl, hkk, hc6, hr6⟩
      exact ⟨_, rfl, ⟨hr6.more (by omega), hch.trans (hc6.mono (fun _ _ x => .inl x)), hkc, hst0.keep (by decide) hm hc6 (show ¬ (w.heap.size = g) by omega), hst1.keep (by decide) hm hc6 (show ¬ (w.heap.size + 1 = g) by omega)⟩, (hc6.mono (fun _ _ x => .inl x)), ⟨kk, rfl, (by omega)⟩⟩
    · rintro kc m a w5 hkc ⟨hrd, hch, hcc, hst0, hst1⟩ hm hn
      obtain ⟨⟨_, e0, m0, kk, rfl, hkk⟩, -⟩ := hn
      have hw1 : IntKind.i64.wrap (50 + (kk : Int)) = 50 + (kk : Int) := IntWalk.i64_in _ ⟨by omega, by omega⟩
      exact rg_val (v := .int .i64 (50 + (kk : Int))) (by simp [execOp, go_sem, e0, hw1]) rfl ⟨hrd.more (by omega), hch, hkc, hst0.keep (by decide) hm (Chg.refl NoB _) (fun x => x), hst1.keep (by decide) hm (Chg.refl NoB _) (fun x => x)⟩ (Chg.refl _ _) ⟨kk, rfl, hkk⟩
    · rintro kc m a w5 hkc ⟨hrd, hch, hcc, hst0, hst1⟩ hm hn
      obtain ⟨⟨_, e0, m0, kk, rfl, hkk⟩, -⟩ := hn
      have hca : Chg NoB w5 (w5.alloc (.cells #[.int .i64 (50 + (kk : Int)), .int .i64 1000000, .int .i64 0, .int .i64 1000001] 3)) := (Chg.refl _ _).alloc _
      exact rg_val (v := .slice (some ⟨w5.heap.size, 0, none⟩) 4 4) (w' := w5.alloc (.cells #[.int .i64 (50 + (kk : Int)), .int .i64 1000000, .int .i64 0, .int .i64 1000001] 3)) (by simp [execOp, go_sem, e0]) rfl ⟨(hrd.alloc _).more (by omega), hch.alloc _, hkc, hst0.keep (by decide) hm hca (fun x => x), hst1.keep (by decide) hm hca (fun x => x)⟩ (hca.mono (fun _ _ x => x.elim)) ⟨_, kk, rfl, hch.size, Blk.new _ _ _⟩
    · rintro kc m a w5 hkc ⟨hrd, hch, hcc, hst0, hst1⟩ hm hn
      have hca : Chg NoB w5 (w5.alloc (.cells #[.int .i64 0, .int .i64 0, .int .i64 0, .int .i64 0, .int .i64 0, .int .i64 0, .int .i64 1, .int .i64 2, .int .i64 3] 3)) := (Chg.refl _ _).alloc _
      exact rg_val (v := .slice (some ⟨w5.heap.size, 0, none⟩) 9 9) (w' := w5.alloc (.cells #[.int .i64 0, .int .i64 0, .int .i64 0, .int .i64 0, .int .i64 0, .int .i64 0, .int .i64 1, .int .i64 2, .int .i64 3] 3)) (by simp [execOp, go_sem]) rfl ⟨(hrd.alloc _).more (by omega), hch.alloc _, hkc, hst0.keep (by decide) hm hca (fun x => x), hst1.keep (by decide) hm hca (fun x => x)⟩ (hca.mono (fun _ _ x => x.elim)) ⟨_, rfl, hch.size, Blk.new _ _ _⟩
    · rintro kc m a w5 hkc ⟨hrd, hch, hcc, hst0, hst1⟩ hm hn
      obtain ⟨h0, -⟩ := hn
      have e0 : a.tmps[7]?.getD undef = .pointer (some ⟨g, 0, none⟩) := h0
      exact rg_val (v := .pointer (some ⟨g, 0, none⟩)) (by simp [execOp, go_sem, e0]) rfl ⟨hrd.more (by omega), hch, hkc, hst0.keep (by decide) hm (Chg.refl NoB _) (fun x => x), hst1.keep (by decide) hm (Chg.refl NoB _) (fun x => x)⟩ (Chg.refl _ _) rfl
    · rintro kc m a w5 hkc ⟨hrd, hch, hcc, hst0, hst1⟩ hm hn
      obtain ⟨⟨_, e0, m0, rfl⟩, -⟩ := hn
      refine rg_call (f := 63) (args := #[.pointer (some ⟨g, 0, none⟩), .int .i64 9]) (by simp [go_sem, e0]) rfl ?_
      refine (pick_any g _ 9 _ hrd (by omega) (by omega) (by omega)).mono ?_
      rintro e' w6 ⟨q9, rfl, hq9, hc6, hr6⟩
      exact ⟨_, rfl, ⟨hr6.more (by omega), hch.trans (hc6.mono (fun _ _ x => .inl x)), hkc, hst0.keep (by decide) hm hc6 (show ¬ (w.heap.size = g) by omega), hst1.keep (by decide) hm hc6 (show ¬ (w.heap.size + 1 = g) by omega)⟩, (hc6.mono (fun _ _ x => .inl x)), ⟨q9, rfl, (by omega)⟩⟩
    · rintro kc m a w5 hkc ⟨hrd, hch, hcc, hst0, hst1⟩ hm hn
      obtain ⟨⟨_, e0, m0, d, rfl, hdB, hdl⟩, ⟨_, e1, m1, q9, rfl, hq9⟩, -⟩ := hn
      have hq9' : (q9 : Int) < 9 := by omega
      exact rg_val (v := .pointer (some ⟨d, q9, none⟩)) (by simp [execOp, go_sem, e0, e1]; exact fun hh => absurd hh (by omega)) rfl ⟨hrd.more (by omega), hch, hkc, hst0.keep (by decide) hm (Chg.refl NoB _) (fun x => x), hst1.keep (by decide) hm (Chg.refl NoB _) (fun x => x)⟩ (Chg.refl _ _) ⟨d, q9, rfl, hdB, hdl, hq9⟩
    · rintro kc m a w5 hkc ⟨hrd, hch, hcc, hst0, hst1⟩ hm hn
      obtain ⟨⟨_, e0, m0, d, q9, rfl, hdB, hdl, hq9⟩, -⟩ := hn
      obtain ⟨j, y0, hj⟩ : ∃ j : Nat, w5.cell? ⟨d, q9, none⟩ = some (.int .i64 (j : Int)) ∧ j < 4 := by
        rw [hdl.cell]
        rcases (show q9 = 0 ∨ q9 = 1 ∨ q9 = 2 ∨ q9 = 3 ∨ q9 = 4 ∨ q9 = 5 ∨ q9 = 6 ∨ q9 = 7 ∨ q9 = 8 by omega) with rfl | rfl | rfl | rfl | rfl | rfl | rfl | rfl | rfl
        all_goals first | exact ⟨0, rfl, by omega⟩ | exact ⟨1, rfl, by omega⟩ | exact ⟨2, rfl, by omega⟩ | exact ⟨3, rfl, by omega⟩
      exact rg_val (v := .int .i64 (j : Int)) (by simp [execOp, go_sem, e0, y0]) rfl ⟨hrd.more (by omega), hch, hkc, hst0.keep (by decide) hm (Chg.refl NoB _) (fun x => x), hst1.keep (by decide) hm (Chg.refl NoB _) (fun x => x)⟩ (Chg.refl _ _) ⟨j, rfl, hj⟩
    · rintro kc m a w5 hkc ⟨hrd, hch, hcc, hst0, hst1⟩ hm hn
      obtain ⟨⟨_, e0, m0, b, kk, rfl, hbB, hbl⟩, ⟨_, e1, m1, j, rfl, hj⟩, -⟩ := hn
      have hj' : (j : Int) < 4 := by omega
      exact rg_val (v := .pointer (some ⟨b, j, none⟩)) (by simp [execOp, go_sem, e0, e1]; exact fun hh => absurd hh (by omega)) rfl ⟨hrd.more (by omega), hch, hkc, hst0.keep (by decide) hm (Chg.refl NoB _) (fun x => x), hst1.keep (by decide) hm (Chg.refl NoB _) (fun x => x)⟩ (Chg.refl _ _) ⟨b, kk, j, rfl, hbB, hbl, hj⟩
    · rintro kc m a w5 hkc ⟨hrd, hch, hcc, hst0, hst1⟩ hm hn
      obtain ⟨⟨_, e0, m0, b, kk, j, rfl, hbB, hbl, hj⟩, -⟩ := hn
      obtain ⟨s, y0⟩ : ∃ s : Int, w5.cell? ⟨b, j, none⟩ = some (.int .i64 s) := by
        rw [hbl.cell]
        rcases (show j = 0 ∨ j = 1 ∨ j = 2 ∨ j = 3 by omega) with rfl | rfl | rfl | rfl <;> exact ⟨_, rfl⟩
      exact rg_val (v := .int .i64 s) (by simp [execOp, go_sem, e0, y0]) rfl ⟨hrd.more (by omega), hch, hkc, hst0.keep (by decide) hm (Chg.refl NoB _) (fun x => x), hst1.keep (by decide) hm (Chg.refl NoB _) (fun x => x)⟩ (Chg.refl _ _) ⟨s, rfl⟩
    · rintro kc m a w5 hkc ⟨hrd, hch, hcc, hst0, hst1⟩ hm hn
      obtain ⟨⟨_, e0, m0, rfl⟩, -⟩ := hn
      exact rg_val (v := .slice A D.length c) (by simp [execOp, go_sem, e0]) rfl ⟨hrd.more (by omega), hch, hkc, hst0.keep (by decide) hm (Chg.refl NoB _) (fun x => x), hst1.keep (by decide) hm (Chg.refl NoB _) (fun x => x)⟩ (Chg.refl _ _) rfl
    · rintro kc m a w5 hkc ⟨hrd, hch, hcc, hst0, hst1⟩ hm hn
      obtain ⟨h0, ⟨_, e1, m1, rfl⟩, -⟩ := hn
      have e0 : a.tmps[3]?.getD undef = .pointer (some ⟨w.heap.size, 0, none⟩) := h0
      have hb := hst0.ready hm
      have f0 := hb.frozen 0
      have x0 : w5.cell? ⟨w.heap.size, 0, none⟩ = some (.slice none 0 0) := (hb.cell _).trans rfl
      have hs : Chg (· = w.heap.size) w5 (w5.setCell ⟨w.heap.size, 0, none⟩ (.slice A1 X.length c1)) := ((Chg.refl (· = w.heap.size) w5).setCell (p := ⟨w.heap.size, 0, none⟩) (.inl rfl) _)
      have hb' : Blk (w5.setCell ⟨w.heap.size, 0, none⟩ (.slice A1 X.length c1)) (w.heap.size) 31 #[.slice A1 X.length c1] := (hb.set_ 0 _)
      exact rg_skip (w' := (w5.setCell ⟨w.heap.size, 0, none⟩ (.slice A1 X.length c1))) (by simp [execOp, go_sem, e0, e1, x0, f0]) rfl ⟨(hrd.val hb (by intro v hv b; simp at hv; try (rcases hv with rfl | rfl | rfl); all_goals (first | (subst hv; simp) | simp)) (by omega) hs).more (by omega), hch.trans (hs.mono (fun _ _ x => .inr (.inl x))), hkc, StI.store (by decide) m1 hb', hst1.keep (by decide) hm hs (fun he => absurd (show w.heap.size + 1 = w.heap.size from he) (by omega))⟩ (hs.mono (fun _ _ x => .inr (.inl x))) trivial
    · rintro kc m a w5 hkc ⟨hrd, hch, hcc, hst0, hst1⟩ hm hn
      obtain ⟨h0, ⟨_, e1, m1, rfl⟩, -⟩ := hn
      have e0 : a.tmps[4]?.getD undef = .pointer (some ⟨w.heap.size + 1, 0, none⟩) := h0
      have hb := hst1.ready hm
      have f0 := hb.frozen 0
      have x0 : w5.cell? ⟨w.heap.size + 1, 0, none⟩ = some (.int .i64 0) := (hb.cell _).trans rfl
      have f1 := hb.frozen 1
      have x1 : w5.cell? ⟨w.heap.size + 1, 1, none⟩ = some (.int .i64 0) := (hb.cell _).trans rfl
      have f2 := hb.frozen 2
      have x2 : w5.cell? ⟨w.heap.size + 1, 2, none⟩ = some (.int .i64 0) := (hb.cell _).trans rfl
      have hs : Chg (· = w.heap.size + 1) w5 (((w5.setCell ⟨w.heap.size + 1, 0, none⟩ (.int .i64 a1)).setCell ⟨w.heap.size + 1, 1, none⟩ (.int .i64 a2)).setCell ⟨w.heap.size + 1, 2, none⟩ (.int .i64 a3)) := ((((Chg.refl (· = w.heap.size + 1) w5).setCell (p := ⟨w.heap.size + 1, 0, none⟩) (.inl rfl) _).setCell (p := ⟨w.heap.size + 1, 1, none⟩) (.inl rfl) _).setCell (p := ⟨w.heap.size + 1, 2, none⟩) (.inl rfl) _)
      have hb' : Blk (((w5.setCell ⟨w.heap.size + 1, 0, none⟩ (.int .i64 a1)).setCell ⟨w.heap.size + 1, 1, none⟩ (.int .i64 a2)).setCell ⟨w.heap.size + 1, 2, none⟩ (.int .i64 a3)) (w.heap.size + 1) 46 #[.int .i64 a1, .int .i64 a2, .int .i64 a3] := (((hb.set_ 0 _).set_ 1 _).set_ 2 _)
      exact rg_skip (w' := (((w5.setCell ⟨w.heap.size + 1, 0, none⟩ (.int .i64 a1)).setCell ⟨w.heap.size + 1, 1, none⟩ (.int .i64 a2)).setCell ⟨w.heap.size + 1, 2, none⟩ (.int .i64 a3))) (by simp [execOp, go_sem, e0, e1, x0, x1, x2, f0, f1, f2]) rfl ⟨(hrd.val hb (by intro v hv b; simp at hv; try (rcases hv with rfl | rfl | rfl); all_goals (first | (subst hv; simp) | simp)) (by omega) hs).more (by omega), hch.trans (hs.mono (fun _ _ x => .inr (.inr x))), hkc, hst0.keep (by decide) hm hs (fun he => absurd (show w.heap.size = w.heap.size + 1 from he) (by omega)), StI.store (by decide) m1 hb'⟩ (hs.mono (fun _ _ x => .inr (.inr x))) trivial
    · rintro kc m a w5 hkc ⟨hrd, hch, hcc, hst0, hst1⟩ hm hn
      obtain ⟨⟨_, e0, m0, rfl⟩, -⟩ := hn
      exact rg_val (v := .int .i64 nn) (by simp [execOp, go_sem, e0]) rfl ⟨hrd.more (by omega), hch, hkc, hst0.keep (by decide) hm (Chg.refl NoB _) (fun x => x), hst1.keep (by decide) hm (Chg.refl NoB _) (fun x => x)⟩ (Chg.refl _ _) rfl
    · rintro kc m a w5 hkc ⟨hrd, hch, hcc, hst0, hst1⟩ hm hn
      obtain ⟨⟨_, e0, m0, s, rfl⟩, -⟩ := hn
      exact rg_val (v := .int .i64 s) (by simp [execOp, go_sem, e0]) rfl ⟨hrd.more (by omega), hch, hkc, hst0.keep (by decide) hm (Chg.refl NoB _) (fun x => x), hst1.keep (by decide) hm (Chg.refl NoB _) (fun x => x)⟩ (Chg.refl _ _) ⟨s, rfl⟩
  rintro m w5 ⟨hrd, hch, -, hst0, hst1⟩
  simp only [AllVals]
  rintro q0 m0 p0 q1 m1 p1 q2 m2 p2 q3 m3 p3 q4 m4 p4 q5 m5 p5 q6 m6 p6 q7 m7 p7 q8 m8 p8 q9 m9 p9 q10 m10 p10 q11 m11 p11 q12 m12 p12 q13 m13 p13 q14 m14 p14 q15 m15 p15 q16 m16 p16 q17 m17 p17 q18 m18 p18 q19 m19 p19
  obtain rfl := p1
  obtain rfl := p2
  obtain rfl := p15
  obtain rfl := p18
  obtain ⟨s, rfl⟩ := p19
  have hb1 : Blk w5 (w.heap.size) 31 #[.slice A1 X.length c1] := hst0.done m16 m1
  have hb2 : Blk w5 (w.heap.size + 1) 46 #[.int .i64 a1, .int .i64 a2, .int .i64 a3] := hst1.done m17 m2
  have r0 : w5.cell? ⟨w.heap.size, 0, none⟩ = some (.slice A1 X.length c1) := (hb1.cell _).trans rfl
  have r1 : w5.cell? ⟨w.heap.size + 1, 0, none⟩ = some (.int .i64 a1) := (hb2.cell _).trans rfl
  have r2 : w5.cell? ⟨w.heap.size + 1, 1, none⟩ = some (.int .i64 a2) := (hb2.cell _).trans rfl
  have r3 : w5.cell? ⟨w.heap.size + 1, 2, none⟩ = some (.int .i64 a3) := (hb2.cell _).trans rfl
  have HCR := Lib.hid hch
  clear hch hrd hb1 hb2 t0 u0 u1 u2 hst0 hst1
  clear p0 p3 p4 p5 p6 p7 p8 p9 p10 p11 p12 p13 p14 p16 p17
  simp only [Act.put, List.setIfInBounds_toArray, List.set_cons_succ, List.set_cons_zero]
  go_wp2_with fail
  (try simp only [Exit.inBlock, Exit.then])
  refine bodyPost_ret (v := .tuple #[.slice A D.length c, .agg #[.slice A1 X.length c1], .agg #[.int .i64 a1, .int .i64 a2, .int .i64 a3], .int .i64 nn, .int .i64 s]) (by simp [results, Try.results33, go_sem, *]) rfl ?_
  have hw0 : w.heap.size + 1 < w2.heap.size := by omega
  refine ⟨A, c, D, A1, c1, X, ⟨a1, a2, a3⟩, nn, s, rfl, ⟨?_, hlc, h13, HDB.out⟩, ⟨?_, HX.out.1, HX.out.2⟩, ?_⟩
  · exact (HRD.out.chg HCR.out (fun i h1 h2 => by rcases h2 with h2 | h2 | h2 <;> omega)).mono (fun i _ h => by omega)
  · exact (HT.out.chg HCR.out (fun i h1 h2 => by rcases h2 with h2 | h2 | h2 <;> omega)).mono (fun i _ h => by omega)
  · exact HCC.out.trans' HCR.out (fun i hi => .inr (by rcases hi with h2 | h2 | h2 <;> omega))
end Go.Proofs.Ytpiojofmflfkkaa
