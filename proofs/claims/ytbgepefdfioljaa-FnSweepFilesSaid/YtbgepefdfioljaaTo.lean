/- TablePut of the reference, on a table that is valid. -/
import Derived.Test.YtbgepefdfioljaaTn
import Derived.Test.YtbgepefdfioljaaTk
namespace Go.Proofs.Ytbgepefdfioljaa
open Go.RowKit
def PutP (w : World) (e : Ending) (w' : World) : Prop := ∃ A c T b, e = .returned (.tuple #[.agg #[.slice A 8 c], .bool b]) ∧ tabOk (listsOf T) ∧ Chg NoB w w' ∧ TabO w.heap.size w'.heap.size w' A c T
set_option maxRecDepth 100000 in
set_option maxHeartbeats 1000000 in
theorem TablePut_any (F : Nat → Prop) (A : Option Addr) (c : Nat) (X : List (List Int)) (w : World) (h : TabR F w A X) (hX : tabOk X) (f k v : Nat) (hf : f < 8) (hk : k < 6) (hv : v < 48) :
    Calls Try.prog 78 #[.agg #[.slice A 8 c], .int .i64 f, .int .i64 k, .int .i64 v] w (PutP w) := by
  obtain ⟨hb1, hb2, hcb⟩ := lit2 w 39 39 #[.slice A 8 c] #[.slice none 0 0]
  have HB1 := Lib.hid hb1
  have HB2 := Lib.hid hb2
  have HC0 := Lib.hid hcb
  have h0 := Lib.hid (h.lt.new hcb)
  have HX := Lib.hid hX
  have HS := Lib.hid (tabOk_small hX)
  have hcv := sTableValid_any _ A c X _ h0.out HS.out.2.1 HS.out.2.2
  rw [hX.1] at hcv
  have HCV := Lib.hid hcv
  have hi0 : (0 : Int) ≤ (f : Int) := Int.natCast_nonneg _
  have hi1 : (f : Int) < 8 := by omega
  have hk0 : (0 : Int) ≤ (k : Int) := Int.natCast_nonneg _
  have hk1 : (k : Int) < 6 := by omega
  have hv0 : (0 : Int) ≤ (v : Int) := Int.natCast_nonneg _
  have hv1 : (v : Int) < 48 := by omega
  clear hb1 hb2 hcb hX hcv
  go_enter Try.func78, Try.ntmps78
  go_wp2_with fail
  refine HCV.out.mono ?_
  rintro e w1 ⟨r, rfl, hr, hc1⟩
  obtain rfl : r = true := hr.2 HX.out
  have HC1 := Lib.hid (HC0.out.trans hc1)
  have HA1 := Lib.hid (HB1.out.chg hc1 (fun x => x))
  have HR1 := Lib.hid (HB2.out.chg hc1 (fun x => x))
  have HT1 := Lib.hid (h0.out.new hc1)
  have x0 : w1.cell? ⟨w.heap.size, 0, none⟩ = some (.slice A 8 c) := (HA1.out.cell _).trans rfl
  clear hr hc1 HCV
  go_wp2_with fail
  refine (l1In_t (f : Int) 0 7 _ ⟨by omega, by omega⟩).mono ?_
  rintro e w' ⟨rfl, rfl⟩
  go_wp2_with fail
  refine (l1In_t (k : Int) 0 5 _ ⟨by omega, by omega⟩).mono ?_
  rintro e w' ⟨rfl, rfl⟩
  go_wp2_with fail
  refine (l1In_t (v : Int) (-1) 47 _ ⟨by omega, by omega⟩).mono ?_
  rintro e w' ⟨rfl, rfl⟩
  have hcc := l7Copy_any _ A c X _ HT1.out HX.out
  rw [HX.out.1] at hcc
  have HCC := Lib.hid hcc
  clear hcc
  go_wp2_with fail
  refine HCC.out.mono ?_
  rintro e w2 ⟨A1, c1, T1, rfl, hT1, hc2, hO1⟩
  have HC2 := Lib.hid (HC1.out.trans hc2)
  have HA2 := Lib.hid (HA1.out.chg hc2 (fun x => x))
  have HR2 := Lib.hid (HR1.out.chg hc2 (fun x => x))
  have HT2 := Lib.hid (HT1.out.new hc2)
  have HS2 := Lib.hid hc2.size
  have HRL := Lib.hid HR1.out.lt
  have hca := (Chg.refl NoB w2).alloc (.cells #[.slice A1 8 c1] 39)
  have hbV := Blk.new w2 39 #[.slice A1 8 c1]
  obtain ⟨wa, hwa⟩ : ∃ wa, w2.alloc (.cells #[.slice A1 8 c1] 39) = wa := ⟨_, rfl⟩
  have hsa : wa.heap.size = w2.heap.size + 1 := by rw [← hwa, World.size_alloc]
  have hOa := hO1.new hca
  have hT8 : T1.length = 8 := by rw [← listsOf_length, hT1]; exact HX.out.1
  have hfT : f < T1.length := by omega
  have hfX : f < X.length := by rw [HX.out.1]; exact hf
  have h6 : X[f].length = 6 := (HX.out.2 f hfX).1
  have hxs : T1[f].xs = X[f] := by
    have h1 : (listsOf T1)[f]'(by rw [listsOf_length]; exact hfT) = T1[f].xs := by simp [listsOf]
    rw [← h1]; simp [hT1]
  have hl6 : T1[f].xs.length = 6 := by rw [hxs, h6]
  obtain ⟨ad, he, hB1, hE1, hcell⟩ := hOa.at_ hfT
  subst he
  rw [hl6] at hcell
  have hok := hOa.2.1 T1[f] (List.getElem_mem hfT)
  have hrc := row_cell hok.2.2.1 (k := k) (by omega)
  have hrf := hok.2.2.1.frozen k
  have hstore := row_store hok.2.2.1 (k := k) (by omega) (v : Int)
  have hcs := (Chg.refl (· = T1[f].g) (w2.alloc (.cells #[.slice (some ad) 8 c1] 39))).setCell (p := ⟨T1[f].g, k, none⟩) (.inl rfl) (.int .i64 (v : Int))
  have HG := Lib.hid (show w1.heap.size ≤ T1[f].g ∧ T1[f].g < w2.heap.size from ⟨hok.1, hok.2.1⟩)
  have hN := hOa.setRow hfT hcs (by rw [List.length_set]) hstore
  obtain ⟨X2, hX2⟩ : ∃ X2, X.set f (X[f].set k (v : Int)) = X2 := ⟨_, rfl⟩
  have hL : listsOf (T1.set f ⟨T1[f].g, T1[f].c, T1[f].xs.set k (v : Int), T1[f].rest⟩) = X2 := by rw [rows_lists, hT1, ← hX2]; simp only; rw [hxs]
  have hX28 : X2.length = 8 := by rw [← hX2, List.length_set]; exact HX.out.1
  have hX2r : ∀ r ∈ X2, r.length ≤ 9223372036854775807 := fun r hr => by
    rw [← hX2] at hr
    rcases List.mem_or_eq_of_mem_set hr with h1 | rfl
    · exact HS.out.2.2 r h1
    · rw [List.length_set, h6]; omega
  have hrd := hN.reads
  rw [hL] at hrd
  have hcv := sTableValid_any _ (some ad) c1 X2 _ hrd (by omega) hX2r
  rw [hX28] at hcv
  obtain ⟨gf, hgf⟩ : ∃ gf, T1[f].g = gf := ⟨_, rfl⟩
  obtain ⟨xk, hxk⟩ : ∃ xk, T1[f].xs[k]'(by omega) = xk := ⟨_, rfl⟩
  obtain ⟨cf, hcf⟩ : ∃ cf, T1[f].c = cf := ⟨_, rfl⟩
  obtain ⟨Tn, hTn⟩ : ∃ Tn, T1.set f ⟨T1[f].g, T1[f].c, T1[f].xs.set k (v : Int), T1[f].rest⟩ = Tn := ⟨_, rfl⟩
  rw [hTn] at hN hL
  rw [hgf, hcf] at hcell
  rw [hgf, hxk] at hrc
  rw [hgf] at hrf HG hcs hcv hN
  have vV := (hcs.cell ((hbV.cell 0).trans (show _ = some (Value.slice (some ad) 8 c1) from rfl)) (by simp only; have := HG.out; omega) : _)
  rw [hwa] at hca hbV hcs hcv hN
  have HWA := Lib.hid hwa
  have HCA := Lib.hid hca
  have HBV := Lib.hid hbV
  have HSA := Lib.hid hsa
  have HCS := Lib.hid hcs
  have HCV := Lib.hid hcv
  have HN := Lib.hid hN
  have HL := Lib.hid hL
  clear hwa hca hbV hsa hcs hcv hN hL hOa hT8 hfX h6 hxs hl6 hB1 hE1 hok hstore hX2 hX28 hX2r hrd hTn hgf hxk hcf hT1 hc2 hO1 x0
  go_wp2_with fail
  rw [HWA.out]
  refine HCV.out.mono ?_
  rintro e w6 ⟨r2, rfl, hr2, hc6⟩
  have HRR := Lib.hid hr2
  have HC6 := Lib.hid hc6
  have hg := HG.out
  have hrl := HRL.out
  have hs2 := HS2.out
  have hA6 := ((HA2.out.chg HCA.out (fun x => x)).chg HCS.out (by have := HA2.out.lt; omega)).chg hc6 (fun x => x)
  have hR6 := ((HR2.out.chg HCA.out (fun x => x)).chg HCS.out (by omega)).chg hc6 (fun x => x)
  have hV6 := (HBV.out.chg HCS.out (by omega)).chg hc6 (fun x => x)
  have v6 : w6.cell? ⟨w2.heap.size, 0, none⟩ = some (.slice (some ad) 8 c1) := (hV6.cell _).trans rfl
  have a6 : w6.cell? ⟨w.heap.size, 0, none⟩ = some (.slice A 8 c) := (hA6.cell _).trans rfl
  have r6 : w6.cell? ⟨w.heap.size + 1, 0, none⟩ = some (.slice none 0 0) := (hR6.cell _).trans rfl
  have rf6 := hR6.frozen 0
  have HR6 := Lib.hid hR6
  have hC6 : Chg NoB w w6 := ((HC2.out.trans HCA.out).trans' HCS.out (fun i hi => .inr (by omega))).trans hc6
  have HC7 := Lib.hid hC6
  have HT6 := Lib.hid (((HT2.out.new HCA.out).chg HCS.out (fun i hi he => by have := hi.2; omega)).new hc6)
  have HN6 := Lib.hid (HN.out.new hc6)
  have HSC := Lib.hid (show w.heap.size ≤ w1.heap.size from by omega)
  have HS6 := Lib.hid (show w2.heap.size ≤ w6.heap.size from by have h1 := HCA.out.size; have h2 := HCS.out.size; have h3 := hc6.size; omega)
  clear hr2 hc6 hg hrl hs2 hA6 hR6 hV6 hC6 vV hcell hrc hrf
  cases r2
  · have hcc := l7Copy_any _ A c X _ HT6.out HX.out
    rw [HX.out.1] at hcc
    have HCC := Lib.hid hcc
    clear hcc
    go_wp2_with fail
    refine HCC.out.mono ?_
    rintro e w7 ⟨A7, c7, T7, rfl, hT7, hc7, hO7⟩
    have HO7 := Lib.hid hO7
    have HT7 := Lib.hid hT7
    have HCF := Lib.hid (HC7.out.trans hc7)
    have hR7 := HR6.out.chg hc7 (fun x => x)
    have r7 : w7.cell? ⟨w.heap.size + 1, 0, none⟩ = some (.slice none 0 0) := (hR7.cell _).trans rfl
    have rf7 := hR7.frozen 0
    have HRL7 := Lib.hid HR6.out.lt
    clear hR7 hc7 hO7 hT7 r6 rf6 a6 v6
    go_wp2_with fail
    (try simp only [Exit.inBlock, Exit.then])
    refine bodyPost_ret (v := .tuple #[.agg #[.slice A7 8 c7], .bool false]) (by simp [results, Try.results78, go_sem, *]) rfl ?_
    have hcs : Chg (· = w.heap.size + 1) w7 (w7.setCell ⟨w.heap.size + 1, 0, none⟩ (.slice A7 8 c7)) := (Chg.refl (· = w.heap.size + 1) w7).setCell (p := ⟨w.heap.size + 1, 0, none⟩) (.inl rfl) _
    have hss : (w7.setCell ⟨w.heap.size + 1, 0, none⟩ (.slice A7 8 c7)).heap.size = w7.heap.size := World.size_setCell _ _ _
    have hrl7 := HRL7.out
    refine ⟨A7, c7, T7, false, rfl, by rw [HT7.out]; exact HX.out, HCF.out.own hcs (Nat.le_succ _), ?_⟩
    exact (HO7.out.chg hcs (fun i h1 h2 h3 => by omega)).more (by omega) (by rw [hss]; omega)
  · go_wp2_with fail
    (try simp only [Exit.inBlock, Exit.then])
    refine bodyPost_ret (v := .tuple #[.agg #[.slice (some ad) 8 c1], .bool true]) (by simp [results, Try.results78, go_sem, *]) rfl ?_
    have hcs : Chg (· = w.heap.size + 1) w6 (w6.setCell ⟨w.heap.size + 1, 0, none⟩ (.slice (some ad) 8 c1)) := (Chg.refl (· = w.heap.size + 1) w6).setCell (p := ⟨w.heap.size + 1, 0, none⟩) (.inl rfl) _
    have hss : (w6.setCell ⟨w.heap.size + 1, 0, none⟩ (.slice (some ad) 8 c1)).heap.size = w6.heap.size := World.size_setCell _ _ _
    have hrl := HRL.out
    have hsc := HSC.out
    have hs6 := HS6.out
    refine ⟨some ad, c1, Tn, true, rfl, by rw [HL.out]; exact HRR.out.1 (by simp), HC7.out.own hcs (Nat.le_succ _), ?_⟩
    exact (HN6.out.chg hcs (fun i h1 h2 h3 => by omega)).more (by omega) (by rw [hss]; omega)
end Go.Proofs.Ytbgepefdfioljaa
