/- TableGet of the program; DrawSweepFiles; the law FnSweepFiles: the walk. -/
import Derived.Test.YtbgepefdfioljaaTd
import Derived.Test.YtbgepefdfioljaaTq
import Derived.Test.YtbgepefdfioljaaKh
namespace Go.Proofs.Ytbgepefdfioljaa
open Go.RowKit
def tg (X : List (List Int)) (f p : Nat) : Int := (X[f]?.getD [])[p]?.getD 0
theorem tg_eq {X : List (List Int)} {f p : Nat} (h : f < X.length) (h2 : p < X[f].length) : tg X f p = X[f][p] := by
  unfold tg
  rw [List.getElem?_eq_getElem h]
  simp [h2]
set_option maxRecDepth 100000 in
set_option maxHeartbeats 1000000 in
theorem iTableGet_any (F : Nat → Prop) (A : Option Addr) (c : Nat) (X : List (List Int)) (w : World) (h : TabR F w A X) (hX : tabOk X) (f p : Nat) (hf : f < 8) (hp : p < 6) :
    Calls Try.prog 43 #[.agg #[.slice A X.length c], .int .i64 f, .int .i64 p] w fun e w' => e = .returned (.int .i64 (tg X f p)) ∧ Chg NoB w w' := by
  have hca := (Chg.refl NoB w).alloc (.cells #[.slice A X.length c] 39)
  have HB := Lib.hid (Blk.new w 39 #[.slice A X.length c])
  have HT := Lib.hid (h.lt.new hca)
  have HC := Lib.hid hca
  have HX := Lib.hid hX
  have HL8 := Lib.hid hX.1
  have i0 : (0 : Int) ≤ (f : Int) := Int.natCast_nonneg _
  have i1 : (f : Int) < 8 := by omega
  have i2 : ¬ ((f : Int) < 0) := by omega
  have i3 : ¬ ((8 : Int) ≤ (f : Int)) := by omega
  have j0 : (0 : Int) ≤ (p : Int) := Int.natCast_nonneg _
  have j1 : (p : Int) < 6 := by omega
  have j2 : ¬ ((p : Int) < 0) := by omega
  have j3 : ¬ ((5 : Int) < (p : Int)) := by omega
  clear h hca hX
  go_enter Try.func43, Try.ntmps43
  go_wp2_with fail
  refine (iTableValid_any _ A c X _ HT.out).mono ?_
  rintro e w1 ⟨r, rfl, hr, hc1⟩
  obtain rfl : r = true := hr.2 HX.out
  have hb1 := HB.out.chg hc1 (fun x => x)
  have x0 : w1.cell? ⟨w.heap.size, 0, none⟩ = some (.slice A X.length c) := (hb1.cell _).trans rfl
  have hfl : f < X.length := by rw [HL8.out]; exact hf
  have h6 : X[f].length = 6 := (HX.out.2 f hfl).1
  obtain ⟨ad, B, c', rfl, hF, hcell, hrd, -⟩ := (HT.out.new hc1) f hfl
  obtain ⟨ad2, rfl, -, hb2, hck⟩ := ints_at hrd (k := p) (by omega)
  have HC1 := Lib.hid (HC.out.trans hc1)
  have HEQ := Lib.hid (tg_eq hfl (by omega : p < X[f].length))
  rw [h6] at hcell
  rw [HL8.out] at x0 ⊢
  generalize X[f][p]'(by omega) = x at hck HEQ
  clear hr hb1 hc1 hrd h6
  go_wp2
  go_ret
  exact ⟨by rw [HEQ.out]; rfl, HC1.out⟩
theorem sweepN_row {X : List (List Int)} {ls : List Lk} (hX : X.length = 8) (hl : ls.length = 8) {f : Nat} (hf : f < 8) (n : Nat) :
    (sweepN X ls n)[f]? = if f < n ∧ (ls[f]?.map fun l => decide (l.names = 0 ∧ l.opens = 0)) = some true then some (List.replicate 6 (-1)) else X[f]? := by
  induction n with
  | zero => simp [sweepN]
  | succ n ih =>
    by_cases hn : n < ls.length
    · by_cases hz : ls[n].names = 0 ∧ ls[n].opens = 0
      · rw [sweepN_hit hn hz.1 hz.2]
        by_cases he : f = n
        · subst he
          have hlen : f < (sweepN X ls f).length := by
            have : ∀ m, (sweepN X ls m).length = 8 := by
              intro m
              induction m with
              | zero => exact hX
              | succ m ihm => unfold sweepN; split <;> (try split) <;> simp [ihm]
            rw [this]; exact hf
          rw [List.getElem?_set_self hlen]
          rw [if_pos ⟨by omega, by rw [List.getElem?_eq_getElem hn]; simp [hz]⟩]
        · rw [List.getElem?_set_ne (Ne.symm he), ih]
          by_cases h1 : f < n
          · have h2 : f < n + 1 := by omega
            simp only [h1, h2]
          · have h2 : ¬ f < n + 1 := by omega
            simp only [h1, h2]
      · rw [sweepN_miss hn hz, ih]
        by_cases he : f = n
        · subst he
          rw [if_neg (fun hh => by omega), if_neg]
          rintro ⟨-, hh⟩
          rw [List.getElem?_eq_getElem hn] at hh
          simp at hh
          exact hz hh
        · by_cases h1 : f < n
          · have h2 : f < n + 1 := by omega
            simp only [h1, h2]
          · have h2 : ¬ f < n + 1 := by omega
            simp only [h1, h2]
    · have : sweepN X ls (n + 1) = sweepN X ls n := by rw [show sweepN X ls (n + 1) = _ from rfl]; simp only [sweepN]; rw [List.getElem?_eq_none (by omega)]
      rw [this, ih]
      have h1 : f < n := by omega
      have h2 : f < n + 1 := by omega
      simp only [h1, h2]
theorem sweep_hit {X : List (List Int)} {ls : List Lk} (hX : X.length = 8) (hl : ls.length = 8) {f : Nat} (hf : f < 8) (hz : ls[f].names = 0 ∧ ls[f].opens = 0) {p : Nat} (hp : p < 6) : tg (sweepN X ls 8) f p = -1 := by
  unfold tg
  rw [sweepN_row hX hl hf, if_pos ⟨hf, by rw [List.getElem?_eq_getElem (by omega)]; simp [hz]⟩]
  show ((List.replicate 6 (-1 : Int))[p]?).getD 0 = -1
  rw [List.getElem?_replicate, if_pos hp]
  rfl
theorem sweep_miss {X : List (List Int)} {ls : List Lk} (hX : X.length = 8) (hl : ls.length = 8) {f : Nat} (hf : f < 8) (hz : ¬ (ls[f].names = 0 ∧ ls[f].opens = 0)) (p : Nat) : tg (sweepN X ls 8) f p = tg X f p := by
  unfold tg
  rw [sweepN_row hX hl hf, if_neg]
  rintro ⟨-, hh⟩
  rw [List.getElem?_eq_getElem (by omega)] at hh
  simp at hh
  exact hz hh
def SwDraw (w : World) (e : Ending) (w' : World) : Prop :=
  ∃ A c X A' c' ls, e = .returned (.tuple #[.agg #[.slice A (X : List (List Int)).length c], .slice A' (ls : List Lk).length c']) ∧
    (TabR (fun i => w.heap.size ≤ i) w' A X ∧ X.length ≤ 8 ∧ ∀ r ∈ X, r.length ≤ 6) ∧ (Rd (fun i => w.heap.size ≤ i) w' A' (lcells ls) ∧ ls.length ≤ 8) ∧ Chg NoB w w'
theorem chg1 {F : Nat → Prop} {g : Nat} {w w' : World} (h : Chg F w w') (hg : F g ∨ w.heap.size ≤ g) (v : Value) : Chg F w (w'.setCell ⟨g, 0, none⟩ v) := h.setCell (p := ⟨g, 0, none⟩) hg v
set_option maxRecDepth 100000 in
set_option maxHeartbeats 2000000 in
theorem DrawSweepFiles_any (A0 : Option Addr) (c0 : Nat) (bs : List Nat) (w : World) (h : Rd (fun i => i < w.heap.size) w A0 (bs.map fun (b : Nat) => Value.int .u8 (b : Int))) (hx : ∀ b ∈ bs, b < 256) (hc : bs.length ≤ c0) :
    Calls Try.prog 38 #[.slice A0 bs.length c0] w (SwDraw w) := by
  have hca := (Chg.refl NoB w).alloc (.cells #[.slice none 0 0] 39)
  have HH0 := Lib.hid (Blk.new w 39 #[.slice none 0 0])
  have HC0 := Lib.hid hca
  have HX0 := Lib.hid ((h.chg hca (fun _ _ x => x)).mono (fun i _ hi => by rw [World.size_alloc]; omega) : Rd (fun i => i < (w.alloc (.cells #[.slice none 0 0] 39)).heap.size) _ A0 _)
  clear hca
  go_enter Try.func38, Try.ntmps38
  go_wp2_with fail
  refine (l20Open_any A0 c0 bs _ HX0.out hx hc).mono ?_
  rintro e w1 ⟨g, rfl, hg, hc1, hr1⟩
  have hgH : w.heap.size < g := by rw [hg, World.size_alloc]; omega
  have hgw1 := hr1.lt
  have HC1 := Lib.hid (HC0.out.trans hc1)
  have HB1 := Lib.hid (HH0.out.chg hc1 (fun x => x))
  clear hg hc1
  go_wp2_with fail
  refine (l20Table_any g 0 9 _ hr1 (by omega) (by omega) (by omega)).mono ?_
  rintro e w2 ⟨v, rfl, ⟨A, c, X, rfl, ht, hl8, hl6, -⟩, hc2, hr2⟩
  have hg2 := hr2.lt
  have hca := (Chg.refl NoB w2).alloc (.cells #[.slice A X.length c] 39)
  have hv3 := Blk.new w2 39 #[.slice A X.length c]
  have hc3 : Chg NoB w _ := (show Chg NoB w w2 from HC1.out.own hc2 (by omega)).trans hca
  have hb1 := (HB1.out.chg hc2 (by omega)).chg hca (fun x => x)
  have ht3 := ht.new hca
  have hr3 := hr2.alloc (.cells #[.slice A X.length c] 39)
  have hlt1 := HB1.out.lt
  have hsz2 := hc2.size
  go_wp2_with fail
  obtain ⟨V, hV⟩ : ∃ V, w2.heap.size = V := ⟨_, rfl⟩
  obtain ⟨w3, hw3⟩ : ∃ w3, w2.alloc (.cells #[.slice A X.length c] 39) = w3 := ⟨_, rfl⟩
  rw [hw3] at hv3 hc3 hb1 ht3 hr3 ⊢
  rw [hV] at hv3 hg2 hsz2 ⊢
  have HV3 := Lib.hid hv3
  have HC3 := Lib.hid hc3
  have HB3 := Lib.hid hb1
  have HT3 := Lib.hid ht3
  have HR3 := Lib.hid hr3
  have HL8 := Lib.hid hl8
  have HL6 := Lib.hid hl6
  have v0 : w3.cell? ⟨V, 0, none⟩ = some (.slice A X.length c) := (hv3.cell _).trans rfl
  have hVl := hv3.lt
  have HVL := Lib.hid hVl
  have hn1 : V ≠ w.heap.size := by omega
  have hn2 : w.heap.size ≠ V := by omega
  clear hV hw3 hv3 hc3 hb1 ht3 hr3 hca hc2 hr2 ht hl8 hl6 HH0 HB1 HC0 HX0 HC1
  go_region_held3 (fun w' => w'.cell? ⟨V, 0, none⟩ = some (.slice A X.length c))
    (first | go_keep | exact ((HV3.out.chg (F := (· = g)) ((Chg.refl _ w3).drew.trans hcc) (by omega)).cell _).trans rfl)
    (first | (go_at_call 68; refine (l20Links_any g _ 9 _ HR3.out.drew (by omega) (by omega) (by omega)).mono ?_; rintro e' w5 ⟨A', c', ls, rfl, hrd', -, hl8', hcc, hr5⟩; have hk := (Chg.refl (· = g) w3).drew.trans hcc; have hb5 := HB3.out.chg hk (by omega); have HK := Lib.hid hk; have HRD5 := Lib.hid hrd'; have p0 : w5.cell? ⟨w.heap.size, 0, none⟩ = some (.slice none 0 0) := (hb5.cell _).trans rfl; have pf0 := hb5.frozen 0; clear hk hrd' hb5))
  rename_i hh
  clear hh
  have hcs := chg1 (F := (· = w.heap.size)) (g := w.heap.size) (Chg.refl _ w5) (.inl rfl) (.slice A X.length c)
  have HCS := Lib.hid hcs
  have HLT := Lib.hid (show w3.heap.size ≤ w5.heap.size from HK.out.size)
  clear hcs hcc v0
  go_wp2_with fail
  (try simp only [Exit.inBlock, Exit.then])
  refine bodyPost_ret (v := .tuple #[.agg #[.slice A X.length c], .slice A' ls.length c']) (by simp [results, Try.results38, go_sem, *]) rfl ?_
  have hsz3 : w3.drew.heap.size = w3.heap.size := rfl
  have hVl2 := HVL.out
  refine ⟨A, c, X, A', c', ls, rfl, ⟨?_, HL8.out, HL6.out⟩, ⟨?_, hl8'⟩, ?_⟩
  · exact ((((HT3.out.mono (G := fun i => w1.heap.size ≤ i ∧ i < w3.heap.size) (fun i h1 h2 => ⟨h2, h1⟩)).chg HK.out (fun i h1 h2 => by omega)).chg HCS.out (fun i h1 h2 => by omega)).mono (fun i _ h => by omega))
  · exact (HRD5.out.chg HCS.out (fun i h1 h2 => by omega)).mono (fun i _ h => by omega)
  · exact (HC3.out.own HK.out (by omega)).trans' HCS.out (fun i hi => .inr (by omega))
set_option maxRecDepth 100000 in
set_option maxHeartbeats 4000000 in
theorem FnSweepFiles_any (A : Option Addr) (c : Nat) (bs : List Nat) (w : World) (h : Rd (fun i => i < w.heap.size) w A (bs.map fun (b : Nat) => Value.int .u8 (b : Int))) (hx : ∀ b ∈ bs, b < 256) (hc : bs.length ≤ c) (_hm : c ≤ maxLen) :
    Calls Try.prog 9 #[.slice A bs.length c] w fun e w' => e = .returned (.bool true) ∧ Chg NoB w w' := by
  by_cases hl : 1048576 < bs.length
  · go_enter Try.func9, Try.ntmps9
    go_wp2
    go_ret
    exact ⟨rfl, Chg.refl _ _⟩
  have hl' : bs.length ≤ 1048576 := by omega
  go_enter Try.func9, Try.ntmps9
  go_wp2_with fail
  refine (DrawSweepFiles_any A c bs w h hx hc).mono ?_
  rintro e w1 ⟨A1, c1, X, AL, cL, ls, rfl, ⟨ht, hl8, hl6⟩, ⟨hrl, hll⟩, hc1⟩
  have hca := (Chg.refl NoB w1).alloc (.cells #[.slice A1 X.length c1] 39)
  have HT := Lib.hid (ht.new hca)
  have HR := Lib.hid (hrl.new hca)
  have HC := Lib.hid (hc1.trans hca)
  have HB := Lib.hid (Blk.new w1 39 #[.slice A1 X.length c1])
  have HXL := Lib.hid (show X.length ≤ 9223372036854775807 by omega)
  have HXR := Lib.hid (show ∀ r ∈ X, r.length ≤ 9223372036854775807 from fun r hr => by have := hl6 r hr; omega)
  have HLL := Lib.hid (show ls.length ≤ 9223372036854775807 by omega)
  clear ht hrl hc1 hca hl6 hll h hx hc
  go_wp2_with fail
  refine (iSweepFiles_any _ _ A1 c1 X AL cL ls _ HT.out HXL.out HXR.out HR.out HLL.out).mono ?_
  rintro e w2 ⟨A2, c2, T2, rfl, hO2, hS2, hc2⟩
  obtain ⟨X2, hX2⟩ : ∃ X2, listsOf T2 = X2 := ⟨_, rfl⟩
  have hlx : T2.length = X2.length := by rw [← hX2, listsOf_length]
  have ht2 := hO2.reads
  have hSX := hS2.out
  rw [hX2] at ht2 hSX
  rw [hlx]
  have HSW := Lib.hid hSX
  have HSM := Lib.hid hSX.small
  have hca := (Chg.refl NoB w2).alloc (.cells #[.slice A2 X2.length c2] 39)
  have hbs := Blk.new w2 39 #[.slice A2 X2.length c2]
  have hc3 := HC.out.trans (hc2.trans hca)
  have ht3 := HT.out.new (hc2.trans hca)
  have hr3 := HR.out.new (hc2.trans hca)
  have hb3 := HB.out.chg (hc2.trans hca) (fun x => x)
  have hs3 := ht2.new hca
  go_wp2_with fail
  obtain ⟨V, hV⟩ : ∃ V, w1.heap.size = V := ⟨_, rfl⟩
  obtain ⟨V2, hV2⟩ : ∃ V2, w2.heap.size = V2 := ⟨_, rfl⟩
  obtain ⟨w3, hw3⟩ : ∃ w3, w2.alloc (.cells #[.slice A2 X2.length c2] 39) = w3 := ⟨_, rfl⟩
  rw [hV] at hb3 ⊢
  rw [hV2] at hbs ⊢
  rw [hw3] at hc3 ht3 hr3 hb3 hs3 hbs ⊢
  have HC3 := Lib.hid hc3
  have HT3 := Lib.hid ht3
  have HR3 := Lib.hid hr3
  have HB3 := Lib.hid hb3
  have HBS := Lib.hid hbs
  have HS3 := Lib.hid hs3
  have t0 : w3.cell? ⟨V, 0, none⟩ = some (.slice A1 X.length c1) := (hb3.cell _).trans rfl
  have s0 : w3.cell? ⟨V2, 0, none⟩ = some (.slice A2 X2.length c2) := (hbs.cell _).trans rfl
  clear hV hV2 hw3 hca hc2 hO2 hS2 hX2 hlx ht2 hSX hc3 ht3 hr3 hb3 hs3 hbs HT HR HC HB
  go_region_held3 (fun w' => w'.cell? ⟨V, 0, none⟩ = some (.slice A1 X.length c1) ∧ w'.cell? ⟨V2, 0, none⟩ = some (.slice A2 X2.length c2))
    (first | go_keep | (refine ⟨?_, ?_⟩ <;> first | exact ((HB3.out.chg (F := NoB) (by first | exact (Chg.refl NoB w3).drew.trans hcc | exact ((Chg.refl NoB w3).drew.trans HK1.out).trans hcc) (fun x => x)).cell _).trans rfl | exact ((HBS.out.chg (F := NoB) (by first | exact (Chg.refl NoB w3).drew.trans hcc | exact ((Chg.refl NoB w3).drew.trans HK1.out).trans hcc) (fun x => x)).cell _).trans rfl))
    (first
      | (go_at_call 40; refine (sSweepFiles_any _ _ A1 c1 X AL cL ls _ (HT3.out.new (Chg.refl NoB w3).drew) HXL.out HXR.out (HR3.out.new (Chg.refl NoB w3).drew) HLL.out).mono ?_; rintro e' w4 ⟨A4, c4, T4, rfl, ho4, hI4, hcc⟩; have e1 := HSW.out.det hI4.out; have hl4 : T4.length = X2.length := by rw [e1, listsOf_length]
         have ht4 := ho4.reads
         rw [← e1] at ht4
         rw [hl4]
         have HK1 := Lib.hid hcc; have HO4 := Lib.hid ht4; clear ho4 hI4 e1 hl4 ht4)
      | (go_at_call 35; refine (sameTable_t _ _ A2 A4 c2 c4 X2 _ ((HS3.out.new (Chg.refl NoB w3).drew).new HK1.out) HO4.out HSM.out.2.1 HSM.out.2.2).mono ?_; rintro e' w5 ⟨rfl, hcc⟩))
  have hrg : Chg NoB w3 w5 := ((Chg.refl NoB w3).drew.trans HK1.out).trans hcc
  have HC5 := Lib.hid (HC3.out.trans hrg)
  have HT5 := Lib.hid (HT3.out.new hrg)
  have HR5 := Lib.hid (HR3.out.new hrg)
  have HS5 := Lib.hid (HS3.out.new hrg)
  have hb5 := HB3.out.chg hrg (fun x => x)
  have hs5 := HBS.out.chg hrg (fun x => x)
  have HB5 := Lib.hid hb5
  have HV5 := Lib.hid hs5
  clear t0 s0
  have t0 : w5.cell? ⟨V, 0, none⟩ = some (.slice A1 X.length c1) := (hb5.cell _).trans rfl
  have s0 : w5.cell? ⟨V2, 0, none⟩ = some (.slice A2 X2.length c2) := (hs5.cell _).trans rfl
  clear hb5 hs5 hrg hcc
  go_wp2_with fail
  refine (iTableValid_any _ A1 c1 X _ HT5.out).mono ?_
  rintro e w6 ⟨r, rfl, hr, hc6⟩
  replace s0 := hc6.cell s0 (fun x => x)
  replace t0 := hc6.cell t0 (fun x => x)
  replace HC5 := Lib.hid (HC5.out.trans hc6)
  replace HT5 := Lib.hid (HT5.out.new hc6)
  replace HR5 := Lib.hid (HR5.out.new hc6)
  replace HS5 := Lib.hid (HS5.out.new hc6)
  replace HB5 := Lib.hid (HB5.out.chg hc6 (fun x => x))
  replace HV5 := Lib.hid (HV5.out.chg hc6 (fun x => x))
  clear hc6
  cases r
  case false =>
    obtain rfl : X2 = [] := HSW.out.2 (fun hh => by have := hr.2 hh.1; cases this)
    simp only [List.length_nil] at s0 HS5 ⊢
    go_wp2_with fail
    refine (sameTable_t (fun _ => True) (fun _ => True) A2 none c2 0 [] _ (fun k hk => absurd hk (by simp)) (fun k hk => absurd hk (by simp)) (by simp) (by simp)).mono ?_
    rintro e w8 ⟨rfl, hc8⟩
    have HC8 := Lib.hid (HC5.out.trans hc8)
    clear hc8
    go_wp2_with fail
    refine (alive_any _).mono ?_
    rintro e w' ⟨rfl, rfl⟩
    go_wp2
    go_ret
    exact ⟨rfl, HC8.out⟩
  have HX := Lib.hid (hr.1 rfl)
  clear hr
  go_wp2_with fail
  refine (iLinksValid_any _ AL cL ls _ HR5.out).mono ?_
  rintro e w7 ⟨r, rfl, hr, hc6⟩
  replace s0 := hc6.cell s0 (fun x => x)
  replace t0 := hc6.cell t0 (fun x => x)
  replace HC5 := Lib.hid (HC5.out.trans hc6)
  replace HT5 := Lib.hid (HT5.out.new hc6)
  replace HR5 := Lib.hid (HR5.out.new hc6)
  replace HS5 := Lib.hid (HS5.out.new hc6)
  replace HB5 := Lib.hid (HB5.out.chg hc6 (fun x => x))
  replace HV5 := Lib.hid (HV5.out.chg hc6 (fun x => x))
  clear hc6
  cases r
  case false =>
    obtain rfl : X2 = [] := HSW.out.2 (fun hh => by have := hr.2 hh.2; cases this)
    simp only [List.length_nil] at s0 HS5 ⊢
    go_wp2_with fail
    refine (sameTable_t (fun _ => True) (fun _ => True) A2 none c2 0 [] _ (fun k hk => absurd hk (by simp)) (fun k hk => absurd hk (by simp)) (by simp) (by simp)).mono ?_
    rintro e w8 ⟨rfl, hc8⟩
    have HC8 := Lib.hid (HC5.out.trans hc8)
    clear hc8
    go_wp2_with fail
    refine (alive_any _).mono ?_
    rintro e w' ⟨rfl, rfl⟩
    go_wp2
    go_ret
    exact ⟨rfl, HC8.out⟩
  have HL := Lib.hid (hr.1 rfl)
  clear hr
  obtain rfl : X2 = sweepN X ls 8 := HSW.out.1 ⟨HX.out, HL.out⟩
  have HY := Lib.hid (sweepN_ok (ls := ls) HX.out 8)
  have HL8 := Lib.hid HL.out.1
  have HX8 := Lib.hid HX.out.1
  obtain ⟨Y, hY⟩ : ∃ Y, sweepN X ls 8 = Y := ⟨_, rfl⟩
  rw [hY] at s0 HS5 HV5 HY
  have HYE := Lib.hid hY
  clear hY HSM HSW HK1 HO4 HC3 HT3 HR3 HB3 HBS HS3
  go_wp2_with fail
  go_loopw [6] (fun i wr => ∃ f : Nat, f ≤ 8 ∧ i = .int .i64 f ∧ Chg NoB w7 wr) (fun i _ => 8 - (intOf i).toNat)
  case atStart => exact ⟨0, Nat.zero_le _, rfl, Chg.refl _ _⟩
  case round =>
    obtain ⟨f, hf8, rfl, hch⟩ := hrel
    have HCH := Lib.hid hch
    by_cases hlt : f < 8
    case neg =>
      obtain rfl : f = 8 := by omega
      have x0 := hch.cell s0 (fun x => x)
      clear hch s0 t0
      go_wp2_with fail
      refine (iTableValid_any _ A2 c2 Y _ (HS5.out.new HCH.out)).mono ?_
      rintro e w9 ⟨r, rfl, hr, hc9⟩
      obtain rfl : r = true := hr.2 HY.out
      have HC9 := Lib.hid ((HC5.out.trans HCH.out).trans hc9)
      clear hr hc9
      go_wp2
      go_ret
      exact ⟨rfl, HC9.out⟩
    have hfl : f < ls.length := by rw [HL8.out]; exact hlt
    have hi0 : (0 : Int) ≤ (f : Int) := Int.natCast_nonneg _
    have hi1 : (f : Int) < 8 := by omega
    obtain ⟨b, o, rfl, -, hbl, hn, ho⟩ := lk_at (HR5.out.new hch) hfl
    have hll := HL8.out
    rw [hll]
    have hok : 0 ≤ ls[f].names ∧ 0 ≤ ls[f].opens := by have := HL.out.2 ls[f] (List.getElem_mem hfl); unfold Lk.ok at this; omega
    have HOK := Lib.hid hok
    have HM := Lib.hid (fun (hz : ¬ (ls[f].names = 0 ∧ ls[f].opens = 0)) (p : Nat) => sweep_miss HX8.out hll hlt hz p)
    have HH := Lib.hid (fun (hz : ls[f].names = 0 ∧ ls[f].opens = 0) (p : Nat) (hp : p < 6) => sweep_hit (X := X) HX8.out hll hlt hz hp)
    rw [HYE.out] at HM HH
    generalize ls[f].names = n1 at hn HOK HM HH
    generalize ls[f].opens = n2 at ho HOK HM HH
    clear hch hok
    by_cases h1 : 0 < n1
    · have HZ := Lib.hid (show ¬ (n1 = 0 ∧ n2 = 0) by omega)
      go_wp2_with fail
      go_loopw [8] (fun i wi => ∃ k : Nat, k ≤ 6 ∧ i = .int .i64 k ∧ Chg NoB w7 wi) (fun i _ => 6 - (intOf i).toNat)
      case atStart => exact ⟨0, Nat.zero_le _, rfl, HCH.out⟩
      case round =>
        obtain ⟨k, hk6, rfl, hci⟩ := hrel
        have HCI := Lib.hid hci
        by_cases hk : k < 6
        case neg =>
          obtain rfl : k = 6 := by omega
          clear hci
          go_wp2
          go_roundw
          case rel => exact ⟨f + 1, by omega, by go_num, HCI.out⟩
          case measure => simp [intOf]; omega
        have x0 := hci.cell s0 (fun x => x)
        have y0 := hci.cell t0 (fun x => x)
        have k0 : (0 : Int) ≤ (k : Int) := Int.natCast_nonneg _
        have k1 : (k : Int) < 6 := by omega
        clear hci hn ho
        go_wp2_with fail
        refine (iTableGet_any _ A2 c2 Y _ (HS5.out.new HCI.out) HY.out f k hlt hk).mono ?_
        rintro e wa ⟨rfl, hca⟩
        have HCA := Lib.hid (HCI.out.trans hca)
        have z0 := hca.cell y0 (fun x => x)
        clear hca x0 y0
        have hne : (tg Y f k != tg X f k) = false := by rw [HM.out HZ.out k]; simp
        go_wp2_with fail
        refine (iTableGet_any _ A1 c1 X _ (HT5.out.new HCA.out) HX.out f k hlt hk).mono ?_
        rintro e wb ⟨rfl, hcb⟩
        replace HCA := Lib.hid (HCA.out.trans hcb)
        clear hcb z0
        go_wp2
        go_roundw
        case rel => exact ⟨k + 1, by omega, by go_num, HCA.out⟩
        case measure => simp [intOf]; omega
    · have hg1 : ¬ (0 < n1) := h1
      by_cases h2 : 0 < n2
      · have HZ := Lib.hid (show ¬ (n1 = 0 ∧ n2 = 0) by omega)
        go_wp2_with fail
        go_loopw [8] (fun i wi => ∃ k : Nat, k ≤ 6 ∧ i = .int .i64 k ∧ Chg NoB w7 wi) (fun i _ => 6 - (intOf i).toNat)
        case atStart => exact ⟨0, Nat.zero_le _, rfl, HCH.out⟩
        case round =>
          obtain ⟨k, hk6, rfl, hci⟩ := hrel
          have HCI := Lib.hid hci
          by_cases hk : k < 6
          case neg =>
            obtain rfl : k = 6 := by omega
            clear hci
            go_wp2
            go_roundw
            case rel => exact ⟨f + 1, by omega, by go_num, HCI.out⟩
            case measure => simp [intOf]; omega
          have x0 := hci.cell s0 (fun x => x)
          have y0 := hci.cell t0 (fun x => x)
          have k0 : (0 : Int) ≤ (k : Int) := Int.natCast_nonneg _
          have k1 : (k : Int) < 6 := by omega
          clear hci hn ho
          go_wp2_with fail
          refine (iTableGet_any _ A2 c2 Y _ (HS5.out.new HCI.out) HY.out f k hlt hk).mono ?_
          rintro e wa ⟨rfl, hca⟩
          have HCA := Lib.hid (HCI.out.trans hca)
          have z0 := hca.cell y0 (fun x => x)
          clear hca x0 y0
          have hne : (tg Y f k != tg X f k) = false := by rw [HM.out HZ.out k]; simp
          go_wp2_with fail
          refine (iTableGet_any _ A1 c1 X _ (HT5.out.new HCA.out) HX.out f k hlt hk).mono ?_
          rintro e wb ⟨rfl, hcb⟩
          replace HCA := Lib.hid (HCA.out.trans hcb)
          clear hcb z0
          go_wp2
          go_roundw
          case rel => exact ⟨k + 1, by omega, by go_num, HCA.out⟩
          case measure => simp [intOf]; omega
      · have hok := HOK.out
        have HZ := Lib.hid (show n1 = 0 ∧ n2 = 0 by omega)
        clear hok
        go_wp2_with fail
        go_loopw [8] (fun i wi => ∃ k : Nat, k ≤ 6 ∧ i = .int .i64 k ∧ Chg NoB w7 wi) (fun i _ => 6 - (intOf i).toNat)
        case atStart => exact ⟨0, Nat.zero_le _, rfl, HCH.out⟩
        case round =>
          obtain ⟨k, hk6, rfl, hci⟩ := hrel
          have HCI := Lib.hid hci
          by_cases hk : k < 6
          case neg =>
            obtain rfl : k = 6 := by omega
            clear hci
            go_wp2
            go_roundw
            case rel => exact ⟨f + 1, by omega, by go_num, HCI.out⟩
            case measure => simp [intOf]; omega
          have x0 := hci.cell s0 (fun x => x)
          have y0 := hci.cell t0 (fun x => x)
          have k0 : (0 : Int) ≤ (k : Int) := Int.natCast_nonneg _
          have k1 : (k : Int) < 6 := by omega
          clear hci hn ho
          go_wp2_with fail
          refine (iTableGet_any _ A2 c2 Y _ (HS5.out.new HCI.out) HY.out f k hlt hk).mono ?_
          rintro e wa ⟨rfl, hca⟩
          have HCA := Lib.hid (HCI.out.trans hca)
          have z0 := hca.cell y0 (fun x => x)
          clear hca x0 y0
          have hne : (tg Y f k != -1) = false := by rw [HH.out HZ.out k hk]; rfl
          go_wp2
          go_roundw
          case rel => exact ⟨k + 1, by omega, by go_num, HCA.out⟩
          case measure => simp [intOf]; omega
end Go.Proofs.Ytbgepefdfioljaa
