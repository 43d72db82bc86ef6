/- Parts of the proof, merged: Zl, Zm. -/
import Derived.Test.YtpiojofmflfkkaaMf
import Derived.Test.YtpiojofmflfkkaaMg
import Derived.Deep.QuietTactic
import Derived.BigQuiet
/- Tables by places; where one place of a table lies. RollForward of the program. -/
namespace Go.Proofs.Ytpiojofmflfkkaa
open Go.RowKit
/-- The places ahead of (f, p) that hold x hold -1. -/
def clrF (φ : Nat → Nat → Int) (x : Int) (f p : Nat) : Nat → Nat → Int := fun f' p' => if (f' < f ∨ (f' = f ∧ p' < p)) ∧ φ f' p' = x then -1 else φ f' p'
def clr (φ : Nat → Nat → Int) (x : Int) : Nat → Nat → Int := fun f p => if φ f p = x then -1 else φ f p
theorem clrF_at (φ : Nat → Nat → Int) (x : Int) (f p : Nat) : clrF φ x f p f p = φ f p := if_neg (fun h => by omega)
theorem clrF_start (φ : Nat → Nat → Int) (x : Int) : tabF (clrF φ x 0 0) = tabF φ := tabF_congr fun f p _ _ => if_neg (fun h => by omega)
theorem clrF_hit {φ : Nat → Nat → Int} {x : Int} {f p : Nat} (h : φ f p = x) : tabF (upd2 (clrF φ x f p) f p (-1)) = tabF (clrF φ x f (p + 1)) := tabF_congr fun f' p' _ _ => by
  unfold upd2 clrF
  by_cases he : f' = f ∧ p' = p
  · rw [if_pos he, he.1, he.2, if_pos ⟨by omega, h⟩]
  · rw [if_neg he]
    by_cases h1 : φ f' p' = x
    · by_cases h2 : f' < f ∨ (f' = f ∧ p' < p)
      · rw [if_pos ⟨h2, h1⟩, if_pos ⟨by omega, h1⟩]
      · rw [if_neg (fun hh => h2 hh.1), if_neg (fun hh => by omega)]
    · rw [if_neg (fun hh => h1 hh.2), if_neg (fun hh => h1 hh.2)]
theorem clrF_miss {φ : Nat → Nat → Int} {x : Int} {f p : Nat} (h : ¬ φ f p = x) : tabF (clrF φ x f p) = tabF (clrF φ x f (p + 1)) := tabF_congr fun f' p' _ _ => by
  unfold clrF
  by_cases h1 : φ f' p' = x
  · by_cases h2 : f' < f ∨ (f' = f ∧ p' < p)
    · rw [if_pos ⟨h2, h1⟩, if_pos ⟨by omega, h1⟩]
    · rw [if_neg (fun hh => h2 hh.1), if_neg (fun hh => by
        rcases hh.1 with h3 | ⟨h3, h4⟩
        · omega
        · have h5 : p' = p := by omega
          subst h3 h5
          exact h h1)]
  · rw [if_neg (fun hh => h1 hh.2), if_neg (fun hh => h1 hh.2)]
theorem clrF_row (φ : Nat → Nat → Int) (x : Int) (f : Nat) : tabF (clrF φ x f 6) = tabF (clrF φ x (f + 1) 0) := tabF_congr fun f' p' _ hp => by
  unfold clrF
  by_cases h1 : φ f' p' = x
  · by_cases h2 : f' < f ∨ (f' = f ∧ p' < 6)
    · rw [if_pos ⟨h2, h1⟩, if_pos ⟨by omega, h1⟩]
    · rw [if_neg (fun hh => h2 hh.1), if_neg (fun hh => by omega)]
  · rw [if_neg (fun hh => h1 hh.2), if_neg (fun hh => h1 hh.2)]
theorem clrF_all (φ : Nat → Nat → Int) (x : Int) : tabF (clrF φ x 8 0) = tabF (clr φ x) := tabF_congr fun f' p' hf _ => by
  unfold clrF clr
  by_cases h1 : φ f' p' = x
  · rw [if_pos ⟨by omega, h1⟩, if_pos h1]
  · rw [if_neg (fun hh => h1 hh.2), if_neg h1]
/-- One page is rolled into a table; several are. -/
def rollF (D : List Bk) (φ : Nat → Nat → Int) (x : Nat) : Nat → Nat → Int := upd2 (clr φ (x : Int)) (pgAt D x).file.toNat (pgAt D x).place.toNat (x : Int)
def rollN (D : List Bk) (φ : Nat → Nat → Int) (L : List Nat) : Nat → Nat → Int := L.foldl (rollF D) φ
theorem rollN_succ (D : List Bk) (φ : Nat → Nat → Int) (L : List Nat) {k : Nat} (hk : k < L.length) : rollN D φ (L.take (k + 1)) = rollF D (rollN D φ (L.take k)) (L.getD k 0) := by
  have e : L.getD k 0 = L[k] := by rw [List.getD_eq_getElem?_getD, List.getElem?_eq_getElem hk]; rfl
  unfold rollN
  rw [List.take_succ_eq_append_getElem hk, List.foldl_append, e]
  rfl
def rollForward (D : List Bk) (X : List (List Int)) (s : Int) : List (List Int) := if DvOk D ∧ tabOk X then tabF (rollN D (tget X) (pagesSince D s)) else []
def RollP (w : World) (Y : List (List Int)) (e : Ending) (w' : World) : Prop := ∃ A c T, e = .returned (.agg #[.slice A Y.length c]) ∧ listsOf T = Y ∧ Chg NoB w w' ∧ TabO w.heap.size w'.heap.size w' A c T
theorem page_places {D : List Bk} (hd : DvOk D) {x : Nat} (hx : x < 4 * D.length) (hf : (pgAt D x).full = true) : ∃ fi pl : Nat, (pgAt D x).file = (fi : Int) ∧ (pgAt D x).place = (pl : Int) ∧ fi < 8 ∧ pl < 6 := by
  have hok := (pgOk_yes hf).1 (pgAt_ok hd hx)
  obtain ⟨⟨a1, a2⟩, ⟨b1, b2⟩, _⟩ := hok
  exact ⟨(pgAt D x).file.toNat, (pgAt D x).place.toNat, by omega, by omega, by omega, by omega⟩
set_option maxRecDepth 100000 in
set_option maxHeartbeats 8000000 in
theorem iRollForward_any (F G : Nat → Prop) (A0 : Option Addr) (c0 : Nat) (D : List Bk) (A : Option Addr) (c : Nat) (X : List (List Int)) (s : Int) (w : World) (hr : DevR F w A0 D) (h : TabR G w A X) :
    Calls Try.prog 52 #[.slice A0 D.length c0, .agg #[.slice A X.length c], .int .i64 s] w (RollP w (rollForward D X s)) := by
  obtain ⟨hb1, hb2, hcb⟩ := lit2 w 31 31 #[.slice A X.length c] #[.slice none 0 0]
  have HB1 := Lib.hid hb1
  have HB2 := Lib.hid hb2
  have HC0 := Lib.hid hcb
  have HT0 := Lib.hid (show TabR (fun i => i < w.heap.size) _ A X from (h.lt.mono (G := fun i => i < w.heap.size) fun i _ hi => hi.2).new hcb)
  have HD0 := Lib.hid (show DevR (fun i => i < w.heap.size) _ A0 D from (hr.lt.mono (G := fun i => i < w.heap.size) fun i _ hi => hi.2).new hcb)
  clear hb1 hb2 hcb h hr
  by_cases hd : DvOk D
  case neg =>
    have HD := Lib.hid hd
    have HE := Lib.hid (show rollForward D X s = [] from if_neg (fun hh => hd hh.1))
    clear hd
    go_enter Try.func52, Try.ntmps52
    go_wp2_with fail
    refine (iDeviceValid_f _ A0 c0 D _ HD0.out HD.out).mono ?_
    rintro e w1 ⟨rfl, hc1⟩
    have hb2 := HB2.out.chg hc1 (fun x => x)
    have r0 : w1.cell? ⟨(w.heap.size + 1), 0, none⟩ = some (.slice none 0 0) := (hb2.cell _).trans rfl
    have rf0 := hb2.frozen 0
    have HC1 := Lib.hid (HC0.out.trans hc1)
    have HZ1 := Lib.hid hb2.lt
    clear hc1 hb2
    go_wp2_with fail
    (try simp only [Exit.inBlock, Exit.then])
    refine bodyPost_ret (v := .agg #[.slice none 0 0]) (by simp [results, Try.results52, go_sem, *]) rfl ?_
    unfold RollP
    rw [HE.out]
    exact ⟨none, 0, [], rfl, rfl, HC1.out.own ((Chg.refl (· = w.heap.size + 1) w1).setCell (p := ⟨w.heap.size + 1, 0, none⟩) (.inl rfl) _) (by omega), TabO.nil _ _ _ _ _⟩
  have HD := Lib.hid hd
  by_cases hx : tabOk X
  case neg =>
    have HX := Lib.hid hx
    have HE := Lib.hid (show rollForward D X s = [] from if_neg (fun hh => hx hh.2))
    clear hd hx
    go_enter Try.func52, Try.ntmps52
    go_wp2_with fail
    refine (iDeviceValid_t _ A0 c0 D _ HD0.out HD.out).mono ?_
    rintro e w1 ⟨rfl, hc1⟩
    have hb1 := HB1.out.chg hc1 (fun x => x)
    have hb2 := HB2.out.chg hc1 (fun x => x)
    have x0 : w1.cell? ⟨w.heap.size, 0, none⟩ = some (.slice A X.length c) := (hb1.cell _).trans rfl
    have HB12 := Lib.hid hb2
    have HT1 := Lib.hid (HT0.out.new hc1)
    have HC1 := Lib.hid (HC0.out.trans hc1)
    clear hc1 hb1 hb2
    go_wp2_with fail
    refine (iTableValid_any _ A c X _ HT1.out).mono ?_
    rintro e w2 ⟨r, rfl, hr, hc2⟩
    obtain rfl : r = false := by cases r; rfl; exact absurd (hr.1 rfl) HX.out
    have hb2 := HB12.out.chg hc2 (fun x => x)
    have r0 : w2.cell? ⟨(w.heap.size + 1), 0, none⟩ = some (.slice none 0 0) := (hb2.cell _).trans rfl
    have rf0 := hb2.frozen 0
    have HC2 := Lib.hid (HC1.out.trans hc2)
    clear hc2 hb2 hr x0
    go_wp2_with fail
    (try simp only [Exit.inBlock, Exit.then])
    refine bodyPost_ret (v := .agg #[.slice none 0 0]) (by simp [results, Try.results52, go_sem, *]) rfl ?_
    unfold RollP
    rw [HE.out]
    exact ⟨none, 0, [], rfl, rfl, HC2.out.own ((Chg.refl (· = w.heap.size + 1) w2).setCell (p := ⟨w.heap.size + 1, 0, none⟩) (.inl rfl) _) (by omega), TabO.nil _ _ _ _ _⟩
  have HX := Lib.hid hx
  have HE := Lib.hid (show rollForward D X s = tabF (rollN D (tget X) (pagesSince D s)) from if_pos ⟨hd, hx⟩)
  clear hd hx
  go_enter Try.func52, Try.ntmps52
  go_wp2_with fail
  refine (iDeviceValid_t _ A0 c0 D _ HD0.out HD.out).mono ?_
  rintro e w1 ⟨rfl, hc1⟩
  have hb1 := HB1.out.chg hc1 (fun x => x)
  have x0 : w1.cell? ⟨w.heap.size, 0, none⟩ = some (.slice A X.length c) := (hb1.cell _).trans rfl
  have HB11 := Lib.hid hb1
  have HB12 := Lib.hid (HB2.out.chg hc1 (fun x => x))
  have HT1 := Lib.hid (HT0.out.new hc1)
  have HD1 := Lib.hid (HD0.out.new hc1)
  have HC1 := Lib.hid (HC0.out.trans hc1)
  clear hc1 hb1 HT0 HD0 HC0 HB1 HB2
  go_wp2_with fail
  refine (iTableValid_any _ A c X _ HT1.out).mono ?_
  rintro e w2 ⟨r, rfl, hr, hc2⟩
  obtain rfl : r = true := hr.2 HX.out
  have hb1 := HB11.out.chg hc2 (fun x => x)
  clear x0
  have x0 : w2.cell? ⟨w.heap.size, 0, none⟩ = some (.slice A X.length c) := (hb1.cell _).trans rfl
  have HB22 := Lib.hid (HB12.out.chg hc2 (fun x => x))
  have HT2 := Lib.hid (HT1.out.new hc2)
  have HD2 := Lib.hid (HD1.out.new hc2)
  have HC2 := Lib.hid (HC1.out.trans hc2)
  clear hc2 hb1 hr HT1 HD1 HC1 HB11 HB12
  go_wp2_with fail
  refine (cloneTable_any _ A c X _ HT2.out HX.out).mono ?_
  rintro e w3 ⟨g, T, rfl, hT, hc3, hO⟩
  have hca := (Chg.refl NoB w3).alloc (.cells #[.slice (some ⟨g, 0, none⟩) 8 8] 31)
  have HC3 := Lib.hid ((HC2.out.trans hc3).trans hca)
  have HB3 := Lib.hid ((HB22.out.chg hc3 (fun x => x)).chg hca (fun x => x))
  have HV3 := Lib.hid (Blk.new w3 31 #[.slice (some ⟨g, 0, none⟩) 8 8])
  have HD3 := Lib.hid ((HD2.out.new hc3).new hca)
  have HO3 := Lib.hid (hO.new hca)
  have HTT := Lib.hid (show listsOf T = tabF (tget X) by rw [hT, tabF_tget HX.out])
  have HSZ := Lib.hid (show (w3.alloc (.cells #[.slice (some ⟨g, 0, none⟩) 8 8] 31)).heap.size = w3.heap.size + 1 by rw [World.size_alloc])
  have HS2 := Lib.hid (show w.heap.size + 1 < w2.heap.size from HB22.out.lt)
  have HS3 := Lib.hid hc3.size
  clear hT hO hc3 hca x0 HT2 HD2 HC2 HB22
  go_wp2_with fail
  obtain ⟨V, hV⟩ : ∃ V, w3.heap.size = V := ⟨_, rfl⟩
  have hVz := HSZ.out
  have hVs := HS3.out
  rw [hV] at HV3 HO3 hVz hVs ⊢
  have HVS := Lib.hid hVs
  have HVZ := Lib.hid hVz
  clear hV hVz hVs HSZ HS3
  refine (iPagesSince_any _ A0 c0 D s _ HD3.out).mono ?_
  rintro e w4 ⟨A4, c4, rfl, ho4, hc4⟩
  obtain ⟨L, hLe⟩ : ∃ L, pagesSince D s = L := ⟨_, rfl⟩
  have HLE := Lib.hid hLe
  have HLL := Lib.hid (show L.length ≤ 48 by rw [← hLe]; exact pagesSince_len D s)
  rw [hLe] at HE ho4 ⊢
  have HO4 := Lib.hid ho4
  have HC4 := Lib.hid (HC3.out.trans hc4)
  have HB4 := Lib.hid (HB3.out.chg hc4 (fun x => x))
  have HV4 := Lib.hid (HV3.out.chg hc4 (fun x => x))
  have HD4 := Lib.hid (HD3.out.new hc4)
  have HT4 := Lib.hid (HO3.out.new hc4)
  have hl48 := HLL.out
  clear ho4 hc4 hLe HC3 HB3 HV3 HD3 HO3
  go_wp2_with fail
  go_loopw [30] (fun i wr => ∃ (k : Nat) (T : List RowO), k ≤ L.length ∧ i = .int .i64 k ∧ Chg (fun i => w2.heap.size ≤ i ∧ i < V) w4 wr ∧ TabO w2.heap.size V wr (some ⟨g, 0, none⟩) 8 T ∧ Hid (listsOf T = tabF (rollN D (tget X) (L.take k)))) (fun i _ => L.length - (intOf i).toNat)
  case atStart => exact ⟨0, T, Nat.zero_le _, rfl, Chg.refl _ _, HT4.out, HTT⟩
  case round =>
    obtain ⟨wa, hwa⟩ : ∃ wa, wa = wr := ⟨_, rfl⟩
    rw [← hwa] at hrel ⊢
    obtain ⟨k, Ta, hk, rfl, hch, hta, HTA⟩ := hrel
    clear hwa
    have HCH := Lib.hid hch
    have HTO := Lib.hid hta
    have hvb := HV4.out.chg hch (fun h => by omega)
    have v0 : wa.cell? ⟨V, 0, none⟩ = some (.slice (some ⟨g, 0, none⟩) 8 8) := (hvb.cell _).trans rfl
    have hs2 := HS2.out
    have hvs := HVS.out
    by_cases hlt : k < L.length
    case neg =>
      have hlt' : ¬ ((k : Int) < (L.length : Int)) := by omega
      have hb := HB4.out.chg hch (fun h => by omega)
      have r0 : wa.cell? ⟨(w.heap.size + 1), 0, none⟩ = some (.slice none 0 0) := (hb.cell _).trans rfl
      have rf0 := hb.frozen 0
      have HBL := Lib.hid hb.lt
      have HVL := Lib.hid hvb.lt
      clear hch hta hvb hb
      go_wp2_with fail
      (try simp only [Exit.inBlock, Exit.then])
      refine bodyPost_ret (v := .agg #[.slice (some ⟨g, 0, none⟩) 8 8]) (by simp [results, Try.results52, go_sem, *]) rfl ?_
      have hTe := HTA.out
      rw [List.take_of_length_le (by omega), ← HE.out] at hTe
      have hcs := (Chg.refl (· = w.heap.size + 1) wa).setCell (p := ⟨w.heap.size + 1, 0, none⟩) (.inl rfl) (.slice (some ⟨g, 0, none⟩) 8 8)
      refine ⟨some ⟨g, 0, none⟩, 8, Ta, by rw [HE.out, tabF_len], hTe, (HC4.out.trans' HCH.out (fun i hi => .inr (by omega))).own hcs (by omega), (HTO.out.chg hcs (fun i h1 h2 h3 => by have h4 : i = w.heap.size + 1 := h3; omega)).more (by omega) (by have := HVL.out; rw [World.size_setCell]; omega)⟩
    have hm := getD_mem hlt
    obtain ⟨x, hx⟩ : ∃ x, L.getD k 0 = x := ⟨_, rfl⟩
    rw [hx] at hm
    obtain ⟨hdv, hx4, hxf, hxs⟩ := ps_good (D := D) (s := s) (x := x) (by rw [HLE.out]; exact hm)
    obtain ⟨fi, pl, hfi, hpl, hfi8, hpl6⟩ := page_places hdv hx4 hxf
    have ho := HO4.out.chg hch (fun i h1 h2 h3 => by have := HVZ.out; omega)
    rcases ho.2 with ⟨h0, _⟩ | ⟨gl, rest, rfl, hgl, hgE, hbl⟩
    · omega
    have cx := RowB.get hbl hlt
    rw [hx] at cx
    have HBL := Lib.hid hbl
    have HGL := Lib.hid (show V < gl by have := HVZ.out; omega)
    have HX4 := Lib.hid hx4
    have HNX := Lib.hid (show tabF (rollN D (tget X) (L.take (k + 1))) = tabF (upd2 (clr (rollN D (tget X) (L.take k)) (x : Int)) fi pl (x : Int)) by
      rw [rollN_succ _ _ _ hlt, hx]
      unfold rollF
      rw [hfi, hpl]
      rfl)
    have HFI := Lib.hid hfi
    have HPL := Lib.hid hpl
    obtain ⟨φ, hφ⟩ : ∃ φ, rollN D (tget X) (L.take k) = φ := ⟨_, rfl⟩
    rw [hφ] at HTA HNX
    have hi0 : (0 : Int) ≤ (k : Int) := Int.natCast_nonneg _
    have hi1 : (k : Int) < (L.length : Int) := by omega
    have HDV := Lib.hid hdv
    clear ho hbl hgl hgE hm hx hdv hx4 hxf hxs hch hta hvb hφ hfi hpl
    go_wp2_with fail
    go_loopw [37] (fun i wr => ∃ (f : Nat) (T : List RowO), f ≤ 8 ∧ i = .int .i64 f ∧ Chg (fun i => w2.heap.size ≤ i ∧ i < V) w4 wr ∧ TabO w2.heap.size V wr (some ⟨g, 0, none⟩) 8 T ∧ Hid (listsOf T = tabF (clrF φ (x : Int) f 0))) (fun i _ => 8 - (intOf i).toNat)
    case atStart => exact ⟨0, Ta, Nat.zero_le _, rfl, HCH.out, HTO.out, Lib.hid (by rw [clrF_start]; exact HTA.out)⟩
    case round =>
      obtain ⟨wb, hwb⟩ : ∃ wb, wb = wr := ⟨_, rfl⟩
      rw [← hwb] at hrel ⊢
      obtain ⟨f, Tb, hf8, rfl, hch, htb, HTB⟩ := hrel
      clear hwb v0
      have HCB := Lib.hid hch
      have HTBO := Lib.hid htb
      by_cases hfl : f < 8
      case neg =>
        have hfl' : ¬ ((f : Int) < 8) := by omega
        obtain rfl : f = 8 := by omega
        have HTC := Lib.hid (show listsOf Tb = tabF (clr φ (x : Int)) by rw [HTB.out, clrF_all])
        clear hch htb
        go_wp2_with fail
        refine (pageAt_any _ A0 c0 D x _ (HD4.out.chg HCB.out (fun i h1 h2 => by omega)) HDV.out HX4.out).mono ?_
        rintro e w5 ⟨rfl, hc5⟩
        have hfiO : (pgAt D x).file = (fi : Int) := HFI.out
        have hplO : (pgAt D x).place = (pl : Int) := HPL.out
        have hca := (Chg.refl NoB w5).alloc (.cells #[.bool (pgAt D x).full, .int .i64 (fi : Int), .int .i64 (pl : Int), .int .i64 (pgAt D x).value, .int .i64 (pgAt D x).stamp] 80)
        have hbx := Blk.new w5 80 #[.bool (pgAt D x).full, .int .i64 (fi : Int), .int .i64 (pl : Int), .int .i64 (pgAt D x).value, .int .i64 (pgAt D x).stamp]
        have hcc := hc5.trans hca
        have HC5 := Lib.hid (HCB.out.trans (hcc.mono (fun _ _ h => h.elim)))
        have hto := HTBO.out.new hcc
        obtain ⟨gf, cf, k1, k2, k3, k4, k5, k6, k7, k8⟩ := hto.spot HTC.out hfi8 hpl6
        have hvb := (HV4.out.chg HCB.out (fun h => by omega)).chg hcc (fun x => x)
        have v0 := hvb.cell 0
        replace v0 := v0.trans (show _ = some (Value.slice (some ⟨g, 0, none⟩) 8 8) from rfl)
        have hbx1 := hbx.cell 1
        have hbx2 := hbx.cell 2
        replace hbx1 := hbx1.trans (show _ = some (Value.int .i64 (fi : Int)) from rfl)
        replace hbx2 := hbx2.trans (show _ = some (Value.int .i64 (pl : Int)) from rfl)
        obtain ⟨Tn, hTn, hLn⟩ := k8 (x : Int)
        have HTN := Lib.hid hTn
        have HLN := Lib.hid hLn
        have HG := Lib.hid (show w2.heap.size ≤ gf ∧ gf < V from ⟨k2, k3⟩)
        have hfi1 : (0 : Int) ≤ (fi : Int) := Int.natCast_nonneg _
        have hfi2 : (fi : Int) < 8 := by omega
        have hpl1 : (0 : Int) ≤ (pl : Int) := Int.natCast_nonneg _
        have hpl2 : (pl : Int) < 6 := by omega
        clear hc5 hca hbx hcc hto hvb k2 k3 k6 k7 k8 hTn hLn
        go_wp2_with fail
        go_region
        go_wp2
        go_roundw
        case rel =>
          refine ⟨k + 1, Tn, by omega, by go_num, (HC5.out.setCell (p := ⟨gf, pl, none⟩) (.inl HG.out) _).drew, HTN.out.new (Chg.refl NoB _).drew, Lib.hid (HLN.out.trans HNX.out.symm)⟩
        case measure => simp [intOf]; omega
      obtain ⟨gf, cf, k1, k2, k3, -, -, k6, k7, -⟩ := htb.spot HTB.out hfl (show 0 < 6 by omega)
      have HG := Lib.hid (show w2.heap.size ≤ gf ∧ gf < V ∧ gf ≠ g from ⟨k2, k3, k7⟩)
      have HK1 := Lib.hid k1
      have hfl0 : (0 : Int) ≤ (f : Int) := Int.natCast_nonneg _
      have hfl1 : (f : Int) < 8 := by omega
      clear hch htb k2 k3 k6 k7
      go_wp2_with fail
      go_loopw [43] (fun i wr => ∃ (p : Nat) (T : List RowO), p ≤ 6 ∧ i = .int .i64 p ∧ Chg (fun i => w2.heap.size ≤ i ∧ i < V) w4 wr ∧ TabO w2.heap.size V wr (some ⟨g, 0, none⟩) 8 T ∧ Hid (listsOf T = tabF (clrF φ (x : Int) f p)) ∧ wr.cell? ⟨g, f, none⟩ = some (.slice (some ⟨gf, 0, none⟩) 6 cf)) (fun i _ => 6 - (intOf i).toNat)
      case atStart => exact ⟨0, Tb, Nat.zero_le _, rfl, HCB.out, HTBO.out, HTB, HK1.out⟩
      case round =>
        obtain ⟨wc, hwc⟩ : ∃ wc, wc = wr := ⟨_, rfl⟩
        rw [← hwc] at hrel ⊢
        obtain ⟨p, Tc, hp6, rfl, hch, htc, HTC, hhd⟩ := hrel
        clear hwc k1
        have HCC := Lib.hid hch
        have HTCO := Lib.hid htc
        have HHD := Lib.hid hhd
        by_cases hpl6' : p < 6
        case neg =>
          have hpl' : ¬ ((p : Int) < 6) := by omega
          obtain rfl : p = 6 := by omega
          clear hch htc hhd
          go_wp2
          go_roundw
          case rel => exact ⟨f + 1, Tc, by omega, by go_num, HCC.out, HTCO.out, Lib.hid (by rw [HTC.out, clrF_row])⟩
          case measure => simp [intOf]; omega
        obtain ⟨gf', cf', q1, -, -, q4, q5, -, -, q8⟩ := htc.spot HTC.out hfl hpl6'
        rw [hhd] at q1
        injection q1 with q1
        injection q1 with q1 _ q2
        injection q1 with q1
        injection q1 with q1
        subst q1 q2
        rw [clrF_at] at q4
        have hp0 : (0 : Int) ≤ (p : Int) := Int.natCast_nonneg _
        have hp1 : (p : Int) < 6 := by omega
        by_cases he : φ f p = (x : Int)
        · have he' : (φ f p == (x : Int)) = true := beq_iff_eq.2 he
          obtain ⟨Tn, hTn, hLn⟩ := q8 (-1)
          have HTN := Lib.hid hTn
          have HLN := Lib.hid (show listsOf Tn = tabF (clrF φ (x : Int) f (p + 1)) by rw [hLn, clrF_hit he])
          clear hch htc hhd q8 he hTn hLn
          go_wp2
          go_roundw
          case rel =>
            have hg := HG.out
            exact ⟨p + 1, Tn, by omega, by go_num, HCC.out.setCell (p := ⟨gf, p, none⟩) (.inl ⟨hg.1, hg.2.1⟩) _, HTN.out, HLN, ((Chg.refl (· = gf) wc).setCell (p := ⟨gf, p, none⟩) (.inl rfl) _).cell HHD.out (fun h => hg.2.2 (show gf = g from (show g = gf from h).symm))⟩
          case measure => simp [intOf]; omega
        · have he' : (φ f p == (x : Int)) = false := beq_eq_false_iff_ne.2 he
          have HLN := Lib.hid (show listsOf Tc = tabF (clrF φ (x : Int) f (p + 1)) by rw [HTC.out, clrF_miss he])
          clear hch htc hhd q8 he
          go_wp2
          go_roundw
          case rel => exact ⟨p + 1, Tc, by omega, by go_num, HCC.out, HTCO.out, HLN, HHD.out⟩
          case measure => simp [intOf]; omega
end Go.Proofs.Ytpiojofmflfkkaa
/- RollForward of the reference. -/
namespace Go.Proofs.Ytpiojofmflfkkaa
open Go.RowKit
set_option maxRecDepth 100000 in
set_option maxHeartbeats 8000000 in
theorem sRollForward_any (F G : Nat → Prop) (A0 : Option Addr) (c0 : Nat) (D : List Bk) (A : Option Addr) (c : Nat) (X : List (List Int)) (s : Int) (w : World) (hr : DevR F w A0 D) (hs : Small D) (h : TabR G w A X) (hXl : X.length ≤ 9223372036854775807) (hXr : ∀ r ∈ X, r.length ≤ 9223372036854775807) :
    Calls Try.prog 51 #[.slice A0 D.length c0, .agg #[.slice A X.length c], .int .i64 s] w (RollP w (rollForward D X s)) := by
  obtain ⟨hb1, hb2, hcb⟩ := lit2 w 31 31 #[.slice A X.length c] #[.slice none 0 0]
  have HB1 := Lib.hid hb1
  have HB2 := Lib.hid hb2
  have HC0 := Lib.hid hcb
  have HT0 := Lib.hid (show TabR (fun i => i < w.heap.size) _ A X from (h.lt.mono (G := fun i => i < w.heap.size) fun i _ hi => hi.2).new hcb)
  have HD0 := Lib.hid (show DevR (fun i => i < w.heap.size) _ A0 D from (hr.lt.mono (G := fun i => i < w.heap.size) fun i _ hi => hi.2).new hcb)
  have HS := Lib.hid hs
  have HXl := Lib.hid hXl
  have HXr := Lib.hid hXr
  clear hb1 hb2 hcb h hr hs hXl hXr
  by_cases hd : DvOk D
  case neg =>
    have HD := Lib.hid hd
    have HE := Lib.hid (show rollForward D X s = [] from if_neg (fun hh => hd hh.1))
    clear hd
    go_enter Try.func51, Try.ntmps51
    go_wp2_with fail
    refine (sDeviceValid_f _ A0 c0 D _ HD0.out HS.out HD.out).mono ?_
    rintro e w1 ⟨rfl, hc1⟩
    have hb2 := HB2.out.chg hc1 (fun x => x)
    have r0 : w1.cell? ⟨(w.heap.size + 1), 0, none⟩ = some (.slice none 0 0) := (hb2.cell _).trans rfl
    have rf0 := hb2.frozen 0
    have HC1 := Lib.hid (HC0.out.trans hc1)
    have HZ1 := Lib.hid hb2.lt
    clear hc1 hb2
    go_wp2_with fail
    (try simp only [Exit.inBlock, Exit.then])
    refine bodyPost_ret (v := .agg #[.slice none 0 0]) (by simp [results, Try.results51, go_sem, *]) rfl ?_
    unfold RollP
    rw [HE.out]
    exact ⟨none, 0, [], rfl, rfl, HC1.out.own ((Chg.refl (· = w.heap.size + 1) w1).setCell (p := ⟨w.heap.size + 1, 0, none⟩) (.inl rfl) _) (by omega), TabO.nil _ _ _ _ _⟩
  have HD := Lib.hid hd
  by_cases hx : tabOk X
  case neg =>
    have HX := Lib.hid hx
    have HE := Lib.hid (show rollForward D X s = [] from if_neg (fun hh => hx hh.2))
    clear hd hx
    go_enter Try.func51, Try.ntmps51
    go_wp2_with fail
    refine (sDeviceValid_t _ A0 c0 D _ HD0.out HD.out).mono ?_
    rintro e w1 ⟨rfl, hc1⟩
    have hb1 := HB1.out.chg hc1 (fun x => x)
    have hb2 := HB2.out.chg hc1 (fun x => x)
    have x0 : w1.cell? ⟨w.heap.size, 0, none⟩ = some (.slice A X.length c) := (hb1.cell _).trans rfl
    have HB12 := Lib.hid hb2
    have HT1 := Lib.hid (HT0.out.new hc1)
    have HC1 := Lib.hid (HC0.out.trans hc1)
    clear hc1 hb1 hb2
    go_wp2_with fail
    refine (sTableValid_any _ A c X _ HT1.out HXl.out HXr.out).mono ?_
    rintro e w2 ⟨r, rfl, hr, hc2⟩
    obtain rfl : r = false := by cases r; rfl; exact absurd (hr.1 rfl) HX.out
    have hb2 := HB12.out.chg hc2 (fun x => x)
    have r0 : w2.cell? ⟨(w.heap.size + 1), 0, none⟩ = some (.slice none 0 0) := (hb2.cell _).trans rfl
    have rf0 := hb2.frozen 0
    have HC2 := Lib.hid (HC1.out.trans hc2)
    clear hc2 hb2 hr x0
    go_wp2_with fail
    (try simp only [Exit.inBlock, Exit.then])
    refine bodyPost_ret (v := .agg #[.slice none 0 0]) (by simp [results, Try.results51, go_sem, *]) rfl ?_
    unfold RollP
    rw [HE.out]
    exact ⟨none, 0, [], rfl, rfl, HC2.out.own ((Chg.refl (· = w.heap.size + 1) w2).setCell (p := ⟨w.heap.size + 1, 0, none⟩) (.inl rfl) _) (by omega), TabO.nil _ _ _ _ _⟩
  have HX := Lib.hid hx
  have HE := Lib.hid (show rollForward D X s = tabF (rollN D (tget X) (pagesSince D s)) from if_pos ⟨hd, hx⟩)
  clear hd hx
  go_enter Try.func51, Try.ntmps51
  go_wp2_with fail
  refine (sDeviceValid_t _ A0 c0 D _ HD0.out HD.out).mono ?_
  rintro e w1 ⟨rfl, hc1⟩
  have hb1 := HB1.out.chg hc1 (fun x => x)
  have x0 : w1.cell? ⟨w.heap.size, 0, none⟩ = some (.slice A X.length c) := (hb1.cell _).trans rfl
  have HB11 := Lib.hid hb1
  have HB12 := Lib.hid (HB2.out.chg hc1 (fun x => x))
  have HT1 := Lib.hid (HT0.out.new hc1)
  have HD1 := Lib.hid (HD0.out.new hc1)
  have HC1 := Lib.hid (HC0.out.trans hc1)
  clear hc1 hb1 HT0 HD0 HC0 HB1 HB2
  go_wp2_with fail
  refine (sTableValid_any _ A c X _ HT1.out HXl.out HXr.out).mono ?_
  rintro e w2 ⟨r, rfl, hr, hc2⟩
  obtain rfl : r = true := hr.2 HX.out
  have hb1 := HB11.out.chg hc2 (fun x => x)
  clear x0
  have x0 : w2.cell? ⟨w.heap.size, 0, none⟩ = some (.slice A X.length c) := (hb1.cell _).trans rfl
  have HB22 := Lib.hid (HB12.out.chg hc2 (fun x => x))
  have HT2 := Lib.hid (HT1.out.new hc2)
  have HD2 := Lib.hid (HD1.out.new hc2)
  have HC2 := Lib.hid (HC1.out.trans hc2)
  clear hc2 hb1 hr HT1 HD1 HC1 HB11 HB12
  go_wp2_with fail
  refine (l7Copy_any _ A c X _ HT2.out HX.out).mono ?_
  rintro e w3 ⟨A', c', T, rfl, hT, hc3, hO⟩
  have hT8 : T.length = 8 := by rw [← listsOf_length, hT, HX.out.1]
  obtain ⟨g, hAg⟩ : ∃ g, A' = some ⟨g, 0, none⟩ := by
    rcases hO.1.2 with ⟨h0, _⟩ | ⟨g, rest, he, _⟩
    · omega
    · exact ⟨g, he⟩
  subst hAg
  have hca := (Chg.refl NoB w3).alloc (.cells #[.slice (some ⟨g, 0, none⟩) 8 c'] 31)
  have HC3 := Lib.hid ((HC2.out.trans hc3).trans hca)
  have HB3 := Lib.hid ((HB22.out.chg hc3 (fun x => x)).chg hca (fun x => x))
  have HV3 := Lib.hid (Blk.new w3 31 #[.slice (some ⟨g, 0, none⟩) 8 c'])
  have HD3 := Lib.hid ((HD2.out.new hc3).new hca)
  have HO3 := Lib.hid (hO.new hca)
  have HTT := Lib.hid (show listsOf T = tabF (tget X) by rw [hT, tabF_tget HX.out])
  have HSZ := Lib.hid (show (w3.alloc (.cells #[.slice (some ⟨g, 0, none⟩) 8 c'] 31)).heap.size = w3.heap.size + 1 by rw [World.size_alloc])
  have HS2 := Lib.hid (show w.heap.size + 1 < w2.heap.size from HB22.out.lt)
  have HS3 := Lib.hid hc3.size
  clear hT hO hc3 hca x0 HT2 HD2 HC2 HB22 hT8
  go_wp2_with fail
  obtain ⟨V, hV⟩ : ∃ V, w3.heap.size = V := ⟨_, rfl⟩
  have hVz := HSZ.out
  have hVs := HS3.out
  rw [hV] at HV3 HO3 hVz hVs ⊢
  have HVS := Lib.hid hVs
  have HVZ := Lib.hid hVz
  clear hV hVz hVs HSZ HS3
  refine (sPagesSince_any _ A0 c0 D s _ HD3.out HS.out (by have := HD.out.1.2; omega)).mono ?_
  rintro e w4 ⟨A4, c4, rfl, ho4, hc4⟩
  obtain ⟨L, hLe⟩ : ∃ L, pagesSince D s = L := ⟨_, rfl⟩
  have HLE := Lib.hid hLe
  have HLL := Lib.hid (show L.length ≤ 48 by rw [← hLe]; exact pagesSince_len D s)
  rw [hLe] at HE ho4 ⊢
  have HO4 := Lib.hid ho4
  have HC4 := Lib.hid (HC3.out.trans hc4)
  have HB4 := Lib.hid (HB3.out.chg hc4 (fun x => x))
  have HV4 := Lib.hid (HV3.out.chg hc4 (fun x => x))
  have HD4 := Lib.hid (HD3.out.new hc4)
  have HT4 := Lib.hid (HO3.out.new hc4)
  have hl48 := HLL.out
  clear ho4 hc4 hLe HC3 HB3 HV3 HD3 HO3
  go_wp2_with fail
  go_loopw [9] (fun i wr => ∃ (k : Nat) (T : List RowO), k ≤ L.length ∧ i = .int .i64 k ∧ Chg (fun i => w2.heap.size ≤ i ∧ i < V) w4 wr ∧ TabO w2.heap.size V wr (some ⟨g, 0, none⟩) c' T ∧ Hid (listsOf T = tabF (rollN D (tget X) (L.take k)))) (fun i _ => L.length - (intOf i).toNat)
  case atStart => exact ⟨0, T, Nat.zero_le _, rfl, Chg.refl _ _, HT4.out, HTT⟩
  case round =>
    obtain ⟨wa, hwa⟩ : ∃ wa, wa = wr := ⟨_, rfl⟩
    rw [← hwa] at hrel ⊢
    obtain ⟨k, Ta, hk, rfl, hch, hta, HTA⟩ := hrel
    clear hwa
    have HCH := Lib.hid hch
    have HTO := Lib.hid hta
    have hs2 := HS2.out
    have hvs := HVS.out
    by_cases hlt : k < L.length
    case neg =>
      have hlt' : ¬ ((k : Int) < (L.length : Int)) := by omega
      have hvb := HV4.out.chg hch (fun h => by omega)
      have v0 : wa.cell? ⟨V, 0, none⟩ = some (.slice (some ⟨g, 0, none⟩) 8 c') := (hvb.cell _).trans rfl
      have hb := HB4.out.chg hch (fun h => by omega)
      have r0 : wa.cell? ⟨(w.heap.size + 1), 0, none⟩ = some (.slice none 0 0) := (hb.cell _).trans rfl
      have rf0 := hb.frozen 0
      have HBL := Lib.hid hb.lt
      have HVL := Lib.hid hvb.lt
      clear hch hta hvb hb
      go_wp2_with fail
      (try simp only [Exit.inBlock, Exit.then])
      refine bodyPost_ret (v := .agg #[.slice (some ⟨g, 0, none⟩) 8 c']) (by simp [results, Try.results51, go_sem, *]) rfl ?_
      have hTe := HTA.out
      rw [List.take_of_length_le (by omega), ← HE.out] at hTe
      have hcs := (Chg.refl (· = w.heap.size + 1) wa).setCell (p := ⟨w.heap.size + 1, 0, none⟩) (.inl rfl) (.slice (some ⟨g, 0, none⟩) 8 c')
      refine ⟨some ⟨g, 0, none⟩, c', Ta, by rw [HE.out, tabF_len], hTe, (HC4.out.trans' HCH.out (fun i hi => .inr (by omega))).own hcs (by omega), (HTO.out.chg hcs (fun i h1 h2 h3 => by have h4 : i = w.heap.size + 1 := h3; omega)).more (by omega) (by have := HVL.out; rw [World.size_setCell]; omega)⟩
    have hm := getD_mem hlt
    obtain ⟨x, hx⟩ : ∃ x, L.getD k 0 = x := ⟨_, rfl⟩
    rw [hx] at hm
    obtain ⟨hdv, hx4, hxf, hxs⟩ := ps_good (D := D) (s := s) (x := x) (by rw [HLE.out]; exact hm)
    obtain ⟨fi, pl, hfi, hpl, hfi8, hpl6⟩ := page_places hdv hx4 hxf
    have ho := HO4.out
    rcases ho.2 with ⟨h0, _⟩ | ⟨gl, rest, rfl, hgl, hgE, hbl⟩
    · omega
    have HBL := Lib.hid hbl
    have HGL := Lib.hid (show V < gl by have := HVZ.out; omega)
    have HLT := Lib.hid hlt
    have HXE := Lib.hid hx
    have HLC := Lib.hid (show ∀ wq, Chg (fun i => w2.heap.size ≤ i ∧ i < V) w4 wq → wq.cell? ⟨gl, k, none⟩ = some (.int .i64 (x : Int)) from fun wq hq => by
      have h1 := RowB.get (HBL.out.chg hq (fun h => by have := HGL.out; omega)) HLT.out
      rw [HXE.out] at h1
      exact h1)
    have cx := HLC.out _ hch
    have HX4 := Lib.hid hx4
    have HNX := Lib.hid (show tabF (rollN D (tget X) (L.take (k + 1))) = tabF (upd2 (clr (rollN D (tget X) (L.take k)) (x : Int)) fi pl (x : Int)) by
      rw [rollN_succ _ _ _ hlt, hx]
      unfold rollF
      rw [hfi, hpl]
      rfl)
    have HFI := Lib.hid hfi
    have HPL := Lib.hid hpl
    obtain ⟨φ, hφ⟩ : ∃ φ, rollN D (tget X) (L.take k) = φ := ⟨_, rfl⟩
    rw [hφ] at HTA HNX
    have hi0 : (0 : Int) ≤ (k : Int) := Int.natCast_nonneg _
    have hi1 : (k : Int) < (L.length : Int) := by omega
    have HRP := Lib.hid (readPage_yes hdv hx4)
    have HXF := Lib.hid hxf
    clear ho hbl hgl hgE hm hx hdv hx4 hxf hxs hta hφ hfi hpl
    have HRDD := Lib.hid (HD4.out.chg hch (fun i h1 h2 => by omega))
    clear hch
    go_wp2_with fail
    refine (sReadPage_any _ A0 c0 D (x : Int) _ HRDD.out HS.out).mono ?_
    rw [HRP.out]
    rintro e w5 ⟨rfl, hc5⟩
    have hfiO : (pgAt D x).file = (fi : Int) := HFI.out
    have hplO : (pgAt D x).place = (pl : Int) := HPL.out
    have hfuO : (pgAt D x).full = true := HXF.out
    have hca := (Chg.refl NoB w5).alloc (.cells #[.bool true, .int .i64 (fi : Int), .int .i64 (pl : Int), .int .i64 (pgAt D x).value, .int .i64 (pgAt D x).stamp] 80)
    have HBX := Lib.hid (Blk.new w5 80 #[.bool true, .int .i64 (fi : Int), .int .i64 (pl : Int), .int .i64 (pgAt D x).value, .int .i64 (pgAt D x).stamp])
    have hcc := hc5.trans hca
    have HC6 := Lib.hid (HCH.out.trans (hcc.mono (fun _ _ h => h.elim)))
    have HTO6 := Lib.hid (HTO.out.new hcc)
    have HP0 := Lib.hid (show V < w5.heap.size by have := HVZ.out; have := HC6.out.size; have := hc5.size; have := HCH.out.size; have := (HV4.out.lt); omega)
    clear hc5 hca hcc cx
    go_wp2_with fail
    obtain ⟨w6, hw6⟩ : ∃ w6, w5.alloc (.cells #[.bool true, .int .i64 (fi : Int), .int .i64 (pl : Int), .int .i64 (pgAt D x).value, .int .i64 (pgAt D x).stamp] 80) = w6 := ⟨_, rfl⟩
    obtain ⟨P0, hPe⟩ : ∃ P0, w5.heap.size = P0 := ⟨_, rfl⟩
    rw [hw6] at HBX HC6 HTO6
    rw [hPe] at HBX HP0
    rw [hw6, hPe]
    clear hw6 hPe
    go_loopw [12] (fun i wr => ∃ (f : Nat) (T : List RowO), f ≤ 8 ∧ i = .int .i64 f ∧ Chg (fun i => w2.heap.size ≤ i ∧ i < V) w6 wr ∧ TabO w2.heap.size V wr (some ⟨g, 0, none⟩) c' T ∧ Hid (listsOf T = tabF (clrF φ (x : Int) f 0))) (fun i _ => 8 - (intOf i).toNat)
    case atStart => exact ⟨0, Ta, Nat.zero_le _, rfl, Chg.refl _ _, HTO6.out, Lib.hid (by rw [clrF_start]; exact HTA.out)⟩
    case round =>
      obtain ⟨wb, hwb⟩ : ∃ wb, wb = wr := ⟨_, rfl⟩
      rw [← hwb] at hrel ⊢
      obtain ⟨f, Tb, hf8, rfl, hch, htb, HTB⟩ := hrel
      clear hwb
      have HCB := Lib.hid hch
      have HTBO := Lib.hid htb
      by_cases hfl : f < 8
      case neg =>
        have hfl' : ¬ ((f : Int) < 8) := by omega
        obtain rfl : f = 8 := by omega
        have HTC := Lib.hid (show listsOf Tb = tabF (clr φ (x : Int)) by rw [HTB.out, clrF_all])
        have HC7 := Lib.hid (HC6.out.trans hch)
        obtain ⟨gf, cf, k1, k2, k3, k4, k5, k6, k7, k8⟩ := htb.spot HTC.out hfi8 hpl6
        have hvb := (HV4.out.chg HC7.out (fun h => by omega))
        have v0 := hvb.cell 0
        replace v0 := v0.trans (show _ = some (Value.slice (some ⟨g, 0, none⟩) 8 c') from rfl)
        have hbx := HBX.out.chg hch (fun h => by have := HP0.out; omega)
        have hbx1 := hbx.cell 1
        have hbx2 := hbx.cell 2
        replace hbx1 := hbx1.trans (show _ = some (Value.int .i64 (fi : Int)) from rfl)
        replace hbx2 := hbx2.trans (show _ = some (Value.int .i64 (pl : Int)) from rfl)
        have cx := HLC.out _ HC7.out
        obtain ⟨Tn, hTn, hLn⟩ := k8 (x : Int)
        have HTN := Lib.hid hTn
        have HLN := Lib.hid hLn
        have HG := Lib.hid (show w2.heap.size ≤ gf ∧ gf < V from ⟨k2, k3⟩)
        have hfi1 : (0 : Int) ≤ (fi : Int) := Int.natCast_nonneg _
        have hfi2 : (fi : Int) < 8 := by omega
        have hpl1 : (0 : Int) ≤ (pl : Int) := Int.natCast_nonneg _
        have hpl2 : (pl : Int) < 6 := by omega
        clear hch htb hbx hvb k2 k3 k6 k7 k8 hTn hLn
        go_wp2_with fail
        go_region
        go_wp2
        go_roundw
        case rel =>
          refine ⟨k + 1, Tn, by omega, by go_num, (HC7.out.setCell (p := ⟨gf, pl, none⟩) (.inl HG.out) _).drew, HTN.out.new (Chg.refl NoB _).drew, Lib.hid (HLN.out.trans HNX.out.symm)⟩
        case measure => simp [intOf]; omega
      have hfl0 : (0 : Int) ≤ (f : Int) := Int.natCast_nonneg _
      have hfl1 : (f : Int) < 8 := by omega
      clear hch htb
      go_wp2_with fail
      go_loopw [13] (fun i wr => ∃ (p : Nat) (T : List RowO), p ≤ 6 ∧ i = .int .i64 p ∧ Chg (fun i => w2.heap.size ≤ i ∧ i < V) w6 wr ∧ TabO w2.heap.size V wr (some ⟨g, 0, none⟩) c' T ∧ Hid (listsOf T = tabF (clrF φ (x : Int) f p))) (fun i _ => 6 - (intOf i).toNat)
      case atStart => exact ⟨0, Tb, Nat.zero_le _, rfl, HCB.out, HTBO.out, HTB⟩
      case round =>
        obtain ⟨wc, hwc⟩ : ∃ wc, wc = wr := ⟨_, rfl⟩
        rw [← hwc] at hrel ⊢
        obtain ⟨p, Tc, hp6, rfl, hch, htc, HTC⟩ := hrel
        clear hwc
        have HCC := Lib.hid hch
        have HTCO := Lib.hid htc
        by_cases hpl6' : p < 6
        case neg =>
          have hpl' : ¬ ((p : Int) ≤ 5) := by omega
          obtain rfl : p = 6 := by omega
          clear hch htc
          go_wp2
          go_roundw
          case rel => exact ⟨f + 1, Tc, by omega, by go_num, HCC.out, HTCO.out, Lib.hid (by rw [HTC.out, clrF_row])⟩
          case measure => simp [intOf]; omega
        obtain ⟨gf, cf, q1, q2, q3, q4, q5, -, -, q8⟩ := htc.spot HTC.out hfl hpl6'
        rw [clrF_at] at q4
        have hp0 : (0 : Int) ≤ (p : Int) := Int.natCast_nonneg _
        have hp1 : (p : Int) < 6 := by omega
        have hp2 : (p : Int) ≤ 5 := by omega
        have hvb := (HV4.out.chg (HC6.out.trans hch) (fun h => by omega))
        have v0 := hvb.cell 0
        replace v0 := v0.trans (show _ = some (Value.slice (some ⟨g, 0, none⟩) 8 c') from rfl)
        have cx := HLC.out _ (HC6.out.trans hch)
        have HG := Lib.hid (show w2.heap.size ≤ gf ∧ gf < V from ⟨q2, q3⟩)
        by_cases he : φ f p = (x : Int)
        · have he' : (φ f p == (x : Int)) = true := beq_iff_eq.2 he
          obtain ⟨Tn, hTn, hLn⟩ := q8 (-1)
          have HTN := Lib.hid hTn
          have HLN := Lib.hid (show listsOf Tn = tabF (clrF φ (x : Int) f (p + 1)) by rw [hLn, clrF_hit he])
          clear hch htc q8 he hTn hLn hvb q2 q3
          go_wp2_with fail
          go_quiet (fail)
          go_wp2
          go_roundw
          case rel =>
            exact ⟨p + 1, Tn, by omega, by go_num, (HCC.out.drewN _).setCell (p := ⟨gf, p, none⟩) (.inl HG.out) _, HTN.out.new ((Chg.refl NoB _).drewN _), HLN⟩
          case measure => simp [intOf]; omega
        · have he' : (φ f p == (x : Int)) = false := beq_eq_false_iff_ne.2 he
          have HLN := Lib.hid (show listsOf Tc = tabF (clrF φ (x : Int) f (p + 1)) by rw [HTC.out, clrF_miss he])
          clear hch htc q8 he hvb q2 q3
          go_wp2_with fail
          go_quiet (fail)
          go_wp2
          go_roundw
          case rel => exact ⟨p + 1, Tc, by omega, by go_num, HCC.out.drewN _, HTCO.out.new ((Chg.refl NoB _).drewN _), HLN⟩
          case measure => simp [intOf]; omega
end Go.Proofs.Ytpiojofmflfkkaa
