/- symMerge, where one of the two parts has one number. -/
import Derived.Test.YtenbbkmbnpdfaaaZc
namespace Go.Proofs.Ytenbbkmbnpdfaaa
open Go.RowKit
theorem getD_app_left {P R : List Nat} {k : Nat} (h : k < P.length) : (P ++ R).getD k 0 = P.getD k 0 := by
  rw [List.getD_eq_getElem?_getD, List.getD_eq_getElem?_getD, List.getElem?_append_left h]
theorem getD_app_right {P R : List Nat} {k l : Nat} (h : P.length + l = k) : (P ++ R).getD k 0 = R.getD l 0 := by
  rw [List.getD_eq_getElem?_getD, List.getD_eq_getElem?_getD, List.getElem?_append_right (by omega)]
  congr 2; omega
theorem RowB.get {w : World} {g : Nat} {rest : List Value} {L : List Nat} {k : Nat} (h : RowB w g rest L) (hk : k < L.length) : w.cell? ⟨g, k, none⟩ = some (.int .i64 (L.getD k 0 : Nat)) := by
  rw [getD_split hk] at h
  have h1 := h.at_ (k := k) (by rw [List.length_take]; omega)
  exact h1
set_option maxRecDepth 100000 in
set_option maxHeartbeats 4000000 in
theorem symL_any (w : World) (g c : Nat) (cb : Value) (K : Nat → Int) (M : Nat) (P V Q : List Nat) (x : Nat) (rest : List Value) (lo md hi n : Nat) (ha : P.length = lo) (hu : lo + 1 = md) (hv : md + V.length = hi) (hn : hi + Q.length = n) (hn' : n ≤ 1000) (hv1 : 1 ≤ V.length)
    (hB : RowB w g rest (P ++ (x :: (V ++ Q)))) (hV : Srt K V) (hX : ∀ y ∈ V, K x = K y → x ≤ y) (hxM : x < M) (hVM : ∀ y ∈ V, y < M) (hC : CmpP w g cb K M) :
    Calls Try.prog 106 #[.slice (some ⟨g, 0, none⟩) n c, .int .i64 (lo : Int), .int .i64 (md : Int), .int .i64 (hi : Int), .func (.func 79) #[] #[cb]] w (RowP w g rest (P ++ (srt K (x :: V) ++ Q))) := by
  have HB := Lib.hid hB
  have HA := Lib.hid ha
  have HU := Lib.hid hu
  have HV := Lib.hid hv
  have HN := Lib.hid hn
  have HSV := Lib.hid hV
  have HX := Lib.hid hX
  have HXM := Lib.hid hxM
  have HVM := Lib.hid hVM
  have HC := Lib.hid hC
  have h1 : lo < md := by omega
  have h2 : md < hi := by omega
  have h3 : hi ≤ n := by omega
  have t1 : ((md : Int) - (lo : Int) == 1) = true := by rw [beq_iff_eq]; omega
  clear hB ha hu hv hn hV hX hxM hVM hC hv1
  go_enter Try.func106, Try.ntmps106
  go_wp2_with fail
  go_loopw [10, 11] (fun vi vj wr => ∃ (i j : Nat), vi = .int .i64 (i : Int) ∧ vj = .int .i64 (j : Int) ∧ md ≤ i ∧ i ≤ j ∧ j ≤ hi ∧ Hid (i = md ∨ K (V.getD (i - md - 1) 0) < K x) ∧ Hid (j = hi ∨ K x ≤ K (V.getD (j - md) 0)) ∧ Chg (· = g) w wr ∧ RowB wr g rest (P ++ (x :: (V ++ Q)))) (fun vi vj _ => (intOf vj).toNat - (intOf vi).toNat)
  case atStart => exact ⟨md, hi, rfl, rfl, Nat.le_refl _, by omega, Nat.le_refl _, Lib.hid (.inl rfl), Lib.hid (.inl rfl), Chg.refl _ _, HB.out⟩
  case round =>
    obtain ⟨i, j, rfl, rfl, hi1, hj1, hj2, HI, HJ, hch, hbl⟩ := hrel
    by_cases hlt : i < j
    · have hlt' : ((i : Int) < (j : Int)) := by omega
      have p1 : (0 : Int) ≤ (i : Int) + (j : Int) := by omega
      go_wp2_with fail
      obtain ⟨h, hh⟩ : ∃ h : Nat, ((i : Int) + (j : Int)) / 2 = (h : Int) := ⟨(i + j) / 2, by omega⟩
      have HH := Lib.hid hh
      rw [hh]
      have b1 : i ≤ h := by omega
      have b2 : h < j := by omega
      have HVL := Lib.hid (show h - md < V.length by have := HV.out; omega)
      clear hh p1
      obtain ⟨y, hy⟩ : ∃ y, V.getD (h - md) 0 = y := ⟨_, rfl⟩
      have HYM := Lib.hid (show y < M by rw [← hy]; exact HVM.out _ (getD_mem HVL.out))
      have HYE := Lib.hid hy
      have cx := hbl.at_ HA.out
      have cy := hbl.get (k := h) (by have := HA.out; have := HU.out; have := HVL.out; simp; omega)
      rw [getD_app_right (l := h - lo) (by have := HA.out; omega), show h - lo = (h - md) + 1 by have := HU.out; omega, List.getD_cons_succ, getD_app_left HVL.out, hy] at cy
      have HBL2 := Lib.hid hbl
      have HCC := Lib.hid (HC.out.later hch)
      have HCH2 := Lib.hid hch
      have z0 : (0 : Int) ≤ (h : Int) := Int.natCast_nonneg _
      have z1 : (h : Int) < (n : Int) := by omega
      have z2 : (lo : Int) < (n : Int) := by omega
      clear hbl hy
      by_cases hl : K y < K x
      · have hl0 : cmp3 (K y) (K x) < 0 := cmp3_lt.2 hl
        clear hch
        go_wp2_with fail
        refine wp_region_ro (gl := []) (WInv := fun _ _ w5 => Chg NoB wr w5) (R := Chg NoB) (Post := PV [some (.func (.func 79) #[] #[cb]), some (.slice (some ⟨g, 0, none⟩) n c), some (.int .i64 (h : Int)), some (.pointer (some ⟨g, h, none⟩)), some (.int .i64 (y : Int)), some (.slice (some ⟨g, 0, none⟩) n c), some (.int .i64 (lo : Int)), some (.pointer (some ⟨g, lo, none⟩)), some (.int .i64 (x : Int)), some (.int .i64 (cmp3 (K y) (K x))), some (.bool true)]) (by kernel_rfl) (by kernel_rfl) (pv_guard (by intro p hp; cases hp)) (fun _ _ _ _ h _ _ => h) (fun _ _ _ _ h _ => h) (Chg.refl _ _).drew ⟨?_, ?_, ?_, ?_, ?_, ?_, ?_, ?_, ?_, ?_, ?_, trivial⟩ ?_
        · rintro kc m a w5 hkc hch hm hn
          obtain ⟨e1, -⟩ := hn
          replace e1 : a.tmps[4]?.getD undef = .func (.func 79) #[] #[cb] := e1
          exact rg_val (v := .func (.func 79) #[] #[cb]) (by simp [execOp, go_sem, e1]) rfl hch (Chg.refl _ _) rfl
        · rintro kc m a w5 hkc hch hm hn
          obtain ⟨e1, -⟩ := hn
          replace e1 : a.tmps[0]?.getD undef = .slice (some ⟨g, 0, none⟩) n c := e1
          exact rg_val (v := .slice (some ⟨g, 0, none⟩) n c) (by simp [execOp, go_sem, e1]) rfl hch (Chg.refl _ _) rfl
        · rintro kc m a w5 hkc hch hm hn
          obtain ⟨e1, -⟩ := hn
          replace e1 : a.tmps[12]?.getD undef = .int .i64 (h : Int) := e1
          exact rg_val (v := .int .i64 (h : Int)) (by simp [execOp, go_sem, e1]) rfl hch (Chg.refl _ _) rfl
        · rintro kc m a w5 hkc hch hm hn
          obtain ⟨⟨_, e1, _, rfl⟩, ⟨_, e2, _, rfl⟩, -⟩ := hn
          exact rg_val (v := .pointer (some ⟨g, h, none⟩)) (by simp [execOp, go_sem, e1, e2]; exact fun hh => absurd hh (by omega)) rfl hch (Chg.refl _ _) rfl
        · rintro kc m a w5 hkc hch hm hn
          obtain ⟨⟨_, e1, _, rfl⟩, -⟩ := hn
          have c0 := Chg.cell hch cy (fun x => x)
          exact rg_val (v := .int .i64 (y : Int)) (by simp [execOp, go_sem, e1, c0]) rfl hch (Chg.refl _ _) rfl
        · rintro kc m a w5 hkc hch hm hn
          obtain ⟨e1, -⟩ := hn
          replace e1 : a.tmps[0]?.getD undef = .slice (some ⟨g, 0, none⟩) n c := e1
          exact rg_val (v := .slice (some ⟨g, 0, none⟩) n c) (by simp [execOp, go_sem, e1]) rfl hch (Chg.refl _ _) rfl
        · rintro kc m a w5 hkc hch hm hn
          obtain ⟨e1, -⟩ := hn
          replace e1 : a.tmps[1]?.getD undef = .int .i64 (lo : Int) := e1
          exact rg_val (v := .int .i64 (lo : Int)) (by simp [execOp, go_sem, e1]) rfl hch (Chg.refl _ _) rfl
        · rintro kc m a w5 hkc hch hm hn
          obtain ⟨⟨_, e1, _, rfl⟩, ⟨_, e2, _, rfl⟩, -⟩ := hn
          exact rg_val (v := .pointer (some ⟨g, lo, none⟩)) (by simp [execOp, go_sem, e1, e2]; exact fun hh => absurd hh (by omega)) rfl hch (Chg.refl _ _) rfl
        · rintro kc m a w5 hkc hch hm hn
          obtain ⟨⟨_, e1, _, rfl⟩, -⟩ := hn
          have c0 := Chg.cell hch cx (fun x => x)
          exact rg_val (v := .int .i64 (x : Int)) (by simp [execOp, go_sem, e1, c0]) rfl hch (Chg.refl _ _) rfl
        · rintro kc m a w5 hkc hch hm hn
          obtain ⟨⟨_, e1, _, rfl⟩, ⟨_, e2, _, rfl⟩, ⟨_, e3, _, rfl⟩, -⟩ := hn
          refine rg_call (f := 79) (args := #[.int .i64 (y : Int), .int .i64 (x : Int), cb]) (by simp [go_sem, e1, e2, e3]) rfl ?_
          refine (HCC.out _ (hch.mono (fun _ _ x => x.elim)) y x HYM.out HXM.out).mono ?_
          rintro e w6 ⟨rfl, hc6⟩
          exact ⟨_, rfl, hch.trans hc6, hc6, rfl⟩
        · rintro kc m a w5 hkc hch hm hn
          obtain ⟨⟨_, e1, _, rfl⟩, -⟩ := hn
          exact rg_val (v := .bool true) (by simp [execOp, go_sem, e1, hl0]) rfl hch (Chg.refl _ _) rfl
        rintro m w2 hc2
        simp only [AllVals]
        rintro v0 _ p0 v1 _ p1 v2 _ p2 v3 _ p3 v4 _ p4 v5 _ p5 v6 _ p6 v7 _ p7 v8 _ p8 v9 _ p9 v10 _ p10
        obtain rfl := p10
        clear p0 p1 p2 p3 p4 p5 p6 p7 p8 p9
        simp only [Act.put, List.setIfInBounds_toArray, List.set_cons_succ, List.set_cons_zero]
        have HC2 := Lib.hid hc2
        clear hc2
        have HCX := Lib.hid (HCH2.out.trans (HC2.out.mono (fun _ _ x => x.elim)))
        have HBX := Lib.hid (HBL2.out.chg (F := NoB) HC2.out (fun x => x))
        clear HC2 cx cy hl0
        go_wp2
        go_roundw
        case rel => exact ⟨h + 1, j, by go_num, rfl, by omega, by omega, hj2, Lib.hid (.inr (by rw [show h + 1 - md - 1 = h - md by omega, HYE.out]; exact hl)), HJ, HCX.out, HBX.out⟩
        case measure => simp [intOf]; omega
      · have hl0 : ¬ cmp3 (K y) (K x) < 0 := fun q => hl (cmp3_lt.1 q)
        clear hch
        go_wp2_with fail
        refine wp_region_ro (gl := []) (WInv := fun _ _ w5 => Chg NoB wr w5) (R := Chg NoB) (Post := PV [some (.func (.func 79) #[] #[cb]), some (.slice (some ⟨g, 0, none⟩) n c), some (.int .i64 (h : Int)), some (.pointer (some ⟨g, h, none⟩)), some (.int .i64 (y : Int)), some (.slice (some ⟨g, 0, none⟩) n c), some (.int .i64 (lo : Int)), some (.pointer (some ⟨g, lo, none⟩)), some (.int .i64 (x : Int)), some (.int .i64 (cmp3 (K y) (K x))), some (.bool false)]) (by kernel_rfl) (by kernel_rfl) (pv_guard (by intro p hp; cases hp)) (fun _ _ _ _ h _ _ => h) (fun _ _ _ _ h _ => h) (Chg.refl _ _).drew ⟨?_, ?_, ?_, ?_, ?_, ?_, ?_, ?_, ?_, ?_, ?_, trivial⟩ ?_
        · rintro kc m a w5 hkc hch hm hn
          obtain ⟨e1, -⟩ := hn
          replace e1 : a.tmps[4]?.getD undef = .func (.func 79) #[] #[cb] := e1
          exact rg_val (v := .func (.func 79) #[] #[cb]) (by simp [execOp, go_sem, e1]) rfl hch (Chg.refl _ _) rfl
        · rintro kc m a w5 hkc hch hm hn
          obtain ⟨e1, -⟩ := hn
          replace e1 : a.tmps[0]?.getD undef = .slice (some ⟨g, 0, none⟩) n c := e1
          exact rg_val (v := .slice (some ⟨g, 0, none⟩) n c) (by simp [execOp, go_sem, e1]) rfl hch (Chg.refl _ _) rfl
        · rintro kc m a w5 hkc hch hm hn
          obtain ⟨e1, -⟩ := hn
          replace e1 : a.tmps[12]?.getD undef = .int .i64 (h : Int) := e1
          exact rg_val (v := .int .i64 (h : Int)) (by simp [execOp, go_sem, e1]) rfl hch (Chg.refl _ _) rfl
        · rintro kc m a w5 hkc hch hm hn
          obtain ⟨⟨_, e1, _, rfl⟩, ⟨_, e2, _, rfl⟩, -⟩ := hn
          exact rg_val (v := .pointer (some ⟨g, h, none⟩)) (by simp [execOp, go_sem, e1, e2]; exact fun hh => absurd hh (by omega)) rfl hch (Chg.refl _ _) rfl
        · rintro kc m a w5 hkc hch hm hn
          obtain ⟨⟨_, e1, _, rfl⟩, -⟩ := hn
          have c0 := Chg.cell hch cy (fun x => x)
          exact rg_val (v := .int .i64 (y : Int)) (by simp [execOp, go_sem, e1, c0]) rfl hch (Chg.refl _ _) rfl
        · rintro kc m a w5 hkc hch hm hn
          obtain ⟨e1, -⟩ := hn
          replace e1 : a.tmps[0]?.getD undef = .slice (some ⟨g, 0, none⟩) n c := e1
          exact rg_val (v := .slice (some ⟨g, 0, none⟩) n c) (by simp [execOp, go_sem, e1]) rfl hch (Chg.refl _ _) rfl
        · rintro kc m a w5 hkc hch hm hn
          obtain ⟨e1, -⟩ := hn
          replace e1 : a.tmps[1]?.getD undef = .int .i64 (lo : Int) := e1
          exact rg_val (v := .int .i64 (lo : Int)) (by simp [execOp, go_sem, e1]) rfl hch (Chg.refl _ _) rfl
        · rintro kc m a w5 hkc hch hm hn
          obtain ⟨⟨_, e1, _, rfl⟩, ⟨_, e2, _, rfl⟩, -⟩ := hn
          exact rg_val (v := .pointer (some ⟨g, lo, none⟩)) (by simp [execOp, go_sem, e1, e2]; exact fun hh => absurd hh (by omega)) rfl hch (Chg.refl _ _) rfl
        · rintro kc m a w5 hkc hch hm hn
          obtain ⟨⟨_, e1, _, rfl⟩, -⟩ := hn
          have c0 := Chg.cell hch cx (fun x => x)
          exact rg_val (v := .int .i64 (x : Int)) (by simp [execOp, go_sem, e1, c0]) rfl hch (Chg.refl _ _) rfl
        · rintro kc m a w5 hkc hch hm hn
          obtain ⟨⟨_, e1, _, rfl⟩, ⟨_, e2, _, rfl⟩, ⟨_, e3, _, rfl⟩, -⟩ := hn
          refine rg_call (f := 79) (args := #[.int .i64 (y : Int), .int .i64 (x : Int), cb]) (by simp [go_sem, e1, e2, e3]) rfl ?_
          refine (HCC.out _ (hch.mono (fun _ _ x => x.elim)) y x HYM.out HXM.out).mono ?_
          rintro e w6 ⟨rfl, hc6⟩
          exact ⟨_, rfl, hch.trans hc6, hc6, rfl⟩
        · rintro kc m a w5 hkc hch hm hn
          obtain ⟨⟨_, e1, _, rfl⟩, -⟩ := hn
          exact rg_val (v := .bool false) (by simp [execOp, go_sem, e1, hl0]) rfl hch (Chg.refl _ _) rfl
        rintro m w2 hc2
        simp only [AllVals]
        rintro v0 _ p0 v1 _ p1 v2 _ p2 v3 _ p3 v4 _ p4 v5 _ p5 v6 _ p6 v7 _ p7 v8 _ p8 v9 _ p9 v10 _ p10
        obtain rfl := p10
        clear p0 p1 p2 p3 p4 p5 p6 p7 p8 p9
        simp only [Act.put, List.setIfInBounds_toArray, List.set_cons_succ, List.set_cons_zero]
        have HC2 := Lib.hid hc2
        clear hc2
        have HCX := Lib.hid (HCH2.out.trans (HC2.out.mono (fun _ _ x => x.elim)))
        have HBX := Lib.hid (HBL2.out.chg (F := NoB) HC2.out (fun x => x))
        clear HC2 cx cy hl0
        go_wp2
        go_roundw
        case rel => exact ⟨i, h, rfl, by go_num, hi1, by omega, by omega, HI, Lib.hid (.inr (by rw [HYE.out]; exact hl)), HCX.out, HBX.out⟩
        case measure => simp [intOf]; omega
    · have hlt' : ¬ ((i : Int) < (j : Int)) := by omega
      obtain rfl : i = j := by omega
      have HCH2 := Lib.hid hch
      have HBL2 := Lib.hid hbl
      have HR := Lib.hid (show insRow P V x (i - md) Q = P ++ (srt K (x :: V) ++ Q) by
        have := ins_left (K := K) (S := V) (x := x) (i := i - md) HSV.out HX.out (by have := HV.out; omega) (by rcases HI.out with q | q; exact .inl (by omega); exact .inr q) (by rcases HJ.out with q | q; exact .inl (by have := HV.out; omega); exact .inr (Int.not_lt.2 q))
        rw [← this]
        unfold insRow
        simp)
      clear hch hbl
      obtain ⟨w0, hw0⟩ : ∃ w0, wr = w0 := ⟨_, rfl⟩
      rw [hw0] at HCH2 HBL2 ⊢
      clear hw0
      go_wp2_with fail
      go_loopw [13] (fun vk wr => ∃ k : Nat, vk = .int .i64 (k : Int) ∧ lo ≤ k ∧ k + 1 ≤ i ∧ Chg (· = g) w wr ∧ RowB wr g rest (insRow P V x (k - lo) Q)) (fun vk _ => n - (intOf vk).toNat)
      case atStart => exact ⟨lo, rfl, Nat.le_refl _, by omega, HCH2.out, by rw [Nat.sub_self]; unfold insRow; exact HBL2.out⟩
      case round =>
        obtain ⟨k, rfl, hk1, hk2, hch, hbl⟩ := hrel
        by_cases hlt : k < i - 1
        · have hlt' : ((k : Int) < (i : Int) - 1) := by omega
          have HCH3 := Lib.hid hch
          have HKV := Lib.hid (show k - lo < V.length by have := HV.out; have := HU.out; omega)
          have hst := insRow_step (P := P) (x := x) (Y := Q) HKV.out
          obtain ⟨y, hy⟩ : ∃ y, V.getD (k - lo) 0 = y := ⟨_, rfl⟩
          rw [hst.2, hy] at hbl
          obtain ⟨cx, cy, hsw⟩ := RowB.ends (M := []) (l := k + 1) (y := y) hbl (k := k) (by have := HA.out; have := HKV.out; simp; omega) rfl
          have fx := hbl.fz k
          have fy := hbl.fz (k + 1)
          rw [List.nil_append, ← hy, ← hst.1, hy] at hsw
          have HSW := Lib.hid hsw
          have HKE := Lib.hid (show k - lo + 1 = k + 1 - lo by omega)
          clear hst hy hsw hbl hch
          have p0 : (0 : Int) ≤ (k : Int) + 1 := by omega
          have p2 : (k : Int) + 1 < (n : Int) := by omega
          have p3 : (k : Int) < (n : Int) := by omega
          have p4 : (0 : Int) ≤ (k : Int) := by omega
          have q1 : IntKind.i64.wrap ((k : Int) + 1) = (k : Int) + 1 := by rw [IntKind.wrap_i64]; omega
          have r1 : ((k : Int) + 1).toNat = k + 1 := by omega
          go_wp2_with fail
          go_region
          go_wp2
          go_roundw
          case rel => exact ⟨k + 1, by go_num, by omega, by omega, ((HCH3.out.setCell (p := ⟨g, k, none⟩) (.inl rfl) _).setCell (p := ⟨g, k + 1, none⟩) (.inl rfl) _).drew, by rw [← HKE.out]; exact Blk.chg HSW.out ((Chg.refl NoB _).drew) (fun x => x)⟩
          case measure => simp [intOf]; omega
        · have hlt' : ¬ ((k : Int) < (i : Int) - 1) := by omega
          have HCH3 := Lib.hid hch
          have HBL3 := Lib.hid hbl
          clear hch hbl
          go_wp2
          go_end0
          have h := HBL3.out
          rw [show k - lo = i - md by have := HU.out; omega, HR.out] at h
          exact ⟨rfl, HCH3.out, h⟩
set_option maxRecDepth 100000 in
set_option maxHeartbeats 4000000 in
theorem symR_any (w : World) (g c : Nat) (cb : Value) (K : Nat → Int) (M : Nat) (P U Q : List Nat) (y : Nat) (rest : List Value) (lo md hi n : Nat) (ha : P.length = lo) (hu : lo + U.length = md) (hv : md + 1 = hi) (hn : hi + Q.length = n) (hn' : n ≤ 1000) (hu1 : 2 ≤ U.length)
    (hB : RowB w g rest (P ++ (U ++ (y :: Q)))) (hU : Srt K U) (hX : ∀ x ∈ U, K x = K y → x ≤ y) (hyM : y < M) (hUM : ∀ x ∈ U, x < M) (hC : CmpP w g cb K M) :
    Calls Try.prog 106 #[.slice (some ⟨g, 0, none⟩) n c, .int .i64 (lo : Int), .int .i64 (md : Int), .int .i64 (hi : Int), .func (.func 79) #[] #[cb]] w (RowP w g rest (P ++ (srt K (U ++ [y]) ++ Q))) := by
  have HB := Lib.hid hB
  have HA := Lib.hid ha
  have HU := Lib.hid hu
  have HV := Lib.hid hv
  have HN := Lib.hid hn
  have HSU := Lib.hid hU
  have HX := Lib.hid (show ∀ x ∈ U, K y = K x → x ≤ y from fun x hx h => hX x hx h.symm)
  have HX' := Lib.hid hX
  have HYM := Lib.hid hyM
  have HUM := Lib.hid hUM
  have HC := Lib.hid hC
  have h1 : lo + 2 ≤ md := by omega
  have h2 : md < hi := by omega
  have h3 : hi ≤ n := by omega
  have t1 : ((md : Int) - (lo : Int) == 1) = false := by rw [beq_eq_false_iff_ne]; omega
  have t2 : ((hi : Int) - (md : Int) == 1) = true := by rw [beq_iff_eq]; omega
  clear hB ha hu hv hn hU hX hyM hUM hC hu1
  go_enter Try.func106, Try.ntmps106
  go_wp2_with fail
  go_loopw [14, 15] (fun vi vj wr => ∃ (i j : Nat), vi = .int .i64 (i : Int) ∧ vj = .int .i64 (j : Int) ∧ lo ≤ i ∧ i ≤ j ∧ j ≤ md ∧ Hid (i = lo ∨ K (U.getD (i - lo - 1) 0) ≤ K y) ∧ Hid (j = md ∨ K y < K (U.getD (j - lo) 0)) ∧ Chg (· = g) w wr ∧ RowB wr g rest (P ++ (U ++ (y :: Q)))) (fun vi vj _ => (intOf vj).toNat - (intOf vi).toNat)
  case atStart => exact ⟨lo, md, rfl, rfl, Nat.le_refl _, by omega, Nat.le_refl _, Lib.hid (.inl rfl), Lib.hid (.inl rfl), Chg.refl _ _, HB.out⟩
  case round =>
    obtain ⟨i, j, rfl, rfl, hi1, hj1, hj2, HI, HJ, hch, hbl⟩ := hrel
    by_cases hlt : i < j
    · have hlt' : ((i : Int) < (j : Int)) := by omega
      have p1 : (0 : Int) ≤ (i : Int) + (j : Int) := by omega
      go_wp2_with fail
      obtain ⟨h, hh⟩ : ∃ h : Nat, ((i : Int) + (j : Int)) / 2 = (h : Int) := ⟨(i + j) / 2, by omega⟩
      have HH := Lib.hid hh
      rw [hh]
      have b1 : i ≤ h := by omega
      have b2 : h < j := by omega
      have HUL := Lib.hid (show h - lo < U.length by have := HU.out; omega)
      clear hh p1
      obtain ⟨x, hx⟩ : ∃ x, U.getD (h - lo) 0 = x := ⟨_, rfl⟩
      have HXM := Lib.hid (show x < M by rw [← hx]; exact HUM.out _ (getD_mem HUL.out))
      have HXE := Lib.hid hx
      have cy : wr.cell? ⟨g, md, none⟩ = some (.int .i64 (y : Int)) := RowB.at_ (P := P ++ U) (Q := Q) (by simpa using hbl) (by rw [List.length_append, HA.out, HU.out])
      have cx := hbl.get (k := h) (by have := HA.out; have := HUL.out; simp; omega)
      rw [getD_app_right (l := h - lo) (by have := HA.out; omega), getD_app_left HUL.out, hx] at cx
      have HBL2 := Lib.hid hbl
      have HCC := Lib.hid (HC.out.later hch)
      have HCH2 := Lib.hid hch
      have z0 : (0 : Int) ≤ (h : Int) := Int.natCast_nonneg _
      have z1 : (h : Int) < (n : Int) := by omega
      have z2 : (md : Int) < (n : Int) := by omega
      clear hbl hx
      by_cases hl : K y < K x
      · have hl0 : cmp3 (K y) (K x) < 0 := cmp3_lt.2 hl
        clear hch
        go_wp2_with fail
        refine wp_region_ro (gl := []) (WInv := fun _ _ w5 => Chg NoB wr w5) (R := Chg NoB) (Post := PV [some (.func (.func 79) #[] #[cb]), some (.slice (some ⟨g, 0, none⟩) n c), some (.int .i64 (md : Int)), some (.pointer (some ⟨g, md, none⟩)), some (.int .i64 (y : Int)), some (.slice (some ⟨g, 0, none⟩) n c), some (.int .i64 (h : Int)), some (.pointer (some ⟨g, h, none⟩)), some (.int .i64 (x : Int)), some (.int .i64 (cmp3 (K y) (K x))), some (.bool true), some (.bool false)]) (by kernel_rfl) (by kernel_rfl) (pv_guard (by intro p hp; cases hp)) (fun _ _ _ _ h _ _ => h) (fun _ _ _ _ h _ => h) (Chg.refl _ _).drew ⟨?_, ?_, ?_, ?_, ?_, ?_, ?_, ?_, ?_, ?_, ?_, ?_, trivial⟩ ?_
        · rintro kc m a w5 hkc hch hm hn
          obtain ⟨e1, -⟩ := hn
          replace e1 : a.tmps[4]?.getD undef = .func (.func 79) #[] #[cb] := e1
          exact rg_val (v := .func (.func 79) #[] #[cb]) (by simp [execOp, go_sem, e1]) rfl hch (Chg.refl _ _) rfl
        · rintro kc m a w5 hkc hch hm hn
          obtain ⟨e1, -⟩ := hn
          replace e1 : a.tmps[0]?.getD undef = .slice (some ⟨g, 0, none⟩) n c := e1
          exact rg_val (v := .slice (some ⟨g, 0, none⟩) n c) (by simp [execOp, go_sem, e1]) rfl hch (Chg.refl _ _) rfl
        · rintro kc m a w5 hkc hch hm hn
          obtain ⟨e1, -⟩ := hn
          replace e1 : a.tmps[2]?.getD undef = .int .i64 (md : Int) := e1
          exact rg_val (v := .int .i64 (md : Int)) (by simp [execOp, go_sem, e1]) rfl hch (Chg.refl _ _) rfl
        · rintro kc m a w5 hkc hch hm hn
          obtain ⟨⟨_, e1, _, rfl⟩, ⟨_, e2, _, rfl⟩, -⟩ := hn
          exact rg_val (v := .pointer (some ⟨g, md, none⟩)) (by simp [execOp, go_sem, e1, e2]; exact fun hh => absurd hh (by omega)) rfl hch (Chg.refl _ _) rfl
        · rintro kc m a w5 hkc hch hm hn
          obtain ⟨⟨_, e1, _, rfl⟩, -⟩ := hn
          have c0 := Chg.cell hch cy (fun x => x)
          exact rg_val (v := .int .i64 (y : Int)) (by simp [execOp, go_sem, e1, c0]) rfl hch (Chg.refl _ _) rfl
        · rintro kc m a w5 hkc hch hm hn
          obtain ⟨e1, -⟩ := hn
          replace e1 : a.tmps[0]?.getD undef = .slice (some ⟨g, 0, none⟩) n c := e1
          exact rg_val (v := .slice (some ⟨g, 0, none⟩) n c) (by simp [execOp, go_sem, e1]) rfl hch (Chg.refl _ _) rfl
        · rintro kc m a w5 hkc hch hm hn
          obtain ⟨e1, -⟩ := hn
          replace e1 : a.tmps[16]?.getD undef = .int .i64 (h : Int) := e1
          exact rg_val (v := .int .i64 (h : Int)) (by simp [execOp, go_sem, e1]) rfl hch (Chg.refl _ _) rfl
        · rintro kc m a w5 hkc hch hm hn
          obtain ⟨⟨_, e1, _, rfl⟩, ⟨_, e2, _, rfl⟩, -⟩ := hn
          exact rg_val (v := .pointer (some ⟨g, h, none⟩)) (by simp [execOp, go_sem, e1, e2]; exact fun hh => absurd hh (by omega)) rfl hch (Chg.refl _ _) rfl
        · rintro kc m a w5 hkc hch hm hn
          obtain ⟨⟨_, e1, _, rfl⟩, -⟩ := hn
          have c0 := Chg.cell hch cx (fun x => x)
          exact rg_val (v := .int .i64 (x : Int)) (by simp [execOp, go_sem, e1, c0]) rfl hch (Chg.refl _ _) rfl
        · rintro kc m a w5 hkc hch hm hn
          obtain ⟨⟨_, e1, _, rfl⟩, ⟨_, e2, _, rfl⟩, ⟨_, e3, _, rfl⟩, -⟩ := hn
          refine rg_call (f := 79) (args := #[.int .i64 (y : Int), .int .i64 (x : Int), cb]) (by simp [go_sem, e1, e2, e3]) rfl ?_
          refine (HCC.out _ (hch.mono (fun _ _ x => x.elim)) y x HYM.out HXM.out).mono ?_
          rintro e w6 ⟨rfl, hc6⟩
          exact ⟨_, rfl, hch.trans hc6, hc6, rfl⟩
        · rintro kc m a w5 hkc hch hm hn
          obtain ⟨⟨_, e1, _, rfl⟩, -⟩ := hn
          exact rg_val (v := .bool true) (by simp [execOp, go_sem, e1, hl0]) rfl hch (Chg.refl _ _) rfl
        · rintro kc m a w5 hkc hch hm hn
          obtain ⟨⟨_, e1, _, rfl⟩, -⟩ := hn
          exact rg_val (v := .bool false) (by simp [execOp, go_sem, e1]) rfl hch (Chg.refl _ _) rfl
        rintro m w2 hc2
        simp only [AllVals]
        rintro v0 _ p0 v1 _ p1 v2 _ p2 v3 _ p3 v4 _ p4 v5 _ p5 v6 _ p6 v7 _ p7 v8 _ p8 v9 _ p9 v10 _ p10 v11 _ p11
        obtain rfl := p11
        clear p0 p1 p2 p3 p4 p5 p6 p7 p8 p9 p10
        simp only [Act.put, List.setIfInBounds_toArray, List.set_cons_succ, List.set_cons_zero]
        have HC2 := Lib.hid hc2
        clear hc2
        have HCX := Lib.hid (HCH2.out.trans (HC2.out.mono (fun _ _ x => x.elim)))
        have HBX := Lib.hid (HBL2.out.chg (F := NoB) HC2.out (fun x => x))
        clear HC2 cx cy hl0
        go_wp2
        go_roundw
        case rel => exact ⟨i, h, rfl, by go_num, hi1, by omega, by omega, HI, Lib.hid (.inr (by rw [HXE.out]; exact hl)), HCX.out, HBX.out⟩
        case measure => simp [intOf]; omega
      · have hl0 : ¬ cmp3 (K y) (K x) < 0 := fun q => hl (cmp3_lt.1 q)
        clear hch
        go_wp2_with fail
        refine wp_region_ro (gl := []) (WInv := fun _ _ w5 => Chg NoB wr w5) (R := Chg NoB) (Post := PV [some (.func (.func 79) #[] #[cb]), some (.slice (some ⟨g, 0, none⟩) n c), some (.int .i64 (md : Int)), some (.pointer (some ⟨g, md, none⟩)), some (.int .i64 (y : Int)), some (.slice (some ⟨g, 0, none⟩) n c), some (.int .i64 (h : Int)), some (.pointer (some ⟨g, h, none⟩)), some (.int .i64 (x : Int)), some (.int .i64 (cmp3 (K y) (K x))), some (.bool false), some (.bool true)]) (by kernel_rfl) (by kernel_rfl) (pv_guard (by intro p hp; cases hp)) (fun _ _ _ _ h _ _ => h) (fun _ _ _ _ h _ => h) (Chg.refl _ _).drew ⟨?_, ?_, ?_, ?_, ?_, ?_, ?_, ?_, ?_, ?_, ?_, ?_, trivial⟩ ?_
        · rintro kc m a w5 hkc hch hm hn
          obtain ⟨e1, -⟩ := hn
          replace e1 : a.tmps[4]?.getD undef = .func (.func 79) #[] #[cb] := e1
          exact rg_val (v := .func (.func 79) #[] #[cb]) (by simp [execOp, go_sem, e1]) rfl hch (Chg.refl _ _) rfl
        · rintro kc m a w5 hkc hch hm hn
          obtain ⟨e1, -⟩ := hn
          replace e1 : a.tmps[0]?.getD undef = .slice (some ⟨g, 0, none⟩) n c := e1
          exact rg_val (v := .slice (some ⟨g, 0, none⟩) n c) (by simp [execOp, go_sem, e1]) rfl hch (Chg.refl _ _) rfl
        · rintro kc m a w5 hkc hch hm hn
          obtain ⟨e1, -⟩ := hn
          replace e1 : a.tmps[2]?.getD undef = .int .i64 (md : Int) := e1
          exact rg_val (v := .int .i64 (md : Int)) (by simp [execOp, go_sem, e1]) rfl hch (Chg.refl _ _) rfl
        · rintro kc m a w5 hkc hch hm hn
          obtain ⟨⟨_, e1, _, rfl⟩, ⟨_, e2, _, rfl⟩, -⟩ := hn
          exact rg_val (v := .pointer (some ⟨g, md, none⟩)) (by simp [execOp, go_sem, e1, e2]; exact fun hh => absurd hh (by omega)) rfl hch (Chg.refl _ _) rfl
        · rintro kc m a w5 hkc hch hm hn
          obtain ⟨⟨_, e1, _, rfl⟩, -⟩ := hn
          have c0 := Chg.cell hch cy (fun x => x)
          exact rg_val (v := .int .i64 (y : Int)) (by simp [execOp, go_sem, e1, c0]) rfl hch (Chg.refl _ _) rfl
        · rintro kc m a w5 hkc hch hm hn
          obtain ⟨e1, -⟩ := hn
          replace e1 : a.tmps[0]?.getD undef = .slice (some ⟨g, 0, none⟩) n c := e1
          exact rg_val (v := .slice (some ⟨g, 0, none⟩) n c) (by simp [execOp, go_sem, e1]) rfl hch (Chg.refl _ _) rfl
        · rintro kc m a w5 hkc hch hm hn
          obtain ⟨e1, -⟩ := hn
          replace e1 : a.tmps[16]?.getD undef = .int .i64 (h : Int) := e1
          exact rg_val (v := .int .i64 (h : Int)) (by simp [execOp, go_sem, e1]) rfl hch (Chg.refl _ _) rfl
        · rintro kc m a w5 hkc hch hm hn
          obtain ⟨⟨_, e1, _, rfl⟩, ⟨_, e2, _, rfl⟩, -⟩ := hn
          exact rg_val (v := .pointer (some ⟨g, h, none⟩)) (by simp [execOp, go_sem, e1, e2]; exact fun hh => absurd hh (by omega)) rfl hch (Chg.refl _ _) rfl
        · rintro kc m a w5 hkc hch hm hn
          obtain ⟨⟨_, e1, _, rfl⟩, -⟩ := hn
          have c0 := Chg.cell hch cx (fun x => x)
          exact rg_val (v := .int .i64 (x : Int)) (by simp [execOp, go_sem, e1, c0]) rfl hch (Chg.refl _ _) rfl
        · rintro kc m a w5 hkc hch hm hn
          obtain ⟨⟨_, e1, _, rfl⟩, ⟨_, e2, _, rfl⟩, ⟨_, e3, _, rfl⟩, -⟩ := hn
          refine rg_call (f := 79) (args := #[.int .i64 (y : Int), .int .i64 (x : Int), cb]) (by simp [go_sem, e1, e2, e3]) rfl ?_
          refine (HCC.out _ (hch.mono (fun _ _ x => x.elim)) y x HYM.out HXM.out).mono ?_
          rintro e w6 ⟨rfl, hc6⟩
          exact ⟨_, rfl, hch.trans hc6, hc6, rfl⟩
        · rintro kc m a w5 hkc hch hm hn
          obtain ⟨⟨_, e1, _, rfl⟩, -⟩ := hn
          exact rg_val (v := .bool false) (by simp [execOp, go_sem, e1, hl0]) rfl hch (Chg.refl _ _) rfl
        · rintro kc m a w5 hkc hch hm hn
          obtain ⟨⟨_, e1, _, rfl⟩, -⟩ := hn
          exact rg_val (v := .bool true) (by simp [execOp, go_sem, e1]) rfl hch (Chg.refl _ _) rfl
        rintro m w2 hc2
        simp only [AllVals]
        rintro v0 _ p0 v1 _ p1 v2 _ p2 v3 _ p3 v4 _ p4 v5 _ p5 v6 _ p6 v7 _ p7 v8 _ p8 v9 _ p9 v10 _ p10 v11 _ p11
        obtain rfl := p11
        clear p0 p1 p2 p3 p4 p5 p6 p7 p8 p9 p10
        simp only [Act.put, List.setIfInBounds_toArray, List.set_cons_succ, List.set_cons_zero]
        have HC2 := Lib.hid hc2
        clear hc2
        have HCX := Lib.hid (HCH2.out.trans (HC2.out.mono (fun _ _ x => x.elim)))
        have HBX := Lib.hid (HBL2.out.chg (F := NoB) HC2.out (fun x => x))
        clear HC2 cx cy hl0
        go_wp2
        go_roundw
        case rel => exact ⟨h + 1, j, by go_num, rfl, by omega, by omega, hj2, Lib.hid (.inr (by rw [show h + 1 - lo - 1 = h - lo by omega, HXE.out]; exact hl)), HJ, HCX.out, HBX.out⟩
        case measure => simp [intOf]; omega
    · have hlt' : ¬ ((i : Int) < (j : Int)) := by omega
      obtain rfl : i = j := by omega
      have HCH2 := Lib.hid hch
      have HBL2 := Lib.hid hbl
      have HR := Lib.hid (show insRow P U y (i - lo) Q = P ++ (srt K (U ++ [y]) ++ Q) by
        have := ins_right (K := K) (S := U) (y := y) (i := i - lo) HSU.out HX'.out (by have := HU.out; omega) (by rcases HI.out with q | q; exact .inl (by omega); exact .inr (Int.not_lt.2 q)) (by rcases HJ.out with q | q; exact .inl (by have := HU.out; omega); exact .inr q)
        rw [← this]
        unfold insRow
        simp)
      clear hch hbl
      obtain ⟨w0, hw0⟩ : ∃ w0, wr = w0 := ⟨_, rfl⟩
      rw [hw0] at HCH2 HBL2 ⊢
      clear hw0
      go_wp2_with fail
      go_loopw [17] (fun vk wr => ∃ k : Nat, vk = .int .i64 (k : Int) ∧ i ≤ k ∧ k ≤ md ∧ Chg (· = g) w wr ∧ RowB wr g rest (insRow P U y (k - lo) Q)) (fun vk _ => (intOf vk).toNat)
      case atStart => exact ⟨md, rfl, by omega, Nat.le_refl _, HCH2.out, by
        have e1 : U.take (md - lo) = U := List.take_of_length_le (by have := HU.out; omega)
        have e2 : U.drop (md - lo) = [] := List.drop_of_length_le (by have := HU.out; omega)
        unfold insRow
        rw [e1, e2]
        exact HBL2.out⟩
      case round =>
        obtain ⟨k, rfl, hk1, hk2, hch, hbl⟩ := hrel
        by_cases hlt : i < k
        · obtain ⟨q, rfl⟩ : ∃ q, k = q + 1 := ⟨k - 1, by omega⟩
          have hlt' : ((q : Int) + 1 > (i : Int)) := by omega
          have HCH3 := Lib.hid hch
          have HKV := Lib.hid (show q - lo < U.length by have := HU.out; omega)
          have hst := insRow_step (P := P) (x := y) (Y := Q) HKV.out
          obtain ⟨x, hx⟩ : ∃ x, U.getD (q - lo) 0 = x := ⟨_, rfl⟩
          rw [show q + 1 - lo = q - lo + 1 by omega, hst.1, hx] at hbl
          have hpl : (P ++ U.take (q - lo)).length = q := by have := HA.out; have := HKV.out; simp; omega
          have cx := hbl.at_ hpl
          have cy := RowB.at_ (P := P ++ U.take (q - lo) ++ [x]) (k := q + 1) (Q := U.drop (q - lo + 1) ++ Q) (x := y) (w := wr) (g := g) (rest := rest) (by simpa using hbl) (by rw [List.length_append, hpl]; rfl)
          have hsw := hbl.swap hpl
          have fx := hbl.fz q
          have fy := hbl.fz (q + 1)
          rw [← hx, ← hst.2, hx] at hsw
          have HSW := Lib.hid hsw
          clear hst hx hsw hbl hch hpl
          have p0 : (0 : Int) ≤ (q : Int) := by omega
          have p2 : (q : Int) + 1 < (n : Int) := by omega
          have p3 : (q : Int) < (n : Int) := by omega
          have q1 : (q : Int) + 1 - 1 = (q : Int) := by omega
          go_wp2_with fail
          go_region
          go_wp2
          go_roundw
          case rel => exact ⟨q, by go_num, by omega, by omega, ((HCH3.out.setCell (p := ⟨g, q + 1, none⟩) (.inl rfl) _).setCell (p := ⟨g, q, none⟩) (.inl rfl) _).drew, Blk.chg HSW.out ((Chg.refl NoB _).drew) (fun x => x)⟩
          case measure => simp [intOf]
        · have hlt' : ¬ ((k : Int) > (i : Int)) := by omega
          have HCH3 := Lib.hid hch
          have HBL3 := Lib.hid hbl
          clear hch hbl
          go_wp2
          go_end0
          have h := HBL3.out
          rw [show k - lo = i - lo by omega, HR.out] at h
          exact ⟨rfl, HCH3.out, h⟩
end Go.Proofs.Ytenbbkmbnpdfaaa
