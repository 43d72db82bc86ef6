/- symMerge: the whole. -/
import Derived.Test.YtenbbkmbnpdfaaaZd
namespace Go.Proofs.Ytenbbkmbnpdfaaa
open Go.RowKit
structure Parts (K : Nat → Int) (M : Nat) (U V U1 U2 V1 V2 : List Nat) : Prop where
  u : ∀ R, U ++ R = U1 ++ (U2 ++ R)
  v : ∀ R, V ++ R = V1 ++ (V2 ++ R)
  s1 : Srt K U1
  s2 : Srt K U2
  s3 : Srt K V1
  s4 : Srt K V2
  c1 : Cross K U1 V1
  c2 : Cross K U2 V2
  m1 : ∀ x ∈ U1, x < M
  m2 : ∀ x ∈ U2, x < M
  m3 : ∀ x ∈ V1, x < M
  m4 : ∀ x ∈ V2, x < M
  whole : srt K (U1 ++ V1) ++ srt K (U2 ++ V2) = srt K (U ++ V)
theorem sym_parts {K : Nat → Int} {M : Nat} {U V : List Nat} {lo md hi mi s : Nat} (hu : lo + U.length = md) (hv : md + V.length = hi) (hm : mi = (lo + hi) / 2) (hU : Srt K U) (hV : Srt K V) (hc : Cross K U V) (hUM : ∀ x ∈ U, x < M) (hVM : ∀ y ∈ V, y < M)
    (h0 : mi + md ≤ s + hi) (h1 : lo ≤ s) (h1' : s ≤ mi) (h1'' : s ≤ md) (h2 : (s = lo ∨ s + hi = mi + md) ∨ K (U.getD (s - lo - 1) 0) ≤ K (V.getD (mi - s) 0)) (h3 : (s = mi ∨ s = md) ∨ K (V.getD (mi - 1 - s) 0) < K (U.getD (s - lo) 0)) :
    ∃ U1 U2 V1 V2, Parts K M U V U1 U2 V1 V2 ∧ lo + U1.length = s ∧ s + U2.length = md ∧ s + V1.length = mi ∧ (mi + md - s) + V2.length = hi := by
  have e1 : mi - lo - (s - lo) = mi - s := by omega
  have e2 : mi - lo - 1 - (s - lo) = mi - 1 - s := by omega
  have hw := sym_split (K := K) (U := U) (V := V) (M := mi - lo) (s := s - lo) hU hV hc (by omega) (by omega) (by
    rw [e1]
    rcases h2 with (h2 | h2) | h2
    · exact .inl (by omega)
    · exact .inl (by omega)
    · exact .inr (Int.not_lt.2 h2)) (by
    rw [e2]
    rcases h3 with (h3 | h3) | h3
    · exact .inl (by omega)
    · exact .inl (by omega)
    · exact .inr h3)
  rw [e1] at hw
  refine ⟨U.take (s - lo), U.drop (s - lo), V.take (mi - s), V.drop (mi - s), ⟨fun R => by rw [← List.append_assoc, List.take_append_drop], fun R => by rw [← List.append_assoc, List.take_append_drop], hU.sublist (List.take_sublist _ _), hU.sublist (List.drop_sublist _ _),
    hV.sublist (List.take_sublist _ _), hV.sublist (List.drop_sublist _ _), (hc.parts _ _).1, (hc.parts _ _).2, fun x hx => hUM x (List.mem_of_mem_take hx), fun x hx => hUM x (List.mem_of_mem_drop hx), fun x hx => hVM x (List.mem_of_mem_take hx), fun x hx => hVM x (List.mem_of_mem_drop hx), hw⟩, ?_, ?_, ?_, ?_⟩
  · rw [List.length_take]; omega
  · rw [List.length_drop]; omega
  · rw [List.length_take]; omega
  · rw [List.length_drop]; omega
theorem srt_one_side {K : Nat → Int} {A B : List Nat} (hA : Srt K A) (hB : Srt K B) (h : A.length = 0 ∨ B.length = 0) : srt K (A ++ B) = A ++ B := by
  rcases h with h | h
  · rw [List.length_eq_zero_iff] at h; subst h; exact srt_self hB
  · rw [List.length_eq_zero_iff] at h; subst h; rw [List.append_nil]; exact srt_self hA
theorem swap_one_side {U V : List Nat} (h : U.length = 0 ∨ V.length = 0) (R : List Nat) : U ++ (V ++ R) = V ++ (U ++ R) := by
  rcases h with h | h <;> rw [List.length_eq_zero_iff] at h <;> subst h <;> rfl
def SymP (K : Nat → Int) (M g c : Nat) (cb : Value) (n : Nat) (rest : List Value) (N : Nat) : Prop := ∀ (w : World) (P U V Q : List Nat) (lo md hi : Nat), U.length + V.length ≤ N → P.length = lo → lo + U.length = md → md + V.length = hi → hi + Q.length = n → 1 ≤ U.length → 1 ≤ V.length →
  RowB w g rest (P ++ (U ++ (V ++ Q))) → Srt K U → Srt K V → Cross K U V → (∀ x ∈ U, x < M) → (∀ y ∈ V, y < M) → CmpP w g cb K M →
  Calls Try.prog 106 #[.slice (some ⟨g, 0, none⟩) n c, .int .i64 (lo : Int), .int .i64 (md : Int), .int .i64 (hi : Int), .func (.func 79) #[] #[cb]] w (RowP w g rest (P ++ (srt K (U ++ V) ++ Q)))
set_option maxRecDepth 100000 in
set_option maxHeartbeats 16000000 in
theorem symG_any (w : World) (g c : Nat) (cb : Value) (K : Nat → Int) (M N : Nat) (P U V Q : List Nat) (rest : List Value) (lo md hi n : Nat) (IH : SymP K M g c cb n rest N) (hN : U.length + V.length ≤ N + 1) (ha : P.length = lo) (hu : lo + U.length = md) (hv : md + V.length = hi) (hn : hi + Q.length = n) (hn' : n ≤ 1000) (hu1 : 2 ≤ U.length) (hv1 : 2 ≤ V.length)
    (hB : RowB w g rest (P ++ (U ++ (V ++ Q)))) (hU : Srt K U) (hV : Srt K V) (hX : Cross K U V) (hUM : ∀ x ∈ U, x < M) (hVM : ∀ y ∈ V, y < M) (hC : CmpP w g cb K M) :
    Calls Try.prog 106 #[.slice (some ⟨g, 0, none⟩) n c, .int .i64 (lo : Int), .int .i64 (md : Int), .int .i64 (hi : Int), .func (.func 79) #[] #[cb]] w (RowP w g rest (P ++ (srt K (U ++ V) ++ Q))) := by
  have HIH := Lib.hid IH
  have HNN := Lib.hid hN
  have HB := Lib.hid hB
  have HA := Lib.hid ha
  have HU := Lib.hid hu
  have HV := Lib.hid hv
  have HN := Lib.hid hn
  have HSU := Lib.hid hU
  have HSV := Lib.hid hV
  have HX := Lib.hid hX
  have HUM := Lib.hid hUM
  have HVM := Lib.hid hVM
  have HC := Lib.hid hC
  obtain ⟨mi, hmi⟩ : ∃ mi, mi = (lo + hi) / 2 := ⟨_, rfl⟩
  have HMI := Lib.hid hmi
  have hmid : ((lo : Int) + (hi : Int)) / 2 = (mi : Int) := by omega
  have h1 : lo + 2 ≤ md := by omega
  have h2 : md + 2 ≤ hi := by omega
  have h3 : hi ≤ n := by omega
  have h4 : lo < mi := by omega
  have h5 : mi < hi := by omega
  have p0 : (0 : Int) ≤ (lo : Int) + (hi : Int) := by omega
  have t1 : ((md : Int) - (lo : Int) == 1) = false := by rw [beq_eq_false_iff_ne]; omega
  have t2 : ((hi : Int) - (md : Int) == 1) = false := by rw [beq_eq_false_iff_ne]; omega
  clear IH hN hB ha hu hv hn hU hV hX hUM hVM hC hu1 hv1 hmi
  by_cases hm : mi < md
  · have hm' : ((md : Int) > (mi : Int)) := by omega
    have hst : (mi : Int) + (md : Int) - (hi : Int) = ((mi + md - hi : Nat) : Int) := by omega
    go_enter Try.func106, Try.ntmps106
    go_wp2_with fail
    obtain ⟨st, hs0⟩ : ∃ st, st = mi + md - hi := ⟨_, rfl⟩
    obtain ⟨r0, hr0⟩ : ∃ r0, r0 = mi := ⟨_, rfl⟩
    have HST := Lib.hid (show (mi + md ≤ st + hi ∧ lo ≤ st ∧ st ≤ r0 ∧ r0 ≤ mi ∧ r0 ≤ md) ∧ (st = lo ∨ st + hi = mi + md) ∧ (r0 = mi ∨ r0 = md) by omega)
    have hb0 := HST.out.1
    have HS0 := Lib.hid (show (mi : Int) + (md : Int) - (hi : Int) = (st : Int) by omega)
    have HR0 := Lib.hid hr0
    clear hs0 hr0 hst
    go_loopw [20, 21] (fun vi vj wr => ∃ (s r : Nat), vi = .int .i64 (s : Int) ∧ vj = .int .i64 (r : Int) ∧ st ≤ s ∧ s ≤ r ∧ r ≤ r0 ∧ Hid (s = st ∨ K (U.getD (s - lo - 1) 0) ≤ K (V.getD (mi - s) 0)) ∧ Hid (r = r0 ∨ K (V.getD (mi - 1 - r) 0) < K (U.getD (r - lo) 0)) ∧ Chg (· = g) w wr ∧ RowB wr g rest (P ++ (U ++ (V ++ Q)))) (fun vi vj _ => (intOf vj).toNat - (intOf vi).toNat)
    case atStart => exact ⟨st, r0, by rw [← HS0.out]; first | rfl | go_num, by rw [HR0.out], Nat.le_refl _, hb0.2.2.1, Nat.le_refl _, Lib.hid (.inl rfl), Lib.hid (.inl rfl), Chg.refl _ _, HB.out⟩
    case round =>
      obtain ⟨s, r, rfl, rfl, hs1, hsr, hr1, HI, HJ, hch, hbl⟩ := hrel
      by_cases hlt : s < r
      · have hlt' : ((s : Int) < (r : Int)) := by omega
        have p1 : (0 : Int) ≤ (s : Int) + (r : Int) := by omega
        go_wp2_with fail
        obtain ⟨h, hh⟩ : ∃ h : Nat, ((s : Int) + (r : Int)) / 2 = (h : Int) := ⟨(s + r) / 2, by omega⟩
        have HH := Lib.hid hh
        rw [hh]
        have b1 : s ≤ h := by omega
        have b2 : h < r := by omega
        obtain ⟨qq, hq⟩ : ∃ qq, qq = mi + md - 1 - h := ⟨_, rfl⟩
        have hwp : IntKind.i64.wrap ((mi : Int) + (md : Int) - 1 - (h : Int)) = (qq : Int) := by rw [IntKind.wrap_i64]; omega
        have HUL := Lib.hid (show h - lo < U.length by have := HU.out; omega)
        have HVL := Lib.hid (show mi - 1 - h < V.length by have := HV.out; omega)
        have HQ := Lib.hid hq
        have z1 : (qq : Int) < (n : Int) := by omega
        have z2 : (h : Int) < (n : Int) := by omega
        have z3 : (0 : Int) ≤ (qq : Int) := Int.natCast_nonneg _
        have z4 : (0 : Int) ≤ (h : Int) := Int.natCast_nonneg _
        clear hh p1 hq
        obtain ⟨y, hy⟩ : ∃ y, V.getD (mi - 1 - h) 0 = y := ⟨_, rfl⟩
        obtain ⟨x, hx⟩ : ∃ x, U.getD (h - lo) 0 = x := ⟨_, rfl⟩
        have HYM := Lib.hid (show y < M by rw [← hy]; exact HVM.out _ (getD_mem HVL.out))
        have HXM := Lib.hid (show x < M by rw [← hx]; exact HUM.out _ (getD_mem HUL.out))
        have HYE := Lib.hid hy
        have HXE := Lib.hid hx
        have cx := hbl.get (k := h) (by have := HA.out; have := HUL.out; simp; omega)
        rw [getD_app_right (l := h - lo) (by have := HA.out; omega), getD_app_left HUL.out, hx] at cx
        have cy := hbl.get (k := qq) (by have := HA.out; have := HU.out; have := HVL.out; have := HQ.out; simp; omega)
        rw [getD_app_right (l := qq - lo) (by have := HA.out; have := HQ.out; omega), getD_app_right (l := mi - 1 - h) (by have := HU.out; have := HQ.out; omega), getD_app_left HVL.out, hy] at cy
        have HBL2 := Lib.hid hbl
        have HCC := Lib.hid (HC.out.later hch)
        have HCH2 := Lib.hid hch
        clear hbl hx hy
        by_cases hl : K y < K x
        · have hl0 : cmp3 (K y) (K x) < 0 := cmp3_lt.2 hl
          clear hch
          go_wp2_with fail
          refine wp_region_ro (gl := []) (WInv := fun _ _ w5 => Chg NoB wr w5) (R := Chg NoB) (Post := PV [some (.func (.func 79) #[] #[cb]), some (.slice (some ⟨g, 0, none⟩) n c), some (.int .i64 ((mi : Int) + (md : Int) - 1)), some (.int .i64 (h : Int)), some (.int .i64 (qq : Int)), some (.pointer (some ⟨g, qq, none⟩)), some (.int .i64 (y : Int)), some (.slice (some ⟨g, 0, none⟩) n c), some (.int .i64 (h : Int)), some (.pointer (some ⟨g, h, none⟩)), some (.int .i64 (x : Int)), some (.int .i64 (cmp3 (K y) (K x))), some (.bool true), some (.bool false)]) (by kernel_rfl) (by kernel_rfl) (pv_guard (by intro p hp; cases hp)) (fun _ _ _ _ h _ _ => h) (fun _ _ _ _ h _ => h) (Chg.refl _ _).drew ⟨?_, ?_, ?_, ?_, ?_, ?_, ?_, ?_, ?_, ?_, ?_, ?_, ?_, ?_, trivial⟩ ?_
          · rintro kc m a w5 hkc hch hm hn
            obtain ⟨e1, -⟩ := hn
            replace e1 : a.tmps[4]?.getD undef = .func (.func 79) #[] #[cb] := e1
            exact rg_val (v := .func (.func 79) #[] #[cb]) (by simp [execOp, go_sem, e1]) rfl hch (Chg.refl _ _) rfl
          · rintro kc m a w5 hkc hch hm hn
            obtain ⟨e1, -⟩ := hn
            replace e1 : a.tmps[0]?.getD undef = .slice (some ⟨g, 0, none⟩) n c := e1
            exact rg_val (v := .slice (some ⟨g, 0, none⟩) n c) (by simp [execOp, go_sem, e1]) rfl hch (Chg.refl _ _) rfl
          · rintro kc m a w5 hkc hch hm hn
            obtain ⟨e1, -⟩ := hn
            replace e1 : a.tmps[22]?.getD undef = .int .i64 ((mi : Int) + (md : Int) - 1) := e1
            exact rg_val (v := .int .i64 ((mi : Int) + (md : Int) - 1)) (by simp [execOp, go_sem, e1]) rfl hch (Chg.refl _ _) rfl
          · rintro kc m a w5 hkc hch hm hn
            obtain ⟨e1, -⟩ := hn
            replace e1 : a.tmps[23]?.getD undef = .int .i64 (h : Int) := e1
            exact rg_val (v := .int .i64 (h : Int)) (by simp [execOp, go_sem, e1]) rfl hch (Chg.refl _ _) rfl
          · rintro kc m a w5 hkc hch hm hn
            obtain ⟨⟨_, e1, _, rfl⟩, ⟨_, e2, _, rfl⟩, -⟩ := hn
            exact rg_val (v := .int .i64 (qq : Int)) (by simp [execOp, go_sem, e1, e2, hwp]) rfl hch (Chg.refl _ _) rfl
          · rintro kc m a w5 hkc hch hm hn
            obtain ⟨⟨_, e1, _, rfl⟩, ⟨_, e2, _, rfl⟩, -⟩ := hn
            exact rg_val (v := .pointer (some ⟨g, qq, none⟩)) (by simp [execOp, go_sem, e1, e2]; exact fun hh => absurd hh (by omega)) rfl hch (Chg.refl _ _) rfl
          · rintro kc m a w5 hkc hch hm hn
            obtain ⟨⟨_, e1, _, rfl⟩, -⟩ := hn
            have c0 := Chg.cell hch cy (fun x => x)
            exact rg_val (v := .int .i64 (y : Int)) (by simp [execOp, go_sem, e1, c0]) rfl hch (Chg.refl _ _) rfl
          · rintro kc m a w5 hkc hch hm hn
            obtain ⟨e1, -⟩ := hn
            replace e1 : a.tmps[0]?.getD undef = .slice (some ⟨g, 0, none⟩) n c := e1
            exact rg_val (v := .slice (some ⟨g, 0, none⟩) n c) (by simp [execOp, go_sem, e1]) rfl hch (Chg.refl _ _) rfl
          · rintro kc m a w5 hkc hch hm hn
            obtain ⟨e1, -⟩ := hn
            replace e1 : a.tmps[23]?.getD undef = .int .i64 (h : Int) := e1
            exact rg_val (v := .int .i64 (h : Int)) (by simp [execOp, go_sem, e1]) rfl hch (Chg.refl _ _) rfl
          · rintro kc m a w5 hkc hch hm hn
            obtain ⟨⟨_, e1, _, rfl⟩, ⟨_, e2, _, rfl⟩, -⟩ := hn
            exact rg_val (v := .pointer (some ⟨g, h, none⟩)) (by simp [execOp, go_sem, e1, e2]; exact fun hh => absurd hh (by omega)) rfl hch (Chg.refl _ _) rfl
          · rintro kc m a w5 hkc hch hm hn
            obtain ⟨⟨_, e1, _, rfl⟩, -⟩ := hn
            have c0 := Chg.cell hch cx (fun x => x)
            exact rg_val (v := .int .i64 (x : Int)) (by simp [execOp, go_sem, e1, c0]) rfl hch (Chg.refl _ _) rfl
          · rintro kc m a w5 hkc hch hm hn
            obtain ⟨⟨_, e1, _, rfl⟩, ⟨_, e2, _, rfl⟩, ⟨_, e3, _, rfl⟩, -⟩ := hn
            refine rg_call (f := 79) (args := #[.int .i64 (y : Int), .int .i64 (x : Int), cb]) (by simp [go_sem, e1, e2, e3]) rfl ?_
            refine (HCC.out _ (hch.mono (fun _ _ x => x.elim)) y x HYM.out HXM.out).mono ?_
            rintro e w6 ⟨rfl, hc6⟩
            exact ⟨_, rfl, hch.trans hc6, hc6, rfl⟩
          · rintro kc m a w5 hkc hch hm hn
            obtain ⟨⟨_, e1, _, rfl⟩, -⟩ := hn
            exact rg_val (v := .bool true) (by simp [execOp, go_sem, e1, hl0]) rfl hch (Chg.refl _ _) rfl
          · rintro kc m a w5 hkc hch hm hn
            obtain ⟨⟨_, e1, _, rfl⟩, -⟩ := hn
            exact rg_val (v := .bool false) (by simp [execOp, go_sem, e1]) rfl hch (Chg.refl _ _) rfl
          rintro m w2 hc2
          simp only [AllVals]
          rintro v0 _ p0 v1 _ p1 v2 _ p2 v3 _ p3 v4 _ p4 v5 _ p5 v6 _ p6 v7 _ p7 v8 _ p8 v9 _ p9 v10 _ p10 v11 _ p11 v12 _ p12 v13 _ p13
          obtain rfl := p13
          clear p0 p1 p2 p3 p4 p5 p6 p7 p8 p9 p10 p11 p12
          simp only [Act.put, List.setIfInBounds_toArray, List.set_cons_succ, List.set_cons_zero]
          have HC2 := Lib.hid hc2
          clear hc2
          have HCX := Lib.hid (HCH2.out.trans (HC2.out.mono (fun _ _ x => x.elim)))
          have HBX := Lib.hid (HBL2.out.chg (F := NoB) HC2.out (fun x => x))
          clear HC2 cx cy hl0 hwp
          go_wp2
          go_roundw
          case rel => exact ⟨s, h, rfl, by go_num, hs1, b1, by omega, HI, Lib.hid (.inr (by rw [HXE.out, HYE.out]; exact hl)), HCX.out, HBX.out⟩
          case measure => simp [intOf]; omega
        · have hl0 : ¬ cmp3 (K y) (K x) < 0 := fun q => hl (cmp3_lt.1 q)
          clear hch
          go_wp2_with fail
          refine wp_region_ro (gl := []) (WInv := fun _ _ w5 => Chg NoB wr w5) (R := Chg NoB) (Post := PV [some (.func (.func 79) #[] #[cb]), some (.slice (some ⟨g, 0, none⟩) n c), some (.int .i64 ((mi : Int) + (md : Int) - 1)), some (.int .i64 (h : Int)), some (.int .i64 (qq : Int)), some (.pointer (some ⟨g, qq, none⟩)), some (.int .i64 (y : Int)), some (.slice (some ⟨g, 0, none⟩) n c), some (.int .i64 (h : Int)), some (.pointer (some ⟨g, h, none⟩)), some (.int .i64 (x : Int)), some (.int .i64 (cmp3 (K y) (K x))), some (.bool false), some (.bool true)]) (by kernel_rfl) (by kernel_rfl) (pv_guard (by intro p hp; cases hp)) (fun _ _ _ _ h _ _ => h) (fun _ _ _ _ h _ => h) (Chg.refl _ _).drew ⟨?_, ?_, ?_, ?_, ?_, ?_, ?_, ?_, ?_, ?_, ?_, ?_, ?_, ?_, trivial⟩ ?_
          · rintro kc m a w5 hkc hch hm hn
            obtain ⟨e1, -⟩ := hn
            replace e1 : a.tmps[4]?.getD undef = .func (.func 79) #[] #[cb] := e1
            exact rg_val (v := .func (.func 79) #[] #[cb]) (by simp [execOp, go_sem, e1]) rfl hch (Chg.refl _ _) rfl
          · rintro kc m a w5 hkc hch hm hn
            obtain ⟨e1, -⟩ := hn
            replace e1 : a.tmps[0]?.getD undef = .slice (some ⟨g, 0, none⟩) n c := e1
            exact rg_val (v := .slice (some ⟨g, 0, none⟩) n c) (by simp [execOp, go_sem, e1]) rfl hch (Chg.refl _ _) rfl
          · rintro kc m a w5 hkc hch hm hn
            obtain ⟨e1, -⟩ := hn
            replace e1 : a.tmps[22]?.getD undef = .int .i64 ((mi : Int) + (md : Int) - 1) := e1
            exact rg_val (v := .int .i64 ((mi : Int) + (md : Int) - 1)) (by simp [execOp, go_sem, e1]) rfl hch (Chg.refl _ _) rfl
          · rintro kc m a w5 hkc hch hm hn
            obtain ⟨e1, -⟩ := hn
            replace e1 : a.tmps[23]?.getD undef = .int .i64 (h : Int) := e1
            exact rg_val (v := .int .i64 (h : Int)) (by simp [execOp, go_sem, e1]) rfl hch (Chg.refl _ _) rfl
          · rintro kc m a w5 hkc hch hm hn
            obtain ⟨⟨_, e1, _, rfl⟩, ⟨_, e2, _, rfl⟩, -⟩ := hn
            exact rg_val (v := .int .i64 (qq : Int)) (by simp [execOp, go_sem, e1, e2, hwp]) rfl hch (Chg.refl _ _) rfl
          · rintro kc m a w5 hkc hch hm hn
            obtain ⟨⟨_, e1, _, rfl⟩, ⟨_, e2, _, rfl⟩, -⟩ := hn
            exact rg_val (v := .pointer (some ⟨g, qq, none⟩)) (by simp [execOp, go_sem, e1, e2]; exact fun hh => absurd hh (by omega)) rfl hch (Chg.refl _ _) rfl
          · rintro kc m a w5 hkc hch hm hn
            obtain ⟨⟨_, e1, _, rfl⟩, -⟩ := hn
            have c0 := Chg.cell hch cy (fun x => x)
            exact rg_val (v := .int .i64 (y : Int)) (by simp [execOp, go_sem, e1, c0]) rfl hch (Chg.refl _ _) rfl
          · rintro kc m a w5 hkc hch hm hn
            obtain ⟨e1, -⟩ := hn
            replace e1 : a.tmps[0]?.getD undef = .slice (some ⟨g, 0, none⟩) n c := e1
            exact rg_val (v := .slice (some ⟨g, 0, none⟩) n c) (by simp [execOp, go_sem, e1]) rfl hch (Chg.refl _ _) rfl
          · rintro kc m a w5 hkc hch hm hn
            obtain ⟨e1, -⟩ := hn
            replace e1 : a.tmps[23]?.getD undef = .int .i64 (h : Int) := e1
            exact rg_val (v := .int .i64 (h : Int)) (by simp [execOp, go_sem, e1]) rfl hch (Chg.refl _ _) rfl
          · rintro kc m a w5 hkc hch hm hn
            obtain ⟨⟨_, e1, _, rfl⟩, ⟨_, e2, _, rfl⟩, -⟩ := hn
            exact rg_val (v := .pointer (some ⟨g, h, none⟩)) (by simp [execOp, go_sem, e1, e2]; exact fun hh => absurd hh (by omega)) rfl hch (Chg.refl _ _) rfl
          · rintro kc m a w5 hkc hch hm hn
            obtain ⟨⟨_, e1, _, rfl⟩, -⟩ := hn
            have c0 := Chg.cell hch cx (fun x => x)
            exact rg_val (v := .int .i64 (x : Int)) (by simp [execOp, go_sem, e1, c0]) rfl hch (Chg.refl _ _) rfl
          · rintro kc m a w5 hkc hch hm hn
            obtain ⟨⟨_, e1, _, rfl⟩, ⟨_, e2, _, rfl⟩, ⟨_, e3, _, rfl⟩, -⟩ := hn
            refine rg_call (f := 79) (args := #[.int .i64 (y : Int), .int .i64 (x : Int), cb]) (by simp [go_sem, e1, e2, e3]) rfl ?_
            refine (HCC.out _ (hch.mono (fun _ _ x => x.elim)) y x HYM.out HXM.out).mono ?_
            rintro e w6 ⟨rfl, hc6⟩
            exact ⟨_, rfl, hch.trans hc6, hc6, rfl⟩
          · rintro kc m a w5 hkc hch hm hn
            obtain ⟨⟨_, e1, _, rfl⟩, -⟩ := hn
            exact rg_val (v := .bool false) (by simp [execOp, go_sem, e1, hl0]) rfl hch (Chg.refl _ _) rfl
          · rintro kc m a w5 hkc hch hm hn
            obtain ⟨⟨_, e1, _, rfl⟩, -⟩ := hn
            exact rg_val (v := .bool true) (by simp [execOp, go_sem, e1]) rfl hch (Chg.refl _ _) rfl
          rintro m w2 hc2
          simp only [AllVals]
          rintro v0 _ p0 v1 _ p1 v2 _ p2 v3 _ p3 v4 _ p4 v5 _ p5 v6 _ p6 v7 _ p7 v8 _ p8 v9 _ p9 v10 _ p10 v11 _ p11 v12 _ p12 v13 _ p13
          obtain rfl := p13
          clear p0 p1 p2 p3 p4 p5 p6 p7 p8 p9 p10 p11 p12
          simp only [Act.put, List.setIfInBounds_toArray, List.set_cons_succ, List.set_cons_zero]
          have HC2 := Lib.hid hc2
          clear hc2
          have HCX := Lib.hid (HCH2.out.trans (HC2.out.mono (fun _ _ x => x.elim)))
          have HBX := Lib.hid (HBL2.out.chg (F := NoB) HC2.out (fun x => x))
          clear HC2 cx cy hl0 hwp
          go_wp2
          go_roundw
          case rel => exact ⟨h + 1, r, by go_num, rfl, by omega, by omega, hr1, Lib.hid (.inr (by rw [show h + 1 - lo - 1 = h - lo by omega, show mi - (h + 1) = mi - 1 - h by omega, HXE.out, HYE.out]; exact hl)), HJ, HCX.out, HBX.out⟩
          case measure => simp [intOf]; omega
      · have hlt' : ¬ ((s : Int) < (r : Int)) := by omega
        obtain rfl : s = r := by omega
        obtain ⟨U1, U2, V1, V2, hp, l1, l2, l3, l4⟩ := sym_parts (M := M) (s := s) HU.out HV.out HMI.out HSU.out HSV.out HX.out HUM.out HVM.out (by omega) (by omega) (by omega) (by omega) (by rcases HI.out with q | q; exact .inl (by have := HST.out.2.1; omega); exact .inr q) (by rcases HJ.out with q | q; exact .inl (by have := HST.out.2.2; omega); exact .inr q)
        obtain ⟨en, hen⟩ : ∃ en, en = mi + md - s := ⟨_, rfl⟩
        have hen' : (mi : Int) + (md : Int) - (s : Int) = (en : Int) := by omega
        rw [← hen] at l4
        have HL1 := Lib.hid l1
        have HL2 := Lib.hid l2
        have HL3 := Lib.hid l3
        have HL4 := Lib.hid l4
        have HP := Lib.hid hp
        have HEN := Lib.hid hen
        have hbl' := hbl
        rw [hp.u, hp.v] at hbl'
        have HCH2 := Lib.hid hch
        have HBL2 := Lib.hid hbl'
        have HCC := Lib.hid (HC.out.later hch)
        have k1 : s ≤ mi := by omega
        have k2 : s ≤ md := by omega
        have k3 : lo ≤ s := by omega
        have k4 : en ≤ hi := by omega
        clear hch hbl hbl' l1 l2 l3 l4 hp hen hlt HI HJ
        by_cases c1 : s < md
        · have c1' : ((s : Int) < (md : Int)) := by omega
          have c5 : ((mi : Int) < (en : Int)) := by have := HEN.out; omega
          by_cases c6 : s < mi
          · have c6' : ((s : Int) < (mi : Int)) := by omega
            have c7 : ((md : Int) < (en : Int)) := by have := HEN.out; omega
            go_wp2_with fail
            refine (rotate_any _ g c _ (P ++ U1) U2 V1 (V2 ++ Q) rest s md en n (by have := HA.out; have := HL1.out; rw [List.length_append]; omega) HL2.out (by have := HL3.out; have := HEN.out; omega) (by have := HL4.out; have := HN.out; rw [List.length_append]; omega) hn' (by have := HL2.out; omega) (by have := HL3.out; omega) (by rw [List.append_assoc]; exact HBL2.out)).mono ?_
            rintro e w3 ⟨rfl, hc3, hb3⟩
            have HC3 := Lib.hid (HCH2.out.trans hc3)
            have HB3 := Lib.hid (show RowB _ g rest (P ++ (U1 ++ (V1 ++ (U2 ++ (V2 ++ Q))))) by rw [List.append_assoc] at hb3; exact hb3)
            clear hc3 hb3
            by_cases c2 : lo < s
            · have c2' : ((lo : Int) < (s : Int)) := by omega
              go_wp2_with fail
              refine (HIH.out _ P U1 V1 (U2 ++ (V2 ++ Q)) lo s mi (by have := HL1.out; have := HL2.out; have := HL3.out; have := HL4.out; have := HNN.out; have := HU.out; have := HV.out; have := HMI.out; omega) HA.out HL1.out HL3.out (by have := HL2.out; have := HL4.out; have := HEN.out; have := HN.out; simp; omega) (by have := HL1.out; omega) (by have := HL3.out; omega) HB3.out HP.out.s1 HP.out.s3 HP.out.c1 HP.out.m1 HP.out.m3 (HC.out.later HC3.out)).mono ?_
              rintro e w4 ⟨rfl, hc4, hb4⟩
              have HC4 := Lib.hid (HC3.out.trans hc4)
              have HB4 := Lib.hid hb4
              clear hc4 hb4
              by_cases c4 : en < hi
              · have c4' : ((en : Int) < (hi : Int)) := by omega
                go_wp2_with fail
                refine (HIH.out _ (P ++ srt K (U1 ++ V1)) U2 V2 Q mi en hi (by have := HL1.out; have := HL2.out; have := HL3.out; have := HL4.out; have := HNN.out; have := HU.out; have := HV.out; have := HMI.out; omega) (by have := HA.out; have := HL1.out; have := HL3.out; rw [List.length_append, srt_length, List.length_append]; omega) (by have := HL2.out; have := HEN.out; omega) HL4.out HN.out (by have := HL2.out; omega) (by have := HL4.out; omega) (by rw [List.append_assoc]; exact HB4.out) HP.out.s2 HP.out.s4 HP.out.c2 HP.out.m2 HP.out.m4 (HC.out.later HC4.out)).mono ?_
                rintro e w5 ⟨rfl, hc5, hb5⟩
                have HC5 := Lib.hid (HC4.out.trans hc5)
                have HB5 := Lib.hid hb5
                clear hc5 hb5
                go_wp2
                go_end0
                have hz := HB5.out
                rw [List.append_assoc, ← List.append_assoc (srt K (U1 ++ V1)), HP.out.whole] at hz
                exact ⟨rfl, HC5.out, hz⟩
              · have c4' : ¬ ((en : Int) < (hi : Int)) := by omega
                have HC5 := HC4
                have HB5 := Lib.hid (show RowB _ g rest ((P ++ srt K (U1 ++ V1)) ++ (srt K (U2 ++ V2) ++ Q)) from by rw [srt_one_side HP.out.s2 HP.out.s4 (by have := HL2.out; have := HL4.out; omega), List.append_assoc P, List.append_assoc U2]; exact HB4.out)
                go_wp2
                go_end0
                have hz := HB5.out
                rw [List.append_assoc, ← List.append_assoc (srt K (U1 ++ V1)), HP.out.whole] at hz
                exact ⟨rfl, HC5.out, hz⟩
            · have c2' : ¬ ((lo : Int) < (s : Int)) := by omega
              have HC4 := HC3
              have HB4 := Lib.hid (show RowB _ g rest (P ++ (srt K (U1 ++ V1) ++ (U2 ++ (V2 ++ Q)))) from by rw [srt_one_side HP.out.s1 HP.out.s3 (by have := HL1.out; have := HL3.out; omega), List.append_assoc]; exact HB3.out)
              by_cases c4 : en < hi
              · have c4' : ((en : Int) < (hi : Int)) := by omega
                go_wp2_with fail
                refine (HIH.out _ (P ++ srt K (U1 ++ V1)) U2 V2 Q mi en hi (by have := HL1.out; have := HL2.out; have := HL3.out; have := HL4.out; have := HNN.out; have := HU.out; have := HV.out; have := HMI.out; omega) (by have := HA.out; have := HL1.out; have := HL3.out; rw [List.length_append, srt_length, List.length_append]; omega) (by have := HL2.out; have := HEN.out; omega) HL4.out HN.out (by have := HL2.out; omega) (by have := HL4.out; omega) (by rw [List.append_assoc]; exact HB4.out) HP.out.s2 HP.out.s4 HP.out.c2 HP.out.m2 HP.out.m4 (HC.out.later HC4.out)).mono ?_
                rintro e w5 ⟨rfl, hc5, hb5⟩
                have HC5 := Lib.hid (HC4.out.trans hc5)
                have HB5 := Lib.hid hb5
                clear hc5 hb5
                go_wp2
                go_end0
                have hz := HB5.out
                rw [List.append_assoc, ← List.append_assoc (srt K (U1 ++ V1)), HP.out.whole] at hz
                exact ⟨rfl, HC5.out, hz⟩
              · have c4' : ¬ ((en : Int) < (hi : Int)) := by omega
                have HC5 := HC4
                have HB5 := Lib.hid (show RowB _ g rest ((P ++ srt K (U1 ++ V1)) ++ (srt K (U2 ++ V2) ++ Q)) from by rw [srt_one_side HP.out.s2 HP.out.s4 (by have := HL2.out; have := HL4.out; omega), List.append_assoc P, List.append_assoc U2]; exact HB4.out)
                go_wp2
                go_end0
                have hz := HB5.out
                rw [List.append_assoc, ← List.append_assoc (srt K (U1 ++ V1)), HP.out.whole] at hz
                exact ⟨rfl, HC5.out, hz⟩
          · have c6' : ¬ ((s : Int) < (mi : Int)) := by omega
            have c7 : ¬ ((md : Int) < (en : Int)) := by have := HEN.out; omega
            have c8 : ((lo : Int) < (s : Int)) := by omega
            have c9 : ((en : Int) < (hi : Int)) := by have := HEN.out; omega
            have HB3 := Lib.hid (show RowB _ g rest (P ++ (U1 ++ (V1 ++ (U2 ++ (V2 ++ Q))))) by rw [← swap_one_side (U := U2) (V := V1) (.inr (by have := HL3.out; omega))]; exact HBL2.out)
            have HC4 := HCH2
            have HB4 := Lib.hid (show RowB _ g rest (P ++ (srt K (U1 ++ V1) ++ (U2 ++ (V2 ++ Q)))) from by rw [srt_one_side HP.out.s1 HP.out.s3 (by have := HL1.out; have := HL3.out; omega), List.append_assoc]; exact HB3.out)
            go_wp2_with fail
            refine (HIH.out _ (P ++ srt K (U1 ++ V1)) U2 V2 Q mi en hi (by have := HL1.out; have := HL2.out; have := HL3.out; have := HL4.out; have := HNN.out; have := HU.out; have := HV.out; have := HMI.out; omega) (by have := HA.out; have := HL1.out; have := HL3.out; rw [List.length_append, srt_length, List.length_append]; omega) (by have := HL2.out; have := HEN.out; omega) HL4.out HN.out (by have := HL2.out; omega) (by have := HL4.out; omega) (by rw [List.append_assoc]; exact HB4.out) HP.out.s2 HP.out.s4 HP.out.c2 HP.out.m2 HP.out.m4 (HC.out.later HC4.out)).mono ?_
            rintro e w5 ⟨rfl, hc5, hb5⟩
            have HC5 := Lib.hid (HC4.out.trans hc5)
            have HB5 := Lib.hid hb5
            clear hc5 hb5
            go_wp2
            go_end0
            have hz := HB5.out
            rw [List.append_assoc, ← List.append_assoc (srt K (U1 ++ V1)), HP.out.whole] at hz
            exact ⟨rfl, HC5.out, hz⟩
        · exfalso; omega
  · have hm' : ¬ ((md : Int) > (mi : Int)) := by omega
    go_enter Try.func106, Try.ntmps106
    go_wp2_with fail
    obtain ⟨st, hs0⟩ : ∃ st, st = lo := ⟨_, rfl⟩
    obtain ⟨r0, hr0⟩ : ∃ r0, r0 = md := ⟨_, rfl⟩
    have HST := Lib.hid (show (mi + md ≤ st + hi ∧ lo ≤ st ∧ st ≤ r0 ∧ r0 ≤ mi ∧ r0 ≤ md) ∧ (st = lo ∨ st + hi = mi + md) ∧ (r0 = mi ∨ r0 = md) by omega)
    have hb0 := HST.out.1
    have HR0 := Lib.hid hr0
    have HS0 := Lib.hid hs0
    clear hs0 hr0
    go_loopw [20, 21] (fun vi vj wr => ∃ (s r : Nat), vi = .int .i64 (s : Int) ∧ vj = .int .i64 (r : Int) ∧ st ≤ s ∧ s ≤ r ∧ r ≤ r0 ∧ Hid (s = st ∨ K (U.getD (s - lo - 1) 0) ≤ K (V.getD (mi - s) 0)) ∧ Hid (r = r0 ∨ K (V.getD (mi - 1 - r) 0) < K (U.getD (r - lo) 0)) ∧ Chg (· = g) w wr ∧ RowB wr g rest (P ++ (U ++ (V ++ Q)))) (fun vi vj _ => (intOf vj).toNat - (intOf vi).toNat)
    case atStart => exact ⟨st, r0, by rw [HS0.out], by rw [HR0.out], Nat.le_refl _, hb0.2.2.1, Nat.le_refl _, Lib.hid (.inl rfl), Lib.hid (.inl rfl), Chg.refl _ _, HB.out⟩
    case round =>
      obtain ⟨s, r, rfl, rfl, hs1, hsr, hr1, HI, HJ, hch, hbl⟩ := hrel
      by_cases hlt : s < r
      · have hlt' : ((s : Int) < (r : Int)) := by omega
        have p1 : (0 : Int) ≤ (s : Int) + (r : Int) := by omega
        go_wp2_with fail
        obtain ⟨h, hh⟩ : ∃ h : Nat, ((s : Int) + (r : Int)) / 2 = (h : Int) := ⟨(s + r) / 2, by omega⟩
        have HH := Lib.hid hh
        rw [hh]
        have b1 : s ≤ h := by omega
        have b2 : h < r := by omega
        obtain ⟨qq, hq⟩ : ∃ qq, qq = mi + md - 1 - h := ⟨_, rfl⟩
        have hwp : IntKind.i64.wrap ((mi : Int) + (md : Int) - 1 - (h : Int)) = (qq : Int) := by rw [IntKind.wrap_i64]; omega
        have HUL := Lib.hid (show h - lo < U.length by have := HU.out; omega)
        have HVL := Lib.hid (show mi - 1 - h < V.length by have := HV.out; omega)
        have HQ := Lib.hid hq
        have z1 : (qq : Int) < (n : Int) := by omega
        have z2 : (h : Int) < (n : Int) := by omega
        have z3 : (0 : Int) ≤ (qq : Int) := Int.natCast_nonneg _
        have z4 : (0 : Int) ≤ (h : Int) := Int.natCast_nonneg _
        clear hh p1 hq
        obtain ⟨y, hy⟩ : ∃ y, V.getD (mi - 1 - h) 0 = y := ⟨_, rfl⟩
        obtain ⟨x, hx⟩ : ∃ x, U.getD (h - lo) 0 = x := ⟨_, rfl⟩
        have HYM := Lib.hid (show y < M by rw [← hy]; exact HVM.out _ (getD_mem HVL.out))
        have HXM := Lib.hid (show x < M by rw [← hx]; exact HUM.out _ (getD_mem HUL.out))
        have HYE := Lib.hid hy
        have HXE := Lib.hid hx
        have cx := hbl.get (k := h) (by have := HA.out; have := HUL.out; simp; omega)
        rw [getD_app_right (l := h - lo) (by have := HA.out; omega), getD_app_left HUL.out, hx] at cx
        have cy := hbl.get (k := qq) (by have := HA.out; have := HU.out; have := HVL.out; have := HQ.out; simp; omega)
        rw [getD_app_right (l := qq - lo) (by have := HA.out; have := HQ.out; omega), getD_app_right (l := mi - 1 - h) (by have := HU.out; have := HQ.out; omega), getD_app_left HVL.out, hy] at cy
        have HBL2 := Lib.hid hbl
        have HCC := Lib.hid (HC.out.later hch)
        have HCH2 := Lib.hid hch
        clear hbl hx hy
        by_cases hl : K y < K x
        · have hl0 : cmp3 (K y) (K x) < 0 := cmp3_lt.2 hl
          clear hch
          go_wp2_with fail
          refine wp_region_ro (gl := []) (WInv := fun _ _ w5 => Chg NoB wr w5) (R := Chg NoB) (Post := PV [some (.func (.func 79) #[] #[cb]), some (.slice (some ⟨g, 0, none⟩) n c), some (.int .i64 ((mi : Int) + (md : Int) - 1)), some (.int .i64 (h : Int)), some (.int .i64 (qq : Int)), some (.pointer (some ⟨g, qq, none⟩)), some (.int .i64 (y : Int)), some (.slice (some ⟨g, 0, none⟩) n c), some (.int .i64 (h : Int)), some (.pointer (some ⟨g, h, none⟩)), some (.int .i64 (x : Int)), some (.int .i64 (cmp3 (K y) (K x))), some (.bool true), some (.bool false)]) (by kernel_rfl) (by kernel_rfl) (pv_guard (by intro p hp; cases hp)) (fun _ _ _ _ h _ _ => h) (fun _ _ _ _ h _ => h) (Chg.refl _ _).drew ⟨?_, ?_, ?_, ?_, ?_, ?_, ?_, ?_, ?_, ?_, ?_, ?_, ?_, ?_, trivial⟩ ?_
          · rintro kc m a w5 hkc hch hm hn
            obtain ⟨e1, -⟩ := hn
            replace e1 : a.tmps[4]?.getD undef = .func (.func 79) #[] #[cb] := e1
            exact rg_val (v := .func (.func 79) #[] #[cb]) (by simp [execOp, go_sem, e1]) rfl hch (Chg.refl _ _) rfl
          · rintro kc m a w5 hkc hch hm hn
            obtain ⟨e1, -⟩ := hn
            replace e1 : a.tmps[0]?.getD undef = .slice (some ⟨g, 0, none⟩) n c := e1
            exact rg_val (v := .slice (some ⟨g, 0, none⟩) n c) (by simp [execOp, go_sem, e1]) rfl hch (Chg.refl _ _) rfl
          · rintro kc m a w5 hkc hch hm hn
            obtain ⟨e1, -⟩ := hn
            replace e1 : a.tmps[22]?.getD undef = .int .i64 ((mi : Int) + (md : Int) - 1) := e1
            exact rg_val (v := .int .i64 ((mi : Int) + (md : Int) - 1)) (by simp [execOp, go_sem, e1]) rfl hch (Chg.refl _ _) rfl
          · rintro kc m a w5 hkc hch hm hn
            obtain ⟨e1, -⟩ := hn
            replace e1 : a.tmps[23]?.getD undef = .int .i64 (h : Int) := e1
            exact rg_val (v := .int .i64 (h : Int)) (by simp [execOp, go_sem, e1]) rfl hch (Chg.refl _ _) rfl
          · rintro kc m a w5 hkc hch hm hn
            obtain ⟨⟨_, e1, _, rfl⟩, ⟨_, e2, _, rfl⟩, -⟩ := hn
            exact rg_val (v := .int .i64 (qq : Int)) (by simp [execOp, go_sem, e1, e2, hwp]) rfl hch (Chg.refl _ _) rfl
          · rintro kc m a w5 hkc hch hm hn
            obtain ⟨⟨_, e1, _, rfl⟩, ⟨_, e2, _, rfl⟩, -⟩ := hn
            exact rg_val (v := .pointer (some ⟨g, qq, none⟩)) (by simp [execOp, go_sem, e1, e2]; exact fun hh => absurd hh (by omega)) rfl hch (Chg.refl _ _) rfl
          · rintro kc m a w5 hkc hch hm hn
            obtain ⟨⟨_, e1, _, rfl⟩, -⟩ := hn
            have c0 := Chg.cell hch cy (fun x => x)
            exact rg_val (v := .int .i64 (y : Int)) (by simp [execOp, go_sem, e1, c0]) rfl hch (Chg.refl _ _) rfl
          · rintro kc m a w5 hkc hch hm hn
            obtain ⟨e1, -⟩ := hn
            replace e1 : a.tmps[0]?.getD undef = .slice (some ⟨g, 0, none⟩) n c := e1
            exact rg_val (v := .slice (some ⟨g, 0, none⟩) n c) (by simp [execOp, go_sem, e1]) rfl hch (Chg.refl _ _) rfl
          · rintro kc m a w5 hkc hch hm hn
            obtain ⟨e1, -⟩ := hn
            replace e1 : a.tmps[23]?.getD undef = .int .i64 (h : Int) := e1
            exact rg_val (v := .int .i64 (h : Int)) (by simp [execOp, go_sem, e1]) rfl hch (Chg.refl _ _) rfl
          · rintro kc m a w5 hkc hch hm hn
            obtain ⟨⟨_, e1, _, rfl⟩, ⟨_, e2, _, rfl⟩, -⟩ := hn
            exact rg_val (v := .pointer (some ⟨g, h, none⟩)) (by simp [execOp, go_sem, e1, e2]; exact fun hh => absurd hh (by omega)) rfl hch (Chg.refl _ _) rfl
          · rintro kc m a w5 hkc hch hm hn
            obtain ⟨⟨_, e1, _, rfl⟩, -⟩ := hn
            have c0 := Chg.cell hch cx (fun x => x)
            exact rg_val (v := .int .i64 (x : Int)) (by simp [execOp, go_sem, e1, c0]) rfl hch (Chg.refl _ _) rfl
          · rintro kc m a w5 hkc hch hm hn
            obtain ⟨⟨_, e1, _, rfl⟩, ⟨_, e2, _, rfl⟩, ⟨_, e3, _, rfl⟩, -⟩ := hn
            refine rg_call (f := 79) (args := #[.int .i64 (y : Int), .int .i64 (x : Int), cb]) (by simp [go_sem, e1, e2, e3]) rfl ?_
            refine (HCC.out _ (hch.mono (fun _ _ x => x.elim)) y x HYM.out HXM.out).mono ?_
            rintro e w6 ⟨rfl, hc6⟩
            exact ⟨_, rfl, hch.trans hc6, hc6, rfl⟩
          · rintro kc m a w5 hkc hch hm hn
            obtain ⟨⟨_, e1, _, rfl⟩, -⟩ := hn
            exact rg_val (v := .bool true) (by simp [execOp, go_sem, e1, hl0]) rfl hch (Chg.refl _ _) rfl
          · rintro kc m a w5 hkc hch hm hn
            obtain ⟨⟨_, e1, _, rfl⟩, -⟩ := hn
            exact rg_val (v := .bool false) (by simp [execOp, go_sem, e1]) rfl hch (Chg.refl _ _) rfl
          rintro m w2 hc2
          simp only [AllVals]
          rintro v0 _ p0 v1 _ p1 v2 _ p2 v3 _ p3 v4 _ p4 v5 _ p5 v6 _ p6 v7 _ p7 v8 _ p8 v9 _ p9 v10 _ p10 v11 _ p11 v12 _ p12 v13 _ p13
          obtain rfl := p13
          clear p0 p1 p2 p3 p4 p5 p6 p7 p8 p9 p10 p11 p12
          simp only [Act.put, List.setIfInBounds_toArray, List.set_cons_succ, List.set_cons_zero]
          have HC2 := Lib.hid hc2
          clear hc2
          have HCX := Lib.hid (HCH2.out.trans (HC2.out.mono (fun _ _ x => x.elim)))
          have HBX := Lib.hid (HBL2.out.chg (F := NoB) HC2.out (fun x => x))
          clear HC2 cx cy hl0 hwp
          go_wp2
          go_roundw
          case rel => exact ⟨s, h, rfl, by go_num, hs1, b1, by omega, HI, Lib.hid (.inr (by rw [HXE.out, HYE.out]; exact hl)), HCX.out, HBX.out⟩
          case measure => simp [intOf]; omega
        · have hl0 : ¬ cmp3 (K y) (K x) < 0 := fun q => hl (cmp3_lt.1 q)
          clear hch
          go_wp2_with fail
          refine wp_region_ro (gl := []) (WInv := fun _ _ w5 => Chg NoB wr w5) (R := Chg NoB) (Post := PV [some (.func (.func 79) #[] #[cb]), some (.slice (some ⟨g, 0, none⟩) n c), some (.int .i64 ((mi : Int) + (md : Int) - 1)), some (.int .i64 (h : Int)), some (.int .i64 (qq : Int)), some (.pointer (some ⟨g, qq, none⟩)), some (.int .i64 (y : Int)), some (.slice (some ⟨g, 0, none⟩) n c), some (.int .i64 (h : Int)), some (.pointer (some ⟨g, h, none⟩)), some (.int .i64 (x : Int)), some (.int .i64 (cmp3 (K y) (K x))), some (.bool false), some (.bool true)]) (by kernel_rfl) (by kernel_rfl) (pv_guard (by intro p hp; cases hp)) (fun _ _ _ _ h _ _ => h) (fun _ _ _ _ h _ => h) (Chg.refl _ _).drew ⟨?_, ?_, ?_, ?_, ?_, ?_, ?_, ?_, ?_, ?_, ?_, ?_, ?_, ?_, trivial⟩ ?_
          · rintro kc m a w5 hkc hch hm hn
            obtain ⟨e1, -⟩ := hn
            replace e1 : a.tmps[4]?.getD undef = .func (.func 79) #[] #[cb] := e1
            exact rg_val (v := .func (.func 79) #[] #[cb]) (by simp [execOp, go_sem, e1]) rfl hch (Chg.refl _ _) rfl
          · rintro kc m a w5 hkc hch hm hn
            obtain ⟨e1, -⟩ := hn
            replace e1 : a.tmps[0]?.getD undef = .slice (some ⟨g, 0, none⟩) n c := e1
            exact rg_val (v := .slice (some ⟨g, 0, none⟩) n c) (by simp [execOp, go_sem, e1]) rfl hch (Chg.refl _ _) rfl
          · rintro kc m a w5 hkc hch hm hn
            obtain ⟨e1, -⟩ := hn
            replace e1 : a.tmps[22]?.getD undef = .int .i64 ((mi : Int) + (md : Int) - 1) := e1
            exact rg_val (v := .int .i64 ((mi : Int) + (md : Int) - 1)) (by simp [execOp, go_sem, e1]) rfl hch (Chg.refl _ _) rfl
          · rintro kc m a w5 hkc hch hm hn
            obtain ⟨e1, -⟩ := hn
            replace e1 : a.tmps[23]?.getD undef = .int .i64 (h : Int) := e1
            exact rg_val (v := .int .i64 (h : Int)) (by simp [execOp, go_sem, e1]) rfl hch (Chg.refl _ _) rfl
          · rintro kc m a w5 hkc hch hm hn
            obtain ⟨⟨_, e1, _, rfl⟩, ⟨_, e2, _, rfl⟩, -⟩ := hn
            exact rg_val (v := .int .i64 (qq : Int)) (by simp [execOp, go_sem, e1, e2, hwp]) rfl hch (Chg.refl _ _) rfl
          · rintro kc m a w5 hkc hch hm hn
            obtain ⟨⟨_, e1, _, rfl⟩, ⟨_, e2, _, rfl⟩, -⟩ := hn
            exact rg_val (v := .pointer (some ⟨g, qq, none⟩)) (by simp [execOp, go_sem, e1, e2]; exact fun hh => absurd hh (by omega)) rfl hch (Chg.refl _ _) rfl
          · rintro kc m a w5 hkc hch hm hn
            obtain ⟨⟨_, e1, _, rfl⟩, -⟩ := hn
            have c0 := Chg.cell hch cy (fun x => x)
            exact rg_val (v := .int .i64 (y : Int)) (by simp [execOp, go_sem, e1, c0]) rfl hch (Chg.refl _ _) rfl
          · rintro kc m a w5 hkc hch hm hn
            obtain ⟨e1, -⟩ := hn
            replace e1 : a.tmps[0]?.getD undef = .slice (some ⟨g, 0, none⟩) n c := e1
            exact rg_val (v := .slice (some ⟨g, 0, none⟩) n c) (by simp [execOp, go_sem, e1]) rfl hch (Chg.refl _ _) rfl
          · rintro kc m a w5 hkc hch hm hn
            obtain ⟨e1, -⟩ := hn
            replace e1 : a.tmps[23]?.getD undef = .int .i64 (h : Int) := e1
            exact rg_val (v := .int .i64 (h : Int)) (by simp [execOp, go_sem, e1]) rfl hch (Chg.refl _ _) rfl
          · rintro kc m a w5 hkc hch hm hn
            obtain ⟨⟨_, e1, _, rfl⟩, ⟨_, e2, _, rfl⟩, -⟩ := hn
            exact rg_val (v := .pointer (some ⟨g, h, none⟩)) (by simp [execOp, go_sem, e1, e2]; exact fun hh => absurd hh (by omega)) rfl hch (Chg.refl _ _) rfl
          · rintro kc m a w5 hkc hch hm hn
            obtain ⟨⟨_, e1, _, rfl⟩, -⟩ := hn
            have c0 := Chg.cell hch cx (fun x => x)
            exact rg_val (v := .int .i64 (x : Int)) (by simp [execOp, go_sem, e1, c0]) rfl hch (Chg.refl _ _) rfl
          · rintro kc m a w5 hkc hch hm hn
            obtain ⟨⟨_, e1, _, rfl⟩, ⟨_, e2, _, rfl⟩, ⟨_, e3, _, rfl⟩, -⟩ := hn
            refine rg_call (f := 79) (args := #[.int .i64 (y : Int), .int .i64 (x : Int), cb]) (by simp [go_sem, e1, e2, e3]) rfl ?_
            refine (HCC.out _ (hch.mono (fun _ _ x => x.elim)) y x HYM.out HXM.out).mono ?_
            rintro e w6 ⟨rfl, hc6⟩
            exact ⟨_, rfl, hch.trans hc6, hc6, rfl⟩
          · rintro kc m a w5 hkc hch hm hn
            obtain ⟨⟨_, e1, _, rfl⟩, -⟩ := hn
            exact rg_val (v := .bool false) (by simp [execOp, go_sem, e1, hl0]) rfl hch (Chg.refl _ _) rfl
          · rintro kc m a w5 hkc hch hm hn
            obtain ⟨⟨_, e1, _, rfl⟩, -⟩ := hn
            exact rg_val (v := .bool true) (by simp [execOp, go_sem, e1]) rfl hch (Chg.refl _ _) rfl
          rintro m w2 hc2
          simp only [AllVals]
          rintro v0 _ p0 v1 _ p1 v2 _ p2 v3 _ p3 v4 _ p4 v5 _ p5 v6 _ p6 v7 _ p7 v8 _ p8 v9 _ p9 v10 _ p10 v11 _ p11 v12 _ p12 v13 _ p13
          obtain rfl := p13
          clear p0 p1 p2 p3 p4 p5 p6 p7 p8 p9 p10 p11 p12
          simp only [Act.put, List.setIfInBounds_toArray, List.set_cons_succ, List.set_cons_zero]
          have HC2 := Lib.hid hc2
          clear hc2
          have HCX := Lib.hid (HCH2.out.trans (HC2.out.mono (fun _ _ x => x.elim)))
          have HBX := Lib.hid (HBL2.out.chg (F := NoB) HC2.out (fun x => x))
          clear HC2 cx cy hl0 hwp
          go_wp2
          go_roundw
          case rel => exact ⟨h + 1, r, by go_num, rfl, by omega, by omega, hr1, Lib.hid (.inr (by rw [show h + 1 - lo - 1 = h - lo by omega, show mi - (h + 1) = mi - 1 - h by omega, HXE.out, HYE.out]; exact hl)), HJ, HCX.out, HBX.out⟩
          case measure => simp [intOf]; omega
      · have hlt' : ¬ ((s : Int) < (r : Int)) := by omega
        obtain rfl : s = r := by omega
        obtain ⟨U1, U2, V1, V2, hp, l1, l2, l3, l4⟩ := sym_parts (M := M) (s := s) HU.out HV.out HMI.out HSU.out HSV.out HX.out HUM.out HVM.out (by omega) (by omega) (by omega) (by omega) (by rcases HI.out with q | q; exact .inl (by have := HST.out.2.1; omega); exact .inr q) (by rcases HJ.out with q | q; exact .inl (by have := HST.out.2.2; omega); exact .inr q)
        obtain ⟨en, hen⟩ : ∃ en, en = mi + md - s := ⟨_, rfl⟩
        have hen' : (mi : Int) + (md : Int) - (s : Int) = (en : Int) := by omega
        rw [← hen] at l4
        have HL1 := Lib.hid l1
        have HL2 := Lib.hid l2
        have HL3 := Lib.hid l3
        have HL4 := Lib.hid l4
        have HP := Lib.hid hp
        have HEN := Lib.hid hen
        have hbl' := hbl
        rw [hp.u, hp.v] at hbl'
        have HCH2 := Lib.hid hch
        have HBL2 := Lib.hid hbl'
        have HCC := Lib.hid (HC.out.later hch)
        have k1 : s ≤ mi := by omega
        have k2 : s ≤ md := by omega
        have k3 : lo ≤ s := by omega
        have k4 : en ≤ hi := by omega
        clear hch hbl hbl' l1 l2 l3 l4 hp hen hlt HI HJ
        by_cases c1 : s < md
        · have c1' : ((s : Int) < (md : Int)) := by omega
          have c5 : ((mi : Int) < (en : Int)) := by have := HEN.out; omega
          by_cases c6 : s < mi
          · have c6' : ((s : Int) < (mi : Int)) := by omega
            have c7 : ((md : Int) < (en : Int)) := by have := HEN.out; omega
            go_wp2_with fail
            refine (rotate_any _ g c _ (P ++ U1) U2 V1 (V2 ++ Q) rest s md en n (by have := HA.out; have := HL1.out; rw [List.length_append]; omega) HL2.out (by have := HL3.out; have := HEN.out; omega) (by have := HL4.out; have := HN.out; rw [List.length_append]; omega) hn' (by have := HL2.out; omega) (by have := HL3.out; omega) (by rw [List.append_assoc]; exact HBL2.out)).mono ?_
            rintro e w3 ⟨rfl, hc3, hb3⟩
            have HC3 := Lib.hid (HCH2.out.trans hc3)
            have HB3 := Lib.hid (show RowB _ g rest (P ++ (U1 ++ (V1 ++ (U2 ++ (V2 ++ Q))))) by rw [List.append_assoc] at hb3; exact hb3)
            clear hc3 hb3
            by_cases c2 : lo < s
            · have c2' : ((lo : Int) < (s : Int)) := by omega
              go_wp2_with fail
              refine (HIH.out _ P U1 V1 (U2 ++ (V2 ++ Q)) lo s mi (by have := HL1.out; have := HL2.out; have := HL3.out; have := HL4.out; have := HNN.out; have := HU.out; have := HV.out; have := HMI.out; omega) HA.out HL1.out HL3.out (by have := HL2.out; have := HL4.out; have := HEN.out; have := HN.out; simp; omega) (by have := HL1.out; omega) (by have := HL3.out; omega) HB3.out HP.out.s1 HP.out.s3 HP.out.c1 HP.out.m1 HP.out.m3 (HC.out.later HC3.out)).mono ?_
              rintro e w4 ⟨rfl, hc4, hb4⟩
              have HC4 := Lib.hid (HC3.out.trans hc4)
              have HB4 := Lib.hid hb4
              clear hc4 hb4
              by_cases c4 : en < hi
              · have c4' : ((en : Int) < (hi : Int)) := by omega
                go_wp2_with fail
                refine (HIH.out _ (P ++ srt K (U1 ++ V1)) U2 V2 Q mi en hi (by have := HL1.out; have := HL2.out; have := HL3.out; have := HL4.out; have := HNN.out; have := HU.out; have := HV.out; have := HMI.out; omega) (by have := HA.out; have := HL1.out; have := HL3.out; rw [List.length_append, srt_length, List.length_append]; omega) (by have := HL2.out; have := HEN.out; omega) HL4.out HN.out (by have := HL2.out; omega) (by have := HL4.out; omega) (by rw [List.append_assoc]; exact HB4.out) HP.out.s2 HP.out.s4 HP.out.c2 HP.out.m2 HP.out.m4 (HC.out.later HC4.out)).mono ?_
                rintro e w5 ⟨rfl, hc5, hb5⟩
                have HC5 := Lib.hid (HC4.out.trans hc5)
                have HB5 := Lib.hid hb5
                clear hc5 hb5
                go_wp2
                go_end0
                have hz := HB5.out
                rw [List.append_assoc, ← List.append_assoc (srt K (U1 ++ V1)), HP.out.whole] at hz
                exact ⟨rfl, HC5.out, hz⟩
              · have c4' : ¬ ((en : Int) < (hi : Int)) := by omega
                have HC5 := HC4
                have HB5 := Lib.hid (show RowB _ g rest ((P ++ srt K (U1 ++ V1)) ++ (srt K (U2 ++ V2) ++ Q)) from by rw [srt_one_side HP.out.s2 HP.out.s4 (by have := HL2.out; have := HL4.out; omega), List.append_assoc P, List.append_assoc U2]; exact HB4.out)
                go_wp2
                go_end0
                have hz := HB5.out
                rw [List.append_assoc, ← List.append_assoc (srt K (U1 ++ V1)), HP.out.whole] at hz
                exact ⟨rfl, HC5.out, hz⟩
            · have c2' : ¬ ((lo : Int) < (s : Int)) := by omega
              have HC4 := HC3
              have HB4 := Lib.hid (show RowB _ g rest (P ++ (srt K (U1 ++ V1) ++ (U2 ++ (V2 ++ Q)))) from by rw [srt_one_side HP.out.s1 HP.out.s3 (by have := HL1.out; have := HL3.out; omega), List.append_assoc]; exact HB3.out)
              by_cases c4 : en < hi
              · have c4' : ((en : Int) < (hi : Int)) := by omega
                go_wp2_with fail
                refine (HIH.out _ (P ++ srt K (U1 ++ V1)) U2 V2 Q mi en hi (by have := HL1.out; have := HL2.out; have := HL3.out; have := HL4.out; have := HNN.out; have := HU.out; have := HV.out; have := HMI.out; omega) (by have := HA.out; have := HL1.out; have := HL3.out; rw [List.length_append, srt_length, List.length_append]; omega) (by have := HL2.out; have := HEN.out; omega) HL4.out HN.out (by have := HL2.out; omega) (by have := HL4.out; omega) (by rw [List.append_assoc]; exact HB4.out) HP.out.s2 HP.out.s4 HP.out.c2 HP.out.m2 HP.out.m4 (HC.out.later HC4.out)).mono ?_
                rintro e w5 ⟨rfl, hc5, hb5⟩
                have HC5 := Lib.hid (HC4.out.trans hc5)
                have HB5 := Lib.hid hb5
                clear hc5 hb5
                go_wp2
                go_end0
                have hz := HB5.out
                rw [List.append_assoc, ← List.append_assoc (srt K (U1 ++ V1)), HP.out.whole] at hz
                exact ⟨rfl, HC5.out, hz⟩
              · have c4' : ¬ ((en : Int) < (hi : Int)) := by omega
                have HC5 := HC4
                have HB5 := Lib.hid (show RowB _ g rest ((P ++ srt K (U1 ++ V1)) ++ (srt K (U2 ++ V2) ++ Q)) from by rw [srt_one_side HP.out.s2 HP.out.s4 (by have := HL2.out; have := HL4.out; omega), List.append_assoc P, List.append_assoc U2]; exact HB4.out)
                go_wp2
                go_end0
                have hz := HB5.out
                rw [List.append_assoc, ← List.append_assoc (srt K (U1 ++ V1)), HP.out.whole] at hz
                exact ⟨rfl, HC5.out, hz⟩
          · exfalso; omega
        · have c1' : ¬ ((s : Int) < (md : Int)) := by omega
          have c5 : ¬ ((mi : Int) < (en : Int)) := by have := HEN.out; omega
          have c8 : ((lo : Int) < (s : Int)) := by omega
          have HB3 := Lib.hid (show RowB _ g rest (P ++ (U1 ++ (V1 ++ (U2 ++ (V2 ++ Q))))) by rw [← swap_one_side (U := U2) (V := V1) (.inl (by have := HL2.out; omega))]; exact HBL2.out)
          by_cases c3 : s < mi
          · have c3' : ((s : Int) < (mi : Int)) := by omega
            go_wp2_with fail
            refine (HIH.out _ P U1 V1 (U2 ++ (V2 ++ Q)) lo s mi (by have := HL1.out; have := HL2.out; have := HL3.out; have := HL4.out; have := HNN.out; have := HU.out; have := HV.out; have := HMI.out; omega) HA.out HL1.out HL3.out (by have := HL2.out; have := HL4.out; have := HEN.out; have := HN.out; simp; omega) (by have := HL1.out; omega) (by have := HL3.out; omega) HB3.out HP.out.s1 HP.out.s3 HP.out.c1 HP.out.m1 HP.out.m3 (HC.out.later HCH2.out)).mono ?_
            rintro e w4 ⟨rfl, hc4, hb4⟩
            have HC4 := Lib.hid (HCH2.out.trans hc4)
            have HB4 := Lib.hid hb4
            clear hc4 hb4
            have HC5 := HC4
            have HB5 := Lib.hid (show RowB _ g rest ((P ++ srt K (U1 ++ V1)) ++ (srt K (U2 ++ V2) ++ Q)) from by rw [srt_one_side HP.out.s2 HP.out.s4 (by have := HL2.out; have := HL4.out; omega), List.append_assoc P, List.append_assoc U2]; exact HB4.out)
            go_wp2
            go_end0
            have hz := HB5.out
            rw [List.append_assoc, ← List.append_assoc (srt K (U1 ++ V1)), HP.out.whole] at hz
            exact ⟨rfl, HC5.out, hz⟩
          · have c3' : ¬ ((s : Int) < (mi : Int)) := by omega
            have HC4 := HCH2
            have HB4 := Lib.hid (show RowB _ g rest (P ++ (srt K (U1 ++ V1) ++ (U2 ++ (V2 ++ Q)))) from by rw [srt_one_side HP.out.s1 HP.out.s3 (by have := HL1.out; have := HL3.out; omega), List.append_assoc]; exact HB3.out)
            have HC5 := HC4
            have HB5 := Lib.hid (show RowB _ g rest ((P ++ srt K (U1 ++ V1)) ++ (srt K (U2 ++ V2) ++ Q)) from by rw [srt_one_side HP.out.s2 HP.out.s4 (by have := HL2.out; have := HL4.out; omega), List.append_assoc P, List.append_assoc U2]; exact HB4.out)
            go_wp2
            go_end0
            have hz := HB5.out
            rw [List.append_assoc, ← List.append_assoc (srt K (U1 ++ V1)), HP.out.whole] at hz
            exact ⟨rfl, HC5.out, hz⟩
theorem sym_all (K : Nat → Int) (M g c : Nat) (cb : Value) (n : Nat) (rest : List Value) (hn' : n ≤ 1000) : ∀ N, SymP K M g c cb n rest N
  | 0 => fun w P U V Q lo md hi hN _ _ _ _ h1 _ => by omega
  | N + 1 => fun w P U V Q lo md hi hN ha hu hv hn h1 h2 hB hU hV hX hUM hVM hC => by
    by_cases hu1 : U.length = 1
    · obtain ⟨x, rfl⟩ := List.length_eq_one_iff.1 hu1
      exact symL_any w g c cb K M P V Q x rest lo md hi n ha (by simpa using hu) hv hn hn' h2 (by simpa using hB) hV (fun y hy h => hX x (by simp) y hy h) (hUM x (by simp)) hVM hC
    by_cases hv1 : V.length = 1
    · obtain ⟨y, rfl⟩ := List.length_eq_one_iff.1 hv1
      exact symR_any w g c cb K M P U Q y rest lo md hi n ha hu (by simpa using hv) hn hn' (by omega) (by simpa using hB) hU (fun x hx h => hX x hx y (by simp) h) (hVM y (by simp)) hUM hC
    exact symG_any w g c cb K M N P U V Q rest lo md hi n (sym_all K M g c cb n rest hn' N) hN ha hu hv hn hn' (by omega) (by omega) hB hU hV hX hUM hVM hC
end Go.Proofs.Ytenbbkmbnpdfaaa
