/- The exchange of two ranges of a row, and the rotation of two neighbouring ranges. -/
import Derived.Test.YtenbbkmbnpdfaaaZb
import Derived.IntWalk
namespace Go.Proofs.Ytenbbkmbnpdfaaa
open Go.RowKit
theorem RowB.ends {w : World} {g : Nat} {rest : List Value} {P M Q : List Nat} {x y k l : Nat} (h : RowB w g rest (P ++ x :: (M ++ y :: Q))) (hk : P.length = k) (hl : k + 1 + M.length = l) :
    w.cell? ⟨g, k, none⟩ = some (.int .i64 (x : Int)) ∧ w.cell? ⟨g, l, none⟩ = some (.int .i64 (y : Int)) ∧
      RowB ((w.setCell ⟨g, k, none⟩ (.int .i64 (y : Int))).setCell ⟨g, l, none⟩ (.int .i64 (x : Int))) g rest (P ++ y :: (M ++ x :: Q)) := by
  refine ⟨h.at_ hk, ?_, ?_⟩
  · have h1 : RowB w g rest ((P ++ x :: M) ++ y :: Q) := by simpa using h
    exact h1.at_ (by simp; omega)
  · have h1 := h.put hk y
    have h2 : RowB (w.setCell ⟨g, k, none⟩ (.int .i64 (y : Int))) g rest ((P ++ y :: M) ++ y :: Q) := by simpa using h1
    have h3 := h2.put (k := l) (by simp; omega) x
    simpa using h3
def swRow (P X M Y Q : List Nat) (i : Nat) : List Nat := P ++ ((Y.take i ++ X.drop i) ++ (M ++ ((X.take i ++ Y.drop i) ++ Q)))
theorem swRow_step {P X M Y Q : List Nat} {i : Nat} (hx : i < X.length) (hy : i < Y.length) :
    swRow P X M Y Q i = (P ++ Y.take i) ++ X.getD i 0 :: ((X.drop (i + 1) ++ (M ++ X.take i)) ++ Y.getD i 0 :: (Y.drop (i + 1) ++ Q)) ∧
      swRow P X M Y Q (i + 1) = (P ++ Y.take i) ++ Y.getD i 0 :: ((X.drop (i + 1) ++ (M ++ X.take i)) ++ X.getD i 0 :: (Y.drop (i + 1) ++ Q)) := by
  have e : X.getD i 0 = X[i] := by rw [List.getD_eq_getElem?_getD, List.getElem?_eq_getElem hx]; rfl
  have f : Y.getD i 0 = Y[i] := by rw [List.getD_eq_getElem?_getD, List.getElem?_eq_getElem hy]; rfl
  unfold swRow
  rw [e, f]
  constructor
  · rw [List.drop_eq_getElem_cons hx, List.drop_eq_getElem_cons hy]; simp only [List.append_assoc, List.cons_append]
  · rw [List.take_succ_eq_append_getElem hx, List.take_succ_eq_append_getElem hy]; simp only [List.append_assoc, List.cons_append, List.nil_append]
set_option maxRecDepth 100000 in
set_option maxHeartbeats 4000000 in
theorem swapR_any (w : World) (g c : Nat) (fv : Value) (P X M Y Q : List Nat) (rest : List Value) (lo hi d n : Nat) (ha : P.length = lo) (hx : X.length = d) (hy : Y.length = d) (hb : lo + d + M.length = hi) (hn : hi + d + Q.length = n) (hn' : n ≤ 1000)
    (hB : RowB w g rest (P ++ (X ++ (M ++ (Y ++ Q))))) :
    Calls Try.prog 108 #[.slice (some ⟨g, 0, none⟩) n c, .int .i64 (lo : Int), .int .i64 (hi : Int), .int .i64 (d : Int), fv] w (RowP w g rest (P ++ (Y ++ (M ++ (X ++ Q))))) := by
  have HB := Lib.hid hB
  have HA := Lib.hid ha
  have HX := Lib.hid hx
  have HY := Lib.hid hy
  have HBL := Lib.hid hb
  have HN := Lib.hid hn
  have hh : hi + d ≤ n := by omega
  have hl : lo + d ≤ hi := by omega
  clear hB ha hx hy hb hn
  go_enter Try.func108, Try.ntmps108
  go_wp2_with fail
  go_loopw [10] (fun vi wr => ∃ i : Nat, vi = .int .i64 (i : Int) ∧ i ≤ d ∧ Chg (· = g) w wr ∧ RowB wr g rest (swRow P X M Y Q i)) (fun vi _ => d - (intOf vi).toNat)
  case atStart => exact ⟨0, rfl, Nat.zero_le _, Chg.refl _ _, by unfold swRow; simpa using HB.out⟩
  case round =>
    obtain ⟨i, rfl, hid, hch, hbl⟩ := hrel
    have HCH := Lib.hid hch
    clear hch
    by_cases hlt : i < d
    case neg =>
      have hlt' : ¬ ((i : Int) < (d : Int)) := by omega
      have HBK := Lib.hid hbl
      clear hbl
      go_wp2
      go_end0
      have h := HBK.out
      unfold swRow at h
      have e1 : X.take i = X := List.take_of_length_le (by have := HX.out; omega)
      have e2 : Y.take i = Y := List.take_of_length_le (by have := HY.out; omega)
      have e3 : X.drop i = [] := List.drop_of_length_le (by have := HX.out; omega)
      have e4 : Y.drop i = [] := List.drop_of_length_le (by have := HY.out; omega)
      rw [e1, e2, e3, e4] at h
      exact ⟨rfl, HCH.out, by simpa using h⟩
    have hlt' : ((i : Int) < (d : Int)) := by omega
    obtain ⟨e1, e2⟩ := swRow_step (P := P) (X := X) (M := M) (Y := Y) (Q := Q) (i := i) (by have := HX.out; omega) (by have := HY.out; omega)
    have HE2 := Lib.hid e2
    rw [e1] at hbl
    obtain ⟨x, hx⟩ : ∃ x, X.getD i 0 = x := ⟨_, rfl⟩
    obtain ⟨y, hy⟩ : ∃ y, Y.getD i 0 = y := ⟨_, rfl⟩
    rw [hx, hy] at hbl HE2
    obtain ⟨cx, cy, hsw⟩ := hbl.ends (k := lo + i) (l := hi + i) (by rw [List.length_append, List.length_take, HA.out, HY.out]; omega) (by have := HX.out; have := HBL.out; simp; omega)
    have fx := hbl.fz (lo + i)
    have fy := hbl.fz (hi + i)
    rw [← HE2.out] at hsw
    have HSW := Lib.hid hsw
    clear e1 e2 hx hy hsw hbl HE2
    have p0 : (0 : Int) ≤ (lo : Int) + (i : Int) := by omega
    have p1 : (0 : Int) ≤ (hi : Int) + (i : Int) := by omega
    have p2 : (lo : Int) + (i : Int) < (n : Int) := by omega
    have p3 : (hi : Int) + (i : Int) < (n : Int) := by omega
    have q1 : IntKind.i64.wrap ((lo : Int) + (i : Int)) = (lo : Int) + (i : Int) := by rw [IntKind.wrap_i64]; omega
    have q2 : IntKind.i64.wrap ((hi : Int) + (i : Int)) = (hi : Int) + (i : Int) := by rw [IntKind.wrap_i64]; omega
    have r1 : ((lo : Int) + (i : Int)).toNat = lo + i := by omega
    have r2 : ((hi : Int) + (i : Int)).toNat = hi + i := by omega
    go_wp2_with fail
    go_region
    go_wp2
    go_roundw
    case rel => exact ⟨i + 1, by go_num, by omega, ((HCH.out.setCell (p := ⟨g, lo + i, none⟩) (.inl rfl) _).setCell (p := ⟨g, hi + i, none⟩) (.inl rfl) _).drew, Blk.chg HSW.out ((Chg.refl NoB _).drew) (fun x => x)⟩
    case measure => simp [intOf]; omega
theorem swapR_at (w : World) (g c : Nat) (fv : Value) (P X M Y Q : List Nat) (rest : List Value) (lo hi d n : Nat) (z1 z2 : Int) (h1 : z1 = (lo : Int)) (h2 : z2 = (hi : Int)) (ha : P.length = lo) (hx : X.length = d) (hy : Y.length = d) (hb : lo + d + M.length = hi) (hn : hi + d + Q.length = n) (hn' : n ≤ 1000)
    (hB : RowB w g rest (P ++ (X ++ (M ++ (Y ++ Q))))) :
    Calls Try.prog 108 #[.slice (some ⟨g, 0, none⟩) n c, .int .i64 z1, .int .i64 z2, .int .i64 (d : Int), fv] w (RowP w g rest (P ++ (Y ++ (M ++ (X ++ Q))))) := by
  subst h1 h2
  exact swapR_any w g c fv P X M Y Q rest lo hi d n ha hx hy hb hn hn' hB
set_option maxRecDepth 100000 in
set_option maxHeartbeats 4000000 in
theorem rotate_any (w : World) (g c : Nat) (fv : Value) (P U V Q : List Nat) (rest : List Value) (lo md hi n : Nat) (ha : P.length = lo) (hu : lo + U.length = md) (hv : md + V.length = hi) (hn : hi + Q.length = n) (hn' : n ≤ 1000) (hu1 : 1 ≤ U.length) (hv1 : 1 ≤ V.length)
    (hB : RowB w g rest (P ++ (U ++ (V ++ Q)))) :
    Calls Try.prog 107 #[.slice (some ⟨g, 0, none⟩) n c, .int .i64 (lo : Int), .int .i64 (md : Int), .int .i64 (hi : Int), fv] w (RowP w g rest (P ++ (V ++ (U ++ Q)))) := by
  obtain ⟨T, hT⟩ : ∃ T, P ++ (V ++ (U ++ Q)) = T := ⟨_, rfl⟩
  have HB := Lib.hid hB
  have HA := Lib.hid ha
  have HU := Lib.hid hu
  have HV := Lib.hid hv
  have HN := Lib.hid hn
  have HT := Lib.hid hT
  have HU1 := Lib.hid hu1
  have HV1 := Lib.hid hv1
  rw [hT]
  have h1 : lo ≤ md := by omega
  have h2 : md ≤ hi := by omega
  have h3 : hi ≤ n := by omega
  clear hB ha hu hv hn hT hu1 hv1
  go_enter Try.func107, Try.ntmps107
  go_wp2_with fail
  go_loopw [10, 11] (fun vi vj wr => ∃ (i j : Nat) (P U V Q : List Nat), vi = .int .i64 (i : Int) ∧ vj = .int .i64 (j : Int) ∧ 1 ≤ i ∧ 1 ≤ j ∧ i ≤ md ∧ md + j ≤ n ∧ Hid (U.length = i) ∧ Hid (V.length = j) ∧ Hid (P.length + i = md) ∧ Hid (md + j + Q.length = n) ∧ Hid (P ++ (V ++ (U ++ Q)) = T) ∧ Chg (· = g) w wr ∧ RowB wr g rest (P ++ (U ++ (V ++ Q)))) (fun vi vj _ => (intOf vi).toNat + (intOf vj).toNat)
  case atStart => exact ⟨md - lo, hi - md, P, U, V, Q, by go_num, by go_num, by have := HU.out; have := HU1.out; omega, by have := HV.out; have := HV1.out; omega, by omega, by omega, Lib.hid (by have := HU.out; omega), Lib.hid (by have := HV.out; omega), Lib.hid (by have := HA.out; omega), Lib.hid (by have := HN.out; omega), HT, Chg.refl _ _, HB.out⟩
  case round =>
    obtain ⟨i, j, P, U, V, Q, rfl, rfl, hi1, hj1, him, hjn, HU, HV, HP, HQ, HT, hch, hbl⟩ := hrel
    have HCH := Lib.hid hch
    have HBL := Lib.hid hbl
    clear hch hbl
    by_cases hij : i = j
    · subst hij
      have hne : ((i : Int) != (i : Int)) = false := by simp
      go_wp2_with fail
      refine (swapR_at _ g c fv P U [] V Q rest (md - i) md i n _ _ (by omega) rfl (by have := HP.out; omega) HU.out HV.out (by simp; omega) HQ.out hn' (by simpa using HBL.out)).mono ?_
      rintro e w2 ⟨rfl, hc2, hb2⟩
      have HC2 := Lib.hid (HCH.out.trans hc2)
      have HB2 := Lib.hid hb2
      clear hc2 hb2
      go_wp2
      go_end0
      refine ⟨rfl, HC2.out, ?_⟩
      rw [← HT.out]
      simpa using HB2.out
    have hne : ((i : Int) != (j : Int)) = true := by rw [bne_iff_ne]; omega
    by_cases hgt : j < i
    · have hgt' : ((i : Int) > (j : Int)) := by omega
      go_wp2_with fail
      have hu : ∀ R, U ++ R = U.take j ++ (U.drop j ++ R) := fun R => by rw [← List.append_assoc, List.take_append_drop]
      have h1 : (U.take j).length = j := by rw [List.length_take, HU.out]; omega
      have h2 : (U.drop j).length = i - j := by rw [List.length_drop, HU.out]
      refine (swapR_at _ g c fv P (U.take j) (U.drop j) V Q rest (md - i) md j n _ _ (by omega) rfl (by have := HP.out; omega) h1 HV.out (by rw [h2]; omega) HQ.out hn' (by have h := HBL.out; rw [hu] at h; exact h)).mono ?_
      rintro e w2 ⟨rfl, hc2, hb2⟩
      have HC2 := Lib.hid (HCH.out.trans hc2)
      have HB2 := Lib.hid hb2
      have HH1 := Lib.hid h1
      have HH2 := Lib.hid h2
      have HUU := Lib.hid hu
      clear hc2 hb2 hu h1 h2
      go_wp2
      go_roundw
      case rel => exact ⟨i - j, j, P ++ V, U.drop j, U.take j, Q, by go_num, rfl, by omega, hj1, by omega, hjn, HH2, HH1, Lib.hid (by have := HP.out; have := HV.out; simp; omega), HQ, Lib.hid (by rw [← HT.out, HUU.out]; simp), HC2.out, by simpa using HB2.out⟩
      case measure => simp [intOf]; omega
    · have hgt' : ¬ ((i : Int) > (j : Int)) := by omega
      go_wp2_with fail
      have hv : ∀ R, V ++ R = V.take (j - i) ++ (V.drop (j - i) ++ R) := fun R => by rw [← List.append_assoc, List.take_append_drop]
      have h1 : (V.take (j - i)).length = j - i := by rw [List.length_take, HV.out]; omega
      have h2 : (V.drop (j - i)).length = i := by rw [List.length_drop, HV.out]; omega
      refine (swapR_at _ g c fv P U (V.take (j - i)) (V.drop (j - i)) Q rest (md - i) (md + j - i) i n _ _ (by omega) (by omega) (by have := HP.out; omega) HU.out h2 (by rw [h1]; omega) (by have := HQ.out; omega) hn' (by have h := HBL.out; rw [hv] at h; exact h)).mono ?_
      rintro e w2 ⟨rfl, hc2, hb2⟩
      have HC2 := Lib.hid (HCH.out.trans hc2)
      have HB2 := Lib.hid hb2
      have HH1 := Lib.hid h1
      have HH2 := Lib.hid h2
      have HVV := Lib.hid hv
      clear hc2 hb2 hv h1 h2
      go_wp2
      go_roundw
      case rel => exact ⟨i, j - i, P, V.drop (j - i), V.take (j - i), U ++ Q, rfl, by go_num, hi1, by omega, him, by omega, HH2, HH1, HP, Lib.hid (by have := HQ.out; have := HU.out; simp; omega), Lib.hid (by rw [← HT.out, HVV.out]), HC2.out, by simpa using HB2.out⟩
      case measure => simp [intOf]; omega
end Go.Proofs.Ytenbbkmbnpdfaaa
