/- Parts of the proof, merged: Vw. -/
import Derived.Test.YtpiojofmflfkkaaMc
/- EraseAt of the program and of the reference. -/
namespace Go.Proofs.Ytpiojofmflfkkaa
open Go.RowKit
def EraseAtP (w : World) (D : List Bk) (n : Int) (e : Ending) (w' : World) : Prop :=
  ∃ A c T, e = .returned (.tuple #[.slice A (eraseAt D n).1.length c, .bool (eraseAt D n).2]) ∧ bksOf T = (eraseAt D n).1 ∧ DevQ w.heap.size w'.heap.size w' A c T ∧ Chg NoB w w'
theorem eraseAt_no {D : List Bk} {n : Int} (h : ¬ (DvOk D ∧ (0 ≤ n ∧ n < (D.length : Int)))) : eraseAt D n = ([], false) := if_neg h
theorem eraseAt_yes {D : List Bk} {k : Nat} (h : DvOk D) (hk : k < D.length) : eraseAt D (k : Int) = (D.set k (eraseBlock D[k]).1, (eraseBlock D[k]).2) := by
  unfold eraseAt
  rw [if_pos ⟨h, by omega, by omega⟩, Int.toNat_natCast, List.getD_eq_getElem?_getD, List.getElem?_eq_getElem hk, Option.getD_some]
theorem EraseAtP.no {w w' : World} {D : List Bk} {n : Int} {A : Option Addr} {c : Nat} (h : ¬ (DvOk D ∧ (0 ≤ n ∧ n < (D.length : Int)))) (hc : Chg NoB w w') : EraseAtP w D n (.returned (.tuple #[.slice A 0 c, .bool false])) w' := by
  unfold EraseAtP
  rw [eraseAt_no h]
  exact ⟨A, c, [], rfl, rfl, DevQ.nil _ _ _ _ _, hc⟩
set_option maxRecDepth 100000 in
set_option maxHeartbeats 2000000 in
theorem iEraseAt_any (F : Nat → Prop) (A : Option Addr) (c : Nat) (D : List Bk) (n : Int) (w : World) (h : DevR F w A D) (hs : Small D) :
    Calls Try.prog 91 #[.slice A D.length c, .int .i64 n] w (EraseAtP w D n) := by
  have HR := Lib.hid h.lt
  have HNO : ∀ wq (Aq : Option Addr) (cq : Nat), ¬ (DvOk D ∧ (0 ≤ n ∧ n < (D.length : Int))) → Chg NoB w wq → Hid (EraseAtP w D n (.returned (.tuple #[.slice Aq 0 cq, .bool false])) wq) := fun wq Aq cq h1 h2 => Lib.hid (EraseAtP.no h1 h2)
  by_cases hd : DvOk D
  case neg =>
    have HD := Lib.hid hd
    have HS := Lib.hid hs
    clear hd hs h
    go_enter Try.func91, Try.ntmps91
    go_wp2_with fail
    refine (iDeviceValid_f _ A c D _ HR.out HD.out).mono ?_
    rintro e w1 ⟨rfl, hc1⟩
    have HC := Lib.hid hc1
    clear hc1
    go_wp2
    refine bodyPost_ret (v := .tuple #[.slice none 0 0, .bool false]) (by simp [results, Try.results91, go_sem, *]) rfl ?_
    exact (HNO _ _ _ (fun hh => HD.out hh.1) HC.out).out
  have hl := hd.1
  have HD := Lib.hid hd
  clear hd h hs
  by_cases hn : 0 ≤ n ∧ n < (D.length : Int)
  case neg =>
    have HN := Lib.hid hn
    by_cases hn0 : n < 0
    all_goals
      (try (have hn1 : (D.length : Int) ≤ n := by omega))
      clear hn
      go_enter Try.func91, Try.ntmps91
      go_wp2_with fail
      refine (iDeviceValid_t _ A c D _ HR.out HD.out).mono ?_
      rintro e w1 ⟨rfl, hc1⟩
      have HC := Lib.hid hc1
      clear hc1
      go_wp2
      refine bodyPost_ret (v := .tuple #[.slice none 0 0, .bool false]) (by simp [results, Try.results91, go_sem, *]) rfl ?_
      exact (HNO _ _ _ (fun hh => HN.out hh.2) HC.out).out
  obtain ⟨k, rfl⟩ := Int.eq_ofNat_of_zero_le hn.1
  have hk : k < D.length := by omega
  have hk0 : (0 : Int) ≤ (k : Int) := Int.natCast_nonneg _
  have hk1 : (k : Int) < (D.length : Int) := by omega
  have hk2 : ¬ ((k : Int) < 0) := by omega
  have hk3 : ¬ ((D.length : Int) ≤ (k : Int)) := by omega
  have h1 : (1 : Int) ≤ (D.length : Int) := by omega
  have h2 : (D.length : Int) ≤ 12 := by omega
  have HY := Lib.hid (eraseAt_yes HD.out hk)
  clear HNO
  go_enter Try.func91, Try.ntmps91
  go_wp2_with fail
  refine (iDeviceValid_t _ A c D _ HR.out HD.out).mono ?_
  rintro e w1 ⟨rfl, hc1⟩
  have HC1 := Lib.hid hc1
  have HR1 := Lib.hid (HR.out.new hc1)
  clear hc1
  go_wp2_with fail
  refine (cloneDevice_any _ A c D _ HR1.out HD.out).mono ?_
  rintro e w2 ⟨A2, c2, T, rfl, hT, hO2, hc2⟩
  have hTl : T.length = D.length := by rw [← hT, bksOf_length]
  obtain ⟨g, rest, rfl, hgB, hgE, hbg⟩ := hO2.blk (by omega)
  have HT := Lib.hid hT
  have HTL := Lib.hid hTl
  have HO2 := Lib.hid hO2
  have HBG := Lib.hid hbg
  have HGB := Lib.hid (And.intro hgB hgE)
  have HC2 := Lib.hid (HC1.out.trans hc2)
  have HS1 := Lib.hid HC1.out.size
  obtain ⟨bb, o, A', c', rfl, hf, c0, c1, hr, hcc⟩ := (HR1.out.new hc2) k hk
  have h4 := (HD.out.2 k hk).2.1
  have HBK := Lib.hid (HD.out.2 k hk)
  rw [h4] at c1
  have HRD := Lib.hid hr
  clear hO2 hbg hgB hgE hT hTl hc2 hr h4
  go_wp2_with fail
  refine (iEraseBlock_any _ A' c' D[k] _ HRD.out HBK.out).mono ?_
  rintro e w3 ⟨g3, c3, rest3, rfl, h43, hok3, hc3⟩
  have hca := (Chg.refl NoB w3).alloc (.cells #[.int .i64 (eraseBlock D[k]).1.wear, .slice (some ⟨g3, 0, none⟩) 4 c3] 67)
  have hbg4 := HBG.out.chg (hc3.trans hca) (fun x => x)
  obtain ⟨x0, x1⟩ := DevO.room hbg4 (k := k) (by rw [HTL.out]; exact hk)
  have f0 := hbg4.frozen (k * 2)
  have f1 := hbg4.frozen (k * 2 + 1)
  have HBG4 := Lib.hid hbg4
  have HO4 := Lib.hid (HO2.out.new (hc3.trans hca))
  have HC4 := Lib.hid ((HC2.out.trans hc3).trans hca)
  have HOK := Lib.hid (hok3.chg hca (fun x => x))
  have HSA := Lib.hid hca.size
  have H43 := Lib.hid h43
  clear hbg4 hca hok3 hc3 c0 c1 h43
  go_wp2
  refine bodyPost_ret (v := .tuple #[.slice (some ⟨g, 0, none⟩) D.length c2, .bool (eraseBlock D[k]).2]) (by simp [results, Try.results91, go_sem, *]) rfl ?_
  have hg := HGB.out
  have hs1 := HS1.out
  have hsa := HSA.out
  obtain ⟨w4, hw4⟩ : ∃ w4, w3.alloc (.cells #[.int .i64 (eraseBlock D[k]).1.wear, .slice (some ⟨g3, 0, none⟩) 4 c3] 67) = w4 := ⟨_, rfl⟩
  have ho4 := HO4.out
  have hc4 := HC4.out
  have hok4 := HOK.out
  have hb4 := HBG4.out
  rw [hw4] at hsa ho4 hc4 hok4 hb4 ⊢
  have hkT : k < T.length := by rw [HTL.out]; exact hk
  have hset := ho4.setBk (r := ⟨g3, c3, (eraseBlock D[k]).1.wear, (eraseBlock D[k]).1.pages, rest3⟩) hb4 hg hkT (hok4.more (show w1.heap.size ≤ w2.heap.size from Nat.le_of_lt (Nat.lt_of_le_of_lt hg.1 hg.2)) hsa) hok4.1
  rw [show (⟨g3, c3, (eraseBlock D[k]).1.wear, (eraseBlock D[k]).1.pages, rest3⟩ : BkO).ps.length = 4 from H43.out] at hset
  have hcs := chg2 (F := (· = g)) (a := .int .i64 (eraseBlock D[k]).1.wear) (b := .slice (some ⟨g3, 0, none⟩) 4 c3) (Chg.refl (· = g) w4) (.inl rfl) (k * 2)
  unfold EraseAtP
  rw [HY.out]
  refine ⟨some ⟨g, 0, none⟩, c2, T.set k ⟨g3, c3, (eraseBlock D[k]).1.wear, (eraseBlock D[k]).1.pages, rest3⟩, by rw [List.length_set], by rw [bksOf_set, HT.out]; rfl, hset.more hs1 (by simp [World.setCell]), hc4.own hcs (by omega)⟩
set_option maxRecDepth 100000 in
set_option maxHeartbeats 2000000 in
theorem sEraseAt_any (F : Nat → Prop) (A : Option Addr) (c : Nat) (D : List Bk) (n : Int) (w : World) (h : DevR F w A D) (hs : Small D) :
    Calls Try.prog 82 #[.slice A D.length c, .int .i64 n] w (EraseAtP w D n) := by
  have HR := Lib.hid h.lt
  have HNO : ∀ wq (Aq : Option Addr) (cq : Nat), ¬ (DvOk D ∧ (0 ≤ n ∧ n < (D.length : Int))) → Chg NoB w wq → Hid (EraseAtP w D n (.returned (.tuple #[.slice Aq 0 cq, .bool false])) wq) := fun wq Aq cq h1 h2 => Lib.hid (EraseAtP.no h1 h2)
  by_cases hd : DvOk D
  case neg =>
    have HD := Lib.hid hd
    have HS := Lib.hid hs
    clear hd hs h
    go_enter Try.func82, Try.ntmps82
    go_wp2_with fail
    refine (sDeviceValid_f _ A c D _ HR.out HS.out HD.out).mono ?_
    rintro e w1 ⟨rfl, hc1⟩
    have HC := Lib.hid hc1
    clear hc1
    go_wp2
    refine bodyPost_ret (v := .tuple #[.slice (some ⟨w1.heap.size, 0, none⟩) 0 0, .bool false]) (by simp [results, Try.results82, go_sem, *]) rfl ?_
    exact (HNO _ _ _ (fun hh => HD.out hh.1) (HC.out.alloc _)).out
  have hl := hd.1
  have HD := Lib.hid hd
  clear hd h hs
  by_cases hn : 0 ≤ n ∧ n < (D.length : Int)
  case neg =>
    have HN := Lib.hid hn
    clear hn
    have h1 : (1 : Int) ≤ (D.length : Int) := by omega
    have h2 : (D.length : Int) ≤ 12 := by omega
    go_enter Try.func82, Try.ntmps82
    go_wp2_with fail
    refine (sDeviceValid_t _ A c D _ HR.out HD.out).mono ?_
    rintro e w1 ⟨rfl, hc1⟩
    have HC := Lib.hid hc1
    clear hc1
    go_wp2_with fail
    refine (l1In_f n 0 ((D.length : Int) - 1) _ (fun hh => HN.out (by omega))).mono ?_
    rintro e w' ⟨rfl, rfl⟩
    go_wp2
    refine bodyPost_ret (v := .tuple #[.slice (some ⟨w1.heap.size, 0, none⟩) 0 0, .bool false]) (by simp [results, Try.results82, go_sem, *]) rfl ?_
    exact (HNO _ _ _ (fun hh => HN.out hh.2) (HC.out.alloc _)).out
  obtain ⟨k, rfl⟩ := Int.eq_ofNat_of_zero_le hn.1
  have hk : k < D.length := by omega
  have hk0 : (0 : Int) ≤ (k : Int) := Int.natCast_nonneg _
  have hk1 : (k : Int) < (D.length : Int) := by omega
  have hk2 : ¬ ((k : Int) < 0) := by omega
  have hk3 : ¬ ((D.length : Int) ≤ (k : Int)) := by omega
  have h1 : (1 : Int) ≤ (D.length : Int) := by omega
  have h2 : (D.length : Int) ≤ 12 := by omega
  have HY := Lib.hid (eraseAt_yes HD.out hk)
  clear HNO
  go_enter Try.func82, Try.ntmps82
  go_wp2_with fail
  refine (sDeviceValid_t _ A c D _ HR.out HD.out).mono ?_
  rintro e w1 ⟨rfl, hc1⟩
  have HC1 := Lib.hid hc1
  have HR1 := Lib.hid (HR.out.new hc1)
  clear hc1
  go_wp2_with fail
  refine (l1In_t (k : Int) 0 ((D.length : Int) - 1) _ ⟨by omega, by omega⟩).mono ?_
  rintro e w' ⟨rfl, rfl⟩
  go_wp2_with fail
  refine (l5Copy_any _ A c D _ HR1.out HD.out).mono ?_
  rintro e w2 ⟨A2, c2, T, rfl, hT, hO2, hc2⟩
  have hTl : T.length = D.length := by rw [← hT, bksOf_length]
  obtain ⟨g, rest, rfl, hgB, hgE, hbg⟩ := hO2.blk (by omega)
  have HT := Lib.hid hT
  have HTL := Lib.hid hTl
  have HO2 := Lib.hid hO2
  have HBG := Lib.hid hbg
  have HGB := Lib.hid (And.intro hgB hgE)
  have HC2 := Lib.hid (HC1.out.trans hc2)
  have HS1 := Lib.hid HC1.out.size
  obtain ⟨bb, o, A', c', rfl, hf, c0, c1, hr, hcc⟩ := (HR1.out.new hc2) k hk
  have h4 := (HD.out.2 k hk).2.1
  have HBK := Lib.hid (HD.out.2 k hk)
  rw [h4] at c1
  have HRD := Lib.hid hr
  clear hO2 hbg hgB hgE hT hTl hc2 hr h4
  go_wp2_with fail
  refine (sEraseBlock_any _ A' c' D[k] _ HRD.out HBK.out).mono ?_
  rintro e w3 ⟨g3, c3, rest3, rfl, h43, hok3, hc3⟩
  have hca := (Chg.refl NoB w3).alloc (.cells #[.int .i64 (eraseBlock D[k]).1.wear, .slice (some ⟨g3, 0, none⟩) 4 c3] 67)
  have hbg4 := HBG.out.chg (hc3.trans hca) (fun x => x)
  obtain ⟨x0, x1⟩ := DevO.room hbg4 (k := k) (by rw [HTL.out]; exact hk)
  have f0 := hbg4.frozen (k * 2)
  have f1 := hbg4.frozen (k * 2 + 1)
  have HBG4 := Lib.hid hbg4
  have HO4 := Lib.hid (HO2.out.new (hc3.trans hca))
  have HC4 := Lib.hid ((HC2.out.trans hc3).trans hca)
  have HOK := Lib.hid (hok3.chg hca (fun x => x))
  have HSA := Lib.hid hca.size
  have H43 := Lib.hid h43
  clear hbg4 hca hok3 hc3 c0 c1 h43
  go_wp2
  refine bodyPost_ret (v := .tuple #[.slice (some ⟨g, 0, none⟩) D.length c2, .bool (eraseBlock D[k]).2]) (by simp [results, Try.results82, go_sem, *]) rfl ?_
  have hg := HGB.out
  have hs1 := HS1.out
  have hsa := HSA.out
  obtain ⟨w4, hw4⟩ : ∃ w4, w3.alloc (.cells #[.int .i64 (eraseBlock D[k]).1.wear, .slice (some ⟨g3, 0, none⟩) 4 c3] 67) = w4 := ⟨_, rfl⟩
  have ho4 := HO4.out
  have hc4 := HC4.out
  have hok4 := HOK.out
  have hb4 := HBG4.out
  rw [hw4] at hsa ho4 hc4 hok4 hb4 ⊢
  have hkT : k < T.length := by rw [HTL.out]; exact hk
  have hset := ho4.setBk (r := ⟨g3, c3, (eraseBlock D[k]).1.wear, (eraseBlock D[k]).1.pages, rest3⟩) hb4 hg hkT (hok4.more (show w1.heap.size ≤ w2.heap.size from Nat.le_of_lt (Nat.lt_of_le_of_lt hg.1 hg.2)) hsa) hok4.1
  rw [show (⟨g3, c3, (eraseBlock D[k]).1.wear, (eraseBlock D[k]).1.pages, rest3⟩ : BkO).ps.length = 4 from H43.out] at hset
  have hcs := chg2 (F := (· = g)) (a := .int .i64 (eraseBlock D[k]).1.wear) (b := .slice (some ⟨g3, 0, none⟩) 4 c3) (Chg.refl (· = g) w4) (.inl rfl) (k * 2)
  unfold EraseAtP
  rw [HY.out]
  refine ⟨some ⟨g, 0, none⟩, c2, T.set k ⟨g3, c3, (eraseBlock D[k]).1.wear, (eraseBlock D[k]).1.pages, rest3⟩, by rw [List.length_set], by rw [bksOf_set, HT.out]; rfl, hset.more hs1 (by simp [World.setCell]), hc4.own hcs (by omega)⟩
end Go.Proofs.Ytpiojofmflfkkaa
