/- The laws' comparisons of devices that are the same. -/
import Derived.Test.YtenbbkmbnpdfaaaVo
import Derived.Test.YtenbbkmbnpdfaaaDa
namespace Go.Proofs.Ytenbbkmbnpdfaaa
open Go.RowKit
set_option maxRecDepth 100000 in
set_option maxHeartbeats 2000000 in
theorem samePages_t (F G : Nat → Prop) (A B : Option Addr) (c d : Nat) (ps : List Pg) (w : World) (h : Rd F w A (pgs ps)) (h' : Rd G w B (pgs ps)) (hl : ps.length ≤ 9223372036854775807) :
    Calls Try.prog 76 #[.slice A ps.length c, .slice B ps.length d] w fun e w' => e = .returned (.bool true) ∧ Chg NoB w w' := by
  have hne : ((ps.length : Int) != (ps.length : Int)) = false := by simp
  have HR := Lib.hid h
  have HR' := Lib.hid h'
  clear h h'
  go_enter Try.func76, Try.ntmps76
  go_wp2
  go_loopw [5] (fun i wr => ∃ k : Nat, k ≤ ps.length ∧ i = .int .i64 k ∧ Chg NoB w wr) (fun i _ => ps.length - (intOf i).toNat)
  case atStart => exact ⟨0, Nat.zero_le _, rfl, Chg.refl _ _⟩
  case round =>
    obtain ⟨k, hkl, rfl, hch⟩ := hrel
    by_cases hk : k < ps.length
    · obtain ⟨b1, o1, rfl, -, -, c0, c1, c2, c3, c4⟩ := pgs_at (HR.out.new hch) hk
      obtain ⟨b2, o2, rfl, -, -, d0, d1, d2, d3, d4⟩ := pgs_at (HR'.out.new hch) hk
      have hi0 : (0 : Int) ≤ (k : Int) := Int.natCast_nonneg _
      have hi1 : (k : Int) < (ps.length : Int) := by omega
      have HCH := Lib.hid hch
      clear hch
      go_wp2
      go_quiet (fail)
      go_wp2
      go_roundw
      case rel => exact ⟨k + 1, by omega, by go_num, HCH.out.drewN _⟩
      case measure => simp [intOf]; omega
    · have HCH := Lib.hid hch
      clear hch
      go_wp2
      go_ret
      exact ⟨rfl, HCH.out⟩
theorem sameBlock_t (F G : Nat → Prop) (A B : Option Addr) (c d : Nat) (b : Bk) (w : World) (h : Rd F w A (pgs b.pages)) (h' : Rd G w B (pgs b.pages)) (hl : b.pages.length ≤ 9223372036854775807) :
    Calls Try.prog 41 #[.agg #[.int .i64 b.wear, .slice A b.pages.length c], .agg #[.int .i64 b.wear, .slice B b.pages.length d]] w fun e w' => e = .returned (.bool true) ∧ Chg NoB w w' := by
  have hne : (b.wear == b.wear) = true := by simp
  have HC := Lib.hid (((Chg.refl NoB w).alloc (.cells #[.int .i64 b.wear, .slice A b.pages.length c] 44)).alloc (.cells #[.int .i64 b.wear, .slice B b.pages.length d] 44))
  have HR := Lib.hid (h.new HC.out)
  have HR' := Lib.hid (h'.new HC.out)
  clear h h'
  go_enter Try.func41, Try.ntmps41
  go_wp2_with fail
  refine (samePages_t _ _ A B c d b.pages _ HR.out HR'.out hl).mono ?_
  rintro e w1 ⟨rfl, hc1⟩
  have HCC := Lib.hid (HC.out.trans hc1)
  clear hc1
  go_wp2
  go_ret
  exact ⟨rfl, HCC.out⟩
set_option maxRecDepth 100000 in
set_option maxHeartbeats 2000000 in
theorem sameDevice_t (F G : Nat → Prop) (A B : Option Addr) (c d : Nat) (D : List Bk) (w : World) (h : DevR F w A D) (h' : DevR G w B D) (hs : Small D) :
    Calls Try.prog 17 #[.slice A D.length c, .slice B D.length d] w fun e w' => e = .returned (.bool true) ∧ Chg NoB w w' := by
  have hne : ((D.length : Int) != (D.length : Int)) = false := by simp
  have HR := Lib.hid h
  have HR' := Lib.hid h'
  have HS := Lib.hid hs
  have hlen := hs.1
  clear h h' hs
  go_enter Try.func17, Try.ntmps17
  go_wp2
  go_loopw [5] (fun i wr => ∃ k : Nat, k ≤ D.length ∧ i = .int .i64 k ∧ Chg NoB w wr) (fun i _ => D.length - (intOf i).toNat)
  case atStart => exact ⟨0, Nat.zero_le _, rfl, Chg.refl _ _⟩
  case round =>
    obtain ⟨k, hkl, rfl, hch⟩ := hrel
    by_cases hk : k < D.length
    · obtain ⟨b1, o1, A1, c1', rfl, -, c0, c1, hr1, -⟩ := (HR.out.new hch) k hk
      obtain ⟨b2, o2, A2, c2', rfl, -, d0, d1, hr2, -⟩ := (HR'.out.new hch) k hk
      have hi0 : (0 : Int) ≤ (k : Int) := Int.natCast_nonneg _
      have hi1 : (k : Int) < (D.length : Int) := by omega
      have HCH := Lib.hid hch
      have HR1 := Lib.hid hr1
      have HR2 := Lib.hid hr2
      have HPL := Lib.hid (HS.out.2 k hk)
      clear hch hr1 hr2
      go_wp2
      refine wp_region_ro (gl := []) (WInv := fun _ _ w5 => Chg NoB wr w5) (R := Chg NoB) (Post := PV [some (.slice (some ⟨b1, o1, none⟩) D.length c), some (.int .i64 (k : Int)), some (.pointer (some ⟨b1, o1 + k * 2, none⟩)), some (.agg #[.int .i64 D[k].wear, .slice A1 D[k].pages.length c1']), some (.slice (some ⟨b2, o2, none⟩) D.length d), some (.int .i64 (k : Int)), some (.pointer (some ⟨b2, o2 + k * 2, none⟩)), some (.agg #[.int .i64 D[k].wear, .slice A2 D[k].pages.length c2']), some (.bool true), some (.bool false)]) (by kernel_rfl) (by kernel_rfl) (pv_guard (by intro p hp; cases hp)) (fun _ _ _ _ h _ _ => h) (fun _ _ _ _ h _ => h) (Chg.refl _ _).drew ⟨?_, ?_, ?_, ?_, ?_, ?_, ?_, ?_, ?_, ?_, trivial⟩ ?_
      · rintro kc m a w5 hkc hch hm hn
        obtain ⟨e1, -⟩ := hn
        replace e1 : a.tmps[0]?.getD undef = .slice (some ⟨b1, o1, none⟩) D.length c := e1
        exact rg_val (v := .slice (some ⟨b1, o1, none⟩) D.length c) (by simp [execOp, go_sem, e1]) rfl hch (Chg.refl _ _) rfl
      · rintro kc m a w5 hkc hch hm hn
        obtain ⟨e1, -⟩ := hn
        replace e1 : a.tmps[5]?.getD undef = .int .i64 (k : Int) := e1
        exact rg_val (v := .int .i64 (k : Int)) (by simp [execOp, go_sem, e1]) rfl hch (Chg.refl _ _) rfl
      · rintro kc m a w5 hkc hch hm hn
        obtain ⟨⟨_, e1, _, rfl⟩, ⟨_, e2, _, rfl⟩, -⟩ := hn
        exact rg_val (v := .pointer (some ⟨b1, o1 + k * 2, none⟩)) (by simp [execOp, go_sem, e1, e2]; exact fun hh => absurd hh (by omega)) rfl hch (Chg.refl _ _) rfl
      · rintro kc m a w5 hkc hch hm hn
        obtain ⟨⟨_, e1, _, rfl⟩, -⟩ := hn
        have c0 := Chg.cell hch c0 (fun x => x)
        have c1 := Chg.cell hch c1 (fun x => x)
        exact rg_val (v := .agg #[.int .i64 D[k].wear, .slice A1 D[k].pages.length c1']) (by simp [execOp, go_sem, e1, c0, c1]) rfl hch (Chg.refl _ _) rfl
      · rintro kc m a w5 hkc hch hm hn
        obtain ⟨e1, -⟩ := hn
        replace e1 : a.tmps[1]?.getD undef = .slice (some ⟨b2, o2, none⟩) D.length d := e1
        exact rg_val (v := .slice (some ⟨b2, o2, none⟩) D.length d) (by simp [execOp, go_sem, e1]) rfl hch (Chg.refl _ _) rfl
      · rintro kc m a w5 hkc hch hm hn
        obtain ⟨e1, -⟩ := hn
        replace e1 : a.tmps[5]?.getD undef = .int .i64 (k : Int) := e1
        exact rg_val (v := .int .i64 (k : Int)) (by simp [execOp, go_sem, e1]) rfl hch (Chg.refl _ _) rfl
      · rintro kc m a w5 hkc hch hm hn
        obtain ⟨⟨_, e1, _, rfl⟩, ⟨_, e2, _, rfl⟩, -⟩ := hn
        exact rg_val (v := .pointer (some ⟨b2, o2 + k * 2, none⟩)) (by simp [execOp, go_sem, e1, e2]; exact fun hh => absurd hh (by omega)) rfl hch (Chg.refl _ _) rfl
      · rintro kc m a w5 hkc hch hm hn
        obtain ⟨⟨_, e1, _, rfl⟩, -⟩ := hn
        have c0 := Chg.cell hch d0 (fun x => x)
        have c1 := Chg.cell hch d1 (fun x => x)
        exact rg_val (v := .agg #[.int .i64 D[k].wear, .slice A2 D[k].pages.length c2']) (by simp [execOp, go_sem, e1, c0, c1]) rfl hch (Chg.refl _ _) rfl
      · rintro kc m a w5 hkc hch hm hn
        obtain ⟨⟨_, e1, _, rfl⟩, ⟨_, e2, _, rfl⟩, -⟩ := hn
        refine rg_call (f := 41) (args := #[.agg #[.int .i64 D[k].wear, .slice A1 D[k].pages.length c1'], .agg #[.int .i64 D[k].wear, .slice A2 D[k].pages.length c2']]) (by simp [go_sem, e1, e2]) rfl ?_
        refine (sameBlock_t _ _ A1 A2 c1' c2' D[k] _ (HR1.out.new hch) (HR2.out.new hch) HPL.out).mono ?_
        rintro e w6 ⟨rfl, hc6⟩
        exact ⟨_, rfl, hch.trans hc6, hc6, rfl⟩
      · rintro kc m a w5 hkc hch hm hn
        obtain ⟨⟨_, e1, _, rfl⟩, -⟩ := hn
        exact rg_val (v := .bool false) (by simp [execOp, go_sem, e1]) rfl hch (Chg.refl _ _) rfl
      rintro m w2 hc2
      simp only [AllVals]
      rintro v0 _ p0 v1 _ p1 v2 _ p2 v3 _ p3 v4 _ p4 v5 _ p5 v6 _ p6 v7 _ p7 v8 _ p8 v9 _ p9
      obtain rfl := p9
      clear p0 p1 p2 p3 p4 p5 p6 p7 p8
      simp only [Act.put, List.setIfInBounds_toArray, List.set_cons_succ, List.set_cons_zero]
      have HC2 := Lib.hid hc2
      clear hc2
      go_wp2
      go_roundw
      case rel => exact ⟨k + 1, by omega, by go_num, HCH.out.trans HC2.out⟩
      case measure => simp [intOf]; omega
    · have HCH := Lib.hid hch
      clear hch
      go_wp2
      go_ret
      exact ⟨rfl, HCH.out⟩
end Go.Proofs.Ytenbbkmbnpdfaaa
