/- DrawWearSpread; the law FnWearSpread: the walk. -/
import Derived.Test.YtenbbkmbnpdfaaaYd
import Derived.Test.YtenbbkmbnpdfaaaRo
import Derived.Test.YtenbbkmbnpdfaaaRh
namespace Go.Proofs.Ytenbbkmbnpdfaaa
open Go.RowKit
set_option maxRecDepth 100000 in
set_option maxHeartbeats 1000000 in
theorem DrawWearSpread_any (A0 : Option Addr) (c0 : Nat) (bs : List Nat) (w : World) (h : Rd (fun i => i < w.heap.size) w A0 (bs.map fun (b : Nat) => Value.int .u8 (b : Int))) (hx : ∀ b ∈ bs, b < 256) (hc : bs.length ≤ c0) :
    Calls Try.prog 35 #[.slice A0 bs.length c0] w (DvDrawn w) := by
  go_enter Try.func35, Try.ntmps35
  go_wp2_with fail
  refine (l20Open_any A0 c0 bs _ h hx hc).mono ?_
  rintro e w1 ⟨g, rfl, hg, hc1, hr1⟩
  have HG := Lib.hid hg
  have HC1 := Lib.hid hc1
  clear hg hc1 h hx hc
  go_wp2_with fail
  refine (l20Device_any g 0 6 _ hr1 (by omega) (by omega) (by omega)).mono ?_
  rintro e w2 ⟨A, c, D, hh, rfl, hrd, hlc, h13, h4, hc2, hr2⟩
  have hca := (Chg.refl NoB w2).alloc (.cells #[.int .i64 hh.hot, .int .i64 hh.warm, .int .i64 hh.cold] 38)
  have HC := Lib.hid ((HC1.out.own hc2 (by rw [HG.out]; exact Nat.le_refl _)).trans hca)
  have HRD := Lib.hid (hrd.new hca)
  have HS := Lib.hid HC1.out.size
  clear hca hc2 hrd hr1 hr2
  go_wp2
  go_ret
  exact ⟨A, c, D, rfl, HRD.out.mono (fun i _ hi => by have := HS.out; omega), hlc, h13, h4, HC.out⟩
theorem mostTo_base (D : List Bk) (a : Int) (n : Nat) : a ≤ mostTo D a n := by
  induction n with
  | zero => exact Int.le_refl _
  | succ n ih => unfold mostTo; omega
theorem leastTo_base (D : List Bk) (a : Int) (n : Nat) : leastTo D a n ≤ a := by
  induction n with
  | zero => exact Int.le_refl _
  | succ n ih => unfold leastTo; omega
theorem mostTo_at (D : List Bk) (a : Int) (n : Nat) : ∀ j, j < n → wearAt D j ≤ mostTo D a n := by
  induction n with
  | zero => intro j hj; omega
  | succ n ih =>
    intro j hj
    unfold mostTo
    by_cases h : j = n
    · subst h; omega
    · have := ih j (by omega); omega
theorem leastTo_at (D : List Bk) (a : Int) (n : Nat) : ∀ j, j < n → leastTo D a n ≤ wearAt D j := by
  induction n with
  | zero => intro j hj; omega
  | succ n ih =>
    intro j hj
    unfold leastTo
    by_cases h : j = n
    · subst h; omega
    · have := ih j (by omega); omega
theorem mostTo_hi (D : List Bk) (hd : DvOk D) (a : Int) (ha : a ≤ 100) (n : Nat) : mostTo D a n ≤ 100 := by
  induction n with
  | zero => exact ha
  | succ n ih => unfold mostTo; have := wearAt_range hd n; omega
theorem leastTo_lo (D : List Bk) (hd : DvOk D) (a : Int) (ha : 0 ≤ a) (n : Nat) : 0 ≤ leastTo D a n := by
  induction n with
  | zero => exact ha
  | succ n ih => unfold leastTo; have := wearAt_range hd n; omega
theorem wearSpread_range {D : List Bk} (hd : DvOk D) : 0 ≤ wearSpread D ∧ wearSpread D ≤ 100 ∧ ∀ j, j < D.length → wearAt D j - wearAt D 0 ≤ wearSpread D ∧ wearAt D 0 - wearAt D j ≤ wearSpread D := by
  unfold wearSpread
  rw [if_pos hd]
  have h1 := mostTo_base D (wearAt D 0) D.length
  have h2 := leastTo_base D (wearAt D 0) D.length
  have h3 := wearAt_range hd 0
  have h4 := mostTo_hi D hd (wearAt D 0) h3.2 D.length
  have h5 := leastTo_lo D hd (wearAt D 0) h3.1 D.length
  refine ⟨by omega, by omega, fun j hj => ?_⟩
  have h6 := mostTo_at D (wearAt D 0) D.length j hj
  have h7 := leastTo_at D (wearAt D 0) D.length j hj
  omega
theorem wearSpread_one {D : List Bk} (hd : DvOk D) : wearSpread (D.take 1) = 0 := by
  have hl := hd.1
  have hl1 : (D.take 1).length = 1 := by rw [List.length_take]; omega
  have hd1 : DvOk (D.take 1) := ⟨by omega, fun k hk => by rw [List.getElem_take]; exact hd.2 k (by omega)⟩
  unfold wearSpread
  rw [if_pos hd1, hl1]
  simp only [mostTo, leastTo]
  omega
theorem devR_take {F : Nat → Prop} {w : World} {A : Option Addr} {D : List Bk} (h : DevR F w A D) (n : Nat) : DevR F w A (D.take n) := fun k hk => by
  have hk' : k < D.length := by rw [List.length_take] at hk; omega
  rw [List.getElem_take]
  exact h k hk'
set_option maxRecDepth 100000 in
set_option maxHeartbeats 4000000 in
theorem FnWearSpread_any (A : Option Addr) (c : Nat) (bs : List Nat) (w : World) (h : Rd (fun i => i < w.heap.size) w A (bs.map fun (b : Nat) => Value.int .u8 (b : Int))) (hx : ∀ b ∈ bs, b < 256) (hc : bs.length ≤ c) (_hm : c ≤ maxLen) :
    Calls Try.prog 9 #[.slice A bs.length c] w fun e w' => e = .returned (.bool true) ∧ Chg NoB w w' := by
  by_cases hl : 1048576 < bs.length
  · go_enter Try.func9, Try.ntmps9
    go_wp2
    go_ret
    exact ⟨rfl, Chg.refl _ _⟩
  have hl' : bs.length ≤ 1048576 := by omega
  go_enter Try.func9, Try.ntmps9
  go_wp2_with fail
  refine (DrawWearSpread_any A c bs w h hx hc).mono ?_
  rintro e w1 ⟨A1, c1, D, rfl, hrd, hlc, h13, h4, hc1⟩
  have HR1 := Lib.hid hrd
  have HC1 := Lib.hid hc1
  have HSM := Lib.hid (small13 h13 h4)
  clear hrd hc1 h hx hc h4
  go_wp2_with fail
  refine (iWearSpread_any _ A1 c1 D _ HR1.out).mono ?_
  rintro e w2 ⟨rfl, hc2⟩
  have HC2 := Lib.hid (HC1.out.trans hc2)
  have HR2 := Lib.hid (HR1.out.new hc2)
  clear hc2
  obtain ⟨z, hz⟩ : ∃ z, wearSpread D = z := ⟨_, rfl⟩
  have HZ := Lib.hid hz
  rw [hz]
  clear hz
  go_wp2_with fail
  refine (sWearSpread_any _ A1 c1 D _ HR2.out HSM.out).mono ?_
  rintro e w3 ⟨rfl, hc3⟩
  rw [HZ.out]
  have HC3 := Lib.hid (HC2.out.trans hc3)
  have HR3 := Lib.hid (HR2.out.new hc3)
  have hzz : (z != z) = false := by simp
  clear hc3
  by_cases hd : DvOk D
  case neg =>
    have hz1 : z = -1 := by rw [← HZ.out]; unfold wearSpread; exact if_neg hd
    subst hz1
    clear hd
    go_wp2_with fail
    refine (alive_any _).mono ?_
    rintro e w' ⟨rfl, rfl⟩
    go_wp2
    go_ret
    exact ⟨rfl, HC3.out⟩
  have hrng := wearSpread_range hd
  rw [HZ.out] at hrng
  have HRNG := Lib.hid hrng.2.2
  have hz0 : ¬ (z < 0) := by omega
  have hz1 : z ≤ 100 := hrng.2.1
  have hz2 : 0 ≤ z := hrng.1
  have hD := hd.1
  have HD := Lib.hid hd
  have hlt0 : 0 < D.length := by omega
  have hDn : ¬ (D = []) := fun hh => by rw [hh] at hlt0; simp at hlt0
  have hL0 : (0 : Int) < (D.length : Int) := by omega
  have hL1 : (1 : Int) ≤ (D.length : Int) := by omega
  have hL3 : 1 ≤ c1 := by omega
  have hL4 : (1 : Int) ≤ (c1 : Int) := by omega
  clear hd hrng
  go_wp2_with fail
  go_loopw [5] (fun i wr => ∃ j : Nat, j ≤ D.length ∧ i = .int .i64 j ∧ Chg NoB w3 wr) (fun i _ => D.length - (intOf i).toNat)
  case atStart => exact ⟨0, Nat.zero_le _, rfl, Chg.refl _ _⟩
  case round =>
    obtain ⟨j, hj, rfl, hch⟩ := hrel
    have HCH := Lib.hid hch
    obtain ⟨b, o, A0', c0', rfl, -, z0, -, -, -⟩ := (HR3.out.new hch) 0 hlt0
    have hl1 : (D.take 1).length = 1 := by rw [List.length_take]; omega
    by_cases hlt : j < D.length
    case neg =>
      obtain rfl : j = D.length := by omega
      have HS1 := Lib.hid (show Calls Try.prog 28 #[.slice (some ⟨b, o, none⟩) 1 c1] wr fun e w' => e = .returned (.int .i64 0) ∧ Chg NoB wr w' by
        have := iWearSpread_any _ (some ⟨b, o, none⟩) c1 (D.take 1) wr (devR_take (HR3.out.new hch) 1)
        rwa [hl1, wearSpread_one HD.out] at this)
      clear hch z0 hl1
      go_wp2_with fail
      refine HS1.out.mono ?_
      rintro e w5 ⟨rfl, hc5⟩
      have HC5 := Lib.hid ((HC3.out.trans HCH.out).trans hc5)
      clear hc5
      go_wp2
      go_ret
      exact ⟨rfl, HC5.out⟩
    obtain ⟨b', o', A1', c1', e, -, y0, -, -, -⟩ := (HR3.out.new hch) j hlt
    injection e with e
    injection e with e1 e2
    subst e1 e2
    have hx : D[0].wear = wearAt D 0 := by unfold wearAt; rw [getD_get _ _ hlt0]
    have hy : D[j].wear = wearAt D j := by unfold wearAt; rw [getD_get _ _ hlt]
    have hr := HRNG.out j hlt
    have hwx := wearAt_range HD.out 0
    have hwy := wearAt_range HD.out j
    rw [hx] at z0
    rw [hy] at y0
    generalize wearAt D 0 = x at *
    generalize wearAt D j = y at *
    have hw1 : IntKind.i64.wrap (y - x) = y - x := IntWalk.i64_in _ ⟨by omega, by omega⟩
    have hw2 : IntKind.i64.wrap (x - y) = x - y := IntWalk.i64_in _ ⟨by omega, by omega⟩
    have hg1 : ¬ (z < y - x) := by omega
    have hg2 : ¬ (z < x - y) := by omega
    have hi0 : (0 : Int) ≤ (j : Int) := Int.natCast_nonneg _
    have hi1 : (j : Int) < (D.length : Int) := by omega
    have z0' : wr.cell? ⟨b, o, none⟩ = some (.int .i64 x) := by simpa using z0
    clear hch hx hy hr hwx hwy hl1 z0
    go_wp2_with fail
    refine wp_region_ro (gl := [(12, some false)]) (WInv := fun _ _ w5 => Chg NoB wr w5) (R := Chg NoB) (Post := PV [some (.slice (some ⟨b, o, none⟩) D.length c1), some (.int .i64 (j : Int)), some (.pointer (some ⟨b, o + j * 2, none⟩)), some (.pointer (some ⟨b, o + j * 2, none⟩)), some (.int .i64 y), some (.slice (some ⟨b, o, none⟩) D.length c1), some (.pointer (some ⟨b, o, none⟩)), some (.pointer (some ⟨b, o, none⟩)), some (.int .i64 x), some (.int .i64 (y - x)), some (.int .i64 z), some (.bool false), some (.bool false), some (.slice (some ⟨b, o, none⟩) D.length c1), some (.pointer (some ⟨b, o, none⟩)), some (.pointer (some ⟨b, o, none⟩)), some (.int .i64 x), some (.slice (some ⟨b, o, none⟩) D.length c1), some (.int .i64 (j : Int)), some (.pointer (some ⟨b, o + j * 2, none⟩)), some (.pointer (some ⟨b, o + j * 2, none⟩)), some (.int .i64 y), some (.int .i64 (x - y)), some (.int .i64 z), some (.bool false), some (.bool false)]) (by kernel_rfl) (by kernel_rfl) (pv_guard (by intro p hp; simp only [List.mem_cons, List.not_mem_nil, or_false] at hp; rcases hp with rfl <;> rfl)) (fun _ _ _ _ h _ _ => h) (fun _ _ _ _ h _ => h) (Chg.refl _ _).drew ⟨?_, ?_, ?_, ?_, ?_, ?_, ?_, ?_, ?_, ?_, ?_, ?_, ?_, ?_, ?_, ?_, ?_, ?_, ?_, ?_, ?_, ?_, ?_, ?_, ?_, ?_, trivial⟩ ?_
    · rintro kc m a w5 hkc hch hm hn
      obtain ⟨e1, -⟩ := hn
      replace e1 : a.tmps[3]?.getD undef = .slice (some ⟨b, o, none⟩) D.length c1 := e1
      exact rg_val (v := .slice (some ⟨b, o, none⟩) D.length c1) (by simp [execOp, go_sem, e1]) rfl hch (Chg.refl _ _) rfl
    · rintro kc m a w5 hkc hch hm hn
      obtain ⟨e1, -⟩ := hn
      replace e1 : a.tmps[5]?.getD undef = .int .i64 (j : Int) := e1
      exact rg_val (v := .int .i64 (j : Int)) (by simp [execOp, go_sem, e1]) rfl hch (Chg.refl _ _) rfl
    · rintro kc m a w5 hkc hch hm hn
      obtain ⟨⟨_, e1, _, rfl⟩, ⟨_, e2, _, rfl⟩, -⟩ := hn
      exact rg_val (v := .pointer (some ⟨b, o + j * 2, none⟩)) (by simp [execOp, go_sem, e1, e2]; exact fun hh => absurd hh (by omega)) rfl hch (Chg.refl _ _) rfl
    · rintro kc m a w5 hkc hch hm hn
      obtain ⟨⟨_, e1, _, rfl⟩, -⟩ := hn
      exact rg_val (v := .pointer (some ⟨b, o + j * 2, none⟩)) (by simp [execOp, go_sem, e1]) rfl hch (Chg.refl _ _) rfl
    · rintro kc m a w5 hkc hch hm hn
      obtain ⟨⟨_, e1, _, rfl⟩, -⟩ := hn
      have c0 := Chg.cell hch y0 (fun x => x)
      exact rg_val (v := .int .i64 y) (by simp [execOp, go_sem, e1, c0]) rfl hch (Chg.refl _ _) rfl
    · rintro kc m a w5 hkc hch hm hn
      obtain ⟨e1, -⟩ := hn
      replace e1 : a.tmps[3]?.getD undef = .slice (some ⟨b, o, none⟩) D.length c1 := e1
      exact rg_val (v := .slice (some ⟨b, o, none⟩) D.length c1) (by simp [execOp, go_sem, e1]) rfl hch (Chg.refl _ _) rfl
    · rintro kc m a w5 hkc hch hm hn
      obtain ⟨⟨_, e1, _, rfl⟩, -⟩ := hn
      exact rg_val (v := .pointer (some ⟨b, o, none⟩)) (by simp [execOp, go_sem, e1, hDn]) rfl hch (Chg.refl _ _) rfl
    · rintro kc m a w5 hkc hch hm hn
      obtain ⟨⟨_, e1, _, rfl⟩, -⟩ := hn
      exact rg_val (v := .pointer (some ⟨b, o, none⟩)) (by simp [execOp, go_sem, e1]) rfl hch (Chg.refl _ _) rfl
    · rintro kc m a w5 hkc hch hm hn
      obtain ⟨⟨_, e1, _, rfl⟩, -⟩ := hn
      have c0 := Chg.cell hch z0' (fun x => x)
      exact rg_val (v := .int .i64 x) (by simp [execOp, go_sem, e1, c0]) rfl hch (Chg.refl _ _) rfl
    · rintro kc m a w5 hkc hch hm hn
      obtain ⟨⟨_, e1, _, rfl⟩, ⟨_, e2, _, rfl⟩, -⟩ := hn
      exact rg_val (v := .int .i64 (y - x)) (by simp [execOp, go_sem, e1, e2, hw1]) rfl hch (Chg.refl _ _) rfl
    · rintro kc m a w5 hkc hch hm hn
      obtain ⟨e1, -⟩ := hn
      replace e1 : a.tmps[4]?.getD undef = .int .i64 z := e1
      exact rg_val (v := .int .i64 z) (by simp [execOp, go_sem, e1]) rfl hch (Chg.refl _ _) rfl
    · rintro kc m a w5 hkc hch hm hn
      obtain ⟨⟨_, e1, _, rfl⟩, ⟨_, e2, _, rfl⟩, -⟩ := hn
      exact rg_val (v := .bool false) (by simp [execOp, go_sem, e1, e2, hg1]) rfl hch (Chg.refl _ _) rfl
    · rintro kc m a w5 hkc hch hm hn
      obtain ⟨⟨_, e1, _, rfl⟩, -⟩ := hn
      exact rg_val (v := .bool false) (by simp [execOp, go_sem, e1]) rfl hch (Chg.refl _ _) rfl
    · rintro kc m a w5 hkc hch hm hn
      obtain ⟨e1, -⟩ := hn
      replace e1 : a.tmps[3]?.getD undef = .slice (some ⟨b, o, none⟩) D.length c1 := e1
      exact rg_val (v := .slice (some ⟨b, o, none⟩) D.length c1) (by simp [execOp, go_sem, e1]) rfl hch (Chg.refl _ _) rfl
    · rintro kc m a w5 hkc hch hm hn
      obtain ⟨⟨_, e1, _, rfl⟩, -⟩ := hn
      exact rg_val (v := .pointer (some ⟨b, o, none⟩)) (by simp [execOp, go_sem, e1, hDn]) rfl hch (Chg.refl _ _) rfl
    · rintro kc m a w5 hkc hch hm hn
      obtain ⟨⟨_, e1, _, rfl⟩, -⟩ := hn
      exact rg_val (v := .pointer (some ⟨b, o, none⟩)) (by simp [execOp, go_sem, e1]) rfl hch (Chg.refl _ _) rfl
    · rintro kc m a w5 hkc hch hm hn
      obtain ⟨⟨_, e1, _, rfl⟩, -⟩ := hn
      have c0 := Chg.cell hch z0' (fun x => x)
      exact rg_val (v := .int .i64 x) (by simp [execOp, go_sem, e1, c0]) rfl hch (Chg.refl _ _) rfl
    · rintro kc m a w5 hkc hch hm hn
      obtain ⟨e1, -⟩ := hn
      replace e1 : a.tmps[3]?.getD undef = .slice (some ⟨b, o, none⟩) D.length c1 := e1
      exact rg_val (v := .slice (some ⟨b, o, none⟩) D.length c1) (by simp [execOp, go_sem, e1]) rfl hch (Chg.refl _ _) rfl
    · rintro kc m a w5 hkc hch hm hn
      obtain ⟨e1, -⟩ := hn
      replace e1 : a.tmps[5]?.getD undef = .int .i64 (j : Int) := e1
      exact rg_val (v := .int .i64 (j : Int)) (by simp [execOp, go_sem, e1]) rfl hch (Chg.refl _ _) rfl
    · rintro kc m a w5 hkc hch hm hn
      obtain ⟨⟨_, e1, _, rfl⟩, ⟨_, e2, _, rfl⟩, -⟩ := hn
      exact rg_val (v := .pointer (some ⟨b, o + j * 2, none⟩)) (by simp [execOp, go_sem, e1, e2]; exact fun hh => absurd hh (by omega)) rfl hch (Chg.refl _ _) rfl
    · rintro kc m a w5 hkc hch hm hn
      obtain ⟨⟨_, e1, _, rfl⟩, -⟩ := hn
      exact rg_val (v := .pointer (some ⟨b, o + j * 2, none⟩)) (by simp [execOp, go_sem, e1]) rfl hch (Chg.refl _ _) rfl
    · rintro kc m a w5 hkc hch hm hn
      obtain ⟨⟨_, e1, _, rfl⟩, -⟩ := hn
      have c0 := Chg.cell hch y0 (fun x => x)
      exact rg_val (v := .int .i64 y) (by simp [execOp, go_sem, e1, c0]) rfl hch (Chg.refl _ _) rfl
    · rintro kc m a w5 hkc hch hm hn
      obtain ⟨⟨_, e1, _, rfl⟩, ⟨_, e2, _, rfl⟩, -⟩ := hn
      exact rg_val (v := .int .i64 (x - y)) (by simp [execOp, go_sem, e1, e2, hw2]) rfl hch (Chg.refl _ _) rfl
    · rintro kc m a w5 hkc hch hm hn
      obtain ⟨e1, -⟩ := hn
      replace e1 : a.tmps[4]?.getD undef = .int .i64 z := e1
      exact rg_val (v := .int .i64 z) (by simp [execOp, go_sem, e1]) rfl hch (Chg.refl _ _) rfl
    · rintro kc m a w5 hkc hch hm hn
      obtain ⟨⟨_, e1, _, rfl⟩, ⟨_, e2, _, rfl⟩, -⟩ := hn
      exact rg_val (v := .bool false) (by simp [execOp, go_sem, e1, e2, hg2]) rfl hch (Chg.refl _ _) rfl
    · rintro kc m a w5 hkc hch hm hn
      obtain ⟨⟨_, e1, _, rfl⟩, ⟨_, e2, _, rfl⟩, -⟩ := hn
      exact rg_val (v := .bool false) (by simp [execOp, go_sem, e1, e2]) rfl hch (Chg.refl _ _) rfl
    rintro m w2 hc2
    simp only [AllVals]
    rintro v0 _ p0 v1 _ p1 v2 _ p2 v3 _ p3 v4 _ p4 v5 _ p5 v6 _ p6 v7 _ p7 v8 _ p8 v9 _ p9 v10 _ p10 v11 _ p11 v12 _ p12 v13 _ p13 v14 _ p14 v15 _ p15 v16 _ p16 v17 _ p17 v18 _ p18 v19 _ p19 v20 _ p20 v21 _ p21 v22 _ p22 v23 _ p23 v24 _ p24 v25 _ p25
    obtain rfl := p25
    clear p0 p1 p2 p3 p4 p5 p6 p7 p8 p9 p10 p11 p12 p13 p14 p15 p16 p17 p18 p19 p20 p21 p22 p23 p24
    simp only [Act.put, List.setIfInBounds_toArray, List.set_cons_succ, List.set_cons_zero]
    have HC2 := Lib.hid hc2
    clear hc2
    go_wp2
    go_roundw
    case rel => exact ⟨j + 1, by omega, by go_num, HCH.out.trans HC2.out⟩
    case measure => simp [intOf]; omega
end Go.Proofs.Ytenbbkmbnpdfaaa
