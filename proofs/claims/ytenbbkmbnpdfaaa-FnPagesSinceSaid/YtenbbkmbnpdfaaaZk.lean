/- The laws FnLastStamp and FnPagesSince: the walks. -/
import Derived.Test.YtenbbkmbnpdfaaaZh
import Derived.Test.YtenbbkmbnpdfaaaZs
import Derived.Test.YtenbbkmbnpdfaaaYd
namespace Go.Proofs.Ytenbbkmbnpdfaaa
open Go.RowKit
theorem lastTo_at (D : List Bk) (n : Nat) : ∀ j, j < n → stampOf D j ≤ lastTo D n := by
  induction n with
  | zero => intro j hj; omega
  | succ n ih =>
    intro j hj
    unfold lastTo
    by_cases h : j = n
    · subst h; unfold stampOf; omega
    · have := ih j (by omega); omega
theorem lastTo_hit (D : List Bk) (n : Nat) : lastTo D n = 0 ∨ ∃ j, j < n ∧ stampOf D j = lastTo D n := by
  induction n with
  | zero => exact .inl rfl
  | succ n ih =>
    unfold lastTo
    by_cases h : lastTo D n ≤ (pgAt D n).stamp
    · exact .inr ⟨n, by omega, by unfold stampOf; omega⟩
    · rcases ih with h1 | ⟨j, hj, h1⟩
      · exact .inl (by omega)
      · exact .inr ⟨j, by omega, by omega⟩
theorem lastStamp_none {D : List Bk} (hd : DvOk D) : pagesSince D (lastStamp D) = [] := by
  have e1 : lastStamp D = lastTo D (4 * D.length) := if_pos hd
  have e2 : since D (lastTo D (4 * D.length)) (4 * D.length) = [] := by
    apply List.eq_nil_iff_forall_not_mem.2
    intro x hx
    have h1 := lastTo_at D _ x (since_lt hx)
    have h2 := since_good hx
    unfold sinceGood at h2
    rw [Bool.and_eq_true, decide_eq_true_eq] at h2
    unfold stampOf at h1
    omega
  rw [e1, show pagesSince D (lastTo D (4 * D.length)) = srt (stampOf D) (since D (lastTo D (4 * D.length)) (4 * D.length)) from if_pos hd, e2, srt_nil]
theorem lastStamp_some {D : List Bk} (hd : DvOk D) (h0 : 0 < lastStamp D) : 0 < (pagesSince D (lastStamp D - 1)).length := by
  have e1 : lastStamp D = lastTo D (4 * D.length) := if_pos hd
  rw [e1] at h0 ⊢
  rw [show pagesSince D (lastTo D (4 * D.length) - 1) = srt (stampOf D) (since D (lastTo D (4 * D.length) - 1) (4 * D.length)) from if_pos hd, srt_length]
  rcases lastTo_hit D (4 * D.length) with h1 | ⟨j, hj, h1⟩
  · omega
  · have hok := pgAt_ok hd hj
    have hf : (pgAt D j).full = true := by
      cases hf : (pgAt D j).full
      · have := ((pgOk_no hf).1 hok).2.2.2
        unfold stampOf at h1
        omega
      · rfl
    have hm : j ∈ since D (lastTo D (4 * D.length) - 1) (4 * D.length) := by
      unfold since
      rw [List.mem_filter, List.mem_range]
      refine ⟨hj, ?_⟩
      unfold sinceGood
      rw [hf, Bool.true_and, decide_eq_true_eq]
      unfold stampOf at h1
      omega
    exact List.length_pos_of_mem hm
theorem since_count {D : List Bk} (hd : DvOk D) : ∀ n, n ≤ D.length → (since D (-1) (4 * n)).length + freeTo D n = 4 * n := by
  intro n
  induction n with
  | zero => intro _; simp [since, freeTo]
  | succ n ih =>
    intro hn
    have h1 := ih (by omega)
    have hb := hd.2 n (by omega)
    obtain ⟨p0, p1, p2, p3, hp⟩ := four_pgs hb.2.1
    have hlen : D[n].pages.length = 4 := hb.2.1
    have hs : ∀ r (hr : r < 4), sinceGood D (-1) (4 * n + r) = (D[n].pages[r]'(by omega)).full := fun r hr => by
      have e := pgAt_eq (D := D) (q := n) (r := r) (by omega) (by omega) hr
      have hok : PgOk (D[n].pages[r]'(by omega)) := (hb.2.2 r (by omega)).1
      have := (stamp_range hok).1
      unfold sinceGood
      rw [e, show decide ((-1 : Int) < (D[n].pages[r]'(by omega)).stamp) = true from decide_eq_true (by omega), Bool.and_true]
    have hlen1 : ∀ k, (since D (-1) (k + 1)).length = (since D (-1) k).length + if sinceGood D (-1) k = true then 1 else 0 := fun k => by
      by_cases hg : sinceGood D (-1) k = true
      · rw [since_yes hg, if_pos hg]; simp
      · rw [since_no (by simpa using hg), if_neg hg]; simp
    have hg0 := hs 0 (by omega)
    have hg1 := hs 1 (by omega)
    have hg2 := hs 2 (by omega)
    have hg3 := hs 3 (by omega)
    have e4 : 4 * (n + 1) = 4 * n + 1 + 1 + 1 + 1 := by omega
    have hw : written D[n].pages ≤ 4 := by have := written_le D[n].pages; omega
    have hfr : freeTo D (n + 1) = freeTo D n + (4 - written D[n].pages) := by
      show freeTo D n + (4 - written (D.getD n zBk).pages) = _
      rw [getD_at (by omega)]
    rw [e4, hlen1, hlen1, hlen1, hlen1, hfr, show 4 * n + 1 + 1 + 1 = 4 * n + 3 by omega, show 4 * n + 1 + 1 = 4 * n + 2 by omega, hg3, hg2, hg1, show sinceGood D (-1) (4 * n) = _ from hg0]
    have hwr : written D[n].pages = (if p0.full = true then 1 else 0) + (if p1.full = true then 1 else 0) + (if p2.full = true then 1 else 0) + (if p3.full = true then 1 else 0) := by
      rw [hp]
      unfold written
      cases e0 : p0.full <;> cases e1 : p1.full <;> cases e2 : p2.full <;> cases e3 : p3.full <;> simp [e0, e1, e2, e3]
    have e0 : D[n].pages[0]'(by omega) = p0 := by simp [hp]
    have e1 : D[n].pages[1]'(by omega) = p1 := by simp [hp]
    have e2 : D[n].pages[2]'(by omega) = p2 := by simp [hp]
    have e3 : D[n].pages[3]'(by omega) = p3 := by simp [hp]
    rw [e0, e1, e2, e3]
    omega
theorem all_pages {D : List Bk} (hd : DvOk D) : ((pagesSince D (-1)).length : Int) = 4 * (D.length : Int) - freePages D := by
  have h := since_count hd D.length (Nat.le_refl _)
  rw [show pagesSince D (-1) = srt (stampOf D) (since D (-1) (4 * D.length)) from if_pos hd, srt_length, show freePages D = (freeTo D D.length : Int) from if_pos hd]
  omega
theorem ps_nodup {D : List Bk} {s : Int} : (pagesSince D s).Nodup := by
  unfold pagesSince
  split
  · exact (srt_perm _).nodup_iff.2 ((since_pair D s _).imp (fun h => Nat.ne_of_lt h))
  · exact List.nodup_nil
theorem ps_good {D : List Bk} {s : Int} {x : Nat} (h : x ∈ pagesSince D s) : DvOk D ∧ x < 4 * D.length ∧ (pgAt D x).full = true ∧ s < stampOf D x := by
  unfold pagesSince at h
  split at h
  · rename_i hd
    rw [srt_mem] at h
    have h2 := since_good h
    unfold sinceGood at h2
    rw [Bool.and_eq_true, decide_eq_true_eq] at h2
    exact ⟨hd, since_lt h, h2.1, h2.2⟩
  · cases h
theorem ps_sorted {D : List Bk} {s : Int} {i j : Nat} (hij : i ≤ j) (hj : j < (pagesSince D s).length) : stampOf D ((pagesSince D s).getD i 0) ≤ stampOf D ((pagesSince D s).getD j 0) := by
  have hs : Srt (stampOf D) (pagesSince D s) := by
    unfold pagesSince
    split
    · exact srt_sorted _
    · exact List.Pairwise.nil
  have := leK_iff.1 (hs.at_ hij hj)
  omega
/-- The stamp ahead of number k of the pages. -/
def prevStamp (D : List Bk) (s : Int) (L : List Nat) (k : Nat) : Int := if k = 0 then s else stampOf D (L.getD (k - 1) 0)
set_option maxRecDepth 100000 in
set_option maxHeartbeats 1000000 in
theorem DrawLastStamp_any (A0 : Option Addr) (c0 : Nat) (bs : List Nat) (w : World) (h : Rd (fun i => i < w.heap.size) w A0 (bs.map fun (b : Nat) => Value.int .u8 (b : Int))) (hx : ∀ b ∈ bs, b < 256) (hc : bs.length ≤ c0) :
    Calls Try.prog 48 #[.slice A0 bs.length c0] w (DvDrawn w) := by
  go_enter Try.func48, Try.ntmps48
  go_wp2_with fail
  refine (l20Open_any A0 c0 bs _ h hx hc).mono ?_
  rintro e w1 ⟨g, rfl, hg, hc1, hr1⟩
  have HG := Lib.hid hg
  have HC1 := Lib.hid hc1
  clear hg hc1 h hx hc
  go_wp2_with fail
  refine (l20Device_any g 0 6 _ hr1 (by omega) (by omega) (by omega)).mono ?_
  rintro e w2 ⟨A, c, D, hh, rfl, hrd, hlc, h13, h4, hc2, hr2⟩
  have hca := (Chg.refl NoB w2).alloc (.cells #[.int .i64 hh.hot, .int .i64 hh.warm, .int .i64 hh.cold] 38)
  have HC := Lib.hid ((HC1.out.own hc2 (by rw [HG.out]; exact Nat.le_refl _)).trans hca)
  have HRD := Lib.hid (hrd.new hca)
  have HS := Lib.hid HC1.out.size
  clear hca hc2 hrd hr1 hr2
  go_wp2
  go_ret
  exact ⟨A, c, D, rfl, HRD.out.mono (fun i _ hi => by have := HS.out; omega), hlc, h13, h4, HC.out⟩
set_option maxRecDepth 100000 in
set_option maxHeartbeats 4000000 in
theorem FnLastStamp_any (A : Option Addr) (c : Nat) (bs : List Nat) (w : World) (h : Rd (fun i => i < w.heap.size) w A (bs.map fun (b : Nat) => Value.int .u8 (b : Int))) (hx : ∀ b ∈ bs, b < 256) (hc : bs.length ≤ c) (_hm : c ≤ maxLen) :
    Calls Try.prog 13 #[.slice A bs.length c] w fun e w' => e = .returned (.bool true) ∧ Chg NoB w w' := by
  by_cases hl : 1048576 < bs.length
  · go_enter Try.func13, Try.ntmps13
    go_wp2
    go_ret
    exact ⟨rfl, Chg.refl _ _⟩
  have hl' : bs.length ≤ 1048576 := by omega
  go_enter Try.func13, Try.ntmps13
  go_wp2_with fail
  refine (DrawLastStamp_any A c bs w h hx hc).mono ?_
  rintro e w1 ⟨A1, c1, D, rfl, hrd, hlc, h13, h4, hc1⟩
  have HR1 := Lib.hid hrd
  have HC1 := Lib.hid hc1
  have HSM := Lib.hid (small13 h13 h4)
  clear hrd hc1 h hx hc h4
  go_wp2_with fail
  refine (iLastStamp_any _ A1 c1 D _ HR1.out).mono ?_
  rintro e w2 ⟨rfl, hc2⟩
  have HC2 := Lib.hid (HC1.out.trans hc2)
  have HR2 := Lib.hid (HR1.out.new hc2)
  clear hc2
  obtain ⟨z, hz⟩ : ∃ z, lastStamp D = z := ⟨_, rfl⟩
  have HZ := Lib.hid hz
  rw [hz]
  clear hz
  go_wp2_with fail
  refine (sLastStamp_any _ A1 c1 D _ HR2.out HSM.out).mono ?_
  rintro e w3 ⟨rfl, hc3⟩
  rw [HZ.out]
  have HC3 := Lib.hid (HC2.out.trans hc3)
  have HR3 := Lib.hid (HR2.out.new hc3)
  have hzz : (z != z) = false := by simp
  clear hc3
  by_cases hd : DvOk D
  case neg =>
    obtain rfl : z = -1 := by rw [← HZ.out]; exact if_neg hd
    clear hd
    go_wp2_with fail
    refine (alive_any _).mono ?_
    rintro e w' ⟨rfl, rfl⟩
    go_wp2
    go_ret
    exact ⟨rfl, HC3.out⟩
  have HD := Lib.hid hd
  have hz0 : 0 ≤ z := by rw [← HZ.out, show lastStamp D = lastTo D (4 * D.length) from if_pos hd]; exact (lastTo_range hd _ (Nat.le_refl _)).1
  have hz1 : z ≤ 1000000 := by rw [← HZ.out, show lastStamp D = lastTo D (4 * D.length) from if_pos hd]; exact (lastTo_range hd _ (Nat.le_refl _)).2
  have HE := Lib.hid (show pagesSince D z = [] by rw [← HZ.out]; exact lastStamp_none hd)
  have HE2 := Lib.hid (show 0 < z → 0 < (pagesSince D (z - 1)).length by rw [← HZ.out]; exact fun h => lastStamp_some hd h)
  have hzn : ¬ z < 0 := by omega
  clear hd
  by_cases hz2 : z = 0
  · subst hz2
    go_wp2_with fail
    refine (iPagesSince_any _ A1 c1 D 0 _ HR3.out).mono ?_
    rintro e w4 ⟨A4, c4, rfl, ho4, hc4⟩
    rw [HE.out]
    have HC4 := Lib.hid (HC3.out.trans hc4)
    clear ho4 hc4
    go_wp2
    go_ret
    exact ⟨rfl, HC4.out⟩
  have hz3 : (z == 0) = false := beq_eq_false_iff_ne.2 hz2
  have HZ2 := Lib.hid (show 0 < z by omega)
  clear hz2
  go_wp2_with fail
  refine (iPagesSince_any _ A1 c1 D z _ HR3.out).mono ?_
  rintro e w4 ⟨A4, c4, rfl, ho4, hc4⟩
  rw [HE.out]
  have HC4 := Lib.hid (HC3.out.trans hc4)
  have HR4 := Lib.hid (HR3.out.new hc4)
  clear ho4 hc4
  go_wp2_with fail
  refine (iPagesSince_any _ A1 c1 D (z - 1) _ HR4.out).mono ?_
  rintro e w5 ⟨A5, c5, rfl, ho5, hc5⟩
  have HC5 := Lib.hid (HC4.out.trans hc5)
  have hpos := HE2.out HZ2.out
  have hp' : ((pagesSince D (z - 1)).length : Int) > 0 := by omega
  clear ho5 hc5
  go_wp2
  go_ret
  exact ⟨rfl, HC5.out⟩
def PsDrawn (w : World) (e : Ending) (w' : World) : Prop :=
  ∃ A c D, ∃ k : Nat, e = .returned (.tuple #[.slice A (D : List Bk).length c, .int .i64 ((k : Int) - 1)]) ∧ DevR (fun i => w.heap.size ≤ i) w' A D ∧ D.length ≤ c ∧ D.length ≤ 13 ∧ (∀ b ∈ D, b.pages.length ≤ 4) ∧ k < 22 ∧ Chg NoB w w'
set_option maxRecDepth 100000 in
set_option maxHeartbeats 1000000 in
theorem DrawPagesSince_any (A0 : Option Addr) (c0 : Nat) (bs : List Nat) (w : World) (h : Rd (fun i => i < w.heap.size) w A0 (bs.map fun (b : Nat) => Value.int .u8 (b : Int))) (hx : ∀ b ∈ bs, b < 256) (hc : bs.length ≤ c0) :
    Calls Try.prog 49 #[.slice A0 bs.length c0] w (PsDrawn w) := by
  go_enter Try.func49, Try.ntmps49
  go_wp2_with fail
  refine (l20Open_any A0 c0 bs _ h hx hc).mono ?_
  rintro e w1 ⟨g, rfl, hg, hc1, hr1⟩
  have HG := Lib.hid hg
  have HC1 := Lib.hid hc1
  clear hg hc1 h hx hc
  go_wp2_with fail
  refine (l20Device_any g 0 9 _ hr1 (by omega) (by omega) (by omega)).mono ?_
  rintro e w2 ⟨A, c, D, hh, rfl, hrd, hlc, h13, h4, hc2, hr2⟩
  have hca := (Chg.refl NoB w2).alloc (.cells #[.int .i64 hh.hot, .int .i64 hh.warm, .int .i64 hh.cold] 38)
  have HC := Lib.hid ((HC1.out.own hc2 (by rw [HG.out]; exact Nat.le_refl _)).trans hca)
  have hs1 := hr1.lt
  have hrl := hrd.new hca
  have HS := Lib.hid HC1.out.size
  have HG1 := Lib.hid (show g < w1.heap.size from hs1)
  have hr3 := hr2.alloc (.cells #[.int .i64 hh.hot, .int .i64 hh.warm, .int .i64 hh.cold] 38)
  clear hca hc2 hrd hr1 hr2
  go_wp2_with fail
  refine (pick_any g _ 22 _ hr3 (by omega) (by omega) (by omega)).mono ?_
  rintro e w3 ⟨k, rfl, hk, hc3, hr4⟩
  have HC3 := Lib.hid (HC.out.own hc3 (by rw [HG.out]; exact Nat.le_refl _))
  have HR3 := Lib.hid (hrl.chg hc3 (fun i hi he => by have h9 : i = g := he; have := HG1.out; omega))
  have hn1 : (-9223372036854775808 : Int) ≤ (k : Int) - 1 := by omega
  have hn2 : (k : Int) - 1 ≤ 9223372036854775807 := by omega
  have H4 := Lib.hid h4
  clear hc3 hrl hr3 hr4 h4
  go_wp2
  refine bodyPost_ret (v := .tuple #[.slice A D.length c, .int .i64 ((k : Int) - 1)]) (by simp [results, Try.results49, go_sem, *]) rfl ?_
  exact ⟨A, c, D, k, rfl, HR3.out.mono (fun i _ hi => by have := HS.out; omega), hlc, h13, H4.out, by omega, HC3.out⟩
set_option maxRecDepth 100000 in
set_option maxHeartbeats 4000000 in
theorem FnPagesSince_any (A : Option Addr) (c : Nat) (bs : List Nat) (w : World) (h : Rd (fun i => i < w.heap.size) w A (bs.map fun (b : Nat) => Value.int .u8 (b : Int))) (hx : ∀ b ∈ bs, b < 256) (hc : bs.length ≤ c) (_hm : c ≤ maxLen) :
    Calls Try.prog 14 #[.slice A bs.length c] w fun e w' => e = .returned (.bool true) ∧ Chg NoB w w' := by
  by_cases hl : 1048576 < bs.length
  · go_enter Try.func14, Try.ntmps14
    go_wp2
    go_ret
    exact ⟨rfl, Chg.refl _ _⟩
  have hl' : bs.length ≤ 1048576 := by omega
  have d9 : decide ((1048576 : Int) < (bs.length : Int)) = false := decide_eq_false (by omega)
  go_enter Try.func14, Try.ntmps14
  go_wp2_with fail
  refine (DrawPagesSince_any A c bs w h hx hc).mono ?_
  rintro e w1 ⟨A1, c1, D, k0, rfl, hrd, hlc, h13, h4, hk22, hc1⟩
  have HR1 := Lib.hid hrd
  have HC1 := Lib.hid hc1
  have HSM := Lib.hid (small13 h13 h4)
  obtain ⟨s, hs⟩ : ∃ s, (k0 : Int) - 1 = s := ⟨_, rfl⟩
  rw [hs]
  clear hrd hc1 h hx hc h4 hs hk22
  go_wp2_with fail
  refine (iPagesSince_any _ A1 c1 D s _ HR1.out).mono ?_
  rintro e w2 ⟨A2, c2, rfl, ho2, hc2⟩
  obtain ⟨L, hLe⟩ : ∃ L, pagesSince D s = L := ⟨_, rfl⟩
  have HLE := Lib.hid hLe
  have HLL := Lib.hid (show L.length ≤ 48 by rw [← hLe]; exact pagesSince_len D s)
  rw [hLe] at ho2 ⊢
  have HO2 := Lib.hid ho2
  have HC2 := Lib.hid (HC1.out.trans hc2)
  have HR2 := Lib.hid (HR1.out.new hc2)
  clear hc2 ho2 hLe
  go_wp2_with fail
  refine (sPagesSince_any _ A1 c1 D s _ HR2.out HSM.out (by omega)).mono ?_
  rintro e w3 ⟨A3, c3, rfl, ho3, hc3⟩
  rw [HLE.out] at ho3 ⊢
  have HO3 := Lib.hid ho3
  have HO23 := Lib.hid (HO2.out.new hc3)
  have HC3 := Lib.hid (HC2.out.trans hc3)
  have HR3 := Lib.hid (HR2.out.new hc3)
  clear hc3 ho3
  have HSI := Lib.hid (show Calls Try.prog 50 #[.slice A2 L.length c2, .slice A3 L.length c3] w3 fun e w' => e = .returned (.bool true) ∧ Chg NoB w3 w' from by
    have h1 := HO23.out.rd
    have h2 := HO3.out.rd
    rw [rowc_icells] at h1 h2
    have := sameInts_t _ _ A2 A3 c2 c3 (L.map fun (n : Nat) => (n : Int)) w3 h1 h2 (by rw [List.length_map]; have := HLL.out; omega)
    rwa [List.length_map] at this)
  go_wp2_with fail
  refine HSI.out.mono ?_
  rintro e w4 ⟨rfl, hc4⟩
  have HC4 := Lib.hid (HC3.out.trans hc4)
  have HR4 := Lib.hid (HR3.out.new hc4)
  have HO4 := Lib.hid (HO23.out.new hc4)
  have hl48 := HLL.out
  clear hc4 HSI HO3
  go_wp2_with fail
  go_loopw [6, 7] (fun v i wr => ∃ k : Nat, k ≤ L.length ∧ i = .int .i64 k ∧ v = .int .i64 (prevStamp D s L k) ∧ Chg NoB w4 wr) (fun _ i _ => L.length - (intOf i).toNat)
  case atStart => exact ⟨0, Nat.zero_le _, rfl, rfl, Chg.refl _ _⟩
  case round =>
    obtain ⟨k, hk, rfl, rfl, hch⟩ := hrel
    have HCW := Lib.hid hch
    have HCH := Lib.hid (HC4.out.trans hch)
    have HRR := Lib.hid (HR4.out.new hch)
    have ho := HO4.out.new hch
    clear hch
    by_cases hlt : k < L.length
    case neg =>
      have hlt' : ¬ ((k : Int) < (L.length : Int)) := by omega
      by_cases hd : DvOk D
      · have HD := Lib.hid hd
        have HAP := Lib.hid (all_pages hd)
        have hfr : 0 ≤ freePages D ∧ freePages D ≤ 48 := by
          rw [show freePages D = (freeTo D D.length : Int) from if_pos hd]
          have := freeTo_le (D := D) D.length
          have := hd.1.2
          omega
        have h12 := hd.1.2
        clear hd ho
        go_wp2_with fail
        refine (iDeviceValid_t _ A1 c1 D _ HRR.out HD.out).mono ?_
        rintro e w5 ⟨rfl, hc5⟩
        have HC5 := Lib.hid (HCH.out.trans hc5)
        have HR5 := Lib.hid (HRR.out.new hc5)
        clear hc5
        go_wp2_with fail
        refine (iPagesSince_any _ A1 c1 D (-1) _ HR5.out).mono ?_
        rintro e w6 ⟨A6, c6, rfl, ho6, hc6⟩
        have HC6 := Lib.hid (HC5.out.trans hc6)
        have HR6 := Lib.hid (HR5.out.new hc6)
        clear hc6 ho6
        go_wp2_with fail
        refine (iFreePages_any _ A1 c1 D _ HR6.out).mono ?_
        rintro e w7 ⟨rfl, hc7⟩
        have HC7 := Lib.hid (HC6.out.trans hc7)
        have heq : (((pagesSince D (-1)).length : Int) == 4 * (D.length : Int) - freePages D) = true := by rw [beq_iff_eq]; exact HAP.out
        obtain ⟨fz, hfz⟩ : ∃ z, freePages D = z := ⟨_, rfl⟩
        rw [hfz] at hfr heq ⊢
        clear hc7 hfz
        go_wp2_with fail
        refine (alive_any _).mono ?_
        rintro e w' ⟨rfl, rfl⟩
        go_wp2
        go_ret
        exact ⟨rfl, HC7.out⟩
      · have HD := Lib.hid hd
        clear hd ho
        go_wp2_with fail
        refine (iDeviceValid_f _ A1 c1 D _ HRR.out HD.out).mono ?_
        rintro e w5 ⟨rfl, hc5⟩
        have HC5 := Lib.hid (HCH.out.trans hc5)
        clear hc5
        go_wp2_with fail
        refine (alive_any _).mono ?_
        rintro e w' ⟨rfl, rfl⟩
        go_wp2
        go_ret
        exact ⟨rfl, HC5.out⟩
    rcases ho.2 with ⟨h0, _⟩ | ⟨g, rest, rfl, hg, hgE, hbl⟩
    · omega
    have hkc : k ≤ c2 := by have := ho.1; omega
    have hm := getD_mem hlt
    obtain ⟨x, hx⟩ : ∃ x, L.getD k 0 = x := ⟨_, rfl⟩
    rw [hx] at hm
    obtain ⟨hdv, hx4, hxf, hxs⟩ := ps_good (D := D) (s := s) (x := x) (by rw [HLE.out]; exact hm)
    have cx := RowB.get hbl hlt
    rw [hx] at cx
    have HX := Lib.hid hx
    have HDV := Lib.hid hdv
    have HRP := Lib.hid (readPage_yes hdv hx4)
    have HPS := Lib.hid (show prevStamp D s L k ≤ stampOf D x by
      unfold prevStamp
      split
      · omega
      · have := ps_sorted (D := D) (s := s) (i := k - 1) (j := k) (by omega) (by rw [HLE.out]; exact hlt)
        rw [HLE.out, hx] at this
        exact this)
    have HNX := Lib.hid (show prevStamp D s L (k + 1) = stampOf D x by unfold prevStamp; rw [if_neg (by omega), Nat.add_sub_cancel, hx])
    have HNI := Lib.hid (show (x : Int) ∉ (L.take k).map (fun (n : Nat) => (n : Int)) from fun hmem => by
      obtain ⟨y, hy, hyx⟩ := List.mem_map.1 hmem
      obtain ⟨j, hj, hjl, rfl⟩ := mem_take hy
      have hnd := ps_nodup (D := D) (s := s)
      rw [HLE.out, List.nodup_iff_pairwise_ne, List.pairwise_iff_getElem] at hnd
      have := hnd j k hjl hlt hj
      rw [List.getD_eq_getElem?_getD, List.getElem?_eq_getElem hjl] at hyx
      rw [List.getD_eq_getElem?_getD, List.getElem?_eq_getElem hlt] at hx
      simp only [Option.getD_some] at hyx hx
      exact this (by omega))
    have HTK := Lib.hid (RowB.rdTake hbl k)
    have HHI := Lib.hid (show ∀ wq, Chg NoB wr wq → Calls Try.prog 52 #[.slice (some ⟨g, 0, none⟩) k c2, .int .i64 (x : Int)] wq fun e w' => e = .returned (.bool false) ∧ Chg NoB wq w' from fun wq hq => by
      have h1 := HTK.out.new hq
      rw [rowc_icells] at h1
      have h2 := hasInt_any _ (some ⟨g, 0, none⟩) c2 ((L.take k).map (fun (n : Nat) => (n : Int))) (x : Int) wq h1 (by simp; omega)
      rw [List.length_map, List.length_take, Nat.min_eq_left (by omega)] at h2
      refine h2.mono ?_
      rintro e w' ⟨b, rfl, hb, rfl⟩
      cases b
      · exact ⟨rfl, Chg.refl _ _⟩
      · exact absurd (hb.1 rfl) HNI.out)
    obtain ⟨z, hz⟩ : ∃ z, prevStamp D s L k = z := ⟨_, rfl⟩
    rw [hz] at HPS ⊢
    have HFX := Lib.hid hxf
    have HXS := Lib.hid hxs
    have hi0 : (0 : Int) ≤ (k : Int) := Int.natCast_nonneg _
    have hi1 : (k : Int) < (L.length : Int) := by omega
    have HBL := Lib.hid hbl
    clear ho hbl hg hgE hm hx hdv hx4 hxf hxs hz
    go_wp2_with fail
    refine (iReadPage_any _ A1 c1 D (x : Int) _ HRR.out).mono ?_
    rw [HRP.out]
    rintro e w5 ⟨rfl, hc5⟩
    have HC5 := Lib.hid (HCH.out.trans hc5)
    have hca := (Chg.refl NoB w5).alloc (.cells #[.bool true, .int .i64 (pgAt D x).file, .int .i64 (pgAt D x).place, .int .i64 (pgAt D x).value, .int .i64 (pgAt D x).stamp] 60)
    have hbx := Blk.new w5 60 #[.bool true, .int .i64 (pgAt D x).file, .int .i64 (pgAt D x).place, .int .i64 (pgAt D x).value, .int .i64 (pgAt D x).stamp]
    have cx5 := (hc5.trans hca).cell cx (fun x => x)
    have HCQ := Lib.hid (hc5.trans hca)
    have HC6 := Lib.hid (HC5.out.trans hca)
    have hfx := HFX.out
    clear hc5 hca cx
    go_wp2_with fail
    obtain ⟨w6, hw6⟩ : ∃ w6, w5.alloc (.cells #[.bool true, .int .i64 (pgAt D x).file, .int .i64 (pgAt D x).place, .int .i64 (pgAt D x).value, .int .i64 (pgAt D x).stamp] 60) = w6 := ⟨_, rfl⟩
    obtain ⟨P0, hP0⟩ : ∃ P0, w5.heap.size = P0 := ⟨_, rfl⟩
    rw [hw6, hP0] at hbx
    rw [hw6] at cx5 HCQ HC6
    rw [hw6, hP0]
    have x4 := hbx.cell 4
    replace x4 := x4.trans (show _ = some (Value.int .i64 (stampOf D x)) from rfl)
    have g1 : ¬ (stampOf D x ≤ s) := by have := HXS.out; omega
    have g2 : ¬ (stampOf D x < z) := by have := HPS.out; omega
    have HXX := Lib.hid x4
    clear hw6 hP0 hbx hfx
    refine wp_region_ro (gl := [(2, some false), (8, some false), (14, some false)]) (WInv := fun _ _ w5 => Chg NoB w6 w5) (R := Chg NoB) (Post := PV [some (.bool true), some (.bool false), some (.bool false), some (.pointer (some ⟨P0, 4, none⟩)), some (.int .i64 (stampOf D x)), some (.int .i64 s), some (.bool false), some (.bool false), some (.bool false), some (.pointer (some ⟨P0, 4, none⟩)), some (.int .i64 (stampOf D x)), some (.int .i64 z), some (.bool false), some (.bool false), some (.bool false), some (.slice (some ⟨g, 0, none⟩) L.length c2), some (.int .i64 (k : Int)), some (.slice (some ⟨g, 0, none⟩) k c2), some (.slice (some ⟨g, 0, none⟩) L.length c2), some (.int .i64 (k : Int)), some (.pointer (some ⟨g, k, none⟩)), some (.int .i64 (x : Int)), some (.bool false), some (.bool false)]) (by kernel_rfl) (by kernel_rfl) (pv_guard (by intro p hp; simp only [List.mem_cons, List.not_mem_nil, or_false] at hp; rcases hp with rfl | rfl | rfl <;> rfl)) (fun _ _ _ _ h _ _ => h) (fun _ _ _ _ h _ => h) (Chg.refl _ _).drew ⟨?_, ?_, ?_, ?_, ?_, ?_, ?_, ?_, ?_, ?_, ?_, ?_, ?_, ?_, ?_, ?_, ?_, ?_, ?_, ?_, ?_, ?_, ?_, ?_, trivial⟩ ?_
    · rintro kc m a w5 hkc hch hm hn
      obtain ⟨e1, -⟩ := hn
      replace e1 : a.tmps[9]?.getD undef = .bool true := e1
      exact rg_val (v := .bool true) (by simp [execOp, go_sem, e1]) rfl hch (Chg.refl _ _) rfl
    · rintro kc m a w5 hkc hch hm hn
      obtain ⟨⟨_, e1, _, rfl⟩, -⟩ := hn
      exact rg_val (v := .bool false) (by simp [execOp, go_sem, e1]) rfl hch (Chg.refl _ _) rfl
    · rintro kc m a w5 hkc hch hm hn
      obtain ⟨⟨_, e1, _, rfl⟩, -⟩ := hn
      exact rg_val (v := .bool false) (by simp [execOp, go_sem, e1]) rfl hch (Chg.refl _ _) rfl
    · rintro kc m a w5 hkc hch hm hn
      obtain ⟨e1, -⟩ := hn
      replace e1 : a.tmps[8]?.getD undef = .pointer (some ⟨P0, 0, none⟩) := e1
      exact rg_val (v := .pointer (some ⟨P0, 4, none⟩)) (by simp [execOp, go_sem, e1]) rfl hch (Chg.refl _ _) rfl
    · rintro kc m a w5 hkc hch hm hn
      obtain ⟨⟨_, e1, _, rfl⟩, -⟩ := hn
      have c0 := Chg.cell hch x4 (fun x => x)
      exact rg_val (v := .int .i64 (stampOf D x)) (by simp [execOp, go_sem, e1, c0]) rfl hch (Chg.refl _ _) rfl
    · rintro kc m a w5 hkc hch hm hn
      obtain ⟨e1, -⟩ := hn
      replace e1 : a.tmps[4]?.getD undef = .int .i64 s := e1
      exact rg_val (v := .int .i64 s) (by simp [execOp, go_sem, e1]) rfl hch (Chg.refl _ _) rfl
    · rintro kc m a w5 hkc hch hm hn
      obtain ⟨⟨_, e1, _, rfl⟩, ⟨_, e2, _, rfl⟩, -⟩ := hn
      exact rg_val (v := .bool false) (by simp [execOp, go_sem, e1, e2, g1]) rfl hch (Chg.refl _ _) rfl
    · rintro kc m a w5 hkc hch hm hn
      obtain ⟨⟨_, e1, _, rfl⟩, ⟨_, e2, _, rfl⟩, -⟩ := hn
      exact rg_val (v := .bool false) (by simp [execOp, go_sem, e1, e2]) rfl hch (Chg.refl _ _) rfl
    · rintro kc m a w5 hkc hch hm hn
      obtain ⟨⟨_, e1, _, rfl⟩, -⟩ := hn
      exact rg_val (v := .bool false) (by simp [execOp, go_sem, e1]) rfl hch (Chg.refl _ _) rfl
    · rintro kc m a w5 hkc hch hm hn
      obtain ⟨e1, -⟩ := hn
      replace e1 : a.tmps[8]?.getD undef = .pointer (some ⟨P0, 0, none⟩) := e1
      exact rg_val (v := .pointer (some ⟨P0, 4, none⟩)) (by simp [execOp, go_sem, e1]) rfl hch (Chg.refl _ _) rfl
    · rintro kc m a w5 hkc hch hm hn
      obtain ⟨⟨_, e1, _, rfl⟩, -⟩ := hn
      have c0 := Chg.cell hch x4 (fun x => x)
      exact rg_val (v := .int .i64 (stampOf D x)) (by simp [execOp, go_sem, e1, c0]) rfl hch (Chg.refl _ _) rfl
    · rintro kc m a w5 hkc hch hm hn
      obtain ⟨e1, -⟩ := hn
      replace e1 : a.tmps[6]?.getD undef = .int .i64 z := e1
      exact rg_val (v := .int .i64 z) (by simp [execOp, go_sem, e1]) rfl hch (Chg.refl _ _) rfl
    · rintro kc m a w5 hkc hch hm hn
      obtain ⟨⟨_, e1, _, rfl⟩, ⟨_, e2, _, rfl⟩, -⟩ := hn
      exact rg_val (v := .bool false) (by simp [execOp, go_sem, e1, e2, g2]) rfl hch (Chg.refl _ _) rfl
    · rintro kc m a w5 hkc hch hm hn
      obtain ⟨⟨_, e1, _, rfl⟩, ⟨_, e2, _, rfl⟩, -⟩ := hn
      exact rg_val (v := .bool false) (by simp [execOp, go_sem, e1, e2]) rfl hch (Chg.refl _ _) rfl
    · rintro kc m a w5 hkc hch hm hn
      obtain ⟨⟨_, e1, _, rfl⟩, -⟩ := hn
      exact rg_val (v := .bool false) (by simp [execOp, go_sem, e1]) rfl hch (Chg.refl _ _) rfl
    · rintro kc m a w5 hkc hch hm hn
      obtain ⟨e1, -⟩ := hn
      replace e1 : a.tmps[5]?.getD undef = .slice (some ⟨g, 0, none⟩) L.length c2 := e1
      exact rg_val (v := .slice (some ⟨g, 0, none⟩) L.length c2) (by simp [execOp, go_sem, e1]) rfl hch (Chg.refl _ _) rfl
    · rintro kc m a w5 hkc hch hm hn
      obtain ⟨e1, -⟩ := hn
      replace e1 : a.tmps[7]?.getD undef = .int .i64 (k : Int) := e1
      exact rg_val (v := .int .i64 (k : Int)) (by simp [execOp, go_sem, e1]) rfl hch (Chg.refl _ _) rfl
    · rintro kc m a w5 hkc hch hm hn
      obtain ⟨⟨_, e1, _, rfl⟩, ⟨_, e2, _, rfl⟩, -⟩ := hn
      exact rg_val (v := .slice (some ⟨g, 0, none⟩) k c2) (by simp [execOp, go_sem, e1, e2]; intro hh; omega) rfl hch (Chg.refl _ _) rfl
    · rintro kc m a w5 hkc hch hm hn
      obtain ⟨e1, -⟩ := hn
      replace e1 : a.tmps[5]?.getD undef = .slice (some ⟨g, 0, none⟩) L.length c2 := e1
      exact rg_val (v := .slice (some ⟨g, 0, none⟩) L.length c2) (by simp [execOp, go_sem, e1]) rfl hch (Chg.refl _ _) rfl
    · rintro kc m a w5 hkc hch hm hn
      obtain ⟨e1, -⟩ := hn
      replace e1 : a.tmps[7]?.getD undef = .int .i64 (k : Int) := e1
      exact rg_val (v := .int .i64 (k : Int)) (by simp [execOp, go_sem, e1]) rfl hch (Chg.refl _ _) rfl
    · rintro kc m a w5 hkc hch hm hn
      obtain ⟨⟨_, e1, _, rfl⟩, ⟨_, e2, _, rfl⟩, -⟩ := hn
      exact rg_val (v := .pointer (some ⟨g, k, none⟩)) (by simp [execOp, go_sem, e1, e2]; exact fun hh => absurd hh (by omega)) rfl hch (Chg.refl _ _) rfl
    · rintro kc m a w5 hkc hch hm hn
      obtain ⟨⟨_, e1, _, rfl⟩, -⟩ := hn
      have c0 := Chg.cell hch cx5 (fun x => x)
      exact rg_val (v := .int .i64 (x : Int)) (by simp [execOp, go_sem, e1, c0]) rfl hch (Chg.refl _ _) rfl
    · rintro kc m a w5 hkc hch hm hn
      obtain ⟨⟨_, e1, _, rfl⟩, ⟨_, e2, _, rfl⟩, -⟩ := hn
      refine rg_call (f := 52) (args := #[.slice (some ⟨g, 0, none⟩) k c2, .int .i64 (x : Int)]) (by simp [go_sem, e1, e2]) rfl ?_
      refine (HHI.out _ (HCQ.out.trans hch)).mono ?_
      rintro e w6 ⟨rfl, hc6⟩
      exact ⟨_, rfl, hch.trans hc6, hc6, rfl⟩
    · rintro kc m a w5 hkc hch hm hn
      obtain ⟨⟨_, e1, _, rfl⟩, ⟨_, e2, _, rfl⟩, -⟩ := hn
      exact rg_val (v := .bool false) (by simp [execOp, go_sem, e1, e2]) rfl hch (Chg.refl _ _) rfl
    rintro m w2x hc2
    simp only [AllVals]
    rintro v0 _ p0 v1 _ p1 v2 _ p2 v3 _ p3 v4 _ p4 v5 _ p5 v6 _ p6 v7 _ p7 v8 _ p8 v9 _ p9 v10 _ p10 v11 _ p11 v12 _ p12 v13 _ p13 v14 _ p14 v15 _ p15 v16 _ p16 v17 _ p17 v18 _ p18 v19 _ p19 v20 _ p20 v21 _ p21 v22 _ p22 v23 _ p23
    obtain rfl := p23
    clear p0 p1 p2 p3 p4 p5 p6 p7 p8 p9 p10 p11 p12 p13 p14 p15 p16 p17 p18 p19 p20 p21 p22
    simp only [Act.put, List.setIfInBounds_toArray, List.set_cons_succ, List.set_cons_zero]
    have HC2x := Lib.hid hc2
    clear hc2
    have x4' := HC2x.out.cell HXX.out (fun x => x)
    have HC7 := Lib.hid (HC6.out.trans HC2x.out)
    clear x4 cx5 g1 g2
    go_wp2
    go_roundw
    case rel => exact ⟨k + 1, by omega, by go_num, by rw [HNX.out], (HCW.out.trans HCQ.out).trans HC2x.out⟩
    case measure => simp [intOf]; omega
end Go.Proofs.Ytenbbkmbnpdfaaa
