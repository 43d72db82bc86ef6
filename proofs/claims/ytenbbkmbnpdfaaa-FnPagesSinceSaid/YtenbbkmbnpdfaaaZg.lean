/- PagesSince of the program. -/
import Derived.Test.YtenbbkmbnpdfaaaZf
import Derived.Test.YtenbbkmbnpdfaaaI
namespace Go.Proofs.Ytenbbkmbnpdfaaa
open Go.RowKit
def stampOf (D : List Bk) (k : Nat) : Int := (pgAt D k).stamp
def sinceGood (D : List Bk) (s : Int) (k : Nat) : Bool := (pgAt D k).full && decide (s < (pgAt D k).stamp)
def since (D : List Bk) (s : Int) (n : Nat) : List Nat := (List.range n).filter (sinceGood D s)
def pagesSince (D : List Bk) (s : Int) : List Nat := if DvOk D then srt (stampOf D) (since D s (4 * D.length)) else []
theorem since_yes {D : List Bk} {s : Int} {k : Nat} (h : sinceGood D s k = true) : since D s (k + 1) = since D s k ++ [k] := by
  unfold since; rw [List.range_succ, List.filter_append]; simp [h]
theorem since_no {D : List Bk} {s : Int} {k : Nat} (h : sinceGood D s k = false) : since D s (k + 1) = since D s k := by
  unfold since; rw [List.range_succ, List.filter_append]; simp [h]
theorem since_len (D : List Bk) (s : Int) (n : Nat) : (since D s n).length ≤ n := by
  have := List.length_filter_le (sinceGood D s) (List.range n)
  rw [List.length_range] at this
  exact this
theorem since_lt {D : List Bk} {s : Int} {n x : Nat} (h : x ∈ since D s n) : x < n := by
  unfold since at h; rw [List.mem_filter, List.mem_range] at h; exact h.1
theorem since_good {D : List Bk} {s : Int} {n x : Nat} (h : x ∈ since D s n) : sinceGood D s x = true := by
  unfold since at h; rw [List.mem_filter] at h; exact h.2
theorem since_pair (D : List Bk) (s : Int) (n : Nat) : (since D s n).Pairwise (· < ·) := List.pairwise_lt_range.filter _
theorem rowc_icells (L : List Nat) : rowc L = icells (L.map fun (n : Nat) => (n : Int)) := by simp [rowc, icells]
theorem rowc_one (L : List Nat) : ∀ u ∈ rowc L, u.oneCell' = true := fun u hu => by
  unfold rowc at hu; rw [List.mem_map] at hu; obtain ⟨n, _, rfl⟩ := hu; rfl
theorem pagesSince_len (D : List Bk) (s : Int) : (pagesSince D s).length ≤ 48 := by
  unfold pagesSince
  split
  · rename_i h
    rw [srt_length]
    have := since_len D s (4 * D.length)
    have := h.1.2
    omega
  · simp
def PsP (w : World) (D : List Bk) (s : Int) (e : Ending) (w' : World) : Prop :=
  ∃ A c, e = .returned (.slice A (pagesSince D s).length c) ∧ OwnS w.heap.size w'.heap.size w' 3 A (pagesSince D s).length c (rowc (pagesSince D s)) ∧ Chg NoB w w'
theorem srt_nil (K : Nat → Int) : srt K [] = [] := List.eq_nil_of_length_eq_zero (by rw [srt_length]; rfl)
theorem run_stamp (p : Pg) (w : World) : Sem.run Try.prog (Instr.field 60 (pval p) 4) w = .ok (.int .i64 p.stamp) w := by kernel_rfl
set_option maxRecDepth 100000 in
set_option maxHeartbeats 1000000 in
theorem cmpInt_any (x y : Int) (w : World) : Calls Try.prog 80 #[.int .i64 x, .int .i64 y] w fun e w' => e = .returned (.int .i64 (cmp3 x y)) ∧ Chg NoB w w' := by
  have hn : ∀ z wq, Calls Try.prog 94 #[.int .i64 z] wq fun e w' => e = .returned (.bool false) ∧ wq = w' := fun z wq => by
    have hz : (z != z) = false := by simp
    go_enter Try.func94, Try.ntmps94
    go_wp2
    go_ret
    exact ⟨rfl, rfl⟩
  have HN := Lib.hid hn
  clear hn
  by_cases h1 : x < y
  · have e : cmp3 x y = -1 := if_pos h1
    have HE := Lib.hid e
    clear e
    go_enter Try.func80, Try.ntmps80
    go_wp2_with fail
    refine (HN.out _ _).mono ?_
    rintro e w1 ⟨rfl, rfl⟩
    go_wp2_with fail
    refine (HN.out _ _).mono ?_
    rintro e w1 ⟨rfl, rfl⟩
    go_wp2
    go_ret
    exact ⟨ret_int HE.out.symm, Chg.refl _ _⟩
  by_cases h2 : y < x
  · have e : cmp3 x y = 1 := by unfold cmp3; rw [if_neg h1, if_pos h2]
    have HE := Lib.hid e
    have h2' : x > y := h2
    clear e
    go_enter Try.func80, Try.ntmps80
    go_wp2_with fail
    refine (HN.out _ _).mono ?_
    rintro e w1 ⟨rfl, rfl⟩
    go_wp2_with fail
    refine (HN.out _ _).mono ?_
    rintro e w1 ⟨rfl, rfl⟩
    go_wp2
    go_ret
    exact ⟨ret_int HE.out.symm, Chg.refl _ _⟩
  · have e : cmp3 x y = 0 := by unfold cmp3; rw [if_neg h1, if_neg h2]
    have HE := Lib.hid e
    have h2' : ¬ x > y := h2
    clear e
    go_enter Try.func80, Try.ntmps80
    go_wp2_with fail
    refine (HN.out _ _).mono ?_
    rintro e w1 ⟨rfl, rfl⟩
    go_wp2_with fail
    refine (HN.out _ _).mono ?_
    rintro e w1 ⟨rfl, rfl⟩
    go_wp2
    go_ret
    exact ⟨ret_int HE.out.symm, Chg.refl _ _⟩
set_option maxRecDepth 100000 in
set_option maxHeartbeats 1000000 in
theorem closure_any (F : Nat → Prop) (A : Option Addr) (c : Nat) (D : List Bk) (B x y : Nat) (w : World) (hr : DevR F w A D) (hd : DvOk D) (cd : w.cell? ⟨B, 0, none⟩ = some (.slice A D.length c)) (hx : x < 4 * D.length) (hy : y < 4 * D.length) :
    Calls Try.prog 79 #[.int .i64 x, .int .i64 y, .pointer (some ⟨B, 0, none⟩)] w fun e w' => e = .returned (.int .i64 (cmp3 (stampOf D x) (stampOf D y))) ∧ Chg NoB w w' := by
  have HP := Lib.hid (show ∀ wq, Chg NoB w wq → ∀ z, z < 4 * D.length → Calls Try.prog 77 #[.slice A D.length c, .int .i64 (z : Nat)] wq fun e w' => e = .returned (pval (pgAt D z)) ∧ Chg NoB wq w' from fun wq hq z hz => pageAt_any F A c D z wq (hr.new hq) hd hz)
  have HX := Lib.hid hx
  have HY := Lib.hid hy
  clear hr hd hx hy
  go_enter Try.func79, Try.ntmps79
  go_wp2_with fail
  refine wp_region_ro (gl := []) (WInv := fun _ _ w5 => Chg NoB w w5) (R := Chg NoB) (Post := PV [some (.slice A D.length c), some (.int .i64 (x : Int)), some (pval (pgAt D x)), some (.int .i64 (stampOf D x)), some (.slice A D.length c), some (.int .i64 (y : Int)), some (pval (pgAt D y)), some (.int .i64 (stampOf D y)), some (.int .i64 (cmp3 (stampOf D x) (stampOf D y))), some (.int .i64 (cmp3 (stampOf D x) (stampOf D y)))]) (by kernel_rfl) (by kernel_rfl) (pv_guard (by intro p hp; cases hp)) (fun _ _ _ _ h _ _ => h) (fun _ _ _ _ h _ => h) (Chg.refl _ _).drew ⟨?_, ?_, ?_, ?_, ?_, ?_, ?_, ?_, ?_, ?_, trivial⟩ ?_
  · rintro kc m a w5 hkc hch hm hn
    obtain ⟨e1, -⟩ := hn
    replace e1 : a.tmps[2]?.getD undef = .pointer (some ⟨B, 0, none⟩) := e1
    have c0 := Chg.cell hch cd (fun x => x)
    exact rg_val (v := .slice A D.length c) (by simp [execOp, go_sem, e1, c0]) rfl hch (Chg.refl _ _) rfl
  · rintro kc m a w5 hkc hch hm hn
    obtain ⟨e1, -⟩ := hn
    replace e1 : a.tmps[0]?.getD undef = .int .i64 (x : Int) := e1
    exact rg_val (v := .int .i64 (x : Int)) (by simp [execOp, go_sem, e1]) rfl hch (Chg.refl _ _) rfl
  · rintro kc m a w5 hkc hch hm hn
    obtain ⟨⟨_, e1, _, rfl⟩, ⟨_, e2, _, rfl⟩, -⟩ := hn
    refine rg_call (f := 77) (args := #[.slice A D.length c, .int .i64 (x : Int)]) (by simp [go_sem, e1, e2]) rfl ?_
    refine (HP.out _ hch x HX.out).mono ?_
    rintro e w6 ⟨rfl, hc6⟩
    exact ⟨_, rfl, hch.trans hc6, hc6, rfl⟩
  · rintro kc m a w5 hkc hch hm hn
    obtain ⟨⟨_, e1, _, rfl⟩, -⟩ := hn
    exact rg_val (v := .int .i64 (stampOf D x)) (by simp [execOp, go_sem, e1, run_stamp, stampOf]) rfl hch (Chg.refl _ _) rfl
  · rintro kc m a w5 hkc hch hm hn
    obtain ⟨e1, -⟩ := hn
    replace e1 : a.tmps[2]?.getD undef = .pointer (some ⟨B, 0, none⟩) := e1
    have c0 := Chg.cell hch cd (fun x => x)
    exact rg_val (v := .slice A D.length c) (by simp [execOp, go_sem, e1, c0]) rfl hch (Chg.refl _ _) rfl
  · rintro kc m a w5 hkc hch hm hn
    obtain ⟨e1, -⟩ := hn
    replace e1 : a.tmps[1]?.getD undef = .int .i64 (y : Int) := e1
    exact rg_val (v := .int .i64 (y : Int)) (by simp [execOp, go_sem, e1]) rfl hch (Chg.refl _ _) rfl
  · rintro kc m a w5 hkc hch hm hn
    obtain ⟨⟨_, e1, _, rfl⟩, ⟨_, e2, _, rfl⟩, -⟩ := hn
    refine rg_call (f := 77) (args := #[.slice A D.length c, .int .i64 (y : Int)]) (by simp [go_sem, e1, e2]) rfl ?_
    refine (HP.out _ hch y HY.out).mono ?_
    rintro e w6 ⟨rfl, hc6⟩
    exact ⟨_, rfl, hch.trans hc6, hc6, rfl⟩
  · rintro kc m a w5 hkc hch hm hn
    obtain ⟨⟨_, e1, _, rfl⟩, -⟩ := hn
    exact rg_val (v := .int .i64 (stampOf D y)) (by simp [execOp, go_sem, e1, run_stamp, stampOf]) rfl hch (Chg.refl _ _) rfl
  · rintro kc m a w5 hkc hch hm hn
    obtain ⟨⟨_, e1, _, rfl⟩, ⟨_, e2, _, rfl⟩, -⟩ := hn
    refine rg_call (f := 80) (args := #[.int .i64 (stampOf D x), .int .i64 (stampOf D y)]) (by simp [go_sem, e1, e2]) rfl ?_
    refine (cmpInt_any _ _ _).mono ?_
    rintro e w6 ⟨rfl, hc6⟩
    exact ⟨_, rfl, hch.trans hc6, hc6, rfl⟩
  · rintro kc m a w5 hkc hch hm hn
    obtain ⟨⟨_, e1, _, rfl⟩, -⟩ := hn
    exact rg_val (v := .int .i64 (cmp3 (stampOf D x) (stampOf D y))) (by simp [execOp, go_sem, e1]) rfl hch (Chg.refl _ _) rfl
  rintro m w2 hc2
  simp only [AllVals]
  rintro v0 _ p0 v1 _ p1 v2 _ p2 v3 _ p3 v4 _ p4 v5 _ p5 v6 _ p6 v7 _ p7 v8 _ p8 v9 _ p9
  obtain rfl := p9
  clear p0 p1 p2 p3 p4 p5 p6 p7 p8
  simp only [Act.put, List.setIfInBounds_toArray, List.set_cons_succ, List.set_cons_zero]
  have HC2 := Lib.hid hc2
  clear hc2
  go_wp2
  go_ret
  exact ⟨rfl, HC2.out⟩
theorem cmpP_dev {A : Option Addr} {c : Nat} {D : List Bk} {B g E : Nat} {w : World} (hr : DevR (fun i => i < E) w A D) (hd : DvOk D) (cd : w.cell? ⟨B, 0, none⟩ = some (.slice A D.length c)) (hB : B ≠ g) (hE : E ≤ g) :
    CmpP w g (.pointer (some ⟨B, 0, none⟩)) (stampOf D) (4 * D.length) := fun W hW x y hx hy =>
  closure_any _ A c D B x y W (hr.chg hW (fun i h1 h2 => by have : i = g := h2; omega)) hd (hW.cell cd hB) hx hy
set_option maxRecDepth 100000 in
set_option maxHeartbeats 4000000 in
theorem SortStable_nil (A : Option Addr) (c : Nat) (fv : Value) (w : World) :
    Calls Try.prog 78 #[.slice A 0 c, fv] w fun e w' => e = .returned (.tuple #[]) ∧ Chg NoB w w' := by
  have hi : ∀ wq, Calls Try.prog 105 #[.slice A 0 c, .int .i64 0, .int .i64 0, fv] wq fun e w' => e = .returned (.tuple #[]) ∧ wq = w' := fun wq => by
    go_enter Try.func105, Try.ntmps105
    go_wp2_with fail
    refine wp_loop_rounds 1 ?_
    refine one_round ?_
    go_wp2
    go_end0
    exact ⟨rfl, rfl⟩
  have hs : ∀ wq, Calls Try.prog 93 #[.slice A 0 c, .int .i64 0, fv] wq fun e w' => e = .returned (.tuple #[]) ∧ wq = w' := fun wq => by
    have HI := Lib.hid hi
    clear hi
    go_enter Try.func93, Try.ntmps93
    go_wp2_with fail
    refine wp_loop_rounds 1 ?_
    refine one_round ?_
    go_wp2_with fail
    refine (HI.out _).mono ?_
    rintro e w1 ⟨rfl, rfl⟩
    go_wp2_with fail
    refine wp_loop_rounds 1 ?_
    refine one_round ?_
    go_wp2
    go_end0
    exact ⟨rfl, rfl⟩
  have HS := Lib.hid hs
  clear hi hs
  go_enter Try.func78, Try.ntmps78
  go_wp2_with fail
  refine (HS.out _).mono ?_
  rintro e w1 ⟨rfl, rfl⟩
  go_wp2
  go_end0
  exact ⟨rfl, Chg.refl _ _⟩
set_option maxRecDepth 100000 in
set_option maxHeartbeats 4000000 in
theorem iPagesSince_any (F : Nat → Prop) (A : Option Addr) (c : Nat) (D : List Bk) (s : Int) (w : World) (h : DevR F w A D) :
    Calls Try.prog 43 #[.slice A D.length c, .int .i64 s] w (PsP w D s) := by
  obtain ⟨i0, hi, hz0, hz1, hz2⟩ := info_parts info_int
  have hca := (Chg.refl NoB w).alloc (.cells #[.slice A D.length c] 24)
  have HCA := Lib.hid hca
  have HB := Lib.hid (Blk.new w 24 #[.slice A D.length c])
  have HR := Lib.hid (show DevR (fun i => i < w.heap.size) _ A D from (h.lt.mono (G := fun i => i < w.heap.size) fun i _ hi => hi.2).new hca)
  have hSZ : (w.alloc (.cells #[.slice A D.length c] 24)).heap.size = w.heap.size + 1 := by simp [World.size_alloc]
  have HSZ := Lib.hid hSZ
  clear h hca hSZ
  by_cases hd : DvOk D
  case neg =>
    have HD := Lib.hid hd
    clear hd
    go_enter Try.func43, Try.ntmps43
    go_wp2_with fail
    refine (iDeviceValid_f _ A c D _ HR.out HD.out).mono ?_
    rintro e w1 ⟨rfl, hc1⟩
    have HC := Lib.hid (HCA.out.trans hc1)
    clear hc1
    go_wp2
    go_ret
    unfold PsP
    rw [show pagesSince D s = [] from if_neg HD.out]
    exact ⟨none, 0, rfl, OwnS.empty _ _ _ _ _ _, HC.out⟩
  have HD := Lib.hid hd
  have h1 := hd.1.1
  have h2 := hd.1.2
  clear hd
  go_enter Try.func43, Try.ntmps43
  go_wp2_with fail
  refine (iDeviceValid_t _ A c D _ HR.out HD.out).mono ?_
  rintro e w1 ⟨rfl, hc1⟩
  have HC := Lib.hid (HCA.out.trans hc1)
  have hbx := HB.out.chg hc1 (fun x => x)
  have HB1 := Lib.hid hbx
  have HR1 := Lib.hid (HR.out.new hc1)
  have x0 : w1.cell? ⟨w.heap.size, 0, none⟩ = some (.slice A D.length c) := (hbx.cell _).trans rfl
  have HS1 := Lib.hid (show w.heap.size + 1 ≤ w1.heap.size by have := hc1.size; have := HSZ.out; omega)
  clear hc1 hbx
  go_wp2_with fail
  go_loopw [5, 14] (fun v i wr => ∃ k : Nat, k ≤ 4 * D.length ∧ i = .int .i64 k ∧ Chg NoB w1 wr ∧ wr.ownsRow w1.heap.size 3 1 v (since D s k).length (rowc (since D s k))) (fun _ i _ => 4 * D.length - (intOf i).toNat)
  case atStart => exact ⟨0, Nat.zero_le _, rfl, Chg.refl _ _, World.ownsRow_nil _ _ _ _⟩
  case round =>
    obtain ⟨k, hk, rfl, hch, how⟩ := hrel
    have x1 := hch.cell x0 (fun x => x)
    have HCH := Lib.hid hch
    have HO := Lib.hid how
    by_cases hlt : k < 4 * D.length
    case neg =>
      have hlt' : ¬ ((k : Int) < 4 * (D.length : Int)) := by omega
      obtain rfl : k = 4 * D.length := by omega
      have HPS := Lib.hid (show pagesSince D s = srt (stampOf D) (since D s (4 * D.length)) from if_pos HD.out)
      have HL := Lib.hid (show (since D s (4 * D.length)).length ≤ 48 by have := since_len D s (4 * D.length); omega)
      obtain ⟨A', c', hv, ho⟩ := OwnS.of_row how
      subst hv
      clear how hch HO
      obtain ⟨L, hLe⟩ : ∃ L, since D s (4 * D.length) = L := ⟨_, rfl⟩
      have HLP := Lib.hid (show L.Pairwise (· < ·) by rw [← hLe]; exact since_pair _ _ _)
      have HLM := Lib.hid (show ∀ x ∈ L, x < 4 * D.length from fun x hx => since_lt (by rw [hLe]; exact hx))
      rw [hLe] at HPS HL ho ⊢
      clear hLe
      rcases ho.2 with ⟨h0, _⟩ | ⟨g, rest, rfl, hg, hgE, hbl⟩
      · have hL0 : L = [] := List.eq_nil_of_length_eq_zero h0
        subst hL0
        clear ho h0
        go_wp2_with fail
        refine (SortStable_nil A' c' _ _).mono ?_
        rintro e w2 ⟨rfl, hc2⟩
        have HC2 := Lib.hid (HC.out.trans (HCH.out.trans hc2))
        clear hc2
        go_wp2
        go_ret
        unfold PsP
        rw [HPS.out, srt_nil]
        exact ⟨A', c', rfl, OwnS.empty _ _ _ _ _ _, HC2.out⟩
      · have HNC := Lib.hid ho.1
        have HBL := Lib.hid hbl
        have HG := Lib.hid (show w.heap.size + 1 ≤ g by have := HS1.out; omega)
        have HCP := Lib.hid (show CmpP wr g (.pointer (some ⟨w.heap.size, 0, none⟩)) (stampOf D) (4 * D.length) from cmpP_dev (HR1.out.new HCH.out) HD.out x1 (by have := HG.out; omega) (by have := HG.out; omega))
        clear ho hbl hg hgE
        go_wp2_with fail
        refine (SortStable_any _ g c' _ (stampOf D) (4 * D.length) L rest _ rfl HL.out HBL.out HLM.out HLP.out HCP.out).mono ?_
        rintro e w2 ⟨rfl, hc2, hb2⟩
        have HC2 := Lib.hid ((HC.out.trans HCH.out).own hc2 (by have := HG.out; omega))
        have HB2 := Lib.hid hb2
        clear hc2 hb2
        go_wp2
        go_ret
        unfold PsP
        rw [HPS.out, srt_length]
        exact ⟨_, c', rfl, ⟨HNC.out, .inr ⟨g, rest, rfl, by have := HG.out; omega, Blk.lt HB2.out, HB2.out⟩⟩, HC2.out⟩
    have hi0 : (0 : Int) ≤ (k : Int) := Int.natCast_nonneg _
    have hi1 : (k : Int) < 4 * (D.length : Int) := by omega
    have hyl := since_len D s k
    clear hch how
    go_wp2_with fail
    refine (pageAt_any _ A c D k _ (HR1.out.new HCH.out) HD.out hlt).mono ?_
    rintro e w2 ⟨rfl, hc2⟩
    have HC2 := Lib.hid (HCH.out.trans hc2)
    have HO2 := Lib.hid (own_chg HO.out hc2 (fun _ _ x => x))
    have HSZ2 := Lib.hid (show w1.heap.size ≤ w2.heap.size from HC2.out.size)
    have HSG := Lib.hid (show sinceGood D s k = ((pgAt D k).full && decide (s < (pgAt D k).stamp)) from rfl)
    clear hc2 x1
    cases hf : (pgAt D k).full with
    | false =>
      have HN := Lib.hid (since_no (by rw [HSG.out, hf]; rfl))
      go_wp2
      go_roundw
      case rel => exact ⟨k + 1, by omega, by go_num, HC2.out.alloc _, by rw [HN.out]; exact HO2.out.alloc _⟩
      case measure => simp [intOf]; omega
    | true =>
      by_cases hs : s < (pgAt D k).stamp
      · have HN := Lib.hid (since_yes (by rw [HSG.out, hf, decide_eq_true hs]; rfl))
        have hs' : (pgAt D k).stamp > s := hs
        go_wp2_with (at_builtin; refine wpList_append_own _ rfl (.tmp 28) (.tmp 30) _ rfl w1.heap.size 3 i0 (.int .i64 0) 1 8 Try.underlying53 hi hz0 hz1 hz2 rfl (by decide) _ _ _ rfl ((HO2.out.alloc _).alloc _) ⟨w2.heap.size + 1, 0, none⟩ 1 1 [.int .i64 (k : Int)] rfl rfl (cells_new2 _ _ _ _) (by simp [Value.oneCell']) (by simp only [maxLen]; omega) (by omega) (by simp; have := HSZ2.out; omega) ?_; intro v' w5 hown' hgrow _)
        go_roundw
        case rel =>
          refine ⟨k + 1, by omega, by go_num, chg_grown ((HO2.out.alloc _).alloc _) hgrow ((HC2.out.alloc _).alloc _) (Nat.le_refl _), ?_⟩
          rw [HN.out, List.length_append, rowc_append]
          exact hown'
        case measure => simp [intOf]; omega
      · have HN := Lib.hid (since_no (by rw [HSG.out, hf, decide_eq_false hs]; rfl))
        have hs' : ¬ (pgAt D k).stamp > s := hs
        go_wp2
        go_roundw
        case rel => exact ⟨k + 1, by omega, by go_num, HC2.out.alloc _, by rw [HN.out]; exact HO2.out.alloc _⟩
        case measure => simp [intOf]; omega
end Go.Proofs.Ytenbbkmbnpdfaaa
